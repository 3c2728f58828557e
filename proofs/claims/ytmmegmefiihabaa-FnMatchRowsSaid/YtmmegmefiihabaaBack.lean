/-
  slices.Backward at ints: what its iterator hands to a loop's body.
-/
import Derived.RangeFuncNested
import Derived.RangeFuncBound
import Derived.RangeFuncCalls
import Derived.RangeFuncLeaves
import Derived.Shelf.Abstract
import Derived.Shelf.RegionOpen
import Derived.WalkKit
import Derived.OwnWalkIn
import Derived.TacticsInMore
import Derived.LoopNIn
import Derived.LoopIn
import Derived.Test.YtmmegmefiihabaaLive
namespace Go.Proofs.Ytmmegmefiihabaa
open Go.RowKit Go.Shelf
attribute [local go_sem] Oper.semAt_some

/-- block k is as it was -/
def KeptAt (k : Nat) (W W' : World) : Prop := ∀ p : Addr, p.block = k → W'.cell? p = W.cell? p
theorem KeptAt.refl (k : Nat) (W : World) : KeptAt k W W := fun _ _ => rfl
theorem KeptAt.trans {k : Nat} {A B C : World} (h : KeptAt k A B) (h' : KeptAt k B C) : KeptAt k A C := fun p hp => (h' p hp).trans (h p hp)
/-- what a round keeps for the iterator: its box and its row -/
def KeptBB (Bs b : Nat) (W W' : World) : Prop := KeptAt Bs W W' ∧ KeptAt b W W'
theorem keptBB_t {Bs b : Nat} {A B C : World} (h : KeptBB Bs b A B) (h' : KeptBB Bs b B C) : KeptBB Bs b A C := ⟨h.1.trans h'.1, h.2.trans h'.2⟩
theorem keptBB_b {Bs b : Nat} {w : World} (h1 : Bs < w.heap.size) (h2 : b < w.heap.size) (W : World) (l : Nat) (o o' : Obj) (hl : w.heap.size ≤ l) (_ : W.heap[l]? = some o) (_ : o.isCells = false) (_ : o.isWalk = false) : KeptBB Bs b W (W.putObj l o') :=
  ⟨fun p hp => World.cell?_of_block (World.putObj_heap_other (by omega)), fun p hp => World.cell?_of_block (World.putObj_heap_other (by omega))⟩
theorem KeptAt.of_turn {k lo hi : Nat} {W W' : World} (h : Turn lo hi W W') (hk : k < W.heap.size) (ho : k < lo ∨ hi ≤ k) : KeptAt k W W' := fun p hp => World.cell?_of_block (h.block p.block (by omega) (by omega))
theorem KeptAt.below {k B : Nat} {W W' : World} (h : Below B W W') (hk : k < B) : KeptAt k W W' := fun p hp => h.cell (by omega)

theorem backward {A : Option Addr} {n c : Nat} {w : World} :
    Calls Try.prog 63 #[.slice A n c] w fun e w' => e = .returned (.func (.func 87) #[] #[.pointer (some ⟨w.heap.size, 0, none⟩)]) ∧ w' = w.alloc (.cells #[.slice A n c] 23) := by
  go_enter Try.func63, Try.ntmps63
  go_wp2
  go_ret
  exact ⟨rfl, rfl⟩

set_option maxRecDepth 100000 in
set_option maxHeartbeats 2000000 in
theorem backward_rounds {α : Type} (F : Fence) (n : Nat) (hF : F.fn 87) (hro : F.round = none) (hn : 1 ≤ n) (l Bs c : Nat) (ad : Addr) (zs : List Int) (xs : List α) (encs : α → Array Value) (hreach : zs.length ≤ 1099511627776) (hlen : xs.length = zs.length)
    (henc : ∀ (j t : Nat) (hj : j < zs.length) (ht : t < xs.length), j + t + 1 = zs.length → encs xs[t] = #[.int .i64 (j : Int), .int .i64 zs[j]]) (J Jx : List α → World → Prop)
    (hY : ∀ pre x W, J pre W → pre.length < xs.length → YieldAt F (n - 1) Try.prog l (encs x) W fun e W' => (e = .returned (.bool true) ∧ J (pre ++ [x]) W' ∧ KeptBB Bs ad.block W W') ∨ (e = .returned (.bool false) ∧ Jx (pre ++ [x]) W'))
    (W : World) (hBs : W.cell? ⟨Bs, 0, none⟩ = some (.slice (some ad) zs.length c)) (hc : ∀ j (hj : j < zs.length), W.cell? (ad.add j) = some (.int .i64 zs[j])) (h0 : J [] W) :
    CallsIn F n Try.prog 87 #[.func (.yield l) #[] #[], .pointer (some ⟨Bs, 0, none⟩)] W fun e W' => (∃ v, e = .returned v) ∧ ((∃ ys, ys = xs ∧ J ys W') ∨ (∃ pre, pre <+: xs ∧ Jx pre W')) := by
  refine callsIn_of_wp Try.func87 rfl hF ?_ hro
  simp only [Try.ntmps87, List.size_toArray, List.length_cons, List.length_nil, Nat.reduceAdd, Nat.reduceSub, Array.replicate_succ, Array.replicate_zero, List.push_toArray, List.append_toArray, List.nil_append, List.cons_append]
  have HC := Lib.hid hc; clear hc
  have HLEN := Lib.hid hlen; clear hlen
  have HENC := Lib.hid henc; clear henc
  gi_wp2
  gi_loopw [3] (fun i wr => ∃ (k : Nat) (z : Int), k ≤ zs.length ∧ z = (zs.length : Int) - 1 - k ∧ i = .int .i64 z ∧ J (xs.take k) wr ∧ KeptBB Bs ad.block W wr) (fun i _ => (intOf i + 1).toNat)
  case atStart => exact ⟨0, _, Nat.zero_le _, rfl, by simp, h0, KeptAt.refl _ _, KeptAt.refl _ _⟩
  case round =>
    obtain ⟨k, z, hk, hz, rfl, hJs, hkp⟩ := hrel
    have HKP := Lib.hid hkp; clear hkp
    have hbx : wr.cell? ⟨Bs, 0, none⟩ = some (.slice (some ad) zs.length c) := (HKP.out.1 _ rfl).trans hBs
    clear hBs
    by_cases hlt : k < zs.length
    · have hkx : k < xs.length := by rw [HLEN.out]; exact hlt
      obtain ⟨j, hj⟩ : ∃ j, j + k + 1 = zs.length := ⟨zs.length - 1 - k, by omega⟩
      have hjl : j < zs.length := by omega
      obtain rfl : z = (j : Int) := by omega
      have hcell : wr.cell? (ad.add j) = some (.int .i64 zs[j]) := (HKP.out.2 _ (block_of_add _ _)).trans (HC.out j hjl)
      have hye := hY (xs.take k) xs[k] wr hJs (by rw [List.length_take]; omega)
      rw [HENC.out j k hjl hkx hj] at hye
      obtain ⟨fn, tmps, assign, body, hy, hR⟩ := hye
      have HTK := Lib.hid (show xs.take (k + 1) = xs.take k ++ [xs[k]] from List.take_succ_eq_append_getElem hkx)
      have HR := Lib.hid hR
      have HJ := Lib.hid hj
      have hj0 : (0 : Int) ≤ (j : Int) := Int.natCast_nonneg _
      have hj1 : (j : Int) < (zs.length : Int) := by omega
      clear hY hJs hR hz hj h0
      gi_wp2
      refine HR.out.mono ?_
      rintro e W3 (⟨rfl, hJ3, hk3⟩ | ⟨rfl, hJx3⟩)
      · have HJ3 := Lib.hid hJ3
        have HK3 := Lib.hid (keptBB_t HKP.out hk3)
        clear hJ3 hk3
        gi_wp2
        go_roundw
        case rel => exact ⟨k + 1, (j : Int) - 1, by omega, by have := HJ.out; omega, rfl, by rw [HTK.out]; exact HJ3.out, HK3.out⟩
        case measure => simp [intOf]
      · have HJ3 := Lib.hid hJx3
        clear hJx3
        gi_wp2
        refine bodyPost_ret (results_none rfl _ _ _) rfl ?_
        exact ⟨⟨_, rfl⟩, .inr ⟨_, by rw [← HTK.out]; exact List.take_prefix _ _, HJ3.out⟩⟩
    · obtain rfl : z = -1 := by omega
      have HE := Lib.hid (show J xs wr from by rw [List.take_of_length_le (by rw [HLEN.out]; omega)] at hJs; exact hJs)
      clear hz hJs hY h0
      gi_wp2
      go_end0
      exact ⟨⟨_, rfl⟩, .inl ⟨_, rfl, HE.out⟩⟩

set_option maxRecDepth 100000 in
set_option maxHeartbeats 1000000 in
theorem backward_none {α : Type} (F : Fence) (n : Nat) (hF : F.fn 87) (hro : F.round = none) (l Bs c : Nat) (A : Option Addr) (J : List α → World → Prop)
    (W : World) (hBs : W.cell? ⟨Bs, 0, none⟩ = some (.slice A 0 c)) (h0 : J [] W) :
    CallsIn F n Try.prog 87 #[.func (.yield l) #[] #[], .pointer (some ⟨Bs, 0, none⟩)] W fun e W' => (∃ v, e = .returned v) ∧ J [] W' := by
  refine callsIn_of_wp Try.func87 rfl hF ?_ hro
  simp only [Try.ntmps87, List.size_toArray, List.length_cons, List.length_nil, Nat.reduceAdd, Nat.reduceSub, Array.replicate_succ, Array.replicate_zero, List.push_toArray, List.append_toArray, List.nil_append, List.cons_append]
  gi_wp2
  gi_loopw [3] (fun i wr => i = .int .i64 (-1) ∧ J [] wr) (fun _ _ => 0)
  case atStart => exact ⟨rfl, h0⟩
  case round =>
    obtain ⟨rfl, hJs⟩ := hrel
    gi_wp2
    go_end0
    exact ⟨⟨_, rfl⟩, hJs⟩

/-- **the contract**: a loop over slices.Backward(zs) meets xs, one by one -/
theorem backward_stops {α : Type} (F : Fence) (n : Nat) (hF : F.fn 87) (hro : F.round = none) (hn : 1 ≤ n) {Bs c B b : Nat} {A : Option Addr} {w : World} (zs : List Int) (xs : List α) (encs : α → Array Value) (hreach : zs.length ≤ 1099511627776) (hlen : xs.length = zs.length)
    (henc : ∀ (j t : Nat) (hj : j < zs.length) (ht : t < xs.length), j + t + 1 = zs.length → encs xs[t] = #[.int .i64 (j : Int), .int .i64 zs[j]])
    (hBs : Bs < w.heap.size) (hc : w.cell? ⟨Bs, 0, none⟩ = some (.slice A zs.length c)) (hr : RdI w B A zs) (hB : B ≤ w.heap.size) (hb : zs ≠ [] → ∀ ad, A = some ad → ad.block = b) :
    SeqStopsK F n Try.prog 87 #[.pointer (some ⟨Bs, 0, none⟩)] encs (KeptBB Bs b) (fun ys => ys = xs) (fun pre => pre <+: xs) xs.length w := fun l J Jx W hW _ _ hY h0 => by
  have hc' := (hW.cell (p := ⟨Bs, 0, none⟩) hBs).trans hc
  by_cases hz : zs = []
  · subst hz
    have hx : xs = [] := List.eq_nil_of_length_eq_zero hlen
    subst hx
    exact (backward_none F n hF hro l Bs c A J W hc' h0).mono fun e W' ⟨he, hj⟩ => ⟨he, .inl ⟨_, rfl, hj⟩⟩
  · obtain ⟨ad, rfl, hab, hcc⟩ := hr.at_ (k := 0) (List.length_pos_iff.2 hz)
    have hbb := hb hz ad rfl
    subst hbb
    exact backward_rounds F n hF hro hn l Bs c ad zs xs encs hreach hlen henc J Jx hY W hc' (fun j hj => (hW.cell (by rw [block_of_add]; omega)).trans (hcc j hj)) h0
end Go.Proofs.Ytmmegmefiihabaa

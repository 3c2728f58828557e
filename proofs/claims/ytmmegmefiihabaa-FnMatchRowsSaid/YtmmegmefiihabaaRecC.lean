/-
  Records of type Change: words for memory; the laws' own functions on them.
-/
import Derived.Test.YtmmegmefiihabaaApp
import Derived.Test.YtmmegmefiihabaaLists
import Derived.Test.YtmmegmefiihabaaEqI
import Derived.Deep.RegionHeld3
namespace Go.Proofs.Ytmmegmefiihabaa
open Go.RowKit

structure Chg where
  kd : Int
  ky : Int
  aa : Int
  deriving DecidableEq
def cC (x : Chg) : List Int := [x.kd, x.ky, x.aa]
theorem kC (x : Chg) : (cC x).length = 3 := rfl
def vC (x : Chg) : Value := .agg #[.int .i64 x.kd, .int .i64 x.ky, .int .i64 x.aa]
def zC : Chg := ⟨0, 0, 0⟩
abbrev RdC (w : World) (B : Nat) (A : Option Addr) (xs : List Chg) : Prop := RdR cC w B A xs
abbrev SlC (w : World) (lo hi : Nat) (A : Option Addr) (c : Nat) (xs : List Chg) : Prop := SlR cC 32 3 w lo hi A c xs
theorem RdC_at {w : World} {B : Nat} {A : Option Addr} {xs : List Chg} (h : RdC w B A xs) {k : Nat} (hk : k < xs.length) :
    ∃ g o, A = some ⟨g, o, none⟩ ∧ g < B ∧ (w.cell? ⟨g, o + k * 3, none⟩ = some (.int .i64 xs[k].kd) ∧ w.cell? ⟨g, o + k * 3 + 1, none⟩ = some (.int .i64 xs[k].ky) ∧ w.cell? ⟨g, o + k * 3 + 2, none⟩ = some (.int .i64 xs[k].aa)) := by
  obtain ⟨g, o, hA, hg, hc⟩ := RdR.at_ kC (by decide) h hk
  exact ⟨g, o, hA, hg, hc 0 _ rfl, hc 1 _ rfl, hc 2 _ rfl⟩
/-- the cells of one record, and what a store of a whole record does -/
theorem SlC_at {w : World} {lo hi c : Nat} {A : Option Addr} {xs : List Chg} (h : SlC w lo hi A c xs) {k : Nat} (hk : k < xs.length) :
    ∃ g o, A = some ⟨g, o, none⟩ ∧ lo ≤ g ∧ g < hi ∧ g < w.heap.size ∧ (w.cell? ⟨g, o + k * 3, none⟩ = some (.int .i64 xs[k].kd) ∧ w.cell? ⟨g, o + k * 3 + 1, none⟩ = some (.int .i64 xs[k].ky) ∧ w.cell? ⟨g, o + k * 3 + 2, none⟩ = some (.int .i64 xs[k].aa)) ∧ (w.frozen? ⟨g, o + k * 3, none⟩ = false ∧ w.frozen? ⟨g, o + k * 3 + 1, none⟩ = false ∧ w.frozen? ⟨g, o + k * 3 + 2, none⟩ = false) ∧ ∀ y : Chg, SlC (((w.setCell ⟨g, o + k * 3, none⟩ (.int .i64 y.kd)).setCell ⟨g, o + k * 3 + 1, none⟩ (.int .i64 y.ky)).setCell ⟨g, o + k * 3 + 2, none⟩ (.int .i64 y.aa)) lo hi A c (xs.set k y) ∧ Turn g (g + 1) w (((w.setCell ⟨g, o + k * 3, none⟩ (.int .i64 y.kd)).setCell ⟨g, o + k * 3 + 1, none⟩ (.int .i64 y.ky)).setCell ⟨g, o + k * 3 + 2, none⟩ (.int .i64 y.aa)) := by
  obtain ⟨g, o, hA, h1, h2, h3, h4, h5, _, h7⟩ := SlR.at_ kC h hk
  have c := h4 k xs[k] (List.getElem?_eq_getElem hk)
  refine ⟨g, o, hA, h1, h2, h3, ⟨by simpa only [Nat.add_assoc, Nat.add_zero] using c 0 _ rfl, by simpa only [Nat.add_assoc, Nat.add_zero] using c 1 _ rfl, by simpa only [Nat.add_assoc, Nat.add_zero] using c 2 _ rfl⟩, ⟨h5 (k * 3), by simpa only [Nat.add_assoc] using h5 (k * 3 + 1), by simpa only [Nat.add_assoc] using h5 (k * 3 + 2)⟩, fun y => ?_⟩
  have := h7 y
  simpa only [cC, ints, List.map_cons, List.map_nil, World.setCells, Nat.add_assoc, Nat.reduceAdd] using this
theorem Try.infoC : (Try.prog.info? 32).map (fun i => (i.zero, i.size, i.bytes)) = some (some (.agg #[.int .i64 0, .int .i64 0, .int .i64 0]), 3, 24) := by kernel_rfl
theorem madeC (n : Nat) : madeCells #[.int .i64 0, .int .i64 0, .int .i64 0] (n * 3) = (ints (rows cC (List.replicate n zC))).toArray := by
  rw [rows_replicate zC n 0 (K := 3) rfl]
  apply Array.ext'
  apply List.ext_getElem?
  intro i
  simp only [madeCells, Array.toList_map, Array.toList_range, List.getElem?_map, ints, List.map_replicate]
  rcases Nat.lt_or_ge i (n * 3) with h | h
  · rw [List.getElem?_range h, List.getElem?_replicate, if_pos h, Option.map_some]
    have h4 : i % 3 = 0 ∨ i % 3 = 1 ∨ i % 3 = 2 := by omega
    rcases h4 with h4 | h4 | h4 <;> · show some (_[i % 3]!) = _; rw [h4]; rfl
  · rw [List.getElem?_eq_none (by simpa using h), List.getElem?_eq_none (by simpa using h), Option.map_none]
theorem run_makeC (n : Nat) (hn : n ≤ 1099511627776) (w : World) : (Instr.makeSlice 24 (.int .i64 (n : Int)) (.int .i64 (n : Int))).run Try.prog w = .ok (.slice (some ⟨w.heap.size, 0, none⟩) n n) (w.alloc (.cells (ints (rows cC (List.replicate n zC))).toArray 32)) := by
  obtain ⟨i0, hi, hz0, hz1, hz2⟩ := info_parts Try.infoC
  have hr := run_make (P := Try.prog) w 24 32 i0 _ Try.underlying24 hi hz0 .i64 .i64 n n (by omega) (by omega) (by rw [hz2]; omega) (by omega)
  rw [hr, hz1]
  simp only [Int.toNat_natCast]
  rw [← madeC]
  rfl
/-- a list of records that is new -/
def MadeC (w : World) (xs : List Chg) (e : Ending) (w' : World) : Prop :=
  ∃ A c, e = .returned (.slice A xs.length c) ∧ SlC w' w.heap.size w'.heap.size A c xs ∧ Below w.heap.size w w'
section
variable {w : World} {ops : Array Oper} {rest : List Oper} {o : Oper} {a : Act} {Q : Exit → Act → World → Prop}
/-- append(out, y) at records -/
theorem wpList_appC (s x : Operand) (hgd : o.guard = none)
    (ho : o.op = .call { callee := .builtin .append, args := #[s, x], argTypes := #[24, 24] })
    {lo hi n c gx : Nat} {A : Option Addr} (xs : List Chg) (y : Chg) (hs : a.eval s = .slice A n c) (hn : xs.length = n) (hsl : SlC w lo hi A c xs) (hx : a.eval x = .slice (some ⟨gx, 0, none⟩) 1 1)
    (hgx : Blk w gx 32 (ints (cC y)).toArray) (hb : n ≤ 1099511627776) (hlo : lo ≤ w.heap.size)
    (h : ∀ A'' c'' w', SlC w' lo (max hi w'.heap.size) A'' c'' (xs ++ [y]) → Turn lo hi w w' → (c < n + 1 → w.grownBy w' Option.none) → wpList Try.prog ops Q rest (a.put o.dst (.slice A'' (n + 1) c'')) w') : wpList Try.prog ops Q (o :: rest) a w := by
  obtain ⟨i0, hi0, hz0, hz1, hz2⟩ := info_parts Try.infoC
  exact wpList_appR kC (by decide) s x 24 32 i0 _ 24 Try.underlying24 hi0 hz0 hz1 hz2 rfl (by decide) hgd ho xs y hs hn hsl hx hgx hb hlo h
/-- .. told so far as to say where the new slice lies -/
theorem wpList_appCS (s x : Operand) (hgd : o.guard = none)
    (ho : o.op = .call { callee := .builtin .append, args := #[s, x], argTypes := #[24, 24] })
    {lo hi n c gx : Nat} {A : Option Addr} (xs : List Chg) (y : Chg) (hs : a.eval s = .slice A n c) (hn : xs.length = n) (hsl : SlC w lo hi A c xs) (hx : a.eval x = .slice (some ⟨gx, 0, none⟩) 1 1)
    (hgx : Blk w gx 32 (ints (cC y)).toArray) (hb : n ≤ 1099511627776)
    (h : ∀ A'' c'' lo' hi' w', SlC w' lo' hi' A'' c'' (xs ++ [y]) → ((lo' = lo ∧ hi' = hi) ∨ (lo' = w.heap.size ∧ hi' = w'.heap.size)) → Turn lo hi w w' → wpList Try.prog ops Q rest (a.put o.dst (.slice A'' (n + 1) c'')) w') : wpList Try.prog ops Q (o :: rest) a w := by
  obtain ⟨i0, hi0, hz0, hz1, hz2⟩ := info_parts Try.infoC
  exact wpList_appRS kC (by decide) s x 24 32 i0 _ 24 Try.underlying24 hi0 hz0 hz1 hz2 rfl (by decide) hgd ho xs y hs hn hsl hx hgx hb h
/-- a grown slice lies in what is there -/
theorem SlC_all {w w' : World} {lo hi c : Nat} {A : Option Addr} {xs : List Chg} (h : SlC w' lo (max hi w'.heap.size) A c xs) (ht : Turn lo hi w w') (hh : hi ≤ w.heap.size) : SlC w' lo w'.heap.size A c xs := by
  have := ht.size
  rwa [Nat.max_eq_right (by omega)] at h
end
theorem MadeC.nil0 (w : World) : MadeC w [] (.returned (.slice none 0 0)) w := ⟨none, 0, rfl, SlR.nil, Below.refl _ _⟩
theorem MadeC.below {w w' w'' : World} {xs : List Chg} {e : Ending} (h : MadeC w' xs e w'') (hb : Below w.heap.size w w') : MadeC w xs e w'' := by
  obtain ⟨A, c, h1, h2, h3⟩ := h
  exact ⟨A, c, h1, h2.mono hb.size (Nat.le_refl _), hb.trans (h3.mono hb.size)⟩
theorem bel1C (w : World) (a : Obj) : Below w.heap.size w (w.alloc a) := (Below.refl _ _).alloc (Nat.le_refl _) _
theorem bel2C (w : World) (a b : Obj) : Below w.heap.size w ((w.alloc a).alloc b) := (bel1C w a).alloc (by simp) _
theorem toC {w : World} (x : Chg) : Calls Try.prog 59 #[vC x] w fun e w' => e = .returned (vC x) ∧ Below w.heap.size w w' := by
  obtain ⟨f0, f1, f2⟩ := x
  dsimp only [vC]
  go_enter Try.func59, Try.ntmps59
  go_wp2
  refine bodyPost_ret (v := .agg #[.int .i64 f0, .int .i64 f1, .int .i64 f2]) (by simp [results, Try.results59, go_sem]) rfl ⟨rfl, ?_⟩
  repeat first | exact Below.refl _ _ | refine Below.setCell ?_ (by first | (simp; done) | (simp; omega)) _ | refine Below.alloc ?_ (by first | (simp; done) | (simp; omega)) _
set_option maxHeartbeats 800000 in
theorem toCS {A : Option Addr} {c n B : Nat} {w : World} (xs : List Chg) (ln : xs.length = n) (hn : n ≤ 4294967296) (h : RdC w B A xs) (hB : B ≤ w.heap.size) :
    Calls Try.prog 22 #[.slice A n c] w (MadeC w xs) := by
  subst ln
  have hmk := run_makeC xs.length (by omega) w
  go_enter Try.func22, Try.ntmps22
  go_wp2_with fail
  clear hmk
  go_loopw [4] (fun i wr => ∃ k : Nat, k ≤ xs.length ∧ i = .int .i64 k ∧ SlC wr w.heap.size (w.heap.size + 1) (some ⟨w.heap.size, 0, none⟩) xs.length (xs.take k ++ List.replicate (xs.length - k) zC) ∧ Below w.heap.size w wr) (fun i _ => xs.length - (intOf i).toNat)
  case atStart => exact ⟨0, Nat.zero_le _, rfl, by simpa using SlR.newAt (lo := w.heap.size) kC rfl (List.replicate xs.length zC) (Nat.le_refl _), bel1C w _⟩
  case round =>
    obtain ⟨k, hk, rfl, hs, hb⟩ := hrel
    have HS := Lib.hid hs; clear hs
    have HB := Lib.hid hb; clear hb
    by_cases hlt : k < xs.length
    · obtain ⟨g, o, rfl, had, c0, c1, c2⟩ := RdC_at (h.belowLe HB.out hB) hlt
      obtain ⟨x, hx⟩ : ∃ x, xs[k] = x := ⟨_, rfl⟩
      rw [hx] at c0 c1 c2
      have HT := Lib.hid (show (xs.take k ++ List.replicate (xs.length - k) zC).set k x = xs.take (k + 1) ++ List.replicate (xs.length - (k + 1)) zC from by
        rw [List.take_succ_eq_append_getElem hlt, hx, List.set_append_right _ _ (by rw [List.length_take]; omega), List.length_take, Nat.min_eq_left hk, Nat.sub_self, show xs.length - k = (xs.length - (k + 1)) + 1 by omega, List.replicate_succ, List.set_cons_zero, List.append_assoc]; rfl)
      clear h hx
      go_wp2_with fail
      refine (toC x).mono ?_
      rintro e w1 ⟨rfl, b1⟩
      have hz1 := b1.size
      have hz0 := HB.out.size
      have hzg : w.heap.size < wr.heap.size := by obtain ⟨_, _, hA, _, _, h3, _⟩ := SlC_at HS.out (k := k) (by simp; omega); injection hA with hA; injection hA with e1 _; omega
      obtain ⟨g', o', hA, _, _, _, ⟨d10, d11, d12⟩, ⟨f0, f1, f2⟩, d2⟩ := SlC_at (HS.out.below b1 (by omega)) (k := k) (by simp; omega)
      simp only [Option.some.injEq, Addr.mk.injEq, and_true] at hA
      obtain ⟨rfl, rfl⟩ := hA
      obtain ⟨p4, t4⟩ := d2 x
      rw [HT.out] at p4
      simp only [Nat.zero_add] at d10 d11 d12 f0 f1 f2 p4 t4
      have P4 := Lib.hid p4
      have B4 := Lib.hid ((HB.out.trans (b1.mono hz0)).trans ((t4.below (by omega)).mono (Nat.le_refl _)))
      clear b1 p4 t4 d2
      dsimp only [vC]
      go_wp2_with fail
      go_roundw
      case rel => exact ⟨k + 1, by omega, by go_num, P4.out, B4.out⟩
      case measure => simp [intOf]; omega
    · have hkl : k = xs.length := by omega
      have HZ := Lib.hid (show w.heap.size + 1 ≤ wr.heap.size ∨ xs.length = 0 from by
        rcases Nat.eq_zero_or_pos xs.length with h0 | h0
        · exact .inr h0
        · obtain ⟨_, _, hA, _, _, h3, _⟩ := SlC_at HS.out (k := 0) (by simp; omega); injection hA with hA; injection hA with e1 _; left; omega)
      have HK := Lib.hid hkl
      clear hkl h
      go_wp2_with fail
      go_ret
      have h1 := HS.out
      rw [HK.out, List.take_length, Nat.sub_self, List.replicate_zero, List.append_nil] at h1
      rcases HZ.out with hz | hz
      · exact ⟨_, _, rfl, h1.mono (Nat.le_refl _) hz, HB.out⟩
      · have : xs = [] := List.eq_nil_of_length_eq_zero hz
        subst this
        exact ⟨_, _, rfl, SlR.nil, HB.out⟩
theorem szCS {A : Option Addr} {c n : Nat} {w : World} {l : Int} (hn : n ≤ 9223372036854775807) (h0 : 0 ≤ l) (h1 : l ≤ 1099511627776) :
    Calls Try.prog 20 #[.slice A n c, .int .i64 l] w fun e w' => (∃ v : Int, e = .returned (.int .i64 v) ∧ ((0 ≤ v ∧ v = l - n) ∨ (v = -1 ∧ l < n))) ∧ w = w' := by
  by_cases hlt : l < (n : Int)
  · go_enter Try.func20, Try.ntmps20
    go_wp2
    go_ret
    exact ⟨⟨-1, rfl, .inr ⟨rfl, hlt⟩⟩, rfl⟩
  · go_enter Try.func20, Try.ntmps20
    go_wp2
    go_ret
    exact ⟨⟨l - n, rfl, .inl ⟨by omega, rfl⟩⟩, rfl⟩
theorem eqC {w : World} (x y : Chg) : Calls Try.prog 60 #[vC x, vC y] w fun e w' => e = .returned (.bool (decide (x = y))) ∧ Below w.heap.size w w' := by
  obtain ⟨f0, f1, f2⟩ := x
  obtain ⟨g0, g1, g2⟩ := y
  dsimp only [vC]
  have HB2 := Lib.hid (bel2C w (.cells #[.int .i64 f0, .int .i64 f1, .int .i64 f2] 32) (.cells #[.int .i64 g0, .int .i64 g1, .int .i64 g2] 32))
  by_cases h0 : f0 = g0
  case neg =>
    have h0' : (f0 != g0) = true := by simp [h0]
    have HD := Lib.hid (show decide ((⟨f0, f1, f2⟩ : Chg) = ⟨g0, g1, g2⟩) = false from decide_eq_false fun e => h0 (by injection e))
    clear h0
    go_enter Try.func60, Try.ntmps60
    go_wp2_with fail
    go_ret
    exact ⟨ret_bool HD.out.symm, HB2.out⟩
  case pos =>
  subst h0
  by_cases h1 : f1 = g1
  case neg =>
    have h1' : (f1 != g1) = true := by simp [h1]
    have HD := Lib.hid (show decide ((⟨f0, f1, f2⟩ : Chg) = ⟨f0, g1, g2⟩) = false from decide_eq_false fun e => h1 (by injection e))
    clear h1
    go_enter Try.func60, Try.ntmps60
    go_wp2_with fail
    go_ret
    exact ⟨ret_bool HD.out.symm, HB2.out⟩
  case pos =>
  subst h1
  by_cases h2 : f2 = g2
  case neg =>
    have h2' : (f2 != g2) = true := by simp [h2]
    have HD := Lib.hid (show decide ((⟨f0, f1, f2⟩ : Chg) = ⟨f0, f1, g2⟩) = false from decide_eq_false fun e => h2 (by injection e))
    clear h2
    go_enter Try.func60, Try.ntmps60
    go_wp2_with fail
    go_ret
    exact ⟨ret_bool HD.out.symm, HB2.out⟩
  case pos =>
  subst h2
  have HD := Lib.hid (show true = decide ((⟨f0, f1, f2⟩ : Chg) = ⟨f0, f1, f2⟩) from (decide_eq_true rfl).symm)
  go_enter Try.func60, Try.ntmps60
  go_wp2_with fail
  go_ret
  exact ⟨ret_bool HD.out, HB2.out⟩
set_option maxHeartbeats 800000 in
theorem eqCS {A A' : Option Addr} {c c' n n' B B' : Nat} {w : World} (xs ys : List Chg) (ln : xs.length = n) (ln' : ys.length = n') (hn : n ≤ 9223372036854775807) (h : RdC w B A xs) (h' : RdC w B' A' ys) (hB : B ≤ w.heap.size) (hB' : B' ≤ w.heap.size) :
    Calls Try.prog 24 #[.slice A n c, .slice A' n' c'] w fun e w' => e = .returned (.bool (decide (xs = ys))) ∧ Below w.heap.size w w' := by
  subst ln ln'
  by_cases hl : xs.length = ys.length
  · have hl' : ((xs.length : Int) != (ys.length : Int)) = false := by rw [hl]; simp
    have HL := Lib.hid hl; clear hl
    go_enter Try.func24, Try.ntmps24
    go_wp2_with fail
    clear hl'
    go_loopw [5] (fun i wr => ∃ k : Nat, k ≤ xs.length ∧ i = .int .i64 k ∧ xs.take k = ys.take k ∧ Below w.heap.size w wr) (fun i _ => xs.length - (intOf i).toNat)
    case atStart => exact ⟨0, Nat.zero_le _, rfl, rfl, Below.refl _ _⟩
    case round =>
      obtain ⟨k, hk, rfl, he, hb⟩ := hrel
      have HE := Lib.hid he; clear he
      have HB := Lib.hid hb; clear hb
      by_cases hlt : k < xs.length
      · have hlt' : k < ys.length := by have := HL.out; omega
        obtain ⟨g, o, rfl, hgb, c0, c1, c2⟩ := RdC_at (h.belowLe HB.out hB) hlt
        obtain ⟨g', o', rfl, hgb', e0, e1, e2⟩ := RdC_at (h'.belowLe HB.out hB') hlt'
        have HT := Lib.hid (fun (e : xs[k] = ys[k]) => take_eq_succ HE.out hlt hlt' e)
        have HN := Lib.hid (fun (e : xs[k] ≠ ys[k]) => ne_of_at hlt hlt' e)
        obtain ⟨x, hx⟩ : ∃ x, xs[k] = x := ⟨_, rfl⟩
        obtain ⟨x', hx'⟩ : ∃ x', ys[k] = x' := ⟨_, rfl⟩
        rw [hx] at c0 c1 c2 HT HN
        rw [hx'] at e0 e1 e2 HT HN
        have hz := HB.out.size
        have hk0 : (0 : Int) ≤ (k : Int) := Int.natCast_nonneg _
        have hk1 : (k : Int) < (xs.length : Int) := by omega
        have hk2 : (k : Int) < (ys.length : Int) := by omega
        clear h h' hx hx'
        have hgw : g < wr.heap.size := by omega
        have hgw' : g' < wr.heap.size := by omega
        have EQ := Lib.hid (fun (W : World) => eqC (w := W) x x')
        go_wp2_with fail
        go_region_held3 (fun w' => (w'.cell? ⟨g, o + k * 3, none⟩ = some (.int .i64 x.kd) ∧ w'.cell? ⟨g, o + k * 3 + 1, none⟩ = some (.int .i64 x.ky) ∧ w'.cell? ⟨g, o + k * 3 + 2, none⟩ = some (.int .i64 x.aa)) ∧ (w'.cell? ⟨g', o' + k * 3, none⟩ = some (.int .i64 x'.kd) ∧ w'.cell? ⟨g', o' + k * 3 + 1, none⟩ = some (.int .i64 x'.ky) ∧ w'.cell? ⟨g', o' + k * 3 + 2, none⟩ = some (.int .i64 x'.aa)))
          (first | go_keep | (refine ⟨⟨(b1.cell (p := ⟨g, _, none⟩) hgw).trans c0, (b1.cell (p := ⟨g, _, none⟩) hgw).trans c1, (b1.cell (p := ⟨g, _, none⟩) hgw).trans c2⟩, ⟨(b1.cell (p := ⟨g', _, none⟩) hgw').trans e0, (b1.cell (p := ⟨g', _, none⟩) hgw').trans e1, (b1.cell (p := ⟨g', _, none⟩) hgw').trans e2⟩⟩))
          ((go_at_call 60; refine (EQ.out _).mono ?_; rintro e w1 ⟨rfl, b1⟩))
        have B1 := Lib.hid (HB.out.trans (((Below.refl wr.heap.size wr).drew.trans b1).mono hz))
        clear b1 c0 c1 c2 e0 e1 e2 EQ hk0 hk1 hk2 hgw hgw'
        cases hq : decide (x = x')
        · have HQ := Lib.hid (HN.out (of_decide_eq_false hq))
          clear hq
          go_wp2_with fail
          go_ret
          exact ⟨ret_bool (decide_eq_false HQ.out).symm, B1.out⟩
        · have HQ := Lib.hid (HT.out (of_decide_eq_true hq))
          clear hq
          go_wp2_with fail
          go_roundw
          case rel => exact ⟨k + 1, by omega, by go_num, HQ.out, B1.out⟩
          case measure => simp [intOf]; omega
      · have hkl : k = xs.length := by omega
        have e : xs = ys := by
          have h1 := HE.out
          rw [hkl, List.take_length, List.take_of_length_le (by have := HL.out; omega)] at h1
          exact h1
        have H := Lib.hid e; clear e hkl h h'
        go_wp2_with fail
        go_ret
        exact ⟨ret_bool (by rw [H.out]; simp), HB.out⟩
  · have hl' : ((xs.length : Int) != (ys.length : Int)) = true := by rw [bne_iff_ne]; omega
    have H := Lib.hid (show xs ≠ ys from fun e => hl (by rw [e])); clear hl
    go_enter Try.func24, Try.ntmps24
    go_wp2_with fail
    go_ret
    exact ⟨ret_bool (decide_eq_false H.out).symm, Below.refl _ _⟩
def mkC (k : Int) : Chg := ⟨k, k + 1, k + 1 + 1⟩
def marksC (k : Int) (n : Nat) : List Chg := (List.range n).map fun i : Nat => mkC (k + (i : Int) * 3)
theorem marksC_len (k : Int) (n : Nat) : (marksC k n).length = n := by simp [marksC]
theorem marksC_at (k : Int) (n j : Nat) (h : j < (marksC k n).length) : (marksC k n)[j] = mkC (k + (j : Int) * 3) := by simp [marksC]
theorem marksC_succ (k : Int) (n : Nat) : marksC k (n + 1) = marksC k n ++ [mkC (k + (n : Int) * 3)] := by simp [marksC, List.range_succ]
set_option maxHeartbeats 800000 in
theorem heldCS {A : Option Addr} {c n B : Nat} {w : World} {k : Int} (hn : n ≤ 1099511627776) (h0 : 0 ≤ k) (hk : k ≤ 1099511627776) (h : RdC w B A (marksC k n)) :
    Calls Try.prog 31 #[.slice A n c, .int .i64 k] w fun e w' => e = .returned (.int .i64 (k + (n : Int) * 3)) ∧ w = w' := by
  go_enter Try.func31, Try.ntmps31
  go_wp2_with fail
  go_loop [1, 5] (fun q i => ∃ j : Nat, j ≤ n ∧ i = .int .i64 j ∧ q = .int .i64 (k + (j : Int) * 3)) (fun _ i => n - (intOf i).toNat)
  case atStart => exact ⟨0, Nat.zero_le _, rfl, by simp⟩
  case round =>
    obtain ⟨j, hj, rfl, rfl⟩ := hrel
    by_cases hlt : j < n
    · obtain ⟨g, o, rfl, had, c0, c1, c2⟩ := RdC_at h (k := j) (by rw [marksC_len]; exact hlt)
      rw [marksC_at] at c0 c1 c2
      have hm0 : 0 ≤ k + (j : Int) * 3 := by omega
      have hm1 : k + (j : Int) * 3 ≤ 10995116277760 := by omega
      obtain ⟨m, hm⟩ : ∃ m, k + (j : Int) * 3 = m := ⟨_, rfl⟩
      rw [hm] at c0 c1 c2 hm0 hm1 ⊢
      have HE := Lib.hid (show m + 1 + 1 + 1 = k + ((j + 1 : Nat) : Int) * 3 from by omega)
      simp only [mkC] at c0 c1 c2
      clear h hm
      go_wp2_with fail
      go_round
      case rel => exact ⟨j + 1, by omega, by go_num, by rw [← HE.out]⟩
      case measure => simp [intOf]; omega
    · have hjl : j = n := by omega
      have HJ := Lib.hid hjl
      clear hjl h
      go_wp2_with fail
      go_ret
      exact ⟨ret_int (by rw [HJ.out]), rfl⟩
set_option maxHeartbeats 1600000 in
theorem markCS {A : Option Addr} {c n lo hi : Nat} {w : World} {k : Int} (xs : List Chg) (ln : xs.length = n) (hn : n ≤ 1099511627776) (h0 : 0 ≤ k) (hk : k ≤ 1099511627776) (h : SlC w lo hi A c xs) :
    Calls Try.prog 26 #[.slice A n c, .int .i64 k] w fun e w' => e = .returned (.int .i64 (k + (n : Int) * 3)) ∧ SlC w' lo hi A c (marksC k n) ∧ Turn lo hi w w' ∧ w'.heap.size = w.heap.size := by
  subst ln
  go_enter Try.func26, Try.ntmps26
  go_wp2_with fail
  go_loopw [1, 5] (fun q i wr => ∃ j : Nat, j ≤ xs.length ∧ i = .int .i64 j ∧ q = .int .i64 (k + (j : Int) * 3) ∧ SlC wr lo hi A c (marksC k j ++ xs.drop j) ∧ Turn lo hi w wr ∧ wr.heap.size = w.heap.size) (fun _ i _ => xs.length - (intOf i).toNat)
  case atStart => exact ⟨0, Nat.zero_le _, rfl, by simp, by simpa [marksC] using h, Turn.refl _ _ _, rfl⟩
  case round =>
    obtain ⟨j, hj, rfl, rfl, hs, ht, hz⟩ := hrel
    have HS := Lib.hid hs; clear hs
    have HT := Lib.hid ht; clear ht
    have HZ := Lib.hid hz; clear hz h
    by_cases hlt : j < xs.length
    · obtain ⟨g, o, rfl, hg1, hg2, _, ⟨d10, d11, d12⟩, ⟨f0, f1, f2⟩, d2⟩ := SlC_at HS.out (k := j) (by simp [marksC_len]; omega)
      have hm0 : 0 ≤ k + (j : Int) * 3 := by omega
      have hm1 : k + (j : Int) * 3 ≤ 10995116277760 := by omega
      have e1 : (marksC k j ++ xs.drop j).set j (mkC (k + (j : Int) * 3)) = marksC k (j + 1) ++ xs.drop (j + 1) := by
        rw [marksC_succ, List.set_append_right _ _ (by rw [marksC_len]; omega), marksC_len, Nat.sub_self, List.drop_eq_getElem_cons hlt, List.set_cons_zero, List.append_assoc]; rfl
      obtain ⟨m, hm⟩ : ∃ m, k + (j : Int) * 3 = m := ⟨_, rfl⟩
      obtain ⟨p4, t4⟩ := d2 (mkC m)
      rw [hm] at e1 hm0 hm1 ⊢
      rw [e1] at p4
      have HE := Lib.hid (show m + 1 + 1 + 1 = k + ((j + 1 : Nat) : Int) * 3 from by omega)
      have hzz := HZ.out
      simp only [mkC] at p4 t4
      have P4 := Lib.hid p4
      have T4 := Lib.hid (HT.out.trans (t4.mono hg1 (by omega)))
      have hzs := hzz
      have HZ4 := Lib.hid (show ∀ (W : World), W.heap.size = wr.heap.size → W.heap.size = w.heap.size from fun W h => h.trans hzz)
      clear p4 t4 d2 hm e1 hzz hzs
      generalize hdx : (marksC k j ++ xs.drop j)[j]'(by simp [marksC_len]; omega) = x at d10 d11 d12
      clear hdx
      go_wp2_with fail
      go_roundw
      case rel => exact ⟨j + 1, by omega, by go_num, by rw [← HE.out], P4.out, T4.out, HZ4.out _ (by simp [World.setCell])⟩
      case measure => simp [intOf]; omega
    · have hjl : j = xs.length := by omega
      have HJ := Lib.hid hjl
      clear hjl
      go_wp2_with fail
      go_ret
      refine ⟨ret_int (by rw [HJ.out]), ?_, HT.out, HZ.out⟩
      have h1 := HS.out
      rwa [HJ.out, List.drop_length, List.append_nil] at h1
theorem slicesClipC {A : Option Addr} {c n lo hi : Nat} {w : World} (xs : List Chg) (ln : xs.length = n) (h : SlC w lo hi A c xs) :
    Calls Try.prog 65 #[.slice A n c] w fun e w' => e = .returned (.slice A n n) ∧ SlC w lo hi A n xs ∧ w = w' := by
  subst ln
  have hle := h.le
  have H := Lib.hid (h.clip kC)
  cases A with
  | none =>
    have hc : c = 0 := Sl.noAddr h rfl
    have hx : xs = [] := List.eq_nil_of_length_eq_zero (by omega)
    subst hc hx
    clear h hle
    go_enter Try.func65, Try.ntmps65
    go_wp2
    go_ret
    exact ⟨rfl, H.out, rfl⟩
  | some ad =>
    clear h
    by_cases hx : xs = []
    · subst hx
      go_enter Try.func65, Try.ntmps65
      go_wp2
      go_ret
      exact ⟨rfl, H.out, rfl⟩
    · have hp : xs.length ≠ 0 := fun e => hx (List.eq_nil_of_length_eq_zero e)
      go_enter Try.func65, Try.ntmps65
      go_wp2
      go_ret
      exact ⟨rfl, H.out, rfl⟩
end Go.Proofs.Ytmmegmefiihabaa

/-
  (*spec.reader).pick: a number in 0..n-1; the reader's place goes on by one.
-/
import Derived.Test.YtlinngohbghimaaMem
import Derived.Test.YtlinngohbghimaaRows
import Derived.Laws.BitsAllLaws
import Derived.Laws.BitsLemmas
namespace Go.Proofs.Ytlinngohbghimaa
open Go.RowKit

abbrev bytes8 (xs : List Int) : List Value := xs.map (Value.int .u8)
/-- the reader lies in block g; its code below block N; its place is at most m -/
def Rdr (w : World) (N g m : Nat) : Prop :=
  ∃ (A : Option Addr) (c p : Nat) (bs : List Int), N ≤ g ∧ p ≤ m ∧ bs.length ≤ 2000 ∧ (∀ x ∈ bs, 0 ≤ x ∧ x ≤ 255) ∧ Rd w N A (bytes8 bs) ∧ Blk w g 77 #[.slice A bs.length c, .int .i64 (p : Int)]
theorem Rdr.lt {w : World} {N g m : Nat} (h : Rdr w N g m) : g < w.heap.size := by obtain ⟨A, c, p, bs, _, _, _, _, _, hb⟩ := h; exact hb.lt
theorem Rdr.more {w : World} {N g m m' : Nat} (h : Rdr w N g m) (hm : m ≤ m') : Rdr w N g m' := by
  obtain ⟨A, c, p, bs, h1, h2, h3⟩ := h; exact ⟨A, c, p, bs, h1, by omega, h3⟩
theorem Rdr.turn {w w' : World} {N g m lo hi : Nat} (h : Rdr w N g m) (ht : Turn lo hi w w') (hg : g < lo) : Rdr w' N g m := by
  obtain ⟨A, c, p, bs, h1, h2, h3, h4, h5, h6⟩ := h
  have := h6.lt
  exact ⟨A, c, p, bs, h1, h2, h3, h4, h5.keep (fun q hq => World.cell?_of_block (ht.block _ (by omega) (.inl (by omega)))), (ht.block g h6.lt (.inl hg)).trans h6⟩
theorem Rdr.below {w w' : World} {N g m B : Nat} (h : Rdr w N g m) (ht : Below B w w') (hg : g < B) : Rdr w' N g m := by
  obtain ⟨A, c, p, bs, h1, h2, h3, h4, h5, h6⟩ := h
  exact ⟨A, c, p, bs, h1, h2, h3, h4, h5.belowLe ht (by omega), h6.below ht hg⟩

theorem ofInt_i64 (a : Nat) (ha : a < 9223372036854775808) : (BitVec.ofInt 64 (a : Int)).toNat = a := by
  rw [BitVec.ofInt_natCast, BitVec.toNat_ofNat]; exact Nat.mod_eq_of_lt (by omega)
theorem i64_xor_nat (a b : Nat) (ha : a < 9223372036854775808) (hb : b < 9223372036854775808) : bits .xor .i64 (a : Int) (b : Int) = ((a ^^^ b : Nat) : Int) := by
  have hx : a ^^^ b < 2 ^ 63 := Nat.xor_lt_two_pow (by omega) (by omega)
  show IntKind.i64.wrap ((BitVec.ofInt 64 (a : Int) ^^^ BitVec.ofInt 64 (b : Int)).toNat : Int) = _
  rw [BitVec.toNat_xor, ofInt_i64 a ha, ofInt_i64 b hb, IntKind.wrap_i64]
  omega
theorem xor_end (z n : Int) (h0 : 0 ≤ z) (h1 : z ≤ 1000000000) (hn : 1 ≤ n) : 0 ≤ (bits .xor .i64 z (z / 64)).tmod n ∧ (bits .xor .i64 z (z / 64)).tmod n < n := by
  obtain ⟨Z, rfl⟩ := Int.eq_ofNat_of_zero_le h0
  have e : ((Z : Int) / 64) = ((Z / 64 : Nat) : Int) := rfl
  rw [e, i64_xor_nat Z (Z / 64) (by omega) (by omega), Int.tmod_eq_emod_of_nonneg (by omega)]
  exact ⟨Int.emod_nonneg _ (by omega), Int.emod_lt_of_pos _ (by omega)⟩

def Picked (n : Int) (N g m : Nat) (w : World) (e : Ending) (w' : World) : Prop :=
  ∃ v : Int, e = .returned (.int .i64 v) ∧ 0 ≤ v ∧ (v < n ∨ v = 0) ∧ Rdr w' N g (m + 1) ∧ Turn g (g + 1) w w'

section
variable {w : World} {N g m p c : Nat} {A : Option Addr} {bs : List Int}
theorem picked_end (hN : N ≤ g) (hp : p ≤ m) (hl : bs.length ≤ 2000) (hx : ∀ x ∈ bs, 0 ≤ x ∧ x ≤ 255) (hr : Rd w N A (bytes8 bs)) (hb : Blk w g 77 #[.slice A bs.length c, .int .i64 (p : Int)])
    (d : Nat) : Rdr ((w.setCell ⟨g, 1, none⟩ (.int .i64 (p + 1 : Int))).drewN d) N g (m + 1) ∧ Turn g (g + 1) w ((w.setCell ⟨g, 1, none⟩ (.int .i64 (p + 1 : Int))).drewN d) := by
  refine ⟨⟨A, c, p + 1, bs, hN, by omega, hl, hx, ?_, ?_⟩, ((Turn.refl g (g + 1) w).setCell (p := ⟨g, 1, none⟩) (Nat.le_refl _) (.inl (Nat.lt_succ_self _)) _).drewN d⟩
  · exact hr.keep fun q hq => World.cell?_setCell_other w _ q _ (by rintro rfl; simp at hq; omega)
  · have := hb.set_ 1 (.int .i64 (p + 1 : Int))
    rw [show (#[Value.slice A bs.length c, .int .i64 (p : Int)] : Array Value).setIfInBounds 1 (.int .i64 (p + 1 : Int)) = #[Value.slice A bs.length c, .int .i64 (p + 1 : Int)] from rfl] at this
    exact this
end

set_option maxHeartbeats 1000000 in
theorem pick (n : Int) (N g m : Nat) (w : World) (hm : m ≤ 1000000) (h : Rdr w N g m) :
    Calls Try.prog 63 #[.pointer (some ⟨g, 0, none⟩), .int .i64 n] w (Picked n N g m w) := by
  obtain ⟨A, c, p, bs, hN, hp, hl, hx, hr, hb⟩ := h
  have c0 : w.cell? ⟨g, 0, none⟩ = some (.slice A bs.length c) := by simpa using hb.cell 0
  have c1 : w.cell? ⟨g, 1, none⟩ = some (.int .i64 (p : Int)) := by simpa using hb.cell 1
  have f1 := hb.frozen 1
  have FIN := Lib.hid (fun d => picked_end (m := m) hN hp hl hx hr hb d)
  by_cases hn : n < 1
  · clear hr hb hx
    go_enter Try.func63, Try.ntmps63
    go_wp2
    go_ret
    exact ⟨0, rfl, by omega, .inr rfl, FIN.out 0⟩
  · by_cases h0 : bs.length = 0
    · have e0 : ((bs.length : Int) == 0) = true := by simp [h0]
      have hnf : decide (n < 1) = false := by simpa using hn
      clear hr hb hx h0
      go_enter Try.func63, Try.ntmps63
      go_wp2
      go_ret
      exact ⟨0, rfl, by omega, .inr rfl, FIN.out 0⟩
    · have e0 : ((bs.length : Int) == 0) = false := by rw [beq_eq_false_iff_ne]; omega
      have hnf : decide (n < 1) = false := by simpa using hn
      have hn1 : 1 ≤ n := by omega
      obtain ⟨ad, rfl, had, hc⟩ := hr.at_ (k := 0) (by rw [List.length_map]; omega)
      have hcw : ∀ j (hj : j < bs.length), (w.setCell ⟨g, 1, none⟩ (.int .i64 (p + 1 : Int))).cell? (ad.add j) = some (.int .u8 bs[j]) := fun j hj => by
        rw [World.cell?_setCell_other w _ _ _ (by intro e; have := congrArg Addr.block e; rw [block_of_add] at this; have : g = ad.block := this; omega)]
        exact hc j _ (by simp [hj])
      by_cases hk : p < bs.length
      · have hcell := hcw p hk
        have hxk := hx bs[p] (List.getElem_mem hk)
        obtain ⟨x, hxe⟩ : ∃ x, x = bs[p] := ⟨_, rfl⟩
        rw [← hxe] at hcell hxk
        have hm1 := Int.emod_nonneg x (show n ≠ 0 by omega)
        have hm2 := Int.emod_lt_of_pos x (show 0 < n by omega)
        clear hr hb hx h0 hn hcw hc hxe
        obtain ⟨hx0, hx1⟩ := hxk
        go_enter Try.func63, Try.ntmps63
        go_wp2
        go_ret
        exact ⟨_, rfl, hm1, .inl hm2, FIN.out 0⟩
      · obtain ⟨L, hL⟩ : ∃ L, L = bs.length := ⟨_, rfl⟩
        have hp1 : p % bs.length < bs.length := Nat.mod_lt _ (by omega)
        have hp2 : (p * 7 + 3) % bs.length < bs.length := Nat.mod_lt _ (by omega)
        have hcell1 := hcw _ hp1
        have hcell2 := hcw _ hp2
        obtain ⟨x0, x1⟩ := hx _ (List.getElem_mem hp1)
        obtain ⟨y0, y1⟩ := hx _ (List.getElem_mem hp2)
        obtain ⟨x, hxe⟩ : ∃ x, x = bs[p % bs.length] := ⟨_, rfl⟩
        obtain ⟨y, hye⟩ : ∃ y, y = bs[(p * 7 + 3) % bs.length] := ⟨_, rfl⟩
        rw [← hxe] at hcell1 x0 x1
        rw [← hye] at hcell2 y0 y1
        have hne : bs ≠ [] := by rintro rfl; simp at h0
        have u1 : 0 ≤ (p : Int).tmod (bs.length : Int) := by rw [Int.tmod_eq_emod_of_nonneg (by omega)]; exact Int.emod_nonneg _ (by omega)
        have u2 : (p : Int).tmod (bs.length : Int) < (bs.length : Int) := by rw [Int.tmod_eq_emod_of_nonneg (by omega)]; exact Int.emod_lt_of_pos _ (by omega)
        have u3 : 0 ≤ ((p : Int) * 7 + 3).tmod (bs.length : Int) := by rw [Int.tmod_eq_emod_of_nonneg (by omega)]; exact Int.emod_nonneg _ (by omega)
        have u4 : ((p : Int) * 7 + 3).tmod (bs.length : Int) < (bs.length : Int) := by rw [Int.tmod_eq_emod_of_nonneg (by omega)]; exact Int.emod_lt_of_pos _ (by omega)
        have t1 : ((p : Int).tmod (bs.length : Int)).toNat = p % bs.length := rfl
        have t2 : (((p : Int) * 7 + 3).tmod (bs.length : Int)).toNat = (p * 7 + 3) % bs.length := rfl
        have hq : p / bs.length ≤ p := Nat.div_le_self _ _
        obtain ⟨q, hqe⟩ : ∃ q, q = p / bs.length := ⟨_, rfl⟩
        rw [← hqe] at hq
        have d1 : (p : Int).tdiv (bs.length : Int) = (q : Int) := by rw [hqe]; rfl
        have b0 : x * 131 + y * 1117 + (p : Int) * 29 + (q : Int) * 53 ≤ 1000000000 := by omega
        have b1 : 0 ≤ x * 131 + y * 1117 + (p : Int) * 29 + (q : Int) * 53 := by omega
        have w1 : IntKind.i64.wrap ((p : Int) * 7) = (p : Int) * 7 := IntWalk.i64_in _ (by omega)
        have w2 : IntKind.i64.wrap ((p : Int) * 7 + 3) = (p : Int) * 7 + 3 := IntWalk.i64_in _ (by omega)
        have w3 : IntKind.i64.wrap (x * 131) = x * 131 := IntWalk.i64_in _ (by omega)
        have w4 : IntKind.i64.wrap (y * 1117) = y * 1117 := IntWalk.i64_in _ (by omega)
        have w5 : IntKind.i64.wrap (x * 131 + y * 1117) = x * 131 + y * 1117 := IntWalk.i64_in _ (by omega)
        have w6 : IntKind.i64.wrap ((p : Int) * 29) = (p : Int) * 29 := IntWalk.i64_in _ (by omega)
        have w7 : IntKind.i64.wrap (x * 131 + y * 1117 + (p : Int) * 29) = x * 131 + y * 1117 + (p : Int) * 29 := IntWalk.i64_in _ (by omega)
        have w8 : IntKind.i64.wrap (q : Int) = (q : Int) := IntWalk.i64_in _ (by omega)
        have w9 : IntKind.i64.wrap ((q : Int) * 53) = (q : Int) * 53 := IntWalk.i64_in _ (by omega)
        have w10 : IntKind.i64.wrap (x * 131 + y * 1117 + (p : Int) * 29 + (q : Int) * 53) = x * 131 + y * 1117 + (p : Int) * 29 + (q : Int) * 53 := IntWalk.i64_in _ (by omega)
        have w11 : IntKind.i64.wrap x = x := IntWalk.i64_in _ (by omega)
        have w12 : IntKind.i64.wrap y = y := IntWalk.i64_in _ (by omega)
        clear hr hb hx h0 hn hcw hc hxe hye hL hqe
        go_enter Try.func63, Try.ntmps63
        go_wp2
        go_quiet (fail)
        clear w1 w2 w3 w4 w5 w6 w7 w8 w9 w10 w11 w12 d1 t1 t2 u1 u2 u3 u4 hcell1 hcell2 hp1 hp2 hl
        obtain ⟨z, hz⟩ : ∃ z, z = x * 131 + y * 1117 + (p : Int) * 29 + (q : Int) * 53 := ⟨_, rfl⟩
        rw [← hz] at b0 b1 ⊢
        clear hz
        go_wp2
        go_ret
        have hz := xor_end z n b1 b0 hn1
        exact ⟨_, rfl, hz.1, .inl hz.2, FIN.out _⟩
end Go.Proofs.Ytlinngohbghimaa

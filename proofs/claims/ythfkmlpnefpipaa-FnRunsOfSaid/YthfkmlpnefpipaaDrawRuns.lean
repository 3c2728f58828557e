/-
  spec.DrawRunsOf: some list, some number.
-/
import Derived.Test.YthfkmlpnefpipaaReader
import Derived.Test.YthfkmlpnefpipaaApp
namespace Go.Proofs.Ythfkmlpnefpipaa
open Go.RowKit

def DrawnRuns (w : World) (e : Ending) (w' : World) : Prop :=
  ∃ (A : Option Addr) (c : Nat) (xs : List Int) (x : Int), e = .returned (.tuple #[.slice A xs.length c, .int .i64 x]) ∧ xs.length ≤ 1000 ∧ RdI w' w'.heap.size A xs ∧ Below w.heap.size w w'

theorem owI_lit (xs : List Int) (lo : Nat) (w : World) (h : lo ≤ w.heap.size) : OwI (w.alloc (.cells (ints xs).toArray 3)) lo (w.heap.size + 1) (some ⟨w.heap.size, 0, none⟩) xs :=
  fun _ => ⟨w.heap.size, _, rfl, h, Nat.lt_succ_self _, Blk.new _ _ _, List.take_of_length_le (Nat.le_refl _)⟩

set_option maxHeartbeats 400000 in
theorem drawRunsOf {A : Option Addr} {c n : Nat} {w : World} (bs : List Int) (ln : bs.length = n) (hn : n ≤ c) (hc : c ≤ 9223372036854775807) (hx : ∀ x ∈ bs, (Lit.int .u8 x).wf = true) (hr : Rd w w.heap.size A (bytes8 bs)) :
    Calls Try.prog 10 #[.slice A n c] w (DrawnRuns w) := by
  subst ln
  have HR := Lib.hid hr; clear hr
  have HX := Lib.hid hx; clear hx
  go_enter Try.func10, Try.ntmps10
  go_wp2_with fail
  refine (newReader bs rfl hn hc HX.out HR.out).mono ?_; rintro e w1 ⟨rfl, hr1, b1, s1⟩
  have S1 := Lib.hid s1; clear s1
  have R1 := Lib.hid hr1; clear hr1
  go_wp2_with fail
  refine (pick _ w.heap.size w.heap.size 0 _ (by omega) (R1.out.below ((Below.refl _ _).alloc (Nat.le_refl _) _) (by rw [S1.out]; omega))).mono ?_; rintro e w2 ⟨k, rfl, hk0, hk, hr2, ht2⟩
  have b2 : Below w.heap.size w w2 := (b1.alloc (by rw [S1.out]; omega) _).trans (ht2.below (by simp; have := S1.out; omega))
  have g2 : GrI w2 (w.heap.size + 1) (some ⟨w1.heap.size, 0, none⟩) 0 [] := (GrI.lit0 w1 (by rw [S1.out]; exact Nat.le_refl _)).kept ht2 (.inl (Nat.le_refl _))
  have R2 := Lib.hid hr2; clear hr2
  have B2 := Lib.hid b2; clear b2
  have G2 := Lib.hid g2; clear g2
  clear ht2
  go_wp2_with fail
  go_loopw [5, 6] (fun v i wr => ∃ (j m : Nat) (A' : Option Addr) (c' : Nat) (xs : List Int), j ≤ 10 ∧ m ≤ 20 - j ∧ i = .int .i64 j ∧ v = .slice A' xs.length c' ∧ xs.length + j ≤ 10 ∧ GrI wr (w.heap.size + 1) A' c' xs ∧ Rdr wr w.heap.size w.heap.size m ∧ Below w.heap.size w wr) (fun _ i _ => (intOf i).toNat)
  case atStart =>
    obtain ⟨j, rfl⟩ := Int.eq_ofNat_of_zero_le hk0
    exact ⟨j, 1, _, 0, [], by omega, by omega, rfl, rfl, by simp; omega, G2.out, R2.out, B2.out⟩
  case round =>
    obtain ⟨j, m, A', c', xs, hj, hm, rfl, rfl, hl, hg, hrd, hb⟩ := hrel
    have HG := Lib.hid hg; clear hg
    have HD := Lib.hid hrd; clear hrd
    have HB := Lib.hid hb; clear hb
    by_cases hj0 : 0 < j
    · go_wp2_with fail
      refine (pick _ w.heap.size w.heap.size m _ (by omega) HD.out).mono ?_; rintro e w3 ⟨y, rfl, _, _, hr3, ht3⟩
      have G3 := HG.out.kept ht3 (.inl (Nat.le_refl _))
      have B3 := HB.out.trans (ht3.below (by have := HB.out.size; omega))
      have hs3 := hr3.lt
      have HR3 := Lib.hid hr3; clear hr3 ht3
      have HG3 := Lib.hid G3; clear G3
      have HB3 := Lib.hid B3; clear B3
      go_wp2_with (at_builtin; refine wpList_appI (.tmp 16) (.tmp 19) rfl rfl (lo := w.heap.size + 1) (m := 1) [y] rfl (HG3.out.alloc _) rfl rfl (owI_lit [y] 0 w3 (Nat.zero_le _)).rd (by omega) (by simp; omega) ?_; intro A4 c4 w4 hg4 ht4 _)
      have hr4 := (HR3.out.below ((Below.refl _ _).alloc (Nat.le_refl _) (.cells (ints [y]).toArray 3)) (by omega)).turn ht4 (by omega)
      have hb4 := (HB3.out.alloc (by omega) (.cells (ints [y]).toArray 3)).trans ((ht4.below (by simp; omega)).mono (by omega))
      have H4 := Lib.hid hg4; clear hg4
      have H5 := Lib.hid hr4; clear hr4
      have H6 := Lib.hid hb4; clear hb4 ht4
      go_wp2
      go_roundw
      case rel => exact ⟨j - 1, m + 1, _, _, xs ++ [y], by omega, by omega, by go_num, by simp, by simp; omega, H4.out, H5.out, H6.out⟩
      case measure => simp [intOf]; omega
    · go_wp2_with fail
      have hs := HD.out.lt
      refine (one (n := 5) [0, 1, 2, 3, 9] rfl (by omega) (by omega) w.heap.size w.heap.size m (by omega) (HD.out.below ((Below.refl _ _).alloc (Nat.le_refl _) _) (by omega)) (owI_lit [0, 1, 2, 3, 9] (w.heap.size + 1) _ (by omega)) (by omega) (by simp)).mono ?_
      rintro e w3 ⟨y, _, rfl, hr3, ht3⟩
      have G3 := (HG.out.alloc (.cells (ints [0, 1, 2, 3, 9]).toArray 3)).kept ht3 (.inl (Nat.le_refl _))
      have B3 := (HB.out.alloc (by omega) (.cells (ints [0, 1, 2, 3, 9]).toArray 3)).trans (ht3.below (by simp; omega))
      have HF := Lib.hid (show DrawnRuns w (.returned (.tuple #[.slice A' xs.length c', .int .i64 y])) w3 from ⟨_, _, _, _, rfl, by omega, G3.ow.rd, B3⟩)
      clear ht3 hr3 G3 B3
      go_wp2
      go_ret2
      exact HF.out
end Go.Proofs.Ythfkmlpnefpipaa

/-
  spec.DrawNewOwners.
-/
import Derived.Test.YtbdkodlaagcknaaReader
namespace Go.Proofs.Ytbdkodlaagcknaa
open Go.RowKit

def DrawnCx (w : World) (e : Ending) (w' : World) : Prop := ∃ (A : Option Addr) (c : Nat) (xs : List Int), e = .returned (.slice A xs.length c) ∧ xs.length ≤ 3 ∧ SlI w' w.heap.size w'.heap.size A c xs ∧ Below w.heap.size w w'
set_option maxHeartbeats 1600000 in
theorem drawNewOwners {A : Option Addr} {c n : Nat} {w : World} (bs : List Int) (ln : bs.length = n) (hn : n ≤ c) (hc : c ≤ 9223372036854775807) (hx : ∀ x ∈ bs, (Lit.int .u8 x).wf = true) (hr : Rd w w.heap.size A (bytes8 bs)) :
    Calls Try.prog 22 #[.slice A n c] w (DrawnCx w) := by
  subst ln
  have HR := Lib.hid hr; clear hr
  have HX := Lib.hid hx; clear hx
  go_enter Try.func22, Try.ntmps22
  go_wp2_with fail
  refine (newReader bs rfl hn hc HX.out HR.out).mono ?_; rintro e w1 ⟨rfl, hr1, b1, s1⟩
  have R1 := Lib.hid hr1
  have B1 := Lib.hid b1
  have hz1 : w1.heap.size = w.heap.size + 1 := s1
  clear hr1 b1 s1 HX HR
  go_wp2_with fail
  refine (pick _ w.heap.size w.heap.size 0 _ (by omega) R1.out).mono ?_; rintro e w2 ⟨v, rfl, hv0, hv, r2, t2⟩
  have hz2 := t2.size
  have R2 := Lib.hid r2
  have B2 := Lib.hid (B1.out.trans (t2.below (by omega)))
  clear r2 t2 R1 B1
  go_wp2_with fail
  refine (pick _ w.heap.size w.heap.size (0 + 1) _ (by omega) R2.out).mono ?_; rintro e w3 ⟨u, rfl, hu0, hu, r3, t3⟩
  have hz3 := t3.size
  have B3 := Lib.hid (B2.out.trans (t3.below (by omega)))
  have R3 := Lib.hid (r3.below ((Below.refl w3.heap.size w3).alloc (Nat.le_refl _) (.cells (ints [v - 1, -1, u - 1]).toArray 3)) (by omega))
  have S3 := Lib.hid (show SlI (w3.alloc (.cells (ints [v - 1, -1, u - 1]).toArray 3)) (w.heap.size + 1) (w3.heap.size + 1) (some ⟨w3.heap.size, 0, none⟩) 3 [v - 1, -1, u - 1] from SlI.newAt (w := w3) w3.heap.size rfl [v - 1, -1, u - 1] (by omega))
  have B4 := Lib.hid (B3.out.alloc (by omega) (.cells (ints [v - 1, -1, u - 1]).toArray 3))
  clear r3 t3 R2 B2 B3
  go_wp2_with fail
  refine (pick _ w.heap.size w.heap.size (0 + 1 + 1) _ (by omega) R3.out).mono ?_; rintro e w5 ⟨s, rfl, hs0, hs, r5, t5⟩
  have hz5 := t5.size
  rw [World.size_alloc] at hz5
  have S5 := Lib.hid (S3.out.turn t5 (.inr (by omega)))
  have B5 := Lib.hid (B4.out.trans (t5.below (by simp; omega)))
  have R5 := Lib.hid r5
  clear r5 t5 S3 B4 R3
  by_cases h0 : s = 0
  case pos =>
    subst h0
    have S6 := Lib.hid (S5.out.cut (l := 1) (h := 3) (m := 3) (by omega) (by simp) (by omega) (by omega))
    go_wp2_with fail
    go_ret
    refine ⟨some ⟨w3.heap.size, 1, none⟩, 2, [-1, u - 1], rfl, by simp, ?_, B5.out⟩
    have := S6.out
    rw [if_neg (by omega)] at this
    exact (SlI.mono this (by omega) (by omega))
  have h0' : (s == 0) = false := by rw [beq_eq_false_iff_ne]; exact h0
  by_cases h1 : s = 1
  case pos =>
    subst h1
    clear h0 h0' hs0 hs
    go_wp2_with fail
    refine (one (n := 2) [-2, 51] rfl (by omega) (by omega) w.heap.size w.heap.size (0 + 1 + 1 + 1) (by omega) (R5.out.below ((Below.refl w5.heap.size w5).alloc (Nat.le_refl _) (.cells (ints [-2, 51]).toArray 3)) (by omega)) (SlI.newAt (lo := w.heap.size + 1) (w := w5) w5.heap.size rfl [-2, 51] (by omega)) (by omega)).mono ?_
    rintro e w6 ⟨q, _, rfl, r6, t6⟩
    have s6 := (S5.out.alloc (.cells (ints [-2, 51]).toArray 3)).turn t6 (.inr (by omega))
    have hz6 := t6.size
    rw [World.size_alloc] at hz6
    obtain ⟨g', o', hA, _, _, hcc, hff, hst⟩ := s6.at_ (k := 0) (by simp)
    simp only [Option.some.injEq, Addr.mk.injEq, and_true] at hA
    obtain ⟨rfl, rfl⟩ := hA
    have hcell := hcc 0 (by simp)
    have hfr := hff 0
    obtain ⟨h5, h6⟩ := hst 0 q (by simp)
    simp only [Nat.add_zero] at hcell hfr h5 h6
    have FIN := Lib.hid (show DrawnCx w (.returned (.slice (some ⟨w3.heap.size, 0, none⟩) 3 3)) (w6.setCell ⟨w3.heap.size, 0, none⟩ (.int .i64 q)) from
      ⟨_, 3, [q, -1, u - 1], rfl, by simp, SlI.mono h5 (by omega) (by simp [World.setCell]; omega), ((B5.out.alloc (by omega) (.cells (ints [-2, 51]).toArray 3)).trans (t6.below (by simp; omega))).trans ((h6.below (by omega)).mono (by omega))⟩)
    clear hst hcc hff h5 h6 s6 r6 t6
    go_wp2_with fail
    go_ret
    exact FIN.out
  have h1' : (s == 1) = false := by rw [beq_eq_false_iff_ne]; exact h1
  clear h0 h1 hs0 hs
  go_wp2_with fail
  go_ret
  exact ⟨_, 3, _, rfl, by simp, SlI.mono S5.out (by omega) (by omega), B5.out⟩
end Go.Proofs.Ytbdkodlaagcknaa

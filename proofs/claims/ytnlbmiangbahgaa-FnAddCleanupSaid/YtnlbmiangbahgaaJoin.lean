/-
  laws.join.
-/
import Derived.Test.YtnlbmiangbahgaaLists
namespace Go.Proofs.Ytnlbmiangbahgaa
open Go.RowKit

set_option maxHeartbeats 400000 in
theorem join {A A' : Option Addr} {c c' n n' B B' : Nat} {w : World} (xs ys : List Int) (ln : xs.length = n) (ln' : ys.length = n') (hn : n ≤ 1099511627776) (hn' : n' ≤ 1099511627776) (h : RdI w B A xs) (h' : RdI w B' A' ys) (hB : B ≤ w.heap.size) (hB' : B' ≤ w.heap.size) :
    Calls Try.prog 16 #[.slice A n c, .slice A' n' c'] w (MadeI w (xs ++ ys)) := by
  subst ln ln'
  have b0 : Below w.heap.size w (w.alloc (.cells #[] 3)) := (Below.refl w.heap.size w).alloc (Nat.le_refl _) (.cells #[] 3)
  have H := Lib.hid (h.belowLe b0 hB); clear h
  have H' := Lib.hid (h'.belowLe b0 hB'); clear h' b0
  have H0 := Lib.hid (SlI.new w [] (lo := w.heap.size) (Nat.le_refl _))
  have STEP := Lib.hid (show ∀ A1 c1 w1, SlI w1 w.heap.size (max (w.heap.size + 1) w1.heap.size) A1 c1 ([] ++ xs) → Turn w.heap.size (w.heap.size + 1) (w.alloc (.cells #[] 3)) w1 →
      w.heap.size + 1 ≤ w1.heap.size ∧ Hid (SlI w1 w.heap.size w1.heap.size A1 c1 xs) ∧ Hid (RdI w1 B' A' ys) ∧ Hid (Below w.heap.size w w1) from fun A1 c1 w1 h1 h2 => by
    have hz1 : w.heap.size + 1 ≤ w1.heap.size := by have := h2.size; simpa using this
    have h3 := h1.all h2 (by simp)
    rw [List.nil_append] at h3
    exact ⟨hz1, Lib.hid h3, Lib.hid (h2.rdI H'.out hB' (by simp)), Lib.hid (((Below.refl _ _).alloc (Nat.le_refl _) _).trans (h2.below (by simp)))⟩)
  go_enter Try.func16, Try.ntmps16
  go_wp2_with (first
    | (at_builtin; refine wpList_appI (.tmp 5) (.tmp 6) rfl rfl [] xs rfl rfl H0.out rfl rfl H.out (by omega) (by simp) ?_; intro A1 c1 w1 h1 h2 _; obtain ⟨hz1, H1, H2, B1⟩ := STEP.out A1 c1 w1 h1 h2; clear h1 h2)
    | (at_builtin; refine wpList_appI (.tmp 7) (.tmp 8) rfl rfl xs ys rfl rfl H1.out rfl rfl H2.out (by omega) (by omega) ?_; intro A2 c2 w2 h1 h2 _))
  have h3 := h1.all h2 (Nat.le_refl _)
  have hl : xs.length + ys.length = (xs ++ ys).length := by simp
  have HF := Lib.hid (show MadeI w (xs ++ ys) (.returned (.slice A2 (xs.length + ys.length) c2)) w2 from ⟨_, _, by rw [hl], h3, B1.out.trans (h2.below (by omega))⟩)
  clear h1 h2 h3 hl
  go_wp2
  go_ret
  exact HF.out
end Go.Proofs.Ytnlbmiangbahgaa

/-
  No patch is shorter than it must be: the plain law of FnPatchOfLeast.
-/
import Derived.Test.YtmmegmefiihabaaApplyLaw
import Derived.Test.YtmmegmefiihabaaNewKeys
import Derived.Test.YtmmegmefiihabaaCostLaw
namespace Go.Proofs.Ytmmegmefiihabaa
open Go.RowKit

theorem cntF_app (k : Int) (xs ys : List Chg) : cntF k (xs ++ ys) = cntF k xs + cntF k ys := by
  unfold cntF; rw [List.filter_append, List.length_append]
theorem cntF_rem (k : Int) (rs : List Int) : cntF k (rs.map fun x => (⟨0, x, -1⟩ : Chg)) = if k = 0 then rs.length else 0 := by
  induction rs with
  | nil => simp [cntF]
  | cons r rs ih =>
    rw [List.map_cons, cntF_cons, ih]
    by_cases h : k = 0
    · subst h; simp [cntF]; omega
    · have h2 : ¬ (0 = k) := fun e => h e.symm
      simp [cntF, h, h2]
theorem cntF_ins0 (st a : List Int) (p : Int) (xs : List Int) : cntF 0 (insG st a p xs) = 0 := by
  induction xs generalizing p with
  | nil => rfl
  | cons x r ih =>
    rw [insG, cntF_app, ih]
    unfold stepI
    split
    · simp [cntF]
    · split <;> simp [cntF]
theorem cntF_ins1 (st a : List Int) (p : Int) (xs : List Int) : cntF 1 (insG st a p xs) = (missF xs a).length := by
  induction xs generalizing p with
  | nil => rfl
  | cons x r ih =>
    rw [insG, cntF_app, ih]
    unfold stepI missF
    by_cases h : x ∈ a
    · by_cases h2 : x ∈ st <;> simp [cntF, memB, h, h2]
    · simp [cntF, memB, h]; omega
theorem cntF_ins2 {st a : List Int} (h : ∀ x ∈ st, x ∈ a) (p : Int) (xs : List Int) : cntF 2 (insG st a p xs) + (xs.filter fun x => memB x st).length = (commF xs a).length := by
  induction xs generalizing p with
  | nil => rfl
  | cons x r ih =>
    have ih2 := ih x
    rw [insG, cntF_app]
    unfold stepI commF at *
    by_cases h1 : x ∈ a
    · by_cases h2 : x ∈ st
      · simp [cntF, memB, h1, h2] at ih2 ⊢; omega
      · simp [cntF, memB, h1, h2] at ih2 ⊢; omega
    · have h2 : x ∉ st := fun e => h1 (h x e)
      simp [cntF, memB, h1, h2] at ih2 ⊢; omega
theorem least_law {a b : List Int} (ha : vkB a = true) (hb : vkB b = true) :
    cntF 0 (patchF a b) = (newF b a).length ∧ cntF 1 (patchF a b) = (newF a b).length ∧ ((cntF 2 (patchF a b) : Nat) : Int) = movesOfF a b := by
  have nb := (vkB_iff.1 hb).1
  have e1 : newF b a = missF a b := by unfold newF; rw [ha, hb]; rfl
  have e2 : newF a b = missF b a := by unfold newF; rw [ha, hb]; rfl
  have e3 : movesOfF a b = ((commF b a).length : Int) - (staysF a b).length := by unfold movesOfF; rw [ha, hb]; rfl
  have h2 := cntF_ins2 (staysF_in a b) (-1) b
  rw [stays_count nb] at h2
  rw [e1, e2, e3]
  unfold patchF remF
  rw [cntF_app, cntF_app, cntF_app, cntF_rem, cntF_rem, cntF_rem, cntF_ins0, cntF_ins1]
  simp only [List.length_reverse, if_true]
  refine ⟨by omega, by simp, ?_⟩
  simp
  omega
end Go.Proofs.Ytmmegmefiihabaa

/-
  The plain law of AboveOf: a way up, to the first owner.
-/
import Derived.Test.YtnlbmiangbahgaaVo
import Derived.Test.YtnlbmiangbahgaaSetLaw
namespace Go.Proofs.Ytnlbmiangbahgaa
open Go.RowKit

theorem aboveG_neg (os : List Own) (m : Nat) (o : Int) (h : o < 0) : aboveG os m o = [] := by
  cases m with
  | zero => rfl
  | succ m => rw [aboveG, if_pos h]
theorem aboveG_way {os : List Own} (hv : voB os = true) : ∀ (m o : Nat), o < os.length → o < m → ∃ l : List Int, aboveG os m (o : Int) = (o : Int) :: l ∧
    (∀ (j : Nat) (a b : Int), ((o : Int) :: l)[j]? = some a → ((o : Int) :: l)[j + 1]? = some b → ∃ (i : Nat) (x : Own), a = i ∧ os[i]? = some x ∧ x.p = b) ∧ ((o : Int) :: l).getLast? = some 0 ∧ (∀ a ∈ (o : Int) :: l, ∃ i : Nat, a = i ∧ i ≤ o) ∧ l.length ≤ o := by
  intro m
  induction m with
  | zero => intro o _ h; omega
  | succ m ih =>
    intro o ho hm
    have hx := List.getElem?_eq_getElem ho
    have hk := okO_iff.1 ((vo_iff.1 hv).1 o _ hx)
    have hpar := parAt_get hx
    rcases parB_iff.1 hk.1.1 with ⟨h0, h1⟩ | ⟨h0, h1, h2⟩
    · refine ⟨[], by rw [aboveG, if_neg (by omega), hpar, h1, aboveG_neg _ _ _ (by omega)], fun j a b ha hb => by simp at hb, by simp [h0], fun a ha => ⟨o, by simpa using ha, Nat.le_refl _⟩, by simp⟩
    · obtain ⟨q, hq⟩ := Int.eq_ofNat_of_zero_le h1
      obtain ⟨l, e, w1, w2, w3, w4⟩ := ih q (by omega) (by omega)
      refine ⟨(q : Int) :: l, by rw [aboveG, if_neg (by omega), hpar, hq, e], fun j a b ha hb => ?_, ?_, fun a ha => ?_, by simp; omega⟩
      · cases j with
        | zero => simp at ha hb; exact ⟨o, _, ha.symm, hx, by rw [hq]; exact hb⟩
        | succ j => exact w1 j a b (by simpa using ha) (by simpa using hb)
      · rw [List.getLast?_cons_cons]; exact w2
      · rw [List.mem_cons] at ha
        rcases ha with rfl | ha
        · exact ⟨o, rfl, Nat.le_refl _⟩
        · obtain ⟨i, h5, h6⟩ := w3 a ha; exact ⟨i, h5, by omega⟩
theorem aboveOf_way {os : List Own} {k : Int} (h : aboveOfF os k ≠ []) : voB os = true ∧ (0 ≤ k ∧ k < os.length) ∧ ∃ l : List Int, aboveOfF os k = k :: l ∧
    (∀ (j : Nat) (a b : Int), (k :: l)[j]? = some a → (k :: l)[j + 1]? = some b → ∃ (i : Nat) (x : Own), a = i ∧ os[i]? = some x ∧ x.p = b) ∧ (k :: l).getLast? = some 0 ∧ (∀ a ∈ k :: l, ∃ i : Nat, a = i ∧ i < os.length) ∧ l.length ≤ 12 := by
  unfold aboveOfF at h ⊢
  split at h
  case isFalse => exact absurd rfl h
  case isTrue hof =>
  obtain ⟨hv, h0, h1⟩ := ofB_iff.1 hof
  obtain ⟨P, rfl⟩ := Int.eq_ofNat_of_zero_le h0
  obtain ⟨l, e, w1, w2, w3, w4⟩ := aboveG_way hv (os.length + 1) P (by omega) (by omega)
  have := (vo_lens hv).1
  exact ⟨hv, ⟨h0, h1⟩, l, by rw [if_pos hof]; exact e, w1, w2, fun a ha => by obtain ⟨i, h5, h6⟩ := w3 a ha; exact ⟨i, h5, by omega⟩, by omega⟩
end Go.Proofs.Ytnlbmiangbahgaa

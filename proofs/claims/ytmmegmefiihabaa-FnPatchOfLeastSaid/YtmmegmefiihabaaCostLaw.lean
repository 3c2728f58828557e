/-
  Costs are changes: the plain law.
-/
import Derived.Test.YtmmegmefiihabaaPatchOf
namespace Go.Proofs.Ytmmegmefiihabaa
open Go.RowKit

theorem filter_split (f : Int → Bool) (xs : List Int) : (xs.filter f).length + (xs.filter fun x => !f x).length = xs.length := by
  induction xs with
  | nil => rfl
  | cons x r ih => cases h : f x <;> simp [h] <;> omega
theorem insG_count {st a : List Int} (h : ∀ x ∈ st, x ∈ a) (p : Int) (xs : List Int) : (insG st a p xs).length = (xs.filter fun x => !memB x st).length := by
  induction xs generalizing p with
  | nil => rfl
  | cons x r ih =>
    rw [insG, List.length_append, ih]
    by_cases h1 : x ∈ st
    · have h2 := h x h1
      simp [stepI, memB, h1, h2]
    · by_cases h2 : x ∈ a <;> simp [stepI, memB, h1, h2] <;> omega
theorem stays_count {a b : List Int} (hb : b.Nodup) : (b.filter fun x => memB x (staysF a b)).length = (staysF a b).length := by
  refine Nat.le_antisymm ?_ ?_
  · refine List.Nodup.length_le_of_subset (hb.filter _) fun x hx => ?_
    obtain ⟨h1, h2⟩ := List.mem_filter.1 hx
    simpa [memB] using h2
  · refine List.Nodup.length_le_of_subset ((staysF_after a b).nodup hb) fun x hx => ?_
    exact List.mem_filter.2 ⟨(staysF_after a b).subset hx, by simpa [memB] using hx⟩
theorem patchF_length {a b : List Int} (hb : b.Nodup) : (patchF a b).length + (commF a b).length + (staysF a b).length = a.length + b.length := by
  unfold patchF
  rw [List.length_append, insG_count (staysF_in a b), remF, List.length_map, List.length_reverse]
  have h1 := filter_split (fun x => memB x b) a
  have h2 := filter_split (fun x => memB x (staysF a b)) b
  rw [stays_count hb] at h2
  unfold missF commF
  omega
theorem costF_sym (a b : List Int) : costF b a = costF a b := by
  unfold costF
  by_cases ha : vkB a = true
  · by_cases hb : vkB b = true
    · rw [ha, hb]
      have na := (vkB_iff.1 ha).1
      have nb := (vkB_iff.1 hb).1
      have h1 := patchF_length (a := a) nb
      have h2 := patchF_length (a := b) na
      have h3 := commF_sym na nb
      have h4 := staysF_sym na nb
      have : (patchF b a).length = (patchF a b).length := by omega
      simp [this]
    · simp [hb]
  · simp [ha]
theorem patchF_zero {a b : List Int} (ha : a.Nodup) (hb : b.Nodup) : (patchF a b).length = 0 ↔ a = b := by
  have h1 := patchF_length (a := a) hb
  constructor
  · intro h
    have l1 : (commF a b).length ≤ a.length := commF_len a b
    have l2 := staysF_len a b
    have e1 : (commF a b).length = a.length := by omega
    have e2 : (staysF a b).length = b.length := by omega
    have e3 := (staysF_after a b).eq_of_length e2
    have s := staysF_before a b
    rw [e3] at s
    have e4 : commF a b = a := (List.filter_sublist (p := fun x => memB x b)).eq_of_length e1
    have sub : ∀ x ∈ a, x ∈ b := fun x hx => by
      rw [← e4] at hx
      simpa [memB] using (List.mem_filter.1 hx).2
    exact (s.eq_of_length (Nat.le_antisymm s.length_le (List.Nodup.length_le_of_subset ha sub))).symm
  · intro h
    subst h
    rw [commF_self, staysF_self ha] at h1
    omega
end Go.Proofs.Ytmmegmefiihabaa

/-
  Small functions on slices of ints.
-/
import Derived.Test.YtdhjejpcppmejaaDoorInts
import Derived.Test.YtdhjejpcppmejaaDoorSmall
import Derived.WalkSpells
namespace Go.Proofs.YtdhjejpcppmejaaDoor
open Go.RowKit

theorem plc_ge (x : Int) (xs : List Int) : decide (0 ≤ plc x xs) = memB x xs := by
  unfold plc memB
  split
  · next h => rw [decide_eq_true (by omega), decide_eq_true h]
  · next h => rw [decide_eq_false (by omega), decide_eq_false h]
theorem plc_neg (x : Int) (xs : List Int) : decide (plc x xs < 0) = !memB x xs := by
  unfold plc memB
  split
  · next h => rw [decide_eq_false (by omega), decide_eq_true h]; rfl
  · next h => rw [decide_eq_true (by omega), decide_eq_false h]; rfl
def withinB (xs ys : List Int) : Bool := xs.all fun x => memB x ys
theorem withinB_iff {xs ys : List Int} : withinB xs ys = true ↔ ∀ x ∈ xs, x ∈ ys := by simp [withinB, memB]
def nodupB (xs : List Int) : Bool := decide xs.Nodup
theorem idx_eq_of_nodup {xs : List Int} (h : xs.Nodup) (k : Nat) (hk : k < xs.length) : idx xs[k] xs = k :=
  idx_at _ _ k hk (fun j hj e => List.pairwise_iff_getElem.1 h j k (by omega) hk hj e) rfl
theorem nodup_of_idx {xs : List Int} (h : ∀ k (hk : k < xs.length), idx xs[k] xs = k) : xs.Nodup :=
  List.pairwise_iff_getElem.2 fun i j hi hj hij e => by
    have h1 := h i hi
    have h2 := h j hj
    rw [e] at h1
    omega

/-- the numbers k, k + 1, .. -/
def marks (k : Int) (n : Nat) : List Int := (List.range n).map fun i : Nat => k + (i : Int)
theorem marks_len (k : Int) (n : Nat) : (marks k n).length = n := by simp [marks]
theorem marks_at (k : Int) (n j : Nat) (h : j < (marks k n).length) : (marks k n)[j] = k + j := by simp [marks]
theorem marks_succ (k : Int) (n : Nat) : marks k (n + 1) = marks k n ++ [k + n] := by simp [marks, List.range_succ]
theorem marks_set (k : Int) (xs : List Int) (j : Nat) (h : j < xs.length) : (marks k j ++ xs.drop j).set j (k + j) = marks k (j + 1) ++ xs.drop (j + 1) := by
  rw [List.set_append_right _ _ (by rw [marks_len]; exact Nat.le_refl _), marks_len, Nat.sub_self, List.drop_eq_getElem_cons h, List.set_cons_zero, marks_succ, List.append_assoc]
  rfl
theorem marks_row (k : Int) (xs : List Int) (j : Nat) (h : j ≤ xs.length) : (marks k j ++ xs.drop j).length = xs.length := by rw [List.length_append, marks_len, List.length_drop]; omega












end Go.Proofs.YtdhjejpcppmejaaDoor

/-
  Small functions on slices of ints.
-/
import Derived.Test.YtnlbmiangbahgaaInts
import Derived.Test.YtnlbmiangbahgaaSmall
import Derived.WalkSpells
namespace Go.Proofs.Ytnlbmiangbahgaa
open Go.RowKit

theorem plc_ge (x : Int) (xs : List Int) : decide (0 ≤ plc x xs) = memB x xs := by
  unfold plc memB
  split
  · next h => rw [decide_eq_true (by omega), decide_eq_true h]
  · next h => rw [decide_eq_false (by omega), decide_eq_false h]
theorem plc_neg (x : Int) (xs : List Int) : decide (plc x xs < 0) = !memB x xs := by
  unfold plc memB
  split
  · next h => rw [decide_eq_false (by omega), decide_eq_true h]; rfl
  · next h => rw [decide_eq_true (by omega), decide_eq_false h]; rfl
def withinB (xs ys : List Int) : Bool := xs.all fun x => memB x ys
theorem withinB_iff {xs ys : List Int} : withinB xs ys = true ↔ ∀ x ∈ xs, x ∈ ys := by simp [withinB, memB]
def nodupB (xs : List Int) : Bool := decide xs.Nodup
theorem idx_eq_of_nodup {xs : List Int} (h : xs.Nodup) (k : Nat) (hk : k < xs.length) : idx xs[k] xs = k :=
  idx_at _ _ k hk (fun j hj e => List.pairwise_iff_getElem.1 h j k (by omega) hk hj e) rfl
theorem nodup_of_idx {xs : List Int} (h : ∀ k (hk : k < xs.length), idx xs[k] xs = k) : xs.Nodup :=
  List.pairwise_iff_getElem.2 fun i j hi hj hij e => by
    have h1 := h i hi
    have h2 := h j hj
    rw [e] at h1
    omega

/-- the numbers k, k + 1, .. -/
def marks (k : Int) (n : Nat) : List Int := (List.range n).map fun i : Nat => k + (i : Int)
theorem marks_len (k : Int) (n : Nat) : (marks k n).length = n := by simp [marks]
theorem marks_at (k : Int) (n j : Nat) (h : j < (marks k n).length) : (marks k n)[j] = k + j := by simp [marks]
theorem marks_succ (k : Int) (n : Nat) : marks k (n + 1) = marks k n ++ [k + n] := by simp [marks, List.range_succ]
theorem marks_set (k : Int) (xs : List Int) (j : Nat) (h : j < xs.length) : (marks k j ++ xs.drop j).set j (k + j) = marks k (j + 1) ++ xs.drop (j + 1) := by
  rw [List.set_append_right _ _ (by rw [marks_len]; exact Nat.le_refl _), marks_len, Nat.sub_self, List.drop_eq_getElem_cons h, List.set_cons_zero, marks_succ, List.append_assoc]
  rfl
theorem marks_row (k : Int) (xs : List Int) (j : Nat) (h : j ≤ xs.length) : (marks k j ++ xs.drop j).length = xs.length := by rw [List.length_append, marks_len, List.length_drop]; omega







set_option maxHeartbeats 400000 in
theorem copyInts {A : Option Addr} {c n B : Nat} {w : World} (xs : List Int) (ln : xs.length = n) (hn : n ≤ 17592186044416) (h : RdI w B A xs) (hB : B ≤ w.heap.size) :
    Calls Try.prog 52 #[.slice A n c] w (MadeI w xs) := by
  subst ln
  have H := Lib.hid (h.belowLe ((Below.refl w.heap.size w).alloc (Nat.le_refl _) (.cells #[] 3)) hB); clear h
  have H0 := Lib.hid (SlI.new w [] (lo := w.heap.size) (Nat.le_refl _))
  go_enter Try.func52, Try.ntmps52
  go_wp2_with (at_builtin; refine wpList_appI (.tmp 3) (.tmp 4) rfl rfl [] xs rfl rfl H0.out rfl rfl H.out (by omega) (by simp) ?_; intro A1 c1 w1 h1 h2 _)
  have h3 := h1.all h2 (by simp)
  rw [List.nil_append] at h3
  have HF := Lib.hid (show MadeI w xs (.returned (.slice A1 xs.length c1)) w1 from ⟨_, _, rfl, h3, ((Below.refl _ _).alloc (Nat.le_refl _) _).trans (h2.below (by simp))⟩)
  clear h1 h2 h3
  go_wp2
  go_ret
  simpa using HF.out



theorem slicesClip {A : Option Addr} {c n lo hi : Nat} {w : World} (xs : List Int) (ln : xs.length = n) (h : SlI w lo hi A c xs) :
    Calls Try.prog 36 #[.slice A n c] w fun e w' => e = .returned (.slice A n n) ∧ SlI w lo hi A n xs ∧ w = w' := by
  subst ln
  have hle := h.le
  have H := Lib.hid h.clip
  cases A with
  | none =>
    have hc : c = 0 := Sl.noAddr h rfl
    have hx : xs = [] := List.eq_nil_of_length_eq_zero (by omega)
    subst hc hx
    clear h hle
    go_enter Try.func36, Try.ntmps36
    go_wp2
    go_ret
    exact ⟨rfl, H.out, rfl⟩
  | some ad =>
    clear h
    by_cases hx : xs = []
    · subst hx
      go_enter Try.func36, Try.ntmps36
      go_wp2
      go_ret
      exact ⟨rfl, H.out, rfl⟩
    · have hp : xs.length ≠ 0 := fun e => hx (List.eq_nil_of_length_eq_zero e)
      go_enter Try.func36, Try.ntmps36
      go_wp2
      go_ret
      exact ⟨rfl, H.out, rfl⟩

set_option maxHeartbeats 400000 in
theorem slicesClone {A : Option Addr} {c n B : Nat} {w : World} (xs : List Int) (ln : xs.length = n) (hn : n ≤ 17592186044416) (h : RdI w B A xs) (hB : B ≤ w.heap.size) :
    Calls Try.prog 58 #[.slice A n c] w (MadeI w xs) := by
  subst ln
  have H := Lib.hid (h.belowLe ((Below.refl w.heap.size w).alloc (Nat.le_refl _) (.cells #[] 3)) hB)
  have H0 := Lib.hid (SlI.new w [] (lo := w.heap.size) (Nat.le_refl _))
  cases A with
  | none =>
    have hx : xs = [] := Classical.byContradiction fun hne => by
      obtain ⟨ad, e, _⟩ := h.at_ (List.length_pos_iff.2 hne)
      cases e
    subst hx
    have HF := Lib.hid (show MadeI w [] (.returned (.slice none 0 0)) w from ⟨none, 0, rfl, SlI.nil, Below.refl _ _⟩)
    clear h H
    have hq := fun (W : World) (a : Option Addr) (l c : Nat) => Lib.run_eql_slice_nil (P := Try.prog) W 29 3 a l c 0 0 Try.underlying29
    go_enter Try.func58, Try.ntmps58
    go_wp2
    go_ret
    exact HF.out
  | some ad =>
    clear h
    have hq := fun (W : World) (a : Option Addr) (l c : Nat) => Lib.run_eql_slice_nil (P := Try.prog) W 29 3 a l c 0 0 Try.underlying29
    go_enter Try.func58, Try.ntmps58
    go_wp2_with (at_builtin; refine wpList_appI (.tmp 5) (.tmp 6) rfl rfl [] xs rfl rfl H0.out rfl rfl H.out (by omega) (by simp) ?_; intro A1 c1 w1 h1 h2 _)
    have h3 := h1.all h2 (by simp)
    rw [List.nil_append] at h3
    have HF := Lib.hid (show MadeI w xs (.returned (.slice A1 xs.length c1)) w1 from ⟨_, _, rfl, h3, ((Below.refl _ _).alloc (Nat.le_refl _) _).trans (h2.below (by simp))⟩)
    clear h1 h2 h3
    go_wp2
    go_ret
    simpa using HF.out

end Go.Proofs.Ytnlbmiangbahgaa

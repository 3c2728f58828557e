/-
  Small functions on ints and slices of ints: in, inRange, placeIn, place, isIn, allIn.
-/
import Derived.Test.YtlinngohbghimaaMem
import Derived.Test.YtlinngohbghimaaRows
namespace Go.Proofs.Ytlinngohbghimaa
open Go.RowKit

def inB (n lo hi : Int) : Bool := decide (lo ≤ n) && decide (n ≤ hi)
theorem inB_iff {n lo hi : Int} : inB n lo hi = true ↔ lo ≤ n ∧ n ≤ hi := by simp [inB]
theorem inB_no {n lo hi : Int} : inB n lo hi = false ↔ ¬ (lo ≤ n ∧ n ≤ hi) := by rw [← inB_iff]; simp

/-- the first index of a number, -1 if it is not there -/
def idx (x : Int) : List Int → Nat
  | [] => 0
  | y :: ys => if y = x then 0 else idx x ys + 1
theorem idx_le (x : Int) (xs : List Int) : idx x xs ≤ xs.length := by
  induction xs with
  | nil => simp [idx]
  | cons y ys ih => simp only [idx]; split <;> simp <;> omega
theorem idx_lt (x : Int) (xs : List Int) : idx x xs < xs.length ↔ x ∈ xs := by
  induction xs with
  | nil => simp [idx]
  | cons y ys ih =>
    simp only [idx]
    split
    · next h => simp [h]
    · next h => simp [ih]; intro e; exact absurd e.symm h
theorem idx_at (x : Int) (xs : List Int) (k : Nat) (hk : k < xs.length) (hno : ∀ j (hj : j < k), xs[j] ≠ x) (he : xs[k] = x) : idx x xs = k := by
  induction xs generalizing k with
  | nil => simp at hk
  | cons y ys ih =>
    cases k with
    | zero => simp at he; simp [idx, he]
    | succ k =>
      have h0 := hno 0 (by omega)
      simp at h0
      simp only [idx, if_neg h0]
      rw [ih k (by simpa using hk) (fun j hj => by have := hno (j + 1) (by omega); simpa using this) (by simpa using he)]
theorem idx_none (x : Int) (xs : List Int) (hno : ∀ j (hj : j < xs.length), xs[j] ≠ x) : ¬ x ∈ xs := by
  intro h
  obtain ⟨j, hj, e⟩ := List.getElem_of_mem h
  exact hno j hj e
/-- what placeIn, place, slices.Index say -/
def plc (x : Int) (xs : List Int) : Int := if x ∈ xs then (idx x xs : Int) else -1
def memB (x : Int) (xs : List Int) : Bool := decide (x ∈ xs)
def allB (lo hi : Int) (xs : List Int) : Bool := xs.all fun x => inB x lo hi
theorem allB_iff {lo hi : Int} {xs : List Int} : allB lo hi xs = true ↔ ∀ x ∈ xs, lo ≤ x ∧ x ≤ hi := by simp [allB, inB_iff]
theorem allB_take (lo hi : Int) (xs : List Int) (h : allB lo hi (xs.take xs.length) = true) : allB lo hi xs = true := by rwa [List.take_length] at h
theorem allB_snoc (lo hi : Int) (xs : List Int) (k : Nat) (hk : k < xs.length) (h : allB lo hi (xs.take k) = true) (h' : inB xs[k] lo hi = true) : allB lo hi (xs.take (k + 1)) = true := by
  rw [List.take_succ_eq_append_getElem hk]
  unfold allB at *
  rw [List.all_append, h]
  simp [h']
theorem allB_not (lo hi : Int) (xs : List Int) (k : Nat) (hk : k < xs.length) (h' : inB xs[k] lo hi = false) : allB lo hi xs = false := by
  rw [Bool.eq_false_iff]
  intro h
  have := allB_iff.1 h xs[k] (List.getElem_mem hk)
  rw [inB_no] at h'
  exact h' this

theorem in_ {n lo hi : Int} {w : World} : Calls Try.prog 35 #[.int .i64 n, .int .i64 lo, .int .i64 hi] w fun e w' => e = .returned (.bool (inB n lo hi)) ∧ w = w' := by
  by_cases h1 : lo ≤ n
  · have e1 : inB n lo hi = decide (n ≤ hi) := by simp [inB, h1]
    have E := Lib.hid e1; clear e1
    go_enter Try.func35, Try.ntmps35
    go_wp2
    go_ret
    exact ⟨ret_bool E.out.symm, rfl⟩
  · have e1 : inB n lo hi = false := by simp [inB, h1]
    have E := Lib.hid e1; clear e1
    go_enter Try.func35, Try.ntmps35
    go_wp2
    go_ret
    exact ⟨ret_bool E.out.symm, rfl⟩

theorem inRange {n lo hi : Int} {w : World} : Calls Try.prog 59 #[.int .i64 n, .int .i64 lo, .int .i64 hi] w fun e w' => e = .returned (.bool (inB n lo hi)) ∧ w = w' := by
  by_cases h1 : lo ≤ n
  · have e1 : inB n lo hi = decide (n ≤ hi) := by simp [inB, h1]
    have E := Lib.hid e1; clear e1
    go_enter Try.func59, Try.ntmps59
    go_wp2
    go_ret
    exact ⟨ret_bool E.out.symm, rfl⟩
  · have e1 : inB n lo hi = false := by simp [inB, h1]
    have E := Lib.hid e1; clear e1
    go_enter Try.func59, Try.ntmps59
    go_wp2
    go_ret
    exact ⟨ret_bool E.out.symm, rfl⟩




set_option maxHeartbeats 400000 in
theorem allIn {A : Option Addr} {c n B : Nat} {w : World} {lo hi : Int} (xs : List Int) (ln : xs.length = n) (hn : n ≤ 9223372036854775807) (h : RdI w B A xs) :
    Calls Try.prog 51 #[.slice A n c, .int .i64 lo, .int .i64 hi] w fun e w' => e = .returned (.bool (allB lo hi xs)) ∧ w = w' := by
  subst ln
  go_enter Try.func51, Try.ntmps51
  go_wp2
  go_loop [7] (fun i => ∃ k : Nat, k ≤ xs.length ∧ i = .int .i64 k ∧ allB lo hi (xs.take k) = true) (fun i => xs.length - (intOf i).toNat)
  case atStart => exact ⟨0, Nat.zero_le _, rfl, rfl⟩
  case round =>
    obtain ⟨k, hk, rfl, hall⟩ := hrel
    have HN := Lib.hid hall; clear hall
    by_cases hlt : k < xs.length
    · obtain ⟨ad, rfl, _, hc⟩ := h.at_ hlt
      have hcell := hc k hlt
      clear hc h
      cases hb : inB xs[k] lo hi
      · have HE := Lib.hid hb
        go_wp2_with (go_at_call 59; refine inRange.mono ?_; rintro e w' ⟨rfl, rfl⟩)
        go_ret
        exact ⟨ret_bool (allB_not lo hi xs k hlt HE.out).symm, rfl⟩
      · have HE := Lib.hid hb
        go_wp2_with (go_at_call 59; refine inRange.mono ?_; rintro e w' ⟨rfl, rfl⟩)
        go_round
        case rel => exact ⟨k + 1, by omega, by go_num, allB_snoc lo hi xs k hlt HN.out HE.out⟩
        case measure => simp [intOf]; omega
    · go_wp2
      go_ret
      have hkl : k = xs.length := by omega
      exact ⟨ret_bool (allB_take lo hi xs (hkl ▸ HN.out)).symm, rfl⟩

end Go.Proofs.Ytlinngohbghimaa

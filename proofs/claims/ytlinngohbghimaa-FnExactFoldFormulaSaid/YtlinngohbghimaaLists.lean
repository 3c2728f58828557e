/-
  Small functions on slices of ints.
-/
import Derived.Test.YtlinngohbghimaaInts
import Derived.Test.YtlinngohbghimaaSmall
import Derived.WalkSpells
namespace Go.Proofs.Ytlinngohbghimaa
open Go.RowKit

theorem plc_ge (x : Int) (xs : List Int) : decide (0 ≤ plc x xs) = memB x xs := by
  unfold plc memB
  split
  · next h => rw [decide_eq_true (by omega), decide_eq_true h]
  · next h => rw [decide_eq_false (by omega), decide_eq_false h]
theorem plc_neg (x : Int) (xs : List Int) : decide (plc x xs < 0) = !memB x xs := by
  unfold plc memB
  split
  · next h => rw [decide_eq_false (by omega), decide_eq_true h]; rfl
  · next h => rw [decide_eq_true (by omega), decide_eq_false h]; rfl
def withinB (xs ys : List Int) : Bool := xs.all fun x => memB x ys
theorem withinB_iff {xs ys : List Int} : withinB xs ys = true ↔ ∀ x ∈ xs, x ∈ ys := by simp [withinB, memB]
def nodupB (xs : List Int) : Bool := decide xs.Nodup
theorem idx_eq_of_nodup {xs : List Int} (h : xs.Nodup) (k : Nat) (hk : k < xs.length) : idx xs[k] xs = k :=
  idx_at _ _ k hk (fun j hj e => List.pairwise_iff_getElem.1 h j k (by omega) hk hj e) rfl
theorem nodup_of_idx {xs : List Int} (h : ∀ k (hk : k < xs.length), idx xs[k] xs = k) : xs.Nodup :=
  List.pairwise_iff_getElem.2 fun i j hi hj hij e => by
    have h1 := h i hi
    have h2 := h j hj
    rw [e] at h1
    omega

/-- the numbers k, k + 1, .. -/
def marks (k : Int) (n : Nat) : List Int := (List.range n).map fun i : Nat => k + (i : Int)
theorem marks_len (k : Int) (n : Nat) : (marks k n).length = n := by simp [marks]
theorem marks_at (k : Int) (n j : Nat) (h : j < (marks k n).length) : (marks k n)[j] = k + j := by simp [marks]
theorem marks_succ (k : Int) (n : Nat) : marks k (n + 1) = marks k n ++ [k + n] := by simp [marks, List.range_succ]
theorem marks_set (k : Int) (xs : List Int) (j : Nat) (h : j < xs.length) : (marks k j ++ xs.drop j).set j (k + j) = marks k (j + 1) ++ xs.drop (j + 1) := by
  rw [List.set_append_right _ _ (by rw [marks_len]; exact Nat.le_refl _), marks_len, Nat.sub_self, List.drop_eq_getElem_cons h, List.set_cons_zero, marks_succ, List.append_assoc]
  rfl
theorem marks_row (k : Int) (xs : List Int) (j : Nat) (h : j ≤ xs.length) : (marks k j ++ xs.drop j).length = xs.length := by rw [List.length_append, marks_len, List.length_drop]; omega





set_option maxHeartbeats 400000 in
theorem markIntS {A : Option Addr} {c n lo hi : Nat} {w : World} {k : Int} (xs : List Int) (ln : xs.length = n) (hn : n ≤ 1099511627776) (h0 : 0 ≤ k) (hk : k ≤ 1099511627776) (h : SlI w lo hi A c xs) :
    Calls Try.prog 23 #[.slice A n c, .int .i64 k] w fun e w' => e = .returned (.int .i64 (k + n)) ∧ SlI w' lo hi A c (marks k n) ∧ Turn lo hi w w' ∧ w'.heap.size = w.heap.size := by
  subst ln
  go_enter Try.func23, Try.ntmps23
  go_wp2
  go_loopw [1, 5] (fun q i wr => ∃ j : Nat, j ≤ xs.length ∧ i = .int .i64 j ∧ q = .int .i64 (k + j) ∧ SlI wr lo hi A c (marks k j ++ xs.drop j) ∧ Turn lo hi w wr ∧ wr.heap.size = w.heap.size) (fun _ i _ => xs.length - (intOf i).toNat)
  case atStart => exact ⟨0, Nat.zero_le _, rfl, by simp, by simpa [marks] using h, Turn.refl _ _ _, rfl⟩
  case round =>
    obtain ⟨j, hj, rfl, rfl, hs, ht, hz⟩ := hrel
    clear h
    by_cases hlt : j < xs.length
    · have hrow := marks_row k xs j hj
      obtain ⟨g, o, rfl, hg1, hg2, hc, hf, hst⟩ := hs.at_ (k := j) (by rw [hrow]; exact hlt)
      have hcell := hc j (by rw [hrow]; exact hlt)
      obtain ⟨v, hv⟩ : ∃ v, (marks k j ++ xs.drop j)[j]'(by rw [hrow]; exact hlt) = v := ⟨_, rfl⟩
      rw [hv] at hcell
      have hfr := hf j
      obtain ⟨h1, h2⟩ := hst j (k + j) (by rw [hrow]; exact hlt)
      rw [marks_set k xs j hlt] at h1
      have H1 := Lib.hid h1
      have H2 := Lib.hid (ht.trans h2)
      have HZ := Lib.hid hz
      clear hc hf hst h1 h2 ht hs hz hv hrow
      go_wp2
      go_roundw
      case rel => exact ⟨j + 1, by omega, by go_num, by simp; omega, H1.out, H2.out, by simp [HZ.out]⟩
      case measure => simp [intOf]; omega
    · have hjl : j = xs.length := by omega
      have e : marks k j ++ xs.drop j = marks k xs.length := by rw [hjl, List.drop_length, List.append_nil]
      rw [e] at hs
      have HS := Lib.hid hs
      have HT := Lib.hid ht
      have HZ := Lib.hid hz
      have HJ := Lib.hid hjl
      clear hs ht hz hjl e
      go_wp2
      go_ret
      exact ⟨ret_int (by rw [HJ.out]), HS.out, HT.out, HZ.out⟩

set_option maxHeartbeats 400000 in
theorem heldIntS {A : Option Addr} {c n B : Nat} {w : World} {k : Int} (hn : n ≤ 1099511627776) (h0 : 0 ≤ k) (hk : k ≤ 1099511627776) (h : RdI w B A (marks k n)) :
    Calls Try.prog 24 #[.slice A n c, .int .i64 k] w fun e w' => e = .returned (.int .i64 (k + n)) ∧ w = w' := by
  go_enter Try.func24, Try.ntmps24
  go_wp2
  go_loop [1, 5] (fun q i => ∃ j : Nat, j ≤ n ∧ i = .int .i64 j ∧ q = .int .i64 (k + j)) (fun _ i => n - (intOf i).toNat)
  case atStart => exact ⟨0, Nat.zero_le _, rfl, by simp⟩
  case round =>
    obtain ⟨j, hj, rfl, rfl⟩ := hrel
    by_cases hlt : j < n
    · obtain ⟨ad, rfl, _, hc⟩ := h.at_ (k := j) (by rw [marks_len]; exact hlt)
      have hcell := hc j (by rw [marks_len]; exact hlt)
      rw [marks_at] at hcell
      clear hc h
      go_wp2
      go_round
      case rel => exact ⟨j + 1, by omega, by go_num, by simp; omega⟩
      case measure => simp [intOf]; omega
    · have hjl : j = n := by omega
      have HJ := Lib.hid hjl
      clear hjl h
      go_wp2
      go_ret
      exact ⟨ret_int (by rw [HJ.out]), rfl⟩




theorem slicesClip {A : Option Addr} {c n lo hi : Nat} {w : World} (xs : List Int) (ln : xs.length = n) (h : SlI w lo hi A c xs) :
    Calls Try.prog 67 #[.slice A n c] w fun e w' => e = .returned (.slice A n n) ∧ SlI w lo hi A n xs ∧ w = w' := by
  subst ln
  have hle := h.le
  have H := Lib.hid h.clip
  cases A with
  | none =>
    have hc : c = 0 := Sl.noAddr h rfl
    have hx : xs = [] := List.eq_nil_of_length_eq_zero (by omega)
    subst hc hx
    clear h hle
    go_enter Try.func67, Try.ntmps67
    go_wp2
    go_ret
    exact ⟨rfl, H.out, rfl⟩
  | some ad =>
    clear h
    by_cases hx : xs = []
    · subst hx
      go_enter Try.func67, Try.ntmps67
      go_wp2
      go_ret
      exact ⟨rfl, H.out, rfl⟩
    · have hp : xs.length ≠ 0 := fun e => hx (List.eq_nil_of_length_eq_zero e)
      go_enter Try.func67, Try.ntmps67
      go_wp2
      go_ret
      exact ⟨rfl, H.out, rfl⟩


end Go.Proofs.Ytlinngohbghimaa

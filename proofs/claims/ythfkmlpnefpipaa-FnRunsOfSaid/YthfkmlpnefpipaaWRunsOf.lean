/-
  The walk of laws.FnRunsOf: runs are counted.
-/
import Derived.Test.YthfkmlpnefpipaaDrawRuns
import Derived.Test.YthfkmlpnefpipaaRuns
import Derived.Test.YthfkmlpnefpipaaSmall
namespace Go.Proofs.Ythfkmlpnefpipaa
open Go.RowKit

/-- how many elements of xs have their first place before j -/
def early (xs : List Int) (j : Nat) : Nat := xs.countP fun y => decide (idx y xs < j)
theorem early_zero (xs : List Int) : early xs 0 = 0 := by simp [early]
theorem early_all (xs : List Int) : early xs xs.length = xs.length := by
  unfold early
  rw [List.countP_eq_length]
  intro y hy
  simpa using (idx_lt y xs).2 hy
theorem early_le (xs : List Int) (j : Nat) : early xs j ≤ xs.length := List.countP_le_length
theorem idx_getElem (x : Int) (xs : List Int) (h : idx x xs < xs.length) : xs[idx x xs] = x := by
  induction xs with
  | nil => simp at h
  | cons y ys ih =>
    by_cases e : y = x
    · simp [idx, e]
    · have h1 : idx x (y :: ys) = idx x ys + 1 := by simp [idx, e]
      have h2 : idx x ys < ys.length := by rw [h1] at h; simpa using h
      simp only [h1, List.getElem_cons_succ]
      exact ih h2
theorem countP_or (xs : List Int) (p q r : Int → Bool) (h : ∀ y ∈ xs, p y = (q y || r y)) (hd : ∀ y ∈ xs, ¬ (q y = true ∧ r y = true)) : xs.countP p = xs.countP q + xs.countP r := by
  induction xs with
  | nil => rfl
  | cons y ys ih =>
    have h1 := ih (fun z hz => h z (List.mem_cons_of_mem _ hz)) (fun z hz => hd z (List.mem_cons_of_mem _ hz))
    have h2 := h y List.mem_cons_self
    have h3 := hd y List.mem_cons_self
    rw [List.countP_cons, List.countP_cons, List.countP_cons, h1, h2]
    cases hq : q y <;> cases hr : r y <;> simp_all <;> omega
theorem early_step (xs : List Int) (j : Nat) (hj : j < xs.length) : early xs (j + 1) = early xs j + if idx xs[j] xs = j then countI xs[j] xs else 0 := by
  unfold early countI
  by_cases he : idx xs[j] xs = j
  · rw [if_pos he, List.count_eq_countP]
    refine countP_or xs _ _ _ (fun y hy => ?_) (fun y hy => ?_)
    · have hl := (idx_lt y xs).2 hy
      have hg := idx_getElem y xs hl
      have hiff : idx y xs = j ↔ y = xs[j] := by
        constructor
        · intro h2; rw [← hg]; simp [h2]
        · intro e; rw [e]; exact he
      by_cases e : y = xs[j]
      · rw [decide_eq_true (by have := hiff.2 e; omega), decide_eq_false (by have := hiff.2 e; omega), Bool.false_or, e]
        simp
      · have hne : idx y xs ≠ j := fun h2 => e (hiff.1 h2)
        by_cases hlt : idx y xs < j
        · rw [decide_eq_true (by omega), decide_eq_true hlt, Bool.true_or]
        · rw [decide_eq_false (by omega), decide_eq_false hlt, Bool.false_or]
          exact (beq_eq_false_iff_ne.2 e).symm
    · intro ⟨h1, h2⟩
      have h3 := of_decide_eq_true h1
      have h4 : y = xs[j] := eq_of_beq h2
      rw [h4] at h3; omega
  · rw [if_neg he, Nat.add_zero]
    apply List.countP_congr
    intro y hy
    have hl := (idx_lt y xs).2 hy
    have hg := idx_getElem y xs hl
    have hne : idx y xs ≠ j := by
      intro h2
      apply he
      have : y = xs[j] := by rw [← hg]; simp [h2]
      rw [← this]; exact h2
    simp; omega
theorem plc_mem (xs : List Int) (j : Nat) (hj : j < xs.length) : plc xs[j] xs = (idx xs[j] xs : Int) := by unfold plc; rw [if_pos (List.getElem_mem hj)]
theorem countI_pos (x : Int) (xs : List Int) : decide (0 < (countI x xs : Int)) = memB x xs := by
  unfold countI memB
  have h := List.count_pos_iff (a := x) (l := xs)
  by_cases hm : x ∈ xs
  · rw [decide_eq_true hm, decide_eq_true (by have := h.2 hm; omega)]
  · rw [decide_eq_false hm, decide_eq_false (by intro h2; exact hm (h.1 (by omega)))]
theorem count_len (x : Int) (xs : List Int) : countI x xs ≤ xs.length := List.count_le_length

set_option maxHeartbeats 400000 in
theorem walkFnRunsOf (A : Option Addr) (c : Nat) (bs : List Int) (w : World) (hr : Rd w w.heap.size A (bytes8 bs)) (hn : bs.length ≤ 9223372036854775807) (lc : bs.length ≤ c) (cm : c ≤ 9223372036854775807) (hx : ∀ x ∈ bs, (Lit.int .u8 x).wf = true) :
    Calls Try.prog 5 #[.slice A bs.length c] w fun e w' => e = .returned (.bool true) ∧ Below w.heap.size w w' := by
  by_cases hbig : bs.length ≤ 1048576
  · have HR := Lib.hid hr; clear hr
    have HX := Lib.hid hx; clear hx
    go_enter Try.func5, Try.ntmps5
    go_wp2_with fail
    refine (drawRunsOf bs rfl lc cm HX.out HR.out).mono ?_; rintro e w1 ⟨A1, c1, xs, x, rfl, hl, r1, b1⟩
    have R1 := Lib.hid r1; clear r1
    have B1 := Lib.hid b1; clear b1
    go_wp2_with fail
    refine (implRunsOf xs rfl (by omega) R1.out).mono ?_; rintro e w2 ⟨rfl, rfl⟩
    go_wp2_with fail
    refine (specRunsOf xs rfl (by omega) R1.out).mono ?_; rintro e w2 ⟨rfl, rfl⟩
    go_wp2_with fail
    go_loop [6, 7] (fun s i => ∃ k : Nat, k ≤ xs.length ∧ i = .int .i64 k ∧ s = .int .i64 (early xs k)) (fun _ i => xs.length - (intOf i).toNat)
    case atStart => exact ⟨0, Nat.zero_le _, rfl, by rw [early_zero]; rfl⟩
    case round =>
      obtain ⟨k, hk, rfl, rfl⟩ := hrel
      have he := early_le xs k
      by_cases hlt : k < xs.length
      · obtain ⟨ad, rfl, _, hc⟩ := R1.out.at_ hlt
        have hcell := hc k hlt
        have hcl := count_len xs[k] xs
        have hst := Lib.hid (early_step xs k hlt)
        have hpl := Lib.hid (plc_mem xs k hlt)
        have he1 := early_le xs (k + 1)
        clear hc
        by_cases hi : idx xs[k] xs = k
        · have HI := Lib.hid hi; clear hi
          go_wp2_with fail
          refine (place xs rfl (by omega) R1.out).mono ?_; rintro e w2 ⟨rfl, rfl⟩
          rw [hpl.out, HI.out]
          go_wp2_with fail
          refine (implRunsOf xs rfl (by omega) R1.out).mono ?_; rintro e w2 ⟨rfl, rfl⟩
          have hsum : early xs k + countI xs[k] xs ≤ 2000 := by omega
          go_wp2_with fail
          go_round
          case rel => exact ⟨k + 1, by omega, by go_num, by rw [hst.out, if_pos HI.out]; go_num⟩
          case measure => simp [intOf]; omega
        · have hne : ((idx xs[k] xs : Int) == (k : Int)) = false := by rw [beq_eq_false_iff_ne]; omega
          have HI := Lib.hid hi; clear hi
          go_wp2_with fail
          refine (place xs rfl (by omega) R1.out).mono ?_; rintro e w2 ⟨rfl, rfl⟩
          rw [hpl.out]
          go_wp2_with fail
          go_round
          case rel => exact ⟨k + 1, by omega, by go_num, by rw [hst.out, if_neg HI.out]; go_num⟩
          case measure => simp [intOf]; omega
      · have hkl : k = xs.length := by omega
        have hev := early_all xs
        rw [← hkl] at hev
        have ht : ((early xs k : Int) == (xs.length : Int)) = true := by rw [hev, hkl]; simp
        have HK := Lib.hid hkl; clear hkl hev
        have hcp := Lib.hid (countI_pos x xs)
        go_wp2_with fail
        refine (isIn xs rfl (by omega) R1.out).mono ?_; rintro e w2 ⟨rfl, rfl⟩
        rw [← hcp.out]
        go_wp2_with fail
        go_ret
        exact ⟨ret_bool (by simp), B1.out⟩
  · go_enter Try.func5, Try.ntmps5
    go_wp2
    go_ret
    exact ⟨rfl, Below.refl _ _⟩
end Go.Proofs.Ythfkmlpnefpipaa

/-
  spec.validKeys, spec.ValidKeys, impl.ValidKeys, impl.bothKeys.
-/
import Derived.Test.YtmmegmefiihabaaLists
import Derived.Test.YtmmegmefiihabaaEqI
namespace Go.Proofs.Ytmmegmefiihabaa
open Go.RowKit

/-- are they keys? -/
def vkB (xs : List Int) : Bool := nodupB xs && allB 0 30 xs && decide (xs.length ≤ 10)
theorem vkB_iff {xs : List Int} : vkB xs = true ↔ xs.Nodup ∧ (∀ x ∈ xs, 0 ≤ x ∧ x ≤ 30) ∧ xs.length ≤ 10 := by
  simp only [vkB, Bool.and_eq_true, nodupB, decide_eq_true_eq, allB_iff, and_assoc]
theorem nodup_snoc {xs : List Int} {k : Nat} (hk : k < xs.length) (h : (xs.take k).Nodup) (hm : memB xs[k] (xs.take k) = false) : (xs.take (k + 1)).Nodup := by
  rw [List.take_succ_eq_append_getElem hk, List.nodup_append]
  simp only [memB, decide_eq_false_iff_not] at hm
  exact ⟨h, by simp, fun a ha b hb => by rw [List.mem_singleton] at hb; subst hb; rintro rfl; exact hm ha⟩
theorem not_nodup {xs : List Int} {k : Nat} (hk : k < xs.length) (hm : memB xs[k] (xs.take k) = true) : nodupB xs = false := by
  simp only [memB, decide_eq_true_eq] at hm
  refine decide_eq_false fun hd => ?_
  have h1 : (xs.take (k + 1)).Nodup := List.Sublist.nodup (List.take_sublist _ _) hd
  rw [List.take_succ_eq_append_getElem hk, List.nodup_append] at h1
  exact h1.2.2 _ hm _ (List.mem_singleton_self _) rfl
theorem take_len {xs : List Int} {k : Nat} (hk : k ≤ xs.length) : (xs.take k).length = k := by rw [List.length_take]; omega
theorem RdI.take {w : World} {B : Nat} {A : Option Addr} {xs : List Int} (h : RdI w B A xs) (k : Nat) : RdI w B A (xs.take k) := by
  have := Rd.take h k
  unfold RdI
  rwa [ints, List.map_take]

set_option maxHeartbeats 800000 in
theorem validKeys {A : Option Addr} {c n B : Nat} {w : World} (xs : List Int) (ln : xs.length = n) (hn : n ≤ 1099511627776) (hc : n ≤ c) (h : RdI w B A xs) :
    Calls Try.prog 48 #[.slice A n c] w (QuietBool w (vkB xs)) := by
  subst ln
  have H := Lib.hid h
  go_enter Try.func48, Try.ntmps48
  go_wp2_with fail
  go_loopw [3] (fun i wr => ∃ k d : Nat, k ≤ xs.length ∧ i = .int .i64 k ∧ (xs.take k).Nodup ∧ wr = w.drewN d) (fun i _ => xs.length - (intOf i).toNat)
  case atStart => exact ⟨0, 0, Nat.zero_le _, rfl, by simp, rfl⟩
  case round =>
    obtain ⟨k, d, hk, rfl, hd, hw⟩ := hrel
    have hr : RdI wr B A xs := by rw [hw]; exact h.drewN d
    have HW := Lib.hid hw; clear hw
    have HD := Lib.hid hd; clear hd
    have HR := Lib.hid hr; clear hr
    by_cases hlt : k < xs.length
    · obtain ⟨ad, rfl, _, hcc⟩ := HR.out.at_ hlt
      have hcell := hcc k hlt
      have hc0 : ¬ c = 0 := by omega
      have hkc : k ≤ c := by omega
      clear hcc h
      have HC := Lib.hid (fun m => quiet_left (n := m) (w := wr) (placeIn (x := xs[k]) (c := c) (xs.take k) (take_len hk) (by omega) ((HR.out.take k).drewN m)))
      have hge := plc_ge xs[k] (xs.take k)
      cases hm : memB xs[k] (xs.take k)
      · rw [hm] at hge
        have HM := Lib.hid hm; clear hm
        go_wp2_with fail
        go_quiet ((go_at_call 80; exact HC.out _))
        clear hge
        go_wp2_with fail
        go_roundw
        case rel => exact ⟨k + 1, _, by omega, by go_num, nodup_snoc hlt HD.out HM.out, by rw [HW.out]; exact World.drewN_drewN _ _ _⟩
        case measure => simp [intOf]; omega
      · rw [hm] at hge
        have HM := Lib.hid hm; clear hm
        go_wp2_with fail
        go_quiet ((go_at_call 80; exact HC.out _))
        clear hge
        go_wp2_with fail
        go_ret
        exact ⟨_, ret_bool (by unfold vkB; rw [not_nodup hlt HM.out]; rfl), by rw [HW.out]; exact World.drewN_drewN _ _ _⟩
    · have hkl : k = xs.length := by omega
      have hnd : nodupB xs = true := decide_eq_true (by have h2 := HD.out; rwa [hkl, List.take_length] at h2)
      have HN := Lib.hid hnd
      clear hkl hnd h
      by_cases hl : xs.length ≤ 10
      · have HV := Lib.hid (show vkB xs = allB 0 30 xs by unfold vkB; rw [HN.out, decide_eq_true hl]; simp)
        go_wp2_with fail
        refine (allIn xs rfl (by omega) HR.out).mono ?_; rintro e w' ⟨rfl, rfl⟩
        go_wp2_with fail
        go_ret
        exact ⟨d, ret_bool HV.out.symm, HW.out⟩
      · have HV := Lib.hid (show vkB xs = false by unfold vkB; rw [decide_eq_false hl]; simp)
        go_wp2_with fail
        go_ret
        exact ⟨d, ret_bool HV.out.symm, HW.out⟩


set_option maxHeartbeats 800000 in
theorem implValidKeys {A : Option Addr} {c n B : Nat} {w : World} (xs : List Int) (ln : xs.length = n) (hn : n ≤ 1099511627776) (hc : n ≤ c) (h : RdI w B A xs) :
    Calls Try.prog 28 #[.slice A n c] w fun e w' => e = .returned (.bool (vkB xs)) ∧ w = w' := by
  subst ln
  have H := Lib.hid h
  go_enter Try.func28, Try.ntmps28
  go_wp2_with fail
  go_loop [7] (fun i => ∃ k : Nat, k ≤ xs.length ∧ i = .int .i64 k ∧ (xs.take k).Nodup ∧ allB 0 30 (xs.take k) = true) (fun i => xs.length - (intOf i).toNat)
  case atStart => exact ⟨0, Nat.zero_le _, rfl, by simp, rfl⟩
  case round =>
    obtain ⟨k, hk, rfl, hd, ha⟩ := hrel
    have HD := Lib.hid hd; clear hd
    have HA := Lib.hid ha; clear ha
    by_cases hlt : k < xs.length
    · obtain ⟨ad, rfl, _, hcc⟩ := h.at_ hlt
      have hcell := hcc k hlt
      have hc0 : ¬ c = 0 := by omega
      have hkc : k ≤ c := by omega
      clear hcc h
      cases hi : inB xs[k] 0 30
      · have HI := Lib.hid hi
        have HV := Lib.hid (show vkB xs = false by unfold vkB; rw [allB_not 0 30 xs k hlt HI.out]; simp)
        go_wp2_with (go_at_call 54; refine in_.mono ?_; rintro e w' ⟨rfl, rfl⟩)
        go_ret
        exact ⟨ret_bool HV.out.symm, rfl⟩
      · have HI := Lib.hid hi
        cases hm : memB xs[k] (xs.take k)
        · have HM := Lib.hid hm
          go_wp2_with (first | (go_at_call 54; refine in_.mono ?_; rintro e w' ⟨rfl, rfl⟩) | (go_at_call 61; refine (slicesContains (xs.take k) (take_len hk) (by omega) (H.out.take k)).mono ?_; rintro e w' ⟨rfl, rfl⟩))
          go_round
          case rel => exact ⟨k + 1, by omega, by go_num, nodup_snoc hlt HD.out HM.out, allB_snoc 0 30 xs k hlt HA.out HI.out⟩
          case measure => simp [intOf]; omega
        · have HM := Lib.hid hm
          have HV := Lib.hid (show vkB xs = false by unfold vkB; rw [not_nodup hlt HM.out]; simp)
          go_wp2_with (first | (go_at_call 54; refine in_.mono ?_; rintro e w' ⟨rfl, rfl⟩) | (go_at_call 61; refine (slicesContains (xs.take k) (take_len hk) (by omega) (H.out.take k)).mono ?_; rintro e w' ⟨rfl, rfl⟩))
          go_ret
          exact ⟨ret_bool HV.out.symm, rfl⟩
    · have hkl : k = xs.length := by omega
      have hnd : nodupB xs = true := decide_eq_true (by have h2 := HD.out; rwa [hkl, List.take_length] at h2)
      have hal : allB 0 30 xs = true := allB_take 0 30 xs (hkl ▸ HA.out)
      have HV := Lib.hid (show vkB xs = decide (xs.length ≤ 10) by unfold vkB; rw [hnd, hal]; simp)
      clear hkl hnd hal h
      go_wp2
      go_ret
      exact ⟨ret_bool (by rw [HV.out]; exact decide_eq_decide.2 (by omega)), rfl⟩

theorem bothKeys {A A' : Option Addr} {c n B c' n' B' : Nat} {w : World} (xs ys : List Int) (ln : xs.length = n) (ln' : ys.length = n') (hn : n ≤ 1099511627776) (hn' : n' ≤ 1099511627776) (hc : n ≤ c) (hc' : n' ≤ c') (h : RdI w B A xs) (h' : RdI w B' A' ys) :
    Calls Try.prog 62 #[.slice A n c, .slice A' n' c'] w fun e w' => e = .returned (.bool (vkB xs && vkB ys)) ∧ w = w' := by
  have H := Lib.hid h; clear h
  have H' := Lib.hid h'; clear h'
  have HL := Lib.hid ln; clear ln
  have HL' := Lib.hid ln'; clear ln'
  cases hv : vkB xs
  · go_enter Try.func62, Try.ntmps62
    go_wp2_with fail
    refine (implValidKeys xs HL.out hn hc H.out).mono ?_; rintro e w' ⟨rfl, rfl⟩
    go_wp2_with fail
    go_ret
    exact ⟨rfl, rfl⟩
  · go_enter Try.func62, Try.ntmps62
    go_wp2_with fail
    refine (implValidKeys xs HL.out hn hc H.out).mono ?_; rintro e w' ⟨rfl, rfl⟩
    go_wp2_with fail
    refine (implValidKeys ys HL'.out hn' hc' H'.out).mono ?_; rintro e w' ⟨rfl, rfl⟩
    go_wp2_with fail
    go_ret
    exact ⟨by simp, rfl⟩
end Go.Proofs.Ytmmegmefiihabaa

/-
  spec.validOwners, ValidOwners; impl.contextValid, ValidOwners, ownerOf.
-/
import Derived.Test.YtnlbmiangbahgaaOwnV
namespace Go.Proofs.Ytnlbmiangbahgaa
open Go.RowKit

theorem ctxFn {w : World} {x : Int} : Calls Try.prog 54 #[.int .i64 x] w fun e w' => e = .returned (.bool (!inB x (-1) 50)) ∧ w = w' := by
  go_enter Try.func54, Try.ntmps54
  go_wp2_with fail
  refine in_.mono ?_; rintro e w' ⟨rfl, rfl⟩
  go_wp2_with fail
  go_ret
  exact ⟨rfl, rfl⟩
set_option maxHeartbeats 400000 in
theorem ctxIdx {A : Option Addr} {c n B : Nat} {w : World} (xs : List Int) (ln : xs.length = n) (hn : n ≤ 1099511627776) (h : RdI w B A xs) :
    Calls Try.prog 53 #[.slice A n c, .func (.func 54) #[] #[]] w fun e w' => (∃ v : Int, e = .returned (.int .i64 v) ∧ decide (0 ≤ v) = !allB (-1) 50 xs) ∧ w = w' := by
  subst ln
  go_enter Try.func53, Try.ntmps53
  go_wp2_with fail
  go_loop [8] (fun i => ∃ k : Nat, k ≤ xs.length ∧ i = .int .i64 k ∧ allB (-1) 50 (xs.take k) = true) (fun i => xs.length - (intOf i).toNat)
  case atStart => exact ⟨0, Nat.zero_le _, rfl, rfl⟩
  case round =>
    obtain ⟨k, hk, rfl, hno⟩ := hrel
    have HN := Lib.hid hno; clear hno
    by_cases hlt : k < xs.length
    · obtain ⟨ad, rfl, _, hcc⟩ := h.at_ hlt
      have hcell := hcc k hlt
      clear hcc h
      cases hp : inB xs[k] (-1) 50
      · have HP := Lib.hid hp
        go_wp2_with (go_at_call 54; refine ctxFn.mono ?_; rintro e w' ⟨rfl, rfl⟩)
        go_ret
        exact ⟨⟨k, rfl, by rw [allB_not (-1) 50 xs k hlt HP.out]; simp⟩, rfl⟩
      · have HP := Lib.hid hp
        go_wp2_with (go_at_call 54; refine ctxFn.mono ?_; rintro e w' ⟨rfl, rfl⟩)
        go_round
        case rel => exact ⟨k + 1, by omega, by go_num, allB_snoc (-1) 50 xs k hlt HN.out HP.out⟩
        case measure => simp [intOf]; omega
    · have hkl : k = xs.length := by omega
      have HK := Lib.hid hkl
      clear hkl h
      go_wp2_with fail
      go_ret
      exact ⟨⟨-1, rfl, by rw [allB_take (-1) 50 xs (HK.out ▸ HN.out)]; rfl⟩, rfl⟩
theorem ctxHas {A : Option Addr} {c n B : Nat} {w : World} (xs : List Int) (ln : xs.length = n) (hn : n ≤ 1099511627776) (h : RdI w B A xs) :
    Calls Try.prog 41 #[.slice A n c, .func (.func 54) #[] #[]] w fun e w' => e = .returned (.bool (!allB (-1) 50 xs)) ∧ w = w' := by
  subst ln
  have H := Lib.hid h; clear h
  go_enter Try.func41, Try.ntmps41
  go_wp2_with fail
  refine (ctxIdx xs rfl hn H.out).mono ?_; rintro e w' ⟨⟨v, rfl, hv⟩, rfl⟩
  have HV := Lib.hid hv; clear hv
  go_wp2_with fail
  go_ret
  exact ⟨ret_bool HV.out, rfl⟩

theorem cleFn {w : World} {x : Int} : Calls Try.prog 42 #[.int .i64 x] w fun e w' => e = .returned (.bool (!inB x (0) 50)) ∧ w = w' := by
  go_enter Try.func42, Try.ntmps42
  go_wp2_with fail
  refine in_.mono ?_; rintro e w' ⟨rfl, rfl⟩
  go_wp2_with fail
  go_ret
  exact ⟨rfl, rfl⟩
set_option maxHeartbeats 400000 in
theorem cleIdx {A : Option Addr} {c n B : Nat} {w : World} (xs : List Int) (ln : xs.length = n) (hn : n ≤ 1099511627776) (h : RdI w B A xs) :
    Calls Try.prog 53 #[.slice A n c, .func (.func 42) #[] #[]] w fun e w' => (∃ v : Int, e = .returned (.int .i64 v) ∧ decide (0 ≤ v) = !allB (0) 50 xs) ∧ w = w' := by
  subst ln
  go_enter Try.func53, Try.ntmps53
  go_wp2_with fail
  go_loop [8] (fun i => ∃ k : Nat, k ≤ xs.length ∧ i = .int .i64 k ∧ allB (0) 50 (xs.take k) = true) (fun i => xs.length - (intOf i).toNat)
  case atStart => exact ⟨0, Nat.zero_le _, rfl, rfl⟩
  case round =>
    obtain ⟨k, hk, rfl, hno⟩ := hrel
    have HN := Lib.hid hno; clear hno
    by_cases hlt : k < xs.length
    · obtain ⟨ad, rfl, _, hcc⟩ := h.at_ hlt
      have hcell := hcc k hlt
      clear hcc h
      cases hp : inB xs[k] (0) 50
      · have HP := Lib.hid hp
        go_wp2_with (go_at_call 42; refine cleFn.mono ?_; rintro e w' ⟨rfl, rfl⟩)
        go_ret
        exact ⟨⟨k, rfl, by rw [allB_not (0) 50 xs k hlt HP.out]; simp⟩, rfl⟩
      · have HP := Lib.hid hp
        go_wp2_with (go_at_call 42; refine cleFn.mono ?_; rintro e w' ⟨rfl, rfl⟩)
        go_round
        case rel => exact ⟨k + 1, by omega, by go_num, allB_snoc (0) 50 xs k hlt HN.out HP.out⟩
        case measure => simp [intOf]; omega
    · have hkl : k = xs.length := by omega
      have HK := Lib.hid hkl
      clear hkl h
      go_wp2_with fail
      go_ret
      exact ⟨⟨-1, rfl, by rw [allB_take (0) 50 xs (HK.out ▸ HN.out)]; rfl⟩, rfl⟩
theorem cleHas {A : Option Addr} {c n B : Nat} {w : World} (xs : List Int) (ln : xs.length = n) (hn : n ≤ 1099511627776) (h : RdI w B A xs) :
    Calls Try.prog 41 #[.slice A n c, .func (.func 42) #[] #[]] w fun e w' => e = .returned (.bool (!allB (0) 50 xs)) ∧ w = w' := by
  subst ln
  have H := Lib.hid h; clear h
  go_enter Try.func41, Try.ntmps41
  go_wp2_with fail
  refine (cleIdx xs rfl hn H.out).mono ?_; rintro e w' ⟨⟨v, rfl, hv⟩, rfl⟩
  have HV := Lib.hid hv; clear hv
  go_wp2_with fail
  go_ret
  exact ⟨ret_bool HV.out, rfl⟩


theorem contextValid {A : Option Addr} {c n B : Nat} {w : World} (xs : List Int) (ln : xs.length = n) (hn : n ≤ 1099511627776) (h : RdI w B A xs) :
    Calls Try.prog 43 #[.slice A n c] w fun e w' => e = .returned (.bool (ctxB xs)) ∧ w = w' := by
  subst ln
  have H := Lib.hid h; clear h
  by_cases h3 : xs.length = 3
  · have h3' : ((xs.length : Int) == 3) = true := by rw [h3]; rfl
    have HF := Lib.hid (show ctxB xs = allB (-1) 50 xs from by simp [ctxB, h3])
    clear h3
    go_enter Try.func43, Try.ntmps43
    go_wp2_with fail
    refine (ctxHas xs rfl hn H.out).mono ?_; rintro e w' ⟨rfl, rfl⟩
    go_wp2_with fail
    go_ret
    exact ⟨ret_bool (by rw [HF.out]), rfl⟩
  · have h3' : ((xs.length : Int) == 3) = false := by rw [beq_eq_false_iff_ne]; omega
    have HF := Lib.hid (show ctxB xs = false from by simp [ctxB, h3])
    clear h3
    go_enter Try.func43, Try.ntmps43
    go_wp2_with fail
    go_ret
    exact ⟨ret_bool HF.out.symm, rfl⟩

set_option maxHeartbeats 800000 in
theorem validOwners {A : Option Addr} {c n B : Nat} {w : World} (os : List Own) (ln : os.length = n) (hn : n ≤ 1099511627776) (hm : ∀ o ∈ os, o.cl.length ≤ 1099511627776 ∧ o.cx.length ≤ 1099511627776) (h : RdO w B A os) (hB : B ≤ w.heap.size) :
    Calls Try.prog 37 #[.slice A n c] w fun e w' => e = .returned (.bool (voB os)) ∧ Below w.heap.size w w' := by
  subst ln
  have HM := Lib.hid hm; clear hm
  have H := Lib.hid h; clear h
  go_enter Try.func37, Try.ntmps37
  go_wp2_with fail
  go_loopw [3] (fun i wr => ∃ k : Nat, k ≤ os.length ∧ i = .int .i64 k ∧ (∀ j (hj : j < os.length), j < k → okO os j os[j] = true) ∧ Below w.heap.size w wr) (fun i _ => os.length - (intOf i).toNat)
  case atStart => exact ⟨0, Nat.zero_le _, rfl, fun j _ hj => absurd hj (by omega), Below.refl _ _⟩
  case round =>
    obtain ⟨k, hk, rfl, hall, hb⟩ := hrel
    have HA := Lib.hid hall; clear hall
    have HB := Lib.hid hb; clear hb
    by_cases hlt : k < os.length
    · have CALL := Lib.hid (specValidOwner (c := c) os rfl hn HM.out (H.out.belowLe HB.out hB) (Nat.le_trans hB HB.out.size) k hlt)
      have HV := Lib.hid (show voB os = true → okO os k os[k] = true from fun h => (voB_iff.1 h).1 k hlt)
      have HS := Lib.hid (show okO os k os[k] = true → ∀ j (hj : j < os.length), j < k + 1 → okO os j os[j] = true from fun h j hj h2 => by
        rcases Nat.lt_or_ge j k with h3 | h3
        · exact HA.out j hj h3
        · have : j = k := by omega
          subst this; exact h)
      obtain ⟨b, hb⟩ : ∃ b, okO os k os[k] = b := ⟨_, rfl⟩
      rw [hb] at CALL HV HS
      clear hb
      go_wp2_with fail
      refine CALL.out.mono ?_; rintro e w1 ⟨rfl, b1⟩
      have B1 := Lib.hid (HB.out.trans (b1.mono HB.out.size))
      clear b1 CALL
      cases b
      · go_wp2_with fail
        go_ret
        exact ⟨ret_bool (by cases hv : voB os; · rfl
                            · exact absurd (HV.out hv) (by simp)), B1.out⟩
      · go_wp2_with fail
        go_roundw
        case rel => exact ⟨k + 1, by omega, by go_num, by first | exact HS.out rfl | exact HS.out trivial, B1.out⟩
        case measure => simp [intOf]; omega
    · have HF := Lib.hid (show voB os = inB os.length 1 12 from by
        unfold voB; rw [decide_eq_true (fun j hj => HA.out j hj (by omega))]; rfl)
      go_wp2_with fail
      refine inRange.mono ?_; rintro e w' ⟨rfl, rfl⟩
      go_wp2_with fail
      go_ret
      exact ⟨ret_bool HF.out.symm, HB.out⟩
theorem specValidOwners {A : Option Addr} {c n B : Nat} {w : World} (os : List Own) (ln : os.length = n) (hn : n ≤ 1099511627776) (hm : ∀ o ∈ os, o.cl.length ≤ 1099511627776 ∧ o.cx.length ≤ 1099511627776) (h : RdO w B A os) (hB : B ≤ w.heap.size) :
    Calls Try.prog 29 #[.slice A n c] w fun e w' => e = .returned (.bool (voB os)) ∧ Below w.heap.size w w' := by
  have CALL := Lib.hid (validOwners (c := c) os ln hn hm h hB)
  clear h hm
  go_enter Try.func29, Try.ntmps29
  go_wp2_with fail
  refine CALL.out.mono ?_; rintro e w1 ⟨rfl, b1⟩
  have B1 := Lib.hid b1; clear b1
  go_wp2_with fail
  go_ret
  exact ⟨rfl, B1.out⟩

set_option maxHeartbeats 3200000 in
theorem implValidOwners {A : Option Addr} {c n B : Nat} {w : World} (os : List Own) (ln : os.length = n) (hn : n ≤ 1099511627776) (hm : ∀ o ∈ os, o.cl.length ≤ 1099511627776 ∧ o.cx.length ≤ 1099511627776) (h : RdO w B A os) (hB : B ≤ w.heap.size) :
    Calls Try.prog 14 #[.slice A n c] w fun e w' => e = .returned (.bool (voB os)) ∧ Below w.heap.size w w' := by
  subst ln
  have HM := Lib.hid hm; clear hm
  go_enter Try.func14, Try.ntmps14
  go_wp2_with fail
  go_loopw [7] (fun i wr => ∃ k : Nat, k ≤ os.length ∧ i = .int .i64 k ∧ (∀ j (hj : j < os.length), j < k → okO os j os[j] = true) ∧ Below w.heap.size w wr) (fun i _ => os.length - (intOf i).toNat)
  case atStart => exact ⟨0, Nat.zero_le _, rfl, fun j _ hj => absurd hj (by omega), Below.refl _ _⟩
  case round =>
    obtain ⟨k, hk, rfl, hall, hb⟩ := hrel
    have HA := Lib.hid hall; clear hall
    have HB0 := Lib.hid hb; clear hb
    by_cases hlt : k < os.length
    · have h' := h.belowLe HB0.out hB
      obtain ⟨g, o, hd, rfl, hg, ⟨c0, c1, c2, c3⟩, q1, q2, q3, q5⟩ := h'.at_ hlt
      obtain ⟨hm1, hm2⟩ := HM.out _ (List.getElem_mem hlt)
      have HOP := Lib.hid (fun (P : Nat) (hP : P < os.length) => (show wr.cell? ⟨g, o + P * 4 + 1, none⟩ = some (.bool (opAt os (P : Int))) from by
        obtain ⟨g', o', hd', hA, _, ⟨_, hc, _⟩, _⟩ := h'.at_ hP
        simp only [Option.some.injEq, Addr.mk.injEq, and_true] at hA
        obtain ⟨rfl, rfl⟩ := hA
        rw [opAt_eq hP]; exact hc))
      have HV := Lib.hid (show okO os k os[k] = false → voB os = false from fun h => by
        cases hv : voB os
        · rfl
        · rw [(voB_iff.1 hv).1 k hlt] at h; cases h)
      have HS := Lib.hid (show okO os k os[k] = true → ∀ j (hj : j < os.length), j < k + 1 → okO os j os[j] = true from fun h j hj h2 => by
        rcases Nat.lt_or_ge j k with h3 | h3
        · exact HA.out j hj h3
        · have : j = k := by omega
          subst this; exact h)
      obtain ⟨x, hx⟩ : ∃ x, os[k] = x := ⟨_, rfl⟩
      rw [hx] at c0 c1 c2 c3 q1 q2 q3 q5 hm1 hm2 HV HS
      obtain ⟨p, op, cl, cx⟩ := x
      simp only at c0 c1 c2 c3 q1 q2 q3 q5 hm1 hm2
      have HB1 := Lib.hid (below1 wr (.cells #[.int .i64 p, .bool op, .slice hd.clA cl.length hd.clC, .slice hd.cxA cx.length hd.cxC] 32)).1
      have HB := Lib.hid (HB0.out.trans (HB1.out.mono HB0.out.size))
      have Q1 := Lib.hid (q1.belowLe HB1.out (Nat.le_trans hB HB0.out.size))
      have Q2 := Lib.hid (q2.belowLe HB1.out (Nat.le_trans hB HB0.out.size))
      have hgw : g < wr.heap.size := by have := HB0.out.size; omega
      clear h h' hx q1 q2 HB1
      by_cases hk0 : k = 0
      · have hk0' : ((k : Int) == 0) = true := by rw [beq_iff_eq]; omega
        have hk1 : ¬ 0 < k := by omega
        have HK0 := Lib.hid hk0
        by_cases hp1 : p = -1
        · have hpar : parB k p = true := by rw [parB, if_pos hk0, hp1]; rfl
          have hp1' : (p != -1) = false := by simp [hp1]
          clear hp1 hk0
          have HPAR := Lib.hid hpar; clear hpar
          cases op
          case false =>
            by_cases h0 : cl.length = 0
            case neg =>
              have h0' : (0 : Int) < (cl.length : Int) := by omega
              have HF := Lib.hid (HV.out (show okO os k _ = false from by simp [okO, h0]))
              clear h0
              clear HV HS HOP
              go_wp2_with (first | (go_at_call 34; (with_reducible refine in_.mono ?_); rintro e w' ⟨rfl, rfl⟩) | (go_at_call 41; (with_reducible refine (cleHas cl rfl (by omega) Q1.out).mono ?_); rintro e w' ⟨rfl, rfl⟩) | (go_at_call 43; (with_reducible refine (contextValid cx rfl (by omega) Q2.out).mono ?_); rintro e w' ⟨rfl, rfl⟩))
              go_ret
              exact ⟨ret_bool HF.out.symm, HB.out⟩
            case pos =>
              have h0' : ¬ (0 : Int) < (cl.length : Int) := by omega
              have HOPK := Lib.hid (show (if false = true then decide (k = 0) || opAt os p else decide (cl.length = 0)) = true from by simp [h0])
              have h5 : cl.length ≤ 5 := by omega
              have ha : allB 0 50 cl = true := by rw [List.eq_nil_of_length_eq_zero h0]; rfl
              clear h0
              cases hb : ctxB cx
              case false =>
                have HF := Lib.hid (HV.out (show okO os k _ = false from by simp [okO, hb]))
                clear HV HS HOP
                go_wp2_with (first | (go_at_call 34; (with_reducible refine in_.mono ?_); rintro e w' ⟨rfl, rfl⟩) | (go_at_call 41; (with_reducible refine (cleHas cl rfl (by omega) Q1.out).mono ?_); rintro e w' ⟨rfl, rfl⟩) | (go_at_call 43; (with_reducible refine (contextValid cx rfl (by omega) Q2.out).mono ?_); rintro e w' ⟨rfl, rfl⟩))
                go_ret
                exact ⟨ret_bool HF.out.symm, HB.out⟩
              case true =>
                have HF := Lib.hid (HS.out (show okO os k _ = true from by unfold okO; dsimp only; rw [HPAR.out, HOPK.out, ha, hb]; simp [h5]))
                clear HV HS HOP
                go_wp2_with (first | (go_at_call 34; (with_reducible refine in_.mono ?_); rintro e w' ⟨rfl, rfl⟩) | (go_at_call 41; (with_reducible refine (cleHas cl rfl (by omega) Q1.out).mono ?_); rintro e w' ⟨rfl, rfl⟩) | (go_at_call 43; (with_reducible refine (contextValid cx rfl (by omega) Q2.out).mono ?_); rintro e w' ⟨rfl, rfl⟩))
                go_roundw
                case rel => exact ⟨k + 1, by omega, by go_num, HF.out, HB.out⟩
                case measure => simp [intOf]; omega
          case true =>
            have HOPK := Lib.hid (show (if true = true then decide (k = 0) || opAt os p else decide (cl.length = 0)) = true from by simp [HK0.out])
            by_cases h5 : cl.length ≤ 5
            case neg =>
              have HF := Lib.hid (HV.out (show okO os k _ = false from by simp [okO, h5]))
              clear HV HS HOP
              go_wp2_with (first | (go_at_call 34; (with_reducible refine in_.mono ?_); rintro e w' ⟨rfl, rfl⟩) | (go_at_call 41; (with_reducible refine (cleHas cl rfl (by omega) Q1.out).mono ?_); rintro e w' ⟨rfl, rfl⟩) | (go_at_call 43; (with_reducible refine (contextValid cx rfl (by omega) Q2.out).mono ?_); rintro e w' ⟨rfl, rfl⟩))
              go_ret
              exact ⟨ret_bool HF.out.symm, HB.out⟩
            cases ha : allB 0 50 cl
            case false =>
              have HF := Lib.hid (HV.out (show okO os k _ = false from by simp [okO, ha]))
              clear HV HS HOP
              go_wp2_with (first | (go_at_call 34; (with_reducible refine in_.mono ?_); rintro e w' ⟨rfl, rfl⟩) | (go_at_call 41; (with_reducible refine (cleHas cl rfl (by omega) Q1.out).mono ?_); rintro e w' ⟨rfl, rfl⟩) | (go_at_call 43; (with_reducible refine (contextValid cx rfl (by omega) Q2.out).mono ?_); rintro e w' ⟨rfl, rfl⟩))
              go_ret
              exact ⟨ret_bool HF.out.symm, HB.out⟩
            cases hb : ctxB cx
            case false =>
              have HF := Lib.hid (HV.out (show okO os k _ = false from by simp [okO, hb]))
              clear HV HS HOP
              go_wp2_with (first | (go_at_call 34; (with_reducible refine in_.mono ?_); rintro e w' ⟨rfl, rfl⟩) | (go_at_call 41; (with_reducible refine (cleHas cl rfl (by omega) Q1.out).mono ?_); rintro e w' ⟨rfl, rfl⟩) | (go_at_call 43; (with_reducible refine (contextValid cx rfl (by omega) Q2.out).mono ?_); rintro e w' ⟨rfl, rfl⟩))
              go_ret
              exact ⟨ret_bool HF.out.symm, HB.out⟩
            case true =>
              have HF := Lib.hid (HS.out (show okO os k _ = true from by unfold okO; dsimp only; rw [HPAR.out, HOPK.out, ha, hb]; simp [h5]))
              clear HV HS HOP
              go_wp2_with (first | (go_at_call 34; (with_reducible refine in_.mono ?_); rintro e w' ⟨rfl, rfl⟩) | (go_at_call 41; (with_reducible refine (cleHas cl rfl (by omega) Q1.out).mono ?_); rintro e w' ⟨rfl, rfl⟩) | (go_at_call 43; (with_reducible refine (contextValid cx rfl (by omega) Q2.out).mono ?_); rintro e w' ⟨rfl, rfl⟩))
              go_roundw
              case rel => exact ⟨k + 1, by omega, by go_num, HF.out, HB.out⟩
              case measure => simp [intOf]; omega
        · have hp1' : (p != -1) = true := by simp [hp1]
          have HF := Lib.hid (HV.out (show okO os k _ = false from by have hz := HK0.out; simp [okO, parB, hp1, hz]))
          clear hp1 hk0
          clear HV HS HOP
          go_wp2_with (first | (go_at_call 34; (with_reducible refine in_.mono ?_); rintro e w' ⟨rfl, rfl⟩) | (go_at_call 41; (with_reducible refine (cleHas cl rfl (by omega) Q1.out).mono ?_); rintro e w' ⟨rfl, rfl⟩) | (go_at_call 43; (with_reducible refine (contextValid cx rfl (by omega) Q2.out).mono ?_); rintro e w' ⟨rfl, rfl⟩))
          go_ret
          exact ⟨ret_bool HF.out.symm, HB.out⟩
      · have hk1 : 0 < k := by omega
        have hk0' : ((k : Int) == 0) = false := by rw [beq_eq_false_iff_ne]; omega
        cases hin : inB p 0 ((k : Int) - 1)
        case false =>
          have HF := Lib.hid (HV.out (show okO os k _ = false from by simp [okO, parB, hk0, hin]))
          clear hk0
          clear HV HS HOP
          go_wp2_with (first | (go_at_call 34; (with_reducible refine in_.mono ?_); rintro e w' ⟨rfl, rfl⟩) | (go_at_call 41; (with_reducible refine (cleHas cl rfl (by omega) Q1.out).mono ?_); rintro e w' ⟨rfl, rfl⟩) | (go_at_call 43; (with_reducible refine (contextValid cx rfl (by omega) Q2.out).mono ?_); rintro e w' ⟨rfl, rfl⟩))
          go_ret
          exact ⟨ret_bool HF.out.symm, HB.out⟩
        case true =>
          have hpar : parB k p = true := by simp [parB, hk0, hin]
          have HPAR := Lib.hid hpar; clear hpar
          cases op
          case false =>
            by_cases h0 : cl.length = 0
            case neg =>
              have h0' : (0 : Int) < (cl.length : Int) := by omega
              have HF := Lib.hid (HV.out (show okO os k _ = false from by simp [okO, h0]))
              clear h0
              clear HV HS HOP
              go_wp2_with (first | (go_at_call 34; (with_reducible refine in_.mono ?_); rintro e w' ⟨rfl, rfl⟩) | (go_at_call 41; (with_reducible refine (cleHas cl rfl (by omega) Q1.out).mono ?_); rintro e w' ⟨rfl, rfl⟩) | (go_at_call 43; (with_reducible refine (contextValid cx rfl (by omega) Q2.out).mono ?_); rintro e w' ⟨rfl, rfl⟩))
              go_ret
              exact ⟨ret_bool HF.out.symm, HB.out⟩
            case pos =>
              have h0' : ¬ (0 : Int) < (cl.length : Int) := by omega
              have HOPK := Lib.hid (show (if false = true then decide (k = 0) || opAt os p else decide (cl.length = 0)) = true from by simp [h0])
              have h5 : cl.length ≤ 5 := by omega
              have ha : allB 0 50 cl = true := by rw [List.eq_nil_of_length_eq_zero h0]; rfl
              clear h0
              cases hb : ctxB cx
              case false =>
                have HF := Lib.hid (HV.out (show okO os k _ = false from by simp [okO, hb]))
                clear HV HS HOP
                go_wp2_with (first | (go_at_call 34; (with_reducible refine in_.mono ?_); rintro e w' ⟨rfl, rfl⟩) | (go_at_call 41; (with_reducible refine (cleHas cl rfl (by omega) Q1.out).mono ?_); rintro e w' ⟨rfl, rfl⟩) | (go_at_call 43; (with_reducible refine (contextValid cx rfl (by omega) Q2.out).mono ?_); rintro e w' ⟨rfl, rfl⟩))
                go_ret
                exact ⟨ret_bool HF.out.symm, HB.out⟩
              case true =>
                have HF := Lib.hid (HS.out (show okO os k _ = true from by unfold okO; dsimp only; rw [HPAR.out, HOPK.out, ha, hb]; simp [h5]))
                clear HV HS HOP
                go_wp2_with (first | (go_at_call 34; (with_reducible refine in_.mono ?_); rintro e w' ⟨rfl, rfl⟩) | (go_at_call 41; (with_reducible refine (cleHas cl rfl (by omega) Q1.out).mono ?_); rintro e w' ⟨rfl, rfl⟩) | (go_at_call 43; (with_reducible refine (contextValid cx rfl (by omega) Q2.out).mono ?_); rintro e w' ⟨rfl, rfl⟩))
                go_roundw
                case rel => exact ⟨k + 1, by omega, by go_num, HF.out, HB.out⟩
                case measure => simp [intOf]; omega
          case true =>
            have hpp := inB_iff.1 hin
            obtain ⟨P, rfl⟩ := Int.eq_ofNat_of_zero_le hpp.1
            have hP : P < os.length := by omega
            have hc := HOP.out P hP
            cases hq : opAt os (P : Int)
            case false =>
              rw [hq] at hc
              have HQ := Lib.hid hq; clear hq
              have HF := Lib.hid (HV.out (show okO os k _ = false from by simp [okO, hk0, HQ.out]))
              clear hpp hk0
              clear HV HS HOP
              go_wp2_with (first | (go_at_call 34; (with_reducible refine in_.mono ?_); rintro e w' ⟨rfl, rfl⟩) | (go_at_call 41; (with_reducible refine (cleHas cl rfl (by omega) Q1.out).mono ?_); rintro e w' ⟨rfl, rfl⟩) | (go_at_call 43; (with_reducible refine (contextValid cx rfl (by omega) Q2.out).mono ?_); rintro e w' ⟨rfl, rfl⟩))
              go_ret
              exact ⟨ret_bool HF.out.symm, HB.out⟩
            case true =>
              rw [hq] at hc
              have HOPK := Lib.hid (show (if true = true then decide (k = 0) || opAt os (P : Int) else decide (cl.length = 0)) = true from by simp [hq])
              clear hq hpp hk0
              by_cases h5 : cl.length ≤ 5
              case neg =>
                have HF := Lib.hid (HV.out (show okO os k _ = false from by simp [okO, h5]))
                clear HV HS HOP
                go_wp2_with (first | (go_at_call 34; (with_reducible refine in_.mono ?_); rintro e w' ⟨rfl, rfl⟩) | (go_at_call 41; (with_reducible refine (cleHas cl rfl (by omega) Q1.out).mono ?_); rintro e w' ⟨rfl, rfl⟩) | (go_at_call 43; (with_reducible refine (contextValid cx rfl (by omega) Q2.out).mono ?_); rintro e w' ⟨rfl, rfl⟩))
                go_ret
                exact ⟨ret_bool HF.out.symm, HB.out⟩
              cases ha : allB 0 50 cl
              case false =>
                have HF := Lib.hid (HV.out (show okO os k _ = false from by simp [okO, ha]))
                clear HV HS HOP
                go_wp2_with (first | (go_at_call 34; (with_reducible refine in_.mono ?_); rintro e w' ⟨rfl, rfl⟩) | (go_at_call 41; (with_reducible refine (cleHas cl rfl (by omega) Q1.out).mono ?_); rintro e w' ⟨rfl, rfl⟩) | (go_at_call 43; (with_reducible refine (contextValid cx rfl (by omega) Q2.out).mono ?_); rintro e w' ⟨rfl, rfl⟩))
                go_ret
                exact ⟨ret_bool HF.out.symm, HB.out⟩
              cases hb : ctxB cx
              case false =>
                have HF := Lib.hid (HV.out (show okO os k _ = false from by simp [okO, hb]))
                clear HV HS HOP
                go_wp2_with (first | (go_at_call 34; (with_reducible refine in_.mono ?_); rintro e w' ⟨rfl, rfl⟩) | (go_at_call 41; (with_reducible refine (cleHas cl rfl (by omega) Q1.out).mono ?_); rintro e w' ⟨rfl, rfl⟩) | (go_at_call 43; (with_reducible refine (contextValid cx rfl (by omega) Q2.out).mono ?_); rintro e w' ⟨rfl, rfl⟩))
                go_ret
                exact ⟨ret_bool HF.out.symm, HB.out⟩
              case true =>
                have HF := Lib.hid (HS.out (show okO os k _ = true from by unfold okO; dsimp only; rw [HPAR.out, HOPK.out, ha, hb]; simp [h5]))
                clear HV HS HOP
                go_wp2_with (first | (go_at_call 34; (with_reducible refine in_.mono ?_); rintro e w' ⟨rfl, rfl⟩) | (go_at_call 41; (with_reducible refine (cleHas cl rfl (by omega) Q1.out).mono ?_); rintro e w' ⟨rfl, rfl⟩) | (go_at_call 43; (with_reducible refine (contextValid cx rfl (by omega) Q2.out).mono ?_); rintro e w' ⟨rfl, rfl⟩))
                go_roundw
                case rel => exact ⟨k + 1, by omega, by go_num, HF.out, HB.out⟩
                case measure => simp [intOf]; omega
    · have HF := Lib.hid (show voB os = inB os.length 1 12 from by
        unfold voB; rw [decide_eq_true (fun j hj => HA.out j hj (by omega))]; rfl)
      clear h
      go_wp2_with fail
      refine in_.mono ?_; rintro e w' ⟨rfl, rfl⟩
      go_wp2_with fail
      go_ret
      exact ⟨ret_bool HF.out.symm, HB0.out⟩

def ofB (os : List Own) (o : Int) : Bool := voB os && inB o 0 ((os.length : Int) - 1)
theorem ofB_iff {os : List Own} {o : Int} : ofB os o = true ↔ voB os = true ∧ 0 ≤ o ∧ o < os.length := by
  unfold ofB; rw [Bool.and_eq_true, inB_iff]; constructor <;> intro h <;> refine ⟨h.1, ?_, ?_⟩ <;> omega
theorem ownerOf {A : Option Addr} {c n B : Nat} {w : World} {k : Int} (os : List Own) (ln : os.length = n) (hn : n ≤ 1099511627776) (hm : ∀ o ∈ os, o.cl.length ≤ 1099511627776 ∧ o.cx.length ≤ 1099511627776) (h : RdO w B A os) (hB : B ≤ w.heap.size) :
    Calls Try.prog 45 #[.slice A n c, .int .i64 k] w fun e w' => e = .returned (.bool (ofB os k)) ∧ Below w.heap.size w w' := by
  subst ln
  have CALL := Lib.hid (implValidOwners (c := c) os rfl hn hm h hB)
  clear h hm
  have HF := Lib.hid (show ofB os k = (voB os && inB k 0 ((os.length : Int) - 1)) from rfl)
  go_enter Try.func45, Try.ntmps45
  go_wp2_with fail
  refine CALL.out.mono ?_; rintro e w1 ⟨rfl, b1⟩
  have B1 := Lib.hid b1; clear b1
  cases hv : voB os
  · go_wp2_with fail
    go_ret
    exact ⟨ret_bool (by rw [HF.out]; simp [hv]), B1.out⟩
  · go_wp2_with fail
    refine in_.mono ?_; rintro e w' ⟨rfl, rfl⟩
    go_wp2_with fail
    go_ret
    exact ⟨ret_bool (by rw [HF.out]; simp [hv]), B1.out⟩
end Go.Proofs.Ytnlbmiangbahgaa

/-
  The walk of laws.FnStaysOfMost.
-/
import Derived.Test.YtplgmieiclicoaaKeysDraws
import Derived.Test.YtplgmieiclicoaaStaysAll
import Derived.BigQuiet
namespace Go.Proofs.Ytplgmieiclicoaa
open Go.RowKit

theorem staysOfF_le (a b : List Int) : (staysOfF a b).length ≤ b.length := by
  unfold staysOfF
  split
  · exact staysF_len a b
  · simp
set_option maxRecDepth 100000 in
set_option maxHeartbeats 800000 in
theorem walkFnStaysOfMost (A : Option Addr) (c : Nat) (bs : List Int) (w : World) (hr : Rd w w.heap.size A (bytes8 bs)) (hn : bs.length ≤ 9223372036854775807) (lc : bs.length ≤ c) (cm : c ≤ 9223372036854775807) (hx : ∀ x ∈ bs, (Lit.int .u8 x).wf = true) :
    Calls Try.prog 9 #[.slice A bs.length c] w fun e w' => e = .returned (.bool true) ∧ Below w.heap.size w w' := by
  by_cases hbig : bs.length ≤ 1048576
  · have HR := Lib.hid hr; clear hr
    have HX := Lib.hid hx; clear hx
    go_enter Try.func9, Try.ntmps9
    go_wp2_with fail
    refine (drawStaysOf bs rfl lc cm HX.out HR.out).mono ?_; rintro e w1 ⟨A1, c1, xs, A2, c2, ys, rfl, hl1, hl2, hc1, hc2, r1, r2, b1⟩
    have z1 := b1.size
    have X1 := Lib.hid r1
    have Y1 := Lib.hid r2
    have B1 := Lib.hid b1
    clear r1 r2 b1 HR HX
    go_wp2_with fail
    refine (implStaysOf xs ys rfl rfl (by omega) (by omega) hc1 hc2 X1.out Y1.out (Nat.le_refl _) (Nat.le_refl _)).mono ?_; rintro e w2 ⟨A3, c3, rfl, s3, b2⟩
    obtain ⟨os, hos⟩ : ∃ os, os = staysOfF xs ys := ⟨_, rfl⟩
    rw [← hos] at s3 ⊢
    have hol : os.length ≤ 11 := by rw [hos]; exact Nat.le_trans (staysOfF_le xs ys) hl2
    have OS := Lib.hid hos; clear hos
    have z2 := b2.size
    have OUT := Lib.hid s3
    have X := Lib.hid (X1.out.below b2)
    have Y := Lib.hid (Y1.out.below b2)
    have B := Lib.hid (B1.out.trans (b2.mono z1))
    clear s3 b2 X1 Y1 B1
    go_wp2_with fail
    refine (specStaysOf xs ys rfl rfl (by omega) (by omega) hc1 hc2 X.out Y.out z2 z2).mono ?_; rw [← OS.out]; rintro e w3 ⟨A4, c4, rfl, s4, b3⟩
    have z3 := b3.size
    have OUT := Lib.hid (OUT.out.below b3 (Nat.le_refl _))
    have X := Lib.hid (X.out.belowLe b3 z2)
    have Y := Lib.hid (Y.out.belowLe b3 z2)
    have B := Lib.hid (B.out.trans (b3.mono (Nat.le_trans z1 z2)))
    have W4 := Lib.hid s4
    clear s4 b3
    go_wp2_with fail
    refine (qb (equalInts os os rfl rfl (by omega) OUT.out.rd W4.out.rd)).mono ?_; rw [decide_eq_true (Eq.refl os)]; rintro e w4 ⟨rfl, b4⟩
    have z4 := b4.size
    have OUT := Lib.hid (OUT.out.below b4 (by omega))
    have X := Lib.hid (X.out.belowLe b4 (by omega))
    have Y := Lib.hid (Y.out.belowLe b4 (by omega))
    have B := Lib.hid (B.out.trans (b4.mono (by omega)))
    clear b4 W4
    go_wp2_with fail
    refine (implValidKeys xs rfl (by omega) hc1 X.out).mono ?_; rintro e w5 ⟨rfl, rfl⟩
    cases hv1 : vkB xs
    · go_wp2_with fail
      refine (specStaysOf xs ys rfl rfl (by omega) (by omega) hc1 hc2 X.out Y.out (by omega) (by omega)).mono ?_; rw [← OS.out]; rintro e w6 ⟨A7, c7, rfl, s7, b6⟩
      have z6 := b6.size
      have OUT := Lib.hid (OUT.out.below b6 (by omega))
      have B := Lib.hid (B.out.trans (b6.mono (by omega)))
      have W7 := Lib.hid s7
      clear s7 b6
      go_wp2_with fail
      refine (qb (equalInts os os rfl rfl (by omega) OUT.out.rd W7.out.rd)).mono ?_; rw [decide_eq_true (Eq.refl os)]; rintro e w8 ⟨rfl, b8⟩
      have B := Lib.hid (B.out.trans (b8.mono (by omega)))
      clear b8
      go_wp2_with fail
      go_ret
      exact ⟨rfl, B.out⟩
    · have HV1 := Lib.hid hv1; clear hv1
      go_wp2_with fail
      refine (implValidKeys ys rfl (by omega) hc2 Y.out).mono ?_; rintro e w5 ⟨rfl, rfl⟩
      cases hv2 : vkB ys
      · go_wp2_with fail
        refine (specStaysOf xs ys rfl rfl (by omega) (by omega) hc1 hc2 X.out Y.out (by omega) (by omega)).mono ?_; rw [← OS.out]; rintro e w6 ⟨A7, c7, rfl, s7, b6⟩
        have z6 := b6.size
        have OUT := Lib.hid (OUT.out.below b6 (by omega))
        have B := Lib.hid (B.out.trans (b6.mono (by omega)))
        have W7 := Lib.hid s7
        clear s7 b6
        go_wp2_with fail
        refine (qb (equalInts os os rfl rfl (by omega) OUT.out.rd W7.out.rd)).mono ?_; rw [decide_eq_true (Eq.refl os)]; rintro e w8 ⟨rfl, b8⟩
        have B := Lib.hid (B.out.trans (b8.mono (by omega)))
        clear b8
        go_wp2_with fail
        go_ret
        exact ⟨rfl, B.out⟩
      · have HV2 := Lib.hid hv2; clear hv2
        have hos : os = staysF xs ys := by rw [OS.out]; unfold staysOfF; rw [HV1.out, HV2.out]; rfl
        have hn1 := (vkB_iff.1 HV1.out).1
        have hn2 := (vkB_iff.1 HV2.out).1
        have HO := Lib.hid hos
        have HN1 := Lib.hid hn1
        have HN2 := Lib.hid hn2
        clear hos hn1 hn2
        go_wp2_with fail
        go_loopw [6, 7, 8] (fun i u7 u8 wr => ∃ k : Nat, k ≤ ys.length ∧ i = .int .i64 k ∧ SlI wr w1.heap.size w2.heap.size A3 c3 os ∧ RdI wr w1.heap.size A1 xs ∧ RdI wr w1.heap.size A2 ys ∧ Below w.heap.size w wr ∧ w2.heap.size ≤ wr.heap.size) (fun i _ _ _ => ys.length - (intOf i).toNat)
        case atStart => exact ⟨0, Nat.zero_le _, rfl, OUT.out, X.out, Y.out, B.out, by omega⟩
        case round =>
          obtain ⟨k, hk, rfl, ho, hx', hy', hb', hz'⟩ := hrel
          clear OUT X Y B
          have OUT := Lib.hid ho; clear ho
          have X := Lib.hid hx'; clear hx'
          have Y := Lib.hid hy'; clear hy'
          have B := Lib.hid hb'; clear hb'
          by_cases hlt : k < ys.length
          · obtain ⟨ad, rfl, _, hc⟩ := Y.out.at_ hlt
            have hcell := hc k hlt
            have hpl : plc ys[k] ys = (k : Int) := by
              unfold plc
              rw [if_pos (List.getElem_mem hlt), idx_eq_of_nodup HN2.out k hlt]
            have hyin := List.getElem_mem hlt
            obtain ⟨x, hxk⟩ : ∃ x, ys[k] = x := ⟨_, rfl⟩
            rw [hxk] at hcell hpl hyin
            have HCELL := Lib.hid hc
            have HXK := Lib.hid hxk
            have HPL := Lib.hid hpl
            have HYIN := Lib.hid hyin
            clear hc hxk hpl hyin
            go_wp2_with fail
            refine (isIn (x := x) os rfl (by omega) OUT.out.rd).mono ?_; rintro e w9 ⟨rfl, rfl⟩
            cases hm1 : memB x os
            · have HM1 := Lib.hid hm1; clear hm1
              go_wp2_with fail
              refine (isIn (x := x) xs rfl (by omega) X.out).mono ?_; rintro e w9 ⟨rfl, rfl⟩
              cases hm2 : memB x xs
              · clear hm2
                go_wp2_with fail
                go_roundw
                case rel => exact ⟨k + 1, by omega, by go_num, OUT.out, X.out, Y.out, B.out, hz'⟩
                case measure => simp [intOf]; omega
              · have HM2 := Lib.hid hm2; clear hm2
                obtain ⟨ag, hag⟩ : ∃ ag : Int → Bool, ag = fun y => decide (plc y xs < plc x xs) == decide (plc y ys < (k : Int)) := ⟨_, rfl⟩
                have HAG := Lib.hid hag
                have hall : os.all ag = false := by
                  have h1 : x ∈ xs := by have := HM2.out; simpa [memB] using this
                  have h2 : x ∉ os := by have := HM1.out; simpa [memB] using this
                  obtain ⟨y, hy, hne⟩ := staysF_all HN1.out HN2.out h1 HYIN.out (by rw [← HO.out]; exact h2)
                  rw [HPL.out] at hne
                  rw [List.all_eq_false]
                  exact ⟨y, by rw [HO.out]; exact hy, by rw [hag]; simpa using hne⟩
                have HALL := Lib.hid hall; clear hall hag
                clear hcell
                go_wp2_with fail
                go_loopw [7, 8] (fun f j wi => ∃ n : Nat, n ≤ os.length ∧ j = .int .i64 n ∧ f = .bool ((os.take n).all ag) ∧ SlI wi w1.heap.size w2.heap.size A3 c3 os ∧ RdI wi w1.heap.size A1 xs ∧ RdI wi w1.heap.size (some ad) ys ∧ Below w.heap.size w wi ∧ w2.heap.size ≤ wi.heap.size) (fun _ j _ => os.length - (intOf j).toNat)
                case atStart => exact ⟨0, Nat.zero_le _, rfl, rfl, OUT.out, X.out, Y.out, B.out, by omega⟩
                case round =>
                  obtain ⟨n, hn', rfl, rfl, ho, hx', hy', hb', hz''⟩ := hrel
                  clear OUT X Y B HCELL
                  have OUT := Lib.hid ho; clear ho
                  have X := Lib.hid hx'; clear hx'
                  have Y := Lib.hid hy'; clear hy'
                  have B := Lib.hid hb'; clear hb'
                  by_cases hltn : n < os.length
                  · have hstep : (os.take (n + 1)).all ag = ((os.take n).all ag && (decide (plc os[n] xs < plc x xs) == decide (plc os[n] ys < (k : Int)))) := by
                      rw [List.take_succ_eq_append_getElem hltn, List.all_append]
                      simp [HAG.out]
                    obtain ⟨fb, hfb⟩ : ∃ fb, (os.take n).all ag = fb := ⟨_, rfl⟩
                    rw [hfb] at hstep ⊢
                    clear hfb
                    obtain ⟨ad2, rfl, _, hc2⟩ := OUT.out.rd.at_ hltn
                    have hcell2 := hc2 n hltn
                    have hcell1 : wr.cell? (ad.add k) = some (.int .i64 x) := by
                      obtain ⟨ad3, e3, _, hc3⟩ := Y.out.at_ hlt
                      injection e3 with e3
                      subst e3
                      rw [hc3 k hlt, HXK.out]
                    obtain ⟨y, hyn⟩ : ∃ y, os[n] = y := ⟨_, rfl⟩
                    rw [hyn] at hcell2 hstep
                    clear hc2 hyn
                    have q1 := fun m => quiet_left (n := m) (w := wr) (place (x := y) (c := c1) xs rfl (by omega) (X.out.drewN m))
                    have q2 := fun m => quiet_left (n := m) (w := wr) (place (x := x) (c := c1) xs rfl (by omega) (X.out.drewN m))
                    have q3 := fun m => quiet_left (n := m) (w := wr) (place (x := y) (c := c2) ys rfl (by omega) (Y.out.drewN m))
                    obtain ⟨p1, hp1⟩ : ∃ p, plc y xs = p := ⟨_, rfl⟩
                    obtain ⟨p2, hp2⟩ : ∃ p, plc x xs = p := ⟨_, rfl⟩
                    obtain ⟨p3, hp3⟩ : ∃ p, plc y ys = p := ⟨_, rfl⟩
                    rw [hp1] at q1
                    rw [hp2] at q2
                    rw [hp3] at q3
                    rw [hp1, hp2, hp3] at hstep
                    have HSTEP := Lib.hid hstep
                    have Q1 := Lib.hid q1
                    have Q2 := Lib.hid q2
                    have Q3 := Lib.hid q3
                    clear q1 q2 q3 hp1 hp2 hp3 hstep
                    have hki : (k : Int) < (ys.length : Int) := by omega
                    have hni : (n : Int) < (os.length : Int) := by omega
                    cases fb
                    · go_wp2_with fail
                      go_quiet (fail)
                      go_wp2_with fail
                      go_roundw
                      case rel => exact ⟨n + 1, by omega, by go_num, by rw [HSTEP.out]; rfl, OUT.out.drewN _, X.out.drewN _, Y.out.drewN _, below_drewN B.out _, hz''⟩
                      case measure => simp [intOf]; omega
                    · go_wp2_with fail
                      go_quiet ((first | (go_at_call 31; with_reducible exact Q1.out _) | (go_at_call 31; with_reducible exact Q2.out _) | (go_at_call 31; with_reducible exact Q3.out _)))
                      go_wp2_with fail
                      go_roundw
                      case rel => exact ⟨n + 1, by omega, by go_num, by rw [HSTEP.out]; rfl, OUT.out.drewN _, X.out.drewN _, Y.out.drewN _, below_drewN B.out _, hz''⟩
                      case measure => simp [intOf]; omega
                  · have hnl : n = os.length := by omega
                    have hfv : (os.take n).all ag = false := by rw [hnl, List.take_length]; exact HALL.out
                    rw [hfv]
                    clear hnl hfv
                    go_wp2_with fail
                    go_roundw
                    case rel => exact ⟨k + 1, by omega, by go_num, OUT.out, X.out, Y.out, B.out, hz''⟩
                    case measure => simp [intOf]; omega
            · clear hm1
              go_wp2_with fail
              go_roundw
              case rel => exact ⟨k + 1, by omega, by go_num, OUT.out, X.out, Y.out, B.out, hz'⟩
              case measure => simp [intOf]; omega
          · go_wp2_with fail
            have hnn : (staysOfF ys xs).length = os.length := by
              rw [HO.out]
              unfold staysOfF
              rw [HV1.out, HV2.out]
              exact staysF_sym HN2.out HN1.out
            refine (implStaysOf ys xs rfl rfl (by omega) (by omega) hc2 hc1 Y.out X.out (by omega) (by omega)).mono ?_; rintro e w10 ⟨A10, c10, hv, s10, b10⟩
            rw [hnn] at hv
            subst hv
            have B := Lib.hid (B.out.trans (b10.mono (by omega)))
            clear s10 b10 hnn
            go_wp2_with fail
            go_ret
            exact ⟨ret_bool (by simp), B.out⟩
  · go_enter Try.func9, Try.ntmps9
    go_wp2
    go_ret
    exact ⟨rfl, Below.refl _ _⟩
end Go.Proofs.Ytplgmieiclicoaa

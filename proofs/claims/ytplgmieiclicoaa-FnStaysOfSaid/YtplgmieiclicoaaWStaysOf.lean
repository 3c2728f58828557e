/-
  The walk of laws.FnStaysOf.
-/
import Derived.Test.YtplgmieiclicoaaKeysDraws
import Derived.Test.YtplgmieiclicoaaStaysMost
namespace Go.Proofs.Ytplgmieiclicoaa
open Go.RowKit

theorem staysOfF_le (a b : List Int) : (staysOfF a b).length ≤ b.length := by
  unfold staysOfF
  split
  · exact staysF_len a b
  · simp
set_option maxRecDepth 100000 in
set_option maxHeartbeats 800000 in
theorem walkFnStaysOf (A : Option Addr) (c : Nat) (bs : List Int) (w : World) (hr : Rd w w.heap.size A (bytes8 bs)) (hn : bs.length ≤ 9223372036854775807) (lc : bs.length ≤ c) (cm : c ≤ 9223372036854775807) (hx : ∀ x ∈ bs, (Lit.int .u8 x).wf = true) :
    Calls Try.prog 8 #[.slice A bs.length c] w fun e w' => e = .returned (.bool true) ∧ Below w.heap.size w w' := by
  by_cases hbig : bs.length ≤ 1048576
  · have HR := Lib.hid hr; clear hr
    have HX := Lib.hid hx; clear hx
    go_enter Try.func8, Try.ntmps8
    go_wp2_with fail
    refine (drawStaysOf bs rfl lc cm HX.out HR.out).mono ?_; rintro e w1 ⟨A1, c1, xs, A2, c2, ys, rfl, hl1, hl2, hc1, hc2, r1, r2, b1⟩
    have z1 := b1.size
    have X1 := Lib.hid r1
    have Y1 := Lib.hid r2
    have B1 := Lib.hid b1
    clear r1 r2 b1 HR HX
    go_wp2_with fail
    refine (implStaysOf xs ys rfl rfl (by omega) (by omega) hc1 hc2 X1.out Y1.out (Nat.le_refl _) (Nat.le_refl _)).mono ?_; rintro e w2 ⟨A3, c3, rfl, s3, b2⟩
    obtain ⟨os, hos⟩ : ∃ os, os = staysOfF xs ys := ⟨_, rfl⟩
    rw [← hos] at s3 ⊢
    have hol : os.length ≤ 11 := by rw [hos]; exact Nat.le_trans (staysOfF_le xs ys) hl2
    have OS := Lib.hid hos; clear hos
    have z2 := b2.size
    have OUT := Lib.hid s3
    have X := Lib.hid (X1.out.below b2)
    have Y := Lib.hid (Y1.out.below b2)
    have B := Lib.hid (B1.out.trans (b2.mono z1))
    clear s3 b2 X1 Y1 B1
    go_wp2_with fail
    refine (specStaysOf xs ys rfl rfl (by omega) (by omega) hc1 hc2 X.out Y.out z2 z2).mono ?_; rw [← OS.out]; rintro e w3 ⟨A4, c4, rfl, s4, b3⟩
    have z3 := b3.size
    have OUT := Lib.hid (OUT.out.below b3 (Nat.le_refl _))
    have X := Lib.hid (X.out.belowLe b3 z2)
    have Y := Lib.hid (Y.out.belowLe b3 z2)
    have B := Lib.hid (B.out.trans (b3.mono (Nat.le_trans z1 z2)))
    have W4 := Lib.hid s4
    clear s4 b3
    go_wp2_with fail
    refine (qb (equalInts os os rfl rfl (by omega) OUT.out.rd W4.out.rd)).mono ?_; rw [decide_eq_true (Eq.refl os)]; rintro e w4 ⟨rfl, b4⟩
    have z4 := b4.size
    have OUT := Lib.hid (OUT.out.below b4 (by omega))
    have X := Lib.hid (X.out.belowLe b4 (by omega))
    have Y := Lib.hid (Y.out.belowLe b4 (by omega))
    have B := Lib.hid (B.out.trans (b4.mono (by omega)))
    clear b4 W4
    go_wp2_with fail
    refine (implValidKeys xs rfl (by omega) hc1 X.out).mono ?_; rintro e w5 ⟨rfl, rfl⟩
    cases hv1 : vkB xs
    · go_wp2_with fail
      refine (specStaysOf xs ys rfl rfl (by omega) (by omega) hc1 hc2 X.out Y.out (by omega) (by omega)).mono ?_; rw [← OS.out]; rintro e w6 ⟨A7, c7, rfl, s7, b6⟩
      have z6 := b6.size
      have OUT := Lib.hid (OUT.out.below b6 (by omega))
      have B := Lib.hid (B.out.trans (b6.mono (by omega)))
      have W7 := Lib.hid s7
      clear s7 b6
      go_wp2_with fail
      refine (qb (equalInts os os rfl rfl (by omega) OUT.out.rd W7.out.rd)).mono ?_; rw [decide_eq_true (Eq.refl os)]; rintro e w8 ⟨rfl, b8⟩
      have B := Lib.hid (B.out.trans (b8.mono (by omega)))
      clear b8
      go_wp2_with fail
      go_ret
      exact ⟨rfl, B.out⟩
    · have HV1 := Lib.hid hv1; clear hv1
      go_wp2_with fail
      refine (implValidKeys ys rfl (by omega) hc2 Y.out).mono ?_; rintro e w5 ⟨rfl, rfl⟩
      cases hv2 : vkB ys
      · go_wp2_with fail
        refine (specStaysOf xs ys rfl rfl (by omega) (by omega) hc1 hc2 X.out Y.out (by omega) (by omega)).mono ?_; rw [← OS.out]; rintro e w6 ⟨A7, c7, rfl, s7, b6⟩
        have z6 := b6.size
        have OUT := Lib.hid (OUT.out.below b6 (by omega))
        have B := Lib.hid (B.out.trans (b6.mono (by omega)))
        have W7 := Lib.hid s7
        clear s7 b6
        go_wp2_with fail
        refine (qb (equalInts os os rfl rfl (by omega) OUT.out.rd W7.out.rd)).mono ?_; rw [decide_eq_true (Eq.refl os)]; rintro e w8 ⟨rfl, b8⟩
        have B := Lib.hid (B.out.trans (b8.mono (by omega)))
        clear b8
        go_wp2_with fail
        go_ret
        exact ⟨rfl, B.out⟩
      · have HV2 := Lib.hid hv2; clear hv2
        have hos : os = staysF xs ys := by rw [OS.out]; unfold staysOfF; rw [HV1.out, HV2.out]; rfl
        have hn1 := (vkB_iff.1 HV1.out).1
        have hn2 := (vkB_iff.1 HV2.out).1
        have hra := staysF_rise xs ys
        have hrb := rise_of_sub hn2 _ (staysF_after xs ys)
        rw [← hos] at hra hrb
        have HRA := Lib.hid (List.pairwise_iff_getElem.1 hra)
        have HRB := Lib.hid (List.pairwise_iff_getElem.1 hrb)
        have HO := Lib.hid hos
        have HN1 := Lib.hid hn1
        clear hos hn1 hn2 hra hrb
        go_wp2_with fail
        go_loopw [6] (fun i wr => ∃ k : Nat, 1 ≤ k ∧ (k ≤ os.length ∨ k = 1) ∧ i = .int .i64 k ∧ SlI wr w1.heap.size w2.heap.size A3 c3 os ∧ RdI wr w1.heap.size A1 xs ∧ RdI wr w1.heap.size A2 ys ∧ Below w.heap.size w wr ∧ w2.heap.size ≤ wr.heap.size) (fun i _ => os.length - (intOf i).toNat)
        case atStart => exact ⟨1, Nat.le_refl _, .inr rfl, rfl, OUT.out, X.out, Y.out, B.out, by omega⟩
        case round =>
          obtain ⟨k, hk1, hk, rfl, ho, hx', hy', hb', hz'⟩ := hrel
          clear OUT X Y B
          have OUT := Lib.hid ho; clear ho
          have X := Lib.hid hx'; clear hx'
          have Y := Lib.hid hy'; clear hy'
          have B := Lib.hid hb'; clear hb'
          by_cases hlt : k < os.length
          · obtain ⟨j, hjk⟩ : ∃ j, k = j + 1 := ⟨k - 1, by omega⟩
            have hlj : j < os.length := by omega
            obtain ⟨ad, rfl, _, hc⟩ := OUT.out.rd.at_ hlt
            have hcell1 := hc k hlt
            have hcell2 := hc j hlj
            have ha := HRA.out j k hlj hlt (by omega)
            have hb := HRB.out j k hlj hlt (by omega)
            obtain ⟨x, hxk⟩ : ∃ x, os[k] = x := ⟨_, rfl⟩
            obtain ⟨y, hyk⟩ : ∃ y, os[j] = y := ⟨_, rfl⟩
            rw [hxk] at hcell1 ha hb
            rw [hyk] at hcell2 ha hb
            clear hc hxk hyk
            have q1 := fun m => quiet_left (n := m) (w := wr) (place (x := x) (c := c1) xs rfl (by omega) (X.out.drewN m))
            have q2 := fun m => quiet_left (n := m) (w := wr) (place (x := y) (c := c1) xs rfl (by omega) (X.out.drewN m))
            have q3 := fun m => quiet_left (n := m) (w := wr) (place (x := x) (c := c2) ys rfl (by omega) (Y.out.drewN m))
            have q4 := fun m => quiet_left (n := m) (w := wr) (place (x := y) (c := c2) ys rfl (by omega) (Y.out.drewN m))
            obtain ⟨p1, hp1⟩ : ∃ p, plc x xs = p := ⟨_, rfl⟩
            obtain ⟨p2, hp2⟩ : ∃ p, plc y xs = p := ⟨_, rfl⟩
            obtain ⟨p3, hp3⟩ : ∃ p, plc x ys = p := ⟨_, rfl⟩
            obtain ⟨p4, hp4⟩ : ∃ p, plc y ys = p := ⟨_, rfl⟩
            rw [hp1] at q1 ha
            rw [hp2] at q2 ha
            rw [hp3] at q3 hb
            rw [hp4] at q4 hb
            have Q1 := Lib.hid q1
            have Q2 := Lib.hid q2
            have Q3 := Lib.hid q3
            have Q4 := Lib.hid q4
            clear q1 q2 q3 q4 hp1 hp2 hp3 hp4
            have hna : ¬ p1 ≤ p2 := by omega
            have hnb : ¬ p3 ≤ p4 := by omega
            have hna' : decide (p1 ≤ p2) = false := decide_eq_false hna
            have hnb' : decide (p3 ≤ p4) = false := decide_eq_false hnb
            have hjw : IntKind.i64.wrap ((k : Int) - 1) = (j : Int) := by rw [show (k : Int) - 1 = j by omega]; exact IntWalk.i64_in _ (by omega)
            have hjw2 : ((k : Int) - 1) = (j : Int) := by omega
            have hj1 : (k : Int) < (os.length : Int) := by omega
            have hj2 : (j : Int) < (os.length : Int) := by omega
            clear hjk hk
            go_wp2_with fail
            go_quiet ((first | (go_at_call 31; with_reducible exact Q1.out _) | (go_at_call 31; with_reducible exact Q2.out _) | (go_at_call 31; with_reducible exact Q3.out _) | (go_at_call 31; with_reducible exact Q4.out _)))
            go_wp2_with fail
            go_roundw
            case rel => exact ⟨k + 1, by omega, .inl (by omega), by go_num, OUT.out.drewN _, X.out.drewN _, Y.out.drewN _, below_drewN B.out _, hz'⟩
            case measure => simp [intOf]; omega
          · go_wp2_with fail
            refine (within os xs rfl rfl (by omega) (by omega) OUT.out.rd X.out).mono ?_
            have hw : withinB os xs = true := withinB_iff.2 fun x hx => by rw [HO.out] at hx; exact staysF_in xs ys x hx
            rw [hw]
            rintro e w9 ⟨rfl, rfl⟩
            clear hw
            go_wp2_with fail
            refine (within os ys rfl rfl (by omega) (by omega) OUT.out.rd Y.out).mono ?_
            have hw : withinB os ys = true := withinB_iff.2 fun x hx => by rw [HO.out] at hx; exact (staysF_after xs ys).subset hx
            rw [hw]
            rintro e w9 ⟨rfl, rfl⟩
            clear hw
            go_wp2_with fail
            have hnn : staysOfF xs xs = xs := by
              unfold staysOfF
              rw [HV1.out]
              exact staysF_self HN1.out
            refine (implStaysOf xs xs rfl rfl (by omega) (by omega) hc1 hc1 X.out X.out (by omega) (by omega)).mono ?_; rw [hnn]; rintro e w10 ⟨A10, c10, rfl, s10, b10⟩
            have z10 := b10.size
            have B := Lib.hid (B.out.trans (b10.mono (by omega)))
            have X := Lib.hid (X.out.belowLe b10 (by omega))
            have O := Lib.hid s10
            clear s10 b10 hnn
            go_wp2_with fail
            refine (qb (equalInts xs xs rfl rfl (by omega) O.out.rd X.out)).mono ?_; rw [decide_eq_true (Eq.refl xs)]; rintro e w11 ⟨rfl, b11⟩
            have B := Lib.hid (B.out.trans (b11.mono (by omega)))
            clear b11
            go_wp2_with fail
            go_ret
            exact ⟨rfl, B.out⟩
  · go_enter Try.func8, Try.ntmps8
    go_wp2
    go_ret
    exact ⟨rfl, Below.refl _ _⟩
end Go.Proofs.Ytplgmieiclicoaa

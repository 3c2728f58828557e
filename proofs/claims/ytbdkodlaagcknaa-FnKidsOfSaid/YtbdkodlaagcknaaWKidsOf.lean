/-
  The walk of laws.FnKidsOf.
-/
import Derived.Test.YtbdkodlaagcknaaAboveLaw
import Derived.Test.YtbdkodlaagcknaaDrawO
import Derived.Test.YtbdkodlaagcknaaEqO
import Derived.Test.YtbdkodlaagcknaaAsc
namespace Go.Proofs.Ytbdkodlaagcknaa
open Go.RowKit

theorem kidsOf_le (os : List Own) (k : Int) (h : os.length ≤ 12) : (kidsOfF os k).length ≤ 14 := by
  unfold kidsOfF
  split
  · exact Nat.le_trans (selF_le _ _) (by omega)
  · simp
set_option maxRecDepth 100000 in
set_option maxHeartbeats 3200000 in
theorem walkFnKidsOf (A : Option Addr) (c : Nat) (bs : List Int) (w : World) (hr : Rd w w.heap.size A (bytes8 bs)) (hn : bs.length ≤ 9223372036854775807) (lc : bs.length ≤ c) (cm : c ≤ 9223372036854775807) (hx : ∀ x ∈ bs, (Lit.int .u8 x).wf = true) :
    Calls Try.prog 13 #[.slice A bs.length c] w fun e w' => e = .returned (.bool true) ∧ Below w.heap.size w w' := by
  by_cases hbig : bs.length ≤ 1048576
  case neg =>
    go_enter Try.func13, Try.ntmps13
    go_wp2
    go_ret
    exact ⟨rfl, Below.refl _ _⟩
  case pos =>
  have HR := Lib.hid hr; clear hr
  have HX := Lib.hid hx; clear hx
  go_enter Try.func13, Try.ntmps13
  go_wp2_with fail
  refine (drawKidsOf bs rfl lc cm HX.out HR.out).mono ?_; rintro e w1 ⟨A1, c1, os, k, rfl, ⟨hkl, hkh⟩, hsm, s1, b1⟩
  have hz1 := b1.size
  have hl12 := hsm.1.2
  have HM := Lib.hid (show ∀ o ∈ os, o.cl.length ≤ 1099511627776 ∧ o.cx.length ≤ 1099511627776 from fun o ho => by have := hsm.2 o ho; omega)
  have S1 := Lib.hid s1
  have B1 := Lib.hid b1
  clear s1 b1 HR HX hsm
  go_wp2_with fail
  refine (implKidsOf (c := c1) k os rfl (by omega) HM.out S1.out.rd (Nat.le_refl _)).mono ?_; rintro e w2 ⟨A2, c2, rfl, s2, b2⟩
  have hz2 := b2.size
  have SP := Lib.hid (fun (W : World) (hb : Below w1.heap.size w1 W) => specKidsOf (w := W) (c := c1) k os rfl (by omega) HM.out (S1.out.below hb (Nat.le_refl _)).rd hb.size)
  obtain ⟨xs, hxs⟩ : ∃ xs, kidsOfF os k = xs := ⟨_, rfl⟩
  have hxl : xs.length ≤ 14 := by rw [← hxs]; exact kidsOf_le os k hl12
  rw [hxs] at s2 SP ⊢
  have XS := Lib.hid hxs; clear hxs
  have S1 := Lib.hid (S1.out.below b2 (Nat.le_refl _))
  have S2 := Lib.hid (show SlI w2 w1.heap.size w2.heap.size A2 c2 xs from s2)
  have B2 := Lib.hid (B1.out.trans (b2.mono hz1))
  have SP2 := Lib.hid (SP.out w2 b2)
  have HB2 := Lib.hid b2
  clear s2 b2
  go_wp2_with fail
  refine SP2.out.mono ?_; rintro e w3 ⟨A3, c3, rfl, s3, b3⟩
  have hz3 := b3.size
  have S1 := Lib.hid (S1.out.below b3 (by omega))
  have S2 := Lib.hid (S2.out.below b3 (Nat.le_refl _))
  have S3 := Lib.hid (show SlI w3 w2.heap.size w3.heap.size A3 c3 xs from s3)
  have B3 := Lib.hid (B2.out.trans (b3.mono (by omega)))
  have HB3 := Lib.hid (HB2.out.trans (b3.mono hz2))
  clear s3 b3 SP2 B1 B2 HB2
  go_wp2_with fail
  refine (qb (equalInts (c := c2) (c' := c3) xs xs rfl rfl (by omega) S2.out.rd S3.out.rd)).mono ?_; rw [decide_eq_true (Eq.refl xs)]; rintro e w4 ⟨rfl, b4⟩
  have hz4 := b4.size
  have S1 := Lib.hid (S1.out.below b4 (by omega))
  have S2 := Lib.hid (S2.out.below b4 (by omega))
  have B4 := Lib.hid (B3.out.trans (b4.mono (by omega)))
  have HB4 := Lib.hid (HB3.out.trans (b4.mono (by omega)))
  have SP4 := Lib.hid (SP.out w4 HB4.out)
  have SPF := SP
  clear b4 S3 B3 HB3 SP SP4
  have VO := Lib.hid (implValidOwners (w := w4) (c := c1) os rfl (by omega) HM.out S1.out.rd (by omega))
  go_wp2_with fail
  refine VO.out.mono ?_; rintro e w5 ⟨rfl, b5⟩
  have hz5 := b5.size
  have S1 := Lib.hid (S1.out.below b5 (by omega))
  have S2 := Lib.hid (S2.out.below b5 (by omega))
  have B4 := Lib.hid (B4.out.trans (b5.mono (by omega)))
  have SP4 := Lib.hid (SPF.out w5 (HB4.out.trans (b5.mono (by omega))))
  clear b5 VO SPF HB4
  cases hv : voB os
  case false =>
    go_wp2_with fail
    refine SP4.out.mono ?_; rintro e w6 ⟨A5, c5, rfl, s5, b5⟩
    have z5 := b5.size
    have T2 := Lib.hid (S2.out.below b5 (by omega))
    have T5 := Lib.hid (show SlI w6 w5.heap.size w6.heap.size A5 c5 xs from s5)
    have C5 := Lib.hid (B4.out.trans (b5.mono (by omega)))
    clear s5 b5
    go_wp2_with fail
    refine (qb (equalInts (c := c2) (c' := c5) xs xs rfl rfl (by first | omega | simp) T2.out.rd T5.out.rd)).mono ?_; rw [decide_eq_true (Eq.refl _)]; rintro e w7 ⟨rfl, b6⟩
    have C6 := Lib.hid (C5.out.trans (b6.mono (by omega)))
    clear b6
    go_wp2_with fail
    go_ret
    exact ⟨rfl, C6.out⟩
  case true =>
  by_cases h1 : k < 0
  case pos =>
    go_wp2_with fail
    refine SP4.out.mono ?_; rintro e w6 ⟨A5, c5, rfl, s5, b5⟩
    have z5 := b5.size
    have T2 := Lib.hid (S2.out.below b5 (by omega))
    have T5 := Lib.hid (show SlI w6 w5.heap.size w6.heap.size A5 c5 xs from s5)
    have C5 := Lib.hid (B4.out.trans (b5.mono (by omega)))
    clear s5 b5
    go_wp2_with fail
    refine (qb (equalInts (c := c2) (c' := c5) xs xs rfl rfl (by first | omega | simp) T2.out.rd T5.out.rd)).mono ?_; rw [decide_eq_true (Eq.refl _)]; rintro e w7 ⟨rfl, b6⟩
    have C6 := Lib.hid (C5.out.trans (b6.mono (by omega)))
    clear b6
    go_wp2_with fail
    go_ret
    exact ⟨rfl, C6.out⟩
  by_cases h2 : (os.length : Int) ≤ k
  case pos =>
    go_wp2_with fail
    refine SP4.out.mono ?_; rintro e w6 ⟨A5, c5, rfl, s5, b5⟩
    have z5 := b5.size
    have T2 := Lib.hid (S2.out.below b5 (by omega))
    have T5 := Lib.hid (show SlI w6 w5.heap.size w6.heap.size A5 c5 xs from s5)
    have C5 := Lib.hid (B4.out.trans (b5.mono (by omega)))
    clear s5 b5
    go_wp2_with fail
    refine (qb (equalInts (c := c2) (c' := c5) xs xs rfl rfl (by first | omega | simp) T2.out.rd T5.out.rd)).mono ?_; rw [decide_eq_true (Eq.refl _)]; rintro e w7 ⟨rfl, b6⟩
    have C6 := Lib.hid (C5.out.trans (b6.mono (by omega)))
    clear b6
    go_wp2_with fail
    go_ret
    exact ⟨rfl, C6.out⟩
  obtain ⟨P, rfl⟩ := Int.eq_ofNat_of_zero_le (show 0 ≤ k by omega)
  have hP : P < os.length := by omega
  have hxe : xs = kidsF os (P : Int) := by rw [← XS.out]; unfold kidsOfF; rw [if_pos (ofB_iff.2 ⟨hv, by omega, by omega⟩)]
  have HIN := Lib.hid (fun (i : Nat) (hi : i < os.length) => (show memB (i : Int) xs = (os[i].op && (os[i].p == (P : Int))) from by
    unfold memB
    rw [hxe, Bool.eq_iff_iff, decide_eq_true_eq]
    unfold kidsF
    rw [mem_selF]
    constructor
    · rintro ⟨i', h5, h6, h7⟩
      have e : i = i' := by omega
      subst e
      rwa [kidB_at hi] at h6
    · intro h; exact ⟨i, hi, by rw [kidB_at hi]; exact h, rfl⟩))
  have HASC := Lib.hid (show xs.Pairwise (· < ·) from by rw [hxe]; exact selF_asc _ _)
  have HCLO := Lib.hid (fun (h : os[P].op = false) => (show xs = [] from by
    rw [hxe]
    unfold kidsF
    refine selF_none fun i hi => ?_
    rw [kidB_at hi, Bool.and_eq_false_iff, beq_eq_false_iff_ne]
    by_cases hp : os[i].p = (P : Int)
    · left
      exact (shutty_of_vo hv).2 i P _ _ (List.getElem?_eq_getElem hi) hp (List.getElem?_eq_getElem hP) h
    · exact .inr hp))
  clear hxe hv SP4 XS
  go_wp2_with fail
  go_loopw [6] (fun i wr => ∃ j d : Nat, j ≤ os.length ∧ i = .int .i64 j ∧ wr = w5.drewN d) (fun i _ => os.length - (intOf i).toNat)
  case atStart => exact ⟨0, 0, Nat.zero_le _, rfl, rfl⟩
  case round =>
    obtain ⟨j, d, hj, rfl, rfl⟩ := hrel
    by_cases hlt : j < os.length
    · obtain ⟨g, o, hd, rfl, _, ⟨c0, c1', _, _⟩, _⟩ := S1.out.rd.at_ hlt
      have hin := HIN.out j hlt
      obtain ⟨x, hx⟩ : ∃ x, os[j] = x := ⟨_, rfl⟩
      rw [hx] at c0 c1' hin
      obtain ⟨p, op, cl, cx⟩ := x
      simp only at c0 c1' hin
      have q1 := fun m => quiet_left (n := m) (w := w5.drewN d) (isIn (x := (j : Int)) (c := c2) xs rfl (by omega) (S2.out.rd.drewN d |>.drewN m))
      rw [hin] at q1
      simp only [World.drewN_drewN] at q1
      have Q1 := Lib.hid q1
      clear q1 hin hx
      cases hop : op
      · subst hop
        simp only [Bool.false_and] at Q1
        go_wp2_with fail
        go_quiet ((go_at_call 44; with_reducible exact Q1.out _))
        go_wp2_with fail
        go_roundw
        case rel => exact ⟨j + 1, _, by omega, by go_num, rfl⟩
        case measure => simp [intOf]; omega
      · subst hop
        simp only [Bool.true_and] at Q1
        obtain ⟨e, he⟩ : ∃ e, (p == (P : Int)) = e := ⟨_, rfl⟩
        rw [he] at Q1
        have hee : (e != e) = false := by simp
        go_wp2_with fail
        go_quiet ((go_at_call 44; with_reducible exact Q1.out _))
        go_wp2_with fail
        go_roundw
        case rel => exact ⟨j + 1, _, by omega, by go_num, rfl⟩
        case measure => simp [intOf]; omega
    · have AS := Lib.hid (ascends_yes (w := w5.drewN d) (c := c2) xs rfl (by omega) HASC.out (S2.out.rd.drewN d))
      obtain ⟨g, o, hd, rfl, _, ⟨_, c1', _, _⟩, _⟩ := S1.out.rd.at_ hP
      have hclo := HCLO.out
      obtain ⟨op, hop⟩ : ∃ op, os[P].op = op := ⟨_, rfl⟩
      rw [hop] at c1' hclo
      clear hop
      cases op
      · have hx0 : xs = [] := hclo rfl
        subst hx0
        clear hclo
        go_wp2_with fail
        refine AS.out.mono ?_; rintro e w7 ⟨d2, rfl, rfl⟩
        go_wp2_with fail
        go_ret
        exact ⟨rfl, below_drewN B4.out (d + d2)⟩
      · clear hclo
        go_wp2_with fail
        refine AS.out.mono ?_; rintro e w7 ⟨d2, rfl, rfl⟩
        go_wp2_with fail
        go_ret
        exact ⟨rfl, below_drewN B4.out (d + d2)⟩
end Go.Proofs.Ytbdkodlaagcknaa

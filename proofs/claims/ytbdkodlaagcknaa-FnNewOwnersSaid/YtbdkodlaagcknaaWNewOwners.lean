/-
  The walk of laws.FnNewOwners.
-/
import Derived.Test.YtbdkodlaagcknaaDrawNew
import Derived.Test.YtbdkodlaagcknaaEqO
import Derived.Test.YtbdkodlaagcknaaSetLaw
namespace Go.Proofs.Ytbdkodlaagcknaa
open Go.RowKit

theorem newO_laws {cx : List Int} (h : ctxB cx = true) : liveOfF [⟨-1, true, [], cx⟩] = [0] ∧ ∀ (k : Nat) (hk : k < cx.length), lookF [⟨-1, true, [], cx⟩] 0 (k : Int) = if 0 ≤ cx[k] then (cx[k], true) else (0, false) := by
  have hv := (vo_new h).2
  rw [(vo_new h).1] at hv
  refine ⟨by unfold liveOfF; rw [if_pos hv]; rfl, fun k hk => ?_⟩
  have h3 := (ctxB_iff.1 h).1
  have e := lookF_eq (i := 0) (K := k) hv (by simp) (by omega)
  have hc : ctxAt [⟨-1, true, [], cx⟩] ((0 : Nat) : Int) (k : Int) = cx[k] := by
    rw [ctxAt_get (i := 0) (x := ⟨-1, true, [], cx⟩) rfl, List.getD_eq_getElem?_getD, List.getElem?_eq_getElem hk]; rfl
  rw [show (0 : Int) = ((0 : Nat) : Int) from rfl, e]
  split
  · next h0 => rw [lookG_yes _ _ _ _ (by omega) (by rw [hc]; exact h0), hc]
  · next h0 => rw [lookG_no _ _ _ _ (by omega) (by rw [hc]; exact h0)]; rfl

set_option maxRecDepth 100000 in
set_option maxHeartbeats 3200000 in
theorem walkFnNewOwners (A : Option Addr) (c : Nat) (bs : List Int) (w : World) (hr : Rd w w.heap.size A (bytes8 bs)) (hn : bs.length ≤ 9223372036854775807) (lc : bs.length ≤ c) (cm : c ≤ 9223372036854775807) (hx : ∀ x ∈ bs, (Lit.int .u8 x).wf = true) :
    Calls Try.prog 4 #[.slice A bs.length c] w fun e w' => e = .returned (.bool true) ∧ Below w.heap.size w w' := by
  by_cases hbig : bs.length ≤ 1048576
  case neg =>
    go_enter Try.func4, Try.ntmps4
    go_wp2
    go_ret
    exact ⟨rfl, Below.refl _ _⟩
  case pos =>
  have HR := Lib.hid hr; clear hr
  have HX := Lib.hid hx; clear hx
  go_enter Try.func4, Try.ntmps4
  go_wp2_with fail
  refine (drawNewOwners bs rfl lc cm HX.out HR.out).mono ?_; rintro e w1 ⟨A1, c1, cx, rfl, hl3, s1, b1⟩
  have hz1 := b1.size
  have S1 := Lib.hid s1
  have B1 := Lib.hid b1
  clear s1 b1 HR HX
  go_wp2_with fail
  refine (implNewOwners (c := c1) cx rfl (by omega) S1.out.rd (Nat.le_refl _)).mono ?_; rintro e w2 ⟨A2, c2, rfl, s2, b2⟩
  have hz2 := b2.size
  obtain ⟨os, hos⟩ : ∃ os, newOF cx = os := ⟨_, rfl⟩
  have SP := Lib.hid (fun (W : World) (hb : Below w1.heap.size w1 W) => specNewOwners (w := W) (c := c1) cx rfl (by omega) (S1.out.below hb (Nat.le_refl _)).rd hb.size)
  rw [hos] at s2 SP ⊢
  have S2 := Lib.hid (show SlO w2 w1.heap.size w2.heap.size A2 c2 os from s2)
  have HB2 := Lib.hid b2
  have B2 := Lib.hid (B1.out.trans (b2.mono hz1))
  have SP2 := Lib.hid (SP.out w2 b2)
  clear s2 b2
  have HOS := Lib.hid hos
  have hsm : os.length ≤ 1 ∧ ∀ o ∈ os, o.cl.length ≤ 9223372036854775807 ∧ o.cx.length ≤ 9223372036854775807 := by
    rw [← hos]; unfold newOF; split <;> simp; omega
  have HSM := Lib.hid hsm
  have hol : os.length ≤ 1 := hsm.1
  clear hos hsm
  go_wp2_with fail
  refine SP2.out.mono ?_; rintro e w3 ⟨A3, c3, rfl, s3, b3⟩
  have hz3 := b3.size
  have X2 := Lib.hid (S2.out.below b3 (Nat.le_refl _))
  have X3 := Lib.hid (show SlO w3 w2.heap.size w3.heap.size A3 c3 os from s3)
  have HB3 := Lib.hid (HB2.out.trans (b3.mono hz2))
  have B3 := Lib.hid (B2.out.trans (b3.mono (by omega)))
  clear s3 b3 SP2 B2 HB2 S2
  go_wp2_with fail
  refine (sameOwners (c := c2) (c' := c3) os rfl (by omega) HSM.out.2 X2.out.rd X3.out.rd).mono ?_; rintro e w4 ⟨d, rfl, hw4⟩
  have z4 : w4.heap.size = w3.heap.size := by rw [hw4]; rfl
  have X2 := Lib.hid (show SlO w4 w1.heap.size w2.heap.size A2 c2 os from by rw [hw4]; exact X2.out.drewN d)
  have HB4 := Lib.hid (show Below w1.heap.size w1 w4 from by rw [hw4]; exact below_drewN HB3.out d)
  have B4 := Lib.hid (show Below w.heap.size w w4 from by rw [hw4]; exact below_drewN B3.out d)
  clear hw4 X3 B3 HB3
  cases hc : ctxB cx
  case false =>
    obtain rfl : os = [] := by rw [← HOS.out]; unfold newOF; rw [hc]; rfl
    have SP4 := Lib.hid (SP.out w4 HB4.out)
    clear SP
    go_wp2_with fail
    refine SP4.out.mono ?_; rintro e w5 ⟨A5, c5, rfl, s5, b5⟩
    have Y2 := Lib.hid (X2.out.below b5 (by omega))
    have Y5 := Lib.hid (show SlO w5 w4.heap.size w5.heap.size A5 c5 [] from s5)
    have B5 := Lib.hid (B4.out.trans (b5.mono (by omega)))
    clear s5 b5
    go_wp2_with fail
    refine (sameOwners (c := c2) (c' := c5) [] rfl (by simp) (by simp) Y2.out.rd Y5.out.rd).mono ?_; rintro e w6 ⟨d2, rfl, rfl⟩
    go_wp2_with fail
    go_ret
    exact ⟨rfl, below_drewN B5.out d2⟩
  case true =>
  obtain ⟨hnw, hnv⟩ := vo_new hc
  obtain ⟨hlv, hlk⟩ := newO_laws hc
  have hos := HOS.out
  rw [hnw] at hos hnv
  subst hos
  have HLV := Lib.hid hlv
  have HLK := Lib.hid hlk
  have HNV := Lib.hid hnv
  have HM := Lib.hid (vo_bd hnv).1
  clear hnw hlv hlk hnv SP HOS hol HSM hc
  go_wp2_with fail
  go_loopw [5] (fun i wr => ∃ j : Nat, j ≤ cx.length ∧ i = .int .i64 j ∧ Below w4.heap.size w4 wr) (fun i _ => cx.length - (intOf i).toNat)
  case atStart => exact ⟨0, Nat.zero_le _, rfl, Below.refl _ _⟩
  case round =>
    obtain ⟨j, hj, rfl, hb⟩ := hrel
    have hzb := hb.size
    have Y2 := Lib.hid (X2.out.below hb (by omega))
    have HB := Lib.hid hb
    clear hb
    by_cases hlt : j < cx.length
    · have LK := Lib.hid (implLookUp (w := wr) (c := c2) 0 (j : Int) [⟨-1, true, [], cx⟩] (n := 1) rfl (by omega) HM.out Y2.out.rd (by omega))
      rw [HLK.out j hlt] at LK
      have CX := Lib.hid (fun (W : World) (hb : Below wr.heap.size wr W) => ((S1.out.below HB4.out (Nat.le_refl _)).below HB.out (by have := HB4.out.size; omega)).below hb (by have := HB4.out.size; omega))
      obtain ⟨adk, rfl⟩ : ∃ adk, A1 = some adk := by obtain ⟨adk, h, _⟩ := S1.out.rd.at_ hlt; exact ⟨adk, h⟩
      have CC := Lib.hid (fun (W : World) (hb : Below wr.heap.size wr W) => (CX.out W hb).cellAt hlt rfl)
      obtain ⟨y, hy⟩ : ∃ y, cx[j] = y := ⟨_, rfl⟩
      rw [hy] at LK CC
      clear CX hy
      by_cases hy0 : 0 ≤ y
      · rw [if_pos hy0] at LK
        have hyy : (y != y) = false := by simp
        go_wp2_with fail
        refine LK.out.mono ?_; rintro e w6 ⟨rfl, b6⟩
        have cy := CC.out w6 b6
        have HB6 := Lib.hid (HB.out.trans (b6.mono (by omega)))
        clear b6 LK CC
        go_wp2_with fail
        go_roundw
        case rel => exact ⟨j + 1, by omega, by go_num, HB6.out⟩
        case measure => simp [intOf]; omega
      · rw [if_neg hy0] at LK
        go_wp2_with fail
        refine LK.out.mono ?_; rintro e w6 ⟨rfl, b6⟩
        have cy := CC.out w6 b6
        have HB6 := Lib.hid (HB.out.trans (b6.mono (by omega)))
        clear b6 LK CC
        go_wp2_with fail
        go_roundw
        case rel => exact ⟨j + 1, by omega, by go_num, HB6.out⟩
        case measure => simp [intOf]; omega
    · have VO := Lib.hid (implValidOwners (w := wr) (c := c2) [⟨-1, true, [], cx⟩] (n := 1) rfl (by omega) HM.out Y2.out.rd (by omega))
      rw [HNV.out] at VO
      have BF := Lib.hid (B4.out.trans (HB.out.mono (by omega)))
      go_wp2_with fail
      refine VO.out.mono ?_; rintro e w6 ⟨rfl, b6⟩
      have hz6 := b6.size
      have LV := Lib.hid (implLiveOf (w := w6) (c := c2) [⟨-1, true, [], cx⟩] (n := 1) rfl (by omega) HM.out (Y2.out.below b6 (by omega)).rd (by omega))
      rw [HLV.out] at LV
      have B6 := Lib.hid (BF.out.trans (b6.mono (by omega)))
      clear b6 VO BF
      go_wp2_with fail
      refine LV.out.mono ?_; rintro e w7 ⟨A7, c7, rfl, s7, b7⟩
      have hz7 := b7.size
      have T7 := Lib.hid ((show SlI w7 w6.heap.size w7.heap.size A7 c7 [0] from s7).alloc (.cells (ints [0]).toArray 3))
      have B7 := Lib.hid ((B6.out.trans (b7.mono (by omega))).alloc (by omega) (.cells (ints [0]).toArray 3))
      clear s7 b7 LV B6
      go_wp2_with fail
      refine (qb (equalInts (c := c7) (c' := 1) [0] [0] (n := 1) (n' := 1) rfl rfl (by omega) T7.out.rd (SlI.newAt (w := w7) w7.heap.size rfl [0] (lo := 0) (Nat.zero_le _)).rd)).mono ?_; rw [decide_eq_true (Eq.refl _)]; rintro e w8 ⟨rfl, b8⟩
      have B8 := Lib.hid (B7.out.trans (b8.mono (by simp; omega)))
      clear b8
      go_wp2_with fail
      go_ret
      exact ⟨rfl, B8.out⟩
end Go.Proofs.Ytbdkodlaagcknaa

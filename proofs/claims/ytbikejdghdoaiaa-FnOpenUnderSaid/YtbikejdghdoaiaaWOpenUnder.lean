/-
  The walk of laws.FnOpenUnder.
-/
import Derived.Test.YtbikejdghdoaiaaOpenLaw
import Derived.Test.YtbikejdghdoaiaaDrawO
import Derived.Test.YtbikejdghdoaiaaEqO
import Derived.Deep.RegionHeld3
import Derived.IntWalk
import Derived.Deep.DeepFit
import Derived.Deep.DrawnRows
namespace Go.Proofs.Ytbikejdghdoaiaa
open Go.RowKit
attribute [local go_sem ↓] Go.wp_at_zero Go.wp_at_succ

theorem aboveOf_le (os : List Own) (k : Int) (h : os.length ≤ 12) : (aboveOfF os k).length ≤ 14 := by
  unfold aboveOfF aboveF
  split
  · exact Nat.le_trans (aboveG_len _ _ _) (by omega)
  · simp
set_option maxRecDepth 100000 in
set_option maxHeartbeats 3200000 in
theorem walkFnOpenUnder (A : Option Addr) (c : Nat) (bs : List Int) (w : World) (hr : Rd w w.heap.size A (bytes8 bs)) (hn : bs.length ≤ 9223372036854775807) (lc : bs.length ≤ c) (cm : c ≤ 9223372036854775807) (hx : ∀ x ∈ bs, (Lit.int .u8 x).wf = true) :
    Calls Try.prog 7 #[.slice A bs.length c] w fun e w' => e = .returned (.bool true) ∧ Below w.heap.size w w' := by
  by_cases hbig : bs.length ≤ 1048576
  case neg =>
    go_enter Try.func7, Try.ntmps7
    go_wp2
    go_ret
    exact ⟨rfl, Below.refl _ _⟩
  case pos =>
  have HR := Lib.hid hr; clear hr
  have HX := Lib.hid hx; clear hx
  go_enter Try.func7, Try.ntmps7
  go_wp2_with fail
  refine (drawOpenUnder bs rfl lc cm HX.out HR.out).mono ?_; rintro e w1 ⟨A1, c1, os, k, rfl, hk, hsm, s1, b1⟩
  have hz1 := b1.size
  have hl12 := hsm.1.2
  have HM := Lib.hid (show ∀ o ∈ os, o.cl.length ≤ 1099511627776 ∧ o.cx.length ≤ 1099511627776 from fun o ho => by have := hsm.2 o ho; omega)
  have S1 := Lib.hid s1
  have B1 := Lib.hid b1
  have Hk := Lib.hid hk
  clear s1 b1 HR HX hsm hk
  go_wp2_with fail
  refine (implOpenUnder (c := c1) k os rfl (by omega) HM.out S1.out.rd (Nat.le_refl _)).mono ?_; rintro e w2 ⟨A2, c2, rfl, s2, b2⟩
  have hz2 := b2.size
  have SP := Lib.hid (fun (W : World) (hb : Below w1.heap.size w1 W) => specOpenUnder (w := W) (c := c1) k os rfl (by omega) HM.out (S1.out.below hb (Nat.le_refl _)).rd hb.size)
  obtain ⟨p, hp⟩ : ∃ p, openF os k = p := ⟨_, rfl⟩
  rw [hp] at s2 SP ⊢
  have HQ := Lib.hid hp; clear hp
  obtain ⟨os2, ok⟩ := p
  have S1 := Lib.hid (S1.out.below b2 (Nat.le_refl _))
  have S2 := Lib.hid (show SlO w2 w1.heap.size w2.heap.size A2 c2 os2 from s2)
  have B2 := Lib.hid (B1.out.trans (b2.mono hz1))
  have SP2 := Lib.hid (SP.out w2 b2)
  clear s2 b2 SP
  go_wp2_with fail
  refine SP2.out.mono ?_; rintro e w3 ⟨A3, c3, rfl, s3, b3⟩
  have hz3 := b3.size
  have S1 := Lib.hid (S1.out.below b3 (by omega))
  have S2 := Lib.hid (S2.out.below b3 (Nat.le_refl _))
  have S3 := Lib.hid (show SlO w3 w2.heap.size w3.heap.size A3 c3 os2 from s3)
  have B3 := Lib.hid (B2.out.trans (b3.mono (by omega)))
  clear s3 b3 SP2 B1 B2
  cases ok
  case false =>
    have he : os2 = [] := by have := openF_no (congrArg Prod.snd HQ.out); rw [HQ.out] at this; exact this
    subst he
    go_wp2_with fail
    refine (sameOwners (c := c2) (c' := c3) [] rfl (by simp) (by simp) S2.out.rd S3.out.rd).mono ?_; rintro e w4 ⟨d, rfl, rfl⟩
    go_wp2_with fail
    refine (sameOwners (c := c2) (c' := c3) [] rfl (by simp) (by simp) (S2.out.drewN d).rd (S3.out.drewN d).rd).mono ?_; rintro e w4 ⟨d2, rfl, rfl⟩
    go_wp2_with fail
    go_ret
    exact ⟨rfl, below_drewN B3.out (d + d2)⟩
  case true =>
  obtain ⟨P, rfl, hP, hl2, hvo, hvo2, hlk, ⟨kl, hkid⟩, hab⟩ := openF_law HQ.out
  have HM2 := Lib.hid (vo_bd hvo2).1
  have hl22 : os2.length ≤ 12 := (vo_lens hvo2).1.2
  have HL2 := Lib.hid hl2
  have HV2 := Lib.hid hvo2
  have HNE := Lib.hid (show aboveOfF os (P : Int) ≠ [] from by
    obtain ⟨l, h, _⟩ := aboveG_way hvo (os.length + 1) P hP (by omega)
    unfold aboveOfF; rw [if_pos (ofB_iff.2 ⟨hvo, by omega, by omega⟩)]; unfold aboveF; rw [h]; simp)
  have HLK := Lib.hid hlk
  have HKID := Lib.hid hkid
  have HAB := Lib.hid hab
  clear hvo hvo2 hlk hkid hab hl2
  go_wp2_with fail
  refine (sameOwners (c := c2) (c' := c3) os2 rfl (by omega) (fun o ho => by have := HM2.out o ho; omega) S2.out.rd S3.out.rd).mono ?_; rintro e w4 ⟨d, rfl, hw4⟩
  have z4 : w4.heap.size = w3.heap.size := by rw [hw4]; rfl
  have S1 := Lib.hid (show SlO w4 w.heap.size w1.heap.size A1 c1 os from by rw [hw4]; exact S1.out.drewN d)
  have S2 := Lib.hid (show SlO w4 w1.heap.size w2.heap.size A2 c2 os2 from by rw [hw4]; exact S2.out.drewN d)
  have B4 := Lib.hid (show Below w.heap.size w w4 from by rw [hw4]; exact below_drewN B3.out d)
  clear hw4 S3 B3
  go_wp2_with fail
  refine (implKidsOf (c := c2) (P : Int) os2 rfl (by omega) HM2.out S2.out.rd (by omega)).mono ?_; rintro e w5 ⟨A5, c5, rfl, s5, b5⟩
  have z5 := b5.size
  have hkl : kl.length ≤ 11 := by
    have h1 := congrArg List.length HKID.out
    have h2 : (kidsOfF os2 (P : Int)).length ≤ 12 := by
      unfold kidsOfF; split
      · exact Nat.le_trans (selF_le _ _) hl22
      · simp
    rw [h1] at h2; simp at h2; omega
  rw [HKID.out] at s5 ⊢
  have S1 := Lib.hid (S1.out.below b5 (by omega))
  have S2 := Lib.hid (S2.out.below b5 (by omega))
  have KS := Lib.hid (show SlI w5 w4.heap.size w5.heap.size A5 c5 (kl ++ [(os.length : Int)]) from s5)
  have B5 := Lib.hid (B4.out.trans (b5.mono (by omega)))
  clear s5 b5 B4
  go_wp2_with fail
  go_loopw [11] (fun i wr => ∃ j : Nat, j ≤ 3 ∧ i = .int .i64 j ∧ Below w5.heap.size w5 wr) (fun i _ => 3 - (intOf i).toNat)
  case atStart => exact ⟨0, Nat.zero_le _, rfl, Below.refl _ _⟩
  case round =>
    obtain ⟨j, hj, rfl, hb⟩ := hrel
    have hzb := hb.size
    have X1 := Lib.hid (S1.out.below hb (by omega))
    have X2 := Lib.hid (S2.out.below hb (by omega))
    have XK := Lib.hid (KS.out.below hb (by omega))
    have HB := Lib.hid hb
    clear hb
    by_cases hlt : j < 3
    · have LK := Lib.hid (implLookUp (w := wr) (c := c2) (os.length : Int) (j : Int) os2 rfl (by omega) HM2.out X2.out.rd (by omega))
      rw [HLK.out j hlt] at LK
      have LK2 := Lib.hid (fun (W : World) (hb : Below wr.heap.size wr W) => implLookUp (w := W) (c := c1) (P : Int) (j : Int) os rfl (by omega) HM.out (X1.out.below hb (by omega)).rd (by have := hb.size; omega))
      obtain ⟨q, hq⟩ : ∃ q, lookF os (P : Int) (j : Int) = q := ⟨_, rfl⟩
      rw [hq] at LK LK2
      obtain ⟨x, b⟩ := q
      have hxx : (x != x) = false := by simp
      have hbb : (b != b) = false := by simp
      clear hq
      go_wp2_with fail
      refine LK.out.mono ?_; rintro e w6 ⟨rfl, b6⟩
      have z6 := b6.size
      have LK3 := Lib.hid (LK2.out w6 b6)
      have HB6 := Lib.hid (HB.out.trans (b6.mono (by omega)))
      clear b6 LK LK2
      go_wp2_with fail
      refine LK3.out.mono ?_; rintro e w7 ⟨rfl, b7⟩
      have HB7 := Lib.hid (HB6.out.trans (b7.mono (by omega)))
      clear b7 LK3
      go_wp2_with fail
      go_roundw
      case rel => exact ⟨j + 1, by omega, by go_num, HB7.out⟩
      case measure => simp [intOf]; omega
    · obtain rfl : j = 3 := by omega
      have VOF := Lib.hid (fun (W : World) (hb : Below wr.heap.size wr W) => implValidOwners (w := W) (c := c2) os2 rfl (by omega) HM2.out (X2.out.below hb (by omega)).rd (by have := hb.size; omega))
      rw [HV2.out] at VOF
      have ABF := Lib.hid (fun (W : World) (hb : Below wr.heap.size wr W) => implAboveOf (w := W) (c := c2) (os.length : Int) os2 rfl (by omega) HM2.out (X2.out.below hb (by omega)).rd (by have := hb.size; omega))
      have ACF := Lib.hid (fun (W : World) (hb : Below wr.heap.size wr W) => implAboveOf (w := W) (c := c1) (P : Int) os rfl (by omega) HM.out (X1.out.below hb (by omega)).rd (by have := hb.size; omega))
      rw [HAB.out] at ABF
      have hal : (aboveOfF os (P : Int)).length ≤ 14 := aboveOf_le os _ hl12
      obtain ⟨ys, hys⟩ : ∃ ys, aboveOfF os (P : Int) = ys := ⟨_, rfl⟩
      have hyn := HNE.out
      rw [hys] at ABF ACF hal hyn
      have hal99 : ys.length ≤ 9223372036854775807 := by omega
      have hyq : (1 : Int) ≤ (ys.length : Int) + 1 := by omega
      have hyl : 0 < ys.length := List.length_pos_iff.2 hyn
      obtain ⟨adk, rfl⟩ : ∃ adk, A5 = some adk := by obtain ⟨adk, h, _⟩ := XK.out.rd.at_ (k := 0) (by simp); exact ⟨adk, h⟩
      have hadb : (adk.add kl.length).block < wr.heap.size := by obtain ⟨ad2, e2, hb2, _⟩ := XK.out.rd.at_ (k := 0) (by simp); injection e2 with e2; subst e2; rw [block_of_add]; omega
      have ck := XK.out.cellAt (k := kl.length) (p := (os.length : Int)) (by simp) (by simp)
      have BF := Lib.hid (B5.out.trans (HB.out.mono (by omega)))
      clear hys hyn HLK HKID HNE HV2
      have ew1 : IntKind.i64.wrap ((kl.length : Int) + 1 - 1) = (kl.length : Int) := by rw [show (kl.length : Int) + 1 - 1 = (kl.length : Int) by omega]; exact IntWalk.i64_in _ (by omega)
      have ew2 : IntKind.i64.wrap (kl.length : Int) = (kl.length : Int) := IntWalk.i64_in _ (by omega)
      have ew3 : (0 : Int) ≤ (kl.length : Int) := Int.natCast_nonneg _
      have ew4 : (kl.length : Int) < (kl.length : Int) + 1 := by omega
      have ew5 : kl.length < kl.length + 1 := by omega
      have ew6 : ((kl.length : Int)).toNat = kl.length := by omega
      have CUT := Lib.hid (fun (W : World) (lo hi c7 : Nat) (A7 : Option Addr) (s7 : SlI W lo hi A7 c7 ((os.length : Int) :: ys)) => (show ∃ ad7, A7 = some ad7 ∧ ((¬ c7 = 1 ∧ (1 : Int) ≤ (c7 : Int)) ∧ ((ys.length : Int) + 1 ≤ (c7 : Int) ∧ ys.length + 1 ≤ c7 ∧ 1 ≤ c7)) ∧ SlI W lo hi (some (ad7.add 1)) (c7 - 1) ys from by
        obtain ⟨ad, h, _⟩ := s7.rd.at_ (k := 0) (by simp)
        subst h
        have hle : ys.length + 1 ≤ c7 := s7.le
        have := s7.cut (l := 1) (h := ys.length + 1) (m := c7) (by omega) (by simp) hle (Nat.le_refl _)
        rw [if_neg (by omega)] at this
        refine ⟨ad, rfl, ⟨⟨by omega, by omega⟩, by omega, by omega, by omega⟩, ?_⟩
        simpa using this))
      go_wp2_with fail
      have hmx : Try.prog.follows .mixedOrders = true := by kernel_rfl
      go_region_held3 (fun w' => w'.cell? (adk.add kl.length) = some (.int .i64 (os.length : Int)))
        (first | go_keep | (exact (b7.cell (p := adk.add kl.length) hadb).trans ck))
        (first
        | (go_at_call 26; refine (VOF.out _ (Below.refl wr.heap.size wr).drew).mono ?_; rintro e w6 ⟨rfl, b6⟩; have b7 := (Below.refl wr.heap.size wr).drew.trans b6; clear b6)
        | (go_at_call 29; go_fit (ABF.out _ b7); rintro e w7 ⟨A7, c7, rfl, s7, b8⟩; obtain ⟨ad7, rfl, ⟨⟨hc71, hc72⟩, hc73, hc74, hc75⟩, t7⟩ := CUT.out _ _ _ _ _ s7; (try (have s8 := s8.below b8 (Nat.le_refl _))); have b7 := b7.trans (b8.mono b7.size); clear b8 s7)
        | (go_at_call 29; go_fit (ACF.out _ b7); rintro e w8 ⟨A8, c8, rfl, s8, b8⟩; (try (have t7 := t7.below b8 (Nat.le_refl _))); have b7 := b7.trans (b8.mono b7.size); clear b8)
        | (go_at_call 28; refine (qb (equalInts (c := c7 - 1) (c' := c8) ys ys rfl rfl hal99 t7.rd s8.rd)).mono ?_; rw [decide_eq_true (Eq.refl ys)]; rintro e w9 ⟨rfl, b9⟩; have b7 := b7.trans (b9.mono b7.size); clear b9))
      all_goals
        go_wp2_with fail
        go_ret
        exact ⟨rfl, BF.out.trans (b7.mono (by omega))⟩
end Go.Proofs.Ytbikejdghdoaiaa

/-
  The walk of laws.FnRerunOwner.
-/
import Derived.Test.YtnlbmiangbahgaaClearLaw
import Derived.Test.YtnlbmiangbahgaaDrawO
import Derived.Test.YtnlbmiangbahgaaEqO
import Derived.Test.YtnlbmiangbahgaaOwnJ
import Derived.Deep.RegionHeld3
import Derived.Deep.DrawnRows
namespace Go.Proofs.Ytnlbmiangbahgaa
open Go.RowKit
attribute [local go_sem ↓] Go.wp_at_zero Go.wp_at_succ

set_option maxRecDepth 100000 in
set_option maxHeartbeats 6400000 in
theorem walkFnRerunOwner (A : Option Addr) (c : Nat) (bs : List Int) (w : World) (hr : Rd w w.heap.size A (bytes8 bs)) (hn : bs.length ≤ 9223372036854775807) (lc : bs.length ≤ c) (cm : c ≤ 9223372036854775807) (hx : ∀ x ∈ bs, (Lit.int .u8 x).wf = true) :
    Calls Try.prog 5 #[.slice A bs.length c] w fun e w' => e = .returned (.bool true) ∧ Below w.heap.size w w' := by
  by_cases hbig : bs.length ≤ 1048576
  case neg =>
    go_enter Try.func5, Try.ntmps5
    go_wp2
    go_ret
    exact ⟨rfl, Below.refl _ _⟩
  case pos =>
  have HR := Lib.hid hr; clear hr
  have HX := Lib.hid hx; clear hx
  go_enter Try.func5, Try.ntmps5
  go_wp2_with fail
  refine (drawRerunOwner bs rfl lc cm HX.out HR.out).mono ?_; rintro e w1 ⟨A1, c1, os, k, rfl, hk, hsm, s1, b1⟩
  have hz1 := b1.size
  have hl12 := hsm.1.2
  have HM := Lib.hid (show ∀ o ∈ os, o.cl.length ≤ 1099511627776 ∧ o.cx.length ≤ 1099511627776 from fun o ho => by have := hsm.2 o ho; omega)
  have HT := Lib.hid (tot_small hsm)
  have S1 := Lib.hid s1
  have B1 := Lib.hid b1
  have Hk := Lib.hid hk
  clear s1 b1 HR HX hsm hk
  go_wp2_with fail
  refine (implRerunOwner (c := c1) k os rfl (by omega) (by have := HT.out; omega) HM.out S1.out.rd (Nat.le_refl _)).mono ?_; rintro e w2 ⟨A2, c2, A2', c2', m2, ⟨m2a, m2b⟩, rfl, s2, t2, b2⟩
  have hz2 := b2.size
  have SP := Lib.hid (fun (W : World) (hb : Below w1.heap.size w1 W) => specRerunOwner (w := W) (c := c1) k os rfl (by omega) (by have := HT.out; omega) HM.out (S1.out.below hb (Nat.le_refl _)).rd hb.size)
  have hpb := rerunF_bd os k (by have := HT.out; omega)
  obtain ⟨p, hp⟩ : ∃ p, rerunF os k = p := ⟨_, rfl⟩
  rw [hp] at s2 t2 SP hpb ⊢
  have HQ := Lib.hid hp; clear hp
  obtain ⟨os2, ls⟩ := p
  simp only at hpb
  obtain ⟨⟨hpb1, hpb2⟩, hpb3⟩ := hpb
  have HM2 := Lib.hid (show ∀ o ∈ os2, o.cl.length ≤ 1099511627776 ∧ o.cx.length ≤ 1099511627776 from fun o ho => by have := mem_tot ho; omega)
  have HM3 := Lib.hid (show ∀ o ∈ os2, o.cl.length ≤ 9223372036854775807 ∧ o.cx.length ≤ 9223372036854775807 from fun o ho => by have := mem_tot ho; omega)
  clear hpb2
  have S1 := Lib.hid (S1.out.below b2 (Nat.le_refl _))
  have S2 := Lib.hid (show SlO w2 w1.heap.size m2 A2 c2 os2 from s2)
  have T2 := Lib.hid (show SlI w2 m2 w2.heap.size A2' c2' ls from t2)
  have B2 := Lib.hid (B1.out.trans (b2.mono hz1))
  have SP2 := Lib.hid (SP.out w2 b2)
  clear s2 t2 b2 SP
  go_wp2_with fail
  refine SP2.out.mono ?_; rintro e w3 ⟨A3, c3, A3', c3', m3, ⟨m3a, m3b⟩, rfl, s3, t3, b3⟩
  have hz3 := b3.size
  have S1 := Lib.hid (S1.out.below b3 (by omega))
  have S2 := Lib.hid (S2.out.below b3 (by omega))
  have T2 := Lib.hid (T2.out.below b3 (by omega))
  have S3 := Lib.hid (show SlO w3 w2.heap.size m3 A3 c3 os2 from s3)
  have T3 := Lib.hid (show SlI w3 m3 w3.heap.size A3' c3' ls from t3)
  have B3 := Lib.hid (B2.out.trans (b3.mono (by omega)))
  clear s3 t3 b3 SP2 B1 B2
  by_cases hne : os2 = []
  case pos =>
    subst hne
    go_wp2_with fail
    refine (sameOwners (c := c2) (c' := c3) [] rfl (by simp) (by simp) S2.out.rd S3.out.rd).mono ?_; rintro e w4 ⟨d, rfl, rfl⟩
    go_wp2_with fail
    refine (qb (equalInts (c := c2') (c' := c3') ls ls rfl rfl (by omega) (T2.out.drewN d).rd (T3.out.drewN d).rd)).mono ?_; rw [decide_eq_true (Eq.refl ls)]; rintro e w5 ⟨rfl, b5⟩
    have B5 := Lib.hid (show Below w.heap.size w w5 from (below_drewN B3.out d).trans (b5.mono (by show w.heap.size ≤ w3.heap.size; omega)))
    have hz5 : w3.heap.size ≤ w5.heap.size := b5.size
    have S2 := Lib.hid ((S2.out.drewN d).below b5 (by show _ ≤ w3.heap.size; omega))
    have S3 := Lib.hid ((S3.out.drewN d).below b5 (by show _ ≤ w3.heap.size; omega))
    have T2 := Lib.hid ((T2.out.drewN d).below b5 (by show _ ≤ w3.heap.size; omega))
    have T3 := Lib.hid ((T3.out.drewN d).below b5 (by show _ ≤ w3.heap.size; omega))
    clear b5
    go_wp2_with fail
    refine (sameOwners (c := c2) (c' := c3) [] rfl (by simp) (by simp) S2.out.rd S3.out.rd).mono ?_; rintro e w6 ⟨d2, rfl, rfl⟩
    go_wp2_with fail
    refine (qb (equalInts (c := c2') (c' := c3') ls ls rfl rfl (by omega) (T2.out.drewN d2).rd (T3.out.drewN d2).rd)).mono ?_; rw [decide_eq_true (Eq.refl ls)]; rintro e w7 ⟨rfl, b7⟩
    have B7 := Lib.hid (show Below w.heap.size w w7 from (below_drewN B5.out d2).trans (b7.mono (by show w.heap.size ≤ w5.heap.size; omega)))
    clear b7
    go_wp2_with fail
    go_ret
    exact ⟨rfl, B7.out⟩
  case neg =>
  obtain ⟨P, rfl, ⟨hP, hl2⟩, hv, hv2, hop, hop2, hk0, hag, ⟨x, y, hx, hy, hyo, hcx⟩, hct⟩ := rerun_law HQ.out hne
  have HL2 := Lib.hid hl2
  have hl22 : os2.length ≤ 12 := by omega
  have hpos : ((os2.length : Int) == 0) = false := by rw [beq_eq_false_iff_ne]; omega
  have HV2 := Lib.hid hv2
  have HK0 := Lib.hid hk0
  have HAG := Lib.hid hag
  have hP2 : P < os2.length := by omega
  have HX := Lib.hid (show os[P] = x from by have := List.getElem?_eq_getElem hP; rw [hx] at this; injection this with this; exact this.symm)
  have HY := Lib.hid (show os2[P] = y from by have := List.getElem?_eq_getElem hP2; rw [hy] at this; injection this with this; exact this.symm)
  have HYO := Lib.hid hyo
  have HCX := Lib.hid hcx
  have HT2 := Lib.hid (show tot os2 ≤ 1048700 from by have := rerunF_bd os (P : Int) (by have := HT.out; omega); rw [HQ.out] at this; exact this.1.2)
  have HXL := Lib.hid (show x.cx.length = 3 from by rw [← HX.out]; exact ((vo_lens hv).2 _ (List.getElem_mem hP)).2)
  clear hv hv2 hop hop2 hk0 hag hx hy hyo hcx hct
  clear hl2 hne
  go_wp2_with fail
  refine (sameOwners (c := c2) (c' := c3) os2 rfl (by omega) HM3.out S2.out.rd S3.out.rd).mono ?_; rintro e w4 ⟨d, rfl, hw4⟩
  have z4 : w4.heap.size = w3.heap.size := by rw [hw4]; rfl
  have S1 := Lib.hid (show SlO w4 w.heap.size w1.heap.size A1 c1 os from by rw [hw4]; exact S1.out.drewN d)
  have S2 := Lib.hid (show SlO w4 w1.heap.size m2 A2 c2 os2 from by rw [hw4]; exact S2.out.drewN d)
  have T2 := Lib.hid (show SlI w4 m2 w2.heap.size A2' c2' ls from by rw [hw4]; exact T2.out.drewN d)
  have T3 := Lib.hid (show SlI w4 m3 w3.heap.size A3' c3' ls from by rw [hw4]; exact T3.out.drewN d)
  have B4 := Lib.hid (show Below w.heap.size w w4 from by rw [hw4]; exact below_drewN B3.out d)
  clear hw4 S3 B3
  go_wp2_with fail
  refine (qb (equalInts (c := c2') (c' := c3') ls ls rfl rfl (by omega) T2.out.rd T3.out.rd)).mono ?_; rw [decide_eq_true (Eq.refl ls)]; rintro e w5 ⟨rfl, b5⟩
  have z5 := b5.size
  have S1 := Lib.hid (S1.out.below b5 (by omega))
  have S2 := Lib.hid (S2.out.below b5 (by omega))
  have T2 := Lib.hid (T2.out.below b5 (by omega))
  have B5 := Lib.hid (B4.out.trans (b5.mono (by omega)))
  clear b5 T3 B4 HQ
  have AG := Lib.hid (implRerunOwner (w := w5) (c := c2) (P : Int) os2 rfl (by omega) HT2.out HM2.out S2.out.rd (by omega))
  rw [HAG.out] at AG
  go_wp2_with fail
  refine AG.out.mono ?_; rintro e w6 ⟨A6, c6, A6', c6', m6, ⟨m6a, m6b⟩, rfl, s6, t6, b6⟩
  have z6 := b6.size
  have S1 := Lib.hid (S1.out.below b6 (by omega))
  have S2 := Lib.hid (S2.out.below b6 (by omega))
  have S6 := Lib.hid (show SlO w6 w5.heap.size m6 A6 c6 os2 from s6)
  have B6 := Lib.hid (B5.out.trans (b6.mono (by omega)))
  clear s6 t6 b6 AG
  have VOF := Lib.hid (fun (W : World) (hb : Below w6.heap.size w6 W) => implValidOwners (w := W) (c := c2) os2 rfl (by omega) HM2.out (S2.out.below hb (by omega)).rd (by have := hb.size; omega))
  rw [HV2.out] at VOF
  have KOF := Lib.hid (fun (W : World) (hb : Below w6.heap.size w6 W) => implKidsOf (w := W) (c := c2) (P : Int) os2 rfl (by omega) HM2.out (S2.out.below hb (by omega)).rd (by have := hb.size; omega))
  rw [HK0.out] at KOF
  have EOF := Lib.hid (fun (W : World) (hb : Below w6.heap.size w6 W) => (sameOwners (w := W) (c := c6) (c' := c2) os2 rfl (by omega) HM3.out (S6.out.below hb (by omega)).rd (S2.out.below hb (by omega)).rd))
  have CELLS := Lib.hid (fun (W : World) (hb : Below w6.heap.size w6 W) => (show ∃ (g o g2 o2 : Nat) (hd hd2 : Hd), A1 = some ⟨g, o, none⟩ ∧ A2 = some ⟨g2, o2, none⟩ ∧ (g < w6.heap.size ∧ g2 < w6.heap.size) ∧
      W.cell? ⟨g, o + P * 4 + 3, none⟩ = some (.slice hd.cxA 3 hd.cxC) ∧ W.cell? ⟨g2, o2 + P * 4 + 1, none⟩ = some (.bool true) ∧ W.cell? ⟨g2, o2 + P * 4 + 3, none⟩ = some (.slice hd2.cxA 3 hd2.cxC) ∧ RdI W w1.heap.size hd.cxA x.cx ∧ RdI W m2 hd2.cxA x.cx from by
    obtain ⟨g, o, hd, hA, hgb, ⟨_, _, _, d3⟩, _, q2, _⟩ := (S1.out.below hb (by omega)).rd.at_ hP
    obtain ⟨g2, o2, hd2, hA2, hgb2, ⟨_, e1, _, e3⟩, _, q3, _⟩ := (S2.out.below hb (by omega)).rd.at_ (k := P) (by have := HL2.out; omega)
    rw [HX.out] at d3 q2
    rw [HY.out] at e1 e3 q3
    rw [HXL.out] at d3
    rw [HCX.out, HXL.out] at e3
    rw [HCX.out] at q3
    rw [HYO.out] at e1
    exact ⟨g, o, g2, o2, hd, hd2, hA, hA2, ⟨by omega, by omega⟩, d3, e1, e3, q2, q3⟩))
  obtain ⟨g, o, g2, o2, hd, hd2, rfl, rfl, ⟨hg, hg2⟩, k1, k2, k3, r1, r2⟩ := CELLS.out w6 (Below.refl _ _)
  have EQC := Lib.hid (fun (W : World) (hb : Below w6.heap.size w6 W) => qb (equalInts (w := W) (c := hd2.cxC) (c' := hd.cxC) x.cx x.cx rfl rfl (by rw [HXL.out]; omega) (r2.belowLe hb (by omega)) (r1.belowLe hb (by omega))))
  have hxl3 := HXL.out
  obtain ⟨cx, hcx⟩ : ∃ cx, x.cx = cx := ⟨_, rfl⟩
  simp only [hcx, decide_true] at EQC
  rw [hcx] at hxl3
  simp only [hxl3] at EQC
  have hP0 : (0 : Int) ≤ (P : Int) := Int.natCast_nonneg _
  have hP1 : (P : Int) < (os.length : Int) := by omega
  have hP2 : (P : Int) < (os2.length : Int) := by have := HL2.out; omega
  have BB := Lib.hid B6.out
  clear r1 r2 CELLS HL2 HV2 HK0 HAG HX HY HYO HCX HXL HT2 hcx hxl3 B5 HM HM2
  go_wp2_with fail
  have hmx : Try.prog.follows .mixedOrders = true := by kernel_rfl
  go_region_held3 (fun w' => w'.cell? ⟨g, o + P * 4 + 3, none⟩ = some (.slice hd.cxA 3 hd.cxC) ∧ w'.cell? ⟨g2, o2 + P * 4 + 1, none⟩ = some (.bool true) ∧ w'.cell? ⟨g2, o2 + P * 4 + 3, none⟩ = some (.slice hd2.cxA 3 hd2.cxC))
    (first | go_keep | (refine ⟨(b7.cell (p := ⟨g, _, none⟩) hg).trans k1, (b7.cell (p := ⟨g2, _, none⟩) hg2).trans k2, (b7.cell (p := ⟨g2, _, none⟩) hg2).trans k3⟩))
    (first
      | (go_at_call 14; refine (VOF.out _ (Below.refl w6.heap.size w6).drew).mono ?_; rintro e w7 ⟨rfl, b7'⟩; have b7 := (Below.refl w6.heap.size w6).drew.trans b7'; clear b7')
      | (go_at_call 19; refine (KOF.out _ b7).mono ?_; rintro e w8 ⟨A8, c8, rfl, s8, b8⟩; have b7 := b7.trans (b8.mono b7.size); clear b8 s8)
      | (go_at_call 12; refine (EOF.out _ b7).mono ?_; rintro e w9 ⟨d, rfl, rfl⟩; have b7 := below_drewN b7 d)
      | (go_at_call 15; refine (EQC.out _ b7).mono ?_; rintro e w10 ⟨rfl, b10⟩; have b7 := b7.trans (b10.mono b7.size); clear b10))
  go_wp2_with fail
  go_ret
  exact ⟨rfl, BB.out.trans (b7.mono (by omega))⟩
end Go.Proofs.Ytnlbmiangbahgaa


/-
  The walk of laws.FnSetContext.
-/
import Derived.Test.YtbikejdghdoaiaaSetLaw
import Derived.Test.YtbikejdghdoaiaaDrawO
import Derived.Test.YtbikejdghdoaiaaEqO
namespace Go.Proofs.Ytbikejdghdoaiaa
open Go.RowKit

set_option maxRecDepth 100000 in
set_option maxHeartbeats 3200000 in
theorem walkFnSetContext (A : Option Addr) (c : Nat) (bs : List Int) (w : World) (hr : Rd w w.heap.size A (bytes8 bs)) (hn : bs.length ≤ 9223372036854775807) (lc : bs.length ≤ c) (cm : c ≤ 9223372036854775807) (hx : ∀ x ∈ bs, (Lit.int .u8 x).wf = true) :
    Calls Try.prog 6 #[.slice A bs.length c] w fun e w' => e = .returned (.bool true) ∧ Below w.heap.size w w' := by
  by_cases hbig : bs.length ≤ 1048576
  case neg =>
    go_enter Try.func6, Try.ntmps6
    go_wp2
    go_ret
    exact ⟨rfl, Below.refl _ _⟩
  case pos =>
  have HR := Lib.hid hr; clear hr
  have HX := Lib.hid hx; clear hx
  go_enter Try.func6, Try.ntmps6
  go_wp2_with fail
  refine (drawSetContext bs rfl lc cm HX.out HR.out).mono ?_; rintro e w1 ⟨A1, c1, os, k, u, v, rfl, hk, hu, hv, hsm, s1, b1⟩
  have hz1 := b1.size
  have hl12 := hsm.1.2
  have HM := Lib.hid (show ∀ o ∈ os, o.cl.length ≤ 1099511627776 ∧ o.cx.length ≤ 1099511627776 from fun o ho => by have := hsm.2 o ho; omega)
  have S1 := Lib.hid s1
  have B1 := Lib.hid b1
  have Hk := Lib.hid hk
  have Hu := Lib.hid hu
  have Hv := Lib.hid hv
  clear s1 b1 HR HX hsm hk hu hv
  go_wp2_with fail
  refine (implSetContext (c := c1) k u v os rfl (by omega) HM.out S1.out.rd (Nat.le_refl _)).mono ?_; rintro e w2 ⟨A2, c2, rfl, s2, b2⟩
  have hz2 := b2.size
  have SP := Lib.hid (fun (W : World) (hb : Below w1.heap.size w1 W) => specSetContext (w := W) (c := c1) k u v os rfl (by omega) HM.out (S1.out.below hb (Nat.le_refl _)).rd hb.size)
  obtain ⟨p, hp⟩ : ∃ p, setF os k u v = p := ⟨_, rfl⟩
  rw [hp] at s2 SP ⊢
  have HQ := Lib.hid hp; clear hp
  obtain ⟨os2, ok⟩ := p
  have S1 := Lib.hid (S1.out.below b2 (Nat.le_refl _))
  have S2 := Lib.hid (show SlO w2 w1.heap.size w2.heap.size A2 c2 os2 from s2)
  have B2 := Lib.hid (B1.out.trans (b2.mono hz1))
  have SP2 := Lib.hid (SP.out w2 b2)
  clear s2 b2 SP
  go_wp2_with fail
  refine SP2.out.mono ?_; rintro e w3 ⟨A3, c3, rfl, s3, b3⟩
  have hz3 := b3.size
  have S1 := Lib.hid (S1.out.below b3 (by omega))
  have S2 := Lib.hid (S2.out.below b3 (Nat.le_refl _))
  have S3 := Lib.hid (show SlO w3 w2.heap.size w3.heap.size A3 c3 os2 from s3)
  have B3 := Lib.hid (B2.out.trans (b3.mono (by omega)))
  clear s3 b3 SP2 B1 B2
  cases ok
  case false =>
    have he : os2 = [] := by have := setF_no (congrArg Prod.snd HQ.out); rw [HQ.out] at this; exact this
    subst he
    go_wp2_with fail
    refine (sameOwners (c := c2) (c' := c3) [] rfl (by simp) (by simp) S2.out.rd S3.out.rd).mono ?_; rintro e w4 ⟨d, rfl, rfl⟩
    go_wp2_with fail
    refine (sameOwners (c := c2) (c' := c3) [] rfl (by simp) (by simp) (S2.out.drewN d).rd (S3.out.drewN d).rd).mono ?_; rintro e w4 ⟨d2, rfl, rfl⟩
    go_wp2_with fail
    go_ret
    exact ⟨rfl, below_drewN B3.out (d + d2)⟩
  case true =>
  obtain ⟨P, K, ⟨rfl, rfl⟩, ⟨hK3, hP⟩, hl2, hvo, hvo2, hlk, hkid⟩ := setF_kids HQ.out
  have HM2 := Lib.hid (vo_bd hvo2).1
  have hl22 : os2.length ≤ 12 := by omega
  have HL2 := Lib.hid hl2
  clear hl2
  have HV2 := Lib.hid hvo2
  have HLK := Lib.hid hlk
  have HKID := Lib.hid hkid
  have HCXL := Lib.hid (fun (x : Own) (hx : x ∈ os) => ((vo_lens hvo).2 x hx).2)
  have hv0 : (0 : Int) ≤ v ∨ True := .inr trivial
  clear hvo hvo2 hlk hkid hv0
  go_wp2_with fail
  refine (sameOwners (c := c2) (c' := c3) os2 rfl (by omega) (fun o ho => by have := HM2.out o ho; omega) S2.out.rd S3.out.rd).mono ?_; rintro e w4 ⟨d, rfl, hw4⟩
  have z4 : w4.heap.size = w3.heap.size := by rw [hw4]; rfl
  have S1 := Lib.hid (show SlO w4 w.heap.size w1.heap.size A1 c1 os from by rw [hw4]; exact S1.out.drewN d)
  have S2 := Lib.hid (show SlO w4 w1.heap.size w2.heap.size A2 c2 os2 from by rw [hw4]; exact S2.out.drewN d)
  have B4 := Lib.hid (show Below w.heap.size w w4 from by rw [hw4]; exact below_drewN B3.out d)
  clear hw4 S3 B3
  go_wp2_with fail
  refine (implKidsOf (c := c2) (P : Int) os2 rfl (by omega) HM2.out S2.out.rd (by omega)).mono ?_; rintro e w5 ⟨A5, c5, rfl, s5, b5⟩
  have z5 := b5.size
  obtain ⟨ks, hks⟩ : ∃ ks, kidsOfF os2 (P : Int) = ks := ⟨_, rfl⟩
  rw [hks] at s5 HKID ⊢
  have hkl : ks.length ≤ 12 := by
    rw [← hks]; unfold kidsOfF; split
    · exact Nat.le_trans (selF_le _ _) (by omega)
    · simp
  have S1 := Lib.hid (S1.out.below b5 (by omega))
  have S2 := Lib.hid (S2.out.below b5 (by omega))
  have KS := Lib.hid (show SlI w5 w4.heap.size w5.heap.size A5 c5 ks from s5)
  have B5 := Lib.hid (B4.out.trans (b5.mono (by omega)))
  clear s5 b5 hks B4
  go_wp2_with fail
  go_loopw [12] (fun i wr => ∃ j : Nat, j ≤ ks.length ∧ i = .int .i64 j ∧ Below w5.heap.size w5 wr) (fun i _ => ks.length - (intOf i).toNat)
  case atStart => exact ⟨0, Nat.zero_le _, rfl, Below.refl _ _⟩
  case round =>
    obtain ⟨j, hj, rfl, hb⟩ := hrel
    have hzb := hb.size
    have X1 := Lib.hid (S1.out.below hb (by omega))
    have X2 := Lib.hid (S2.out.below hb (by omega))
    have XK := Lib.hid (KS.out.below hb (by omega))
    have HB := Lib.hid hb
    clear hb
    by_cases hlt : j < ks.length
    · obtain ⟨i, x, hi, hx, hfn, hval⟩ := HKID.out ks[j] (List.getElem_mem hlt)
      obtain ⟨adk, rfl⟩ : ∃ adk, A5 = some adk := by obtain ⟨adk, h, _⟩ := XK.out.rd.at_ hlt; exact ⟨adk, h⟩
      have ck := XK.out.cellAt hlt hi
      have LK := Lib.hid (implLookUp (w := wr) (c := c2) (i : Int) (K : Int) os2 rfl (by omega) HM2.out X2.out.rd (by omega))
      obtain ⟨q, hq⟩ : ∃ q, lookF os2 (i : Int) (K : Int) = q := ⟨_, rfl⟩
      rw [hq] at LK hfn hval
      obtain ⟨qv, qb⟩ := q
      simp only at hfn hval
      subst hfn
      have hio : i < os.length := (List.getElem?_eq_some_iff.1 hx).1
      have hxi : os[i] = x := by have := List.getElem?_eq_getElem hio; rw [hx] at this; injection this with this; exact this.symm
      have HXI := Lib.hid hxi
      have hxl : x.cx.length = 3 := by rw [← hxi]; exact HCXL.out _ (List.getElem_mem hio)
      obtain ⟨y, hy⟩ : ∃ y, x.cx[K]'(by omega) = y := ⟨_, rfl⟩
      have hval' : y < 0 → qv = v := fun h => hval (by rw [List.getD_eq_getElem?_getD, List.getElem?_eq_getElem (by omega), Option.getD_some, hy]; exact h)
      have HVAL := Lib.hid hval'
      have HCELL := Lib.hid (fun (W : World) (hb : Below wr.heap.size wr W) => (show ∃ (g o : Nat) (hd : Hd) (ac : Addr), A1 = some ⟨g, o, none⟩ ∧ W.cell? ⟨g, o + i * 4 + 3, none⟩ = some (.slice (some ac) 3 hd.cxC) ∧ W.cell? (ac.add K) = some (.int .i64 y) from by
        obtain ⟨g, o, hd, hA, _, ⟨_, _, _, c3⟩, _, q2, _⟩ := (X1.out.below hb (by omega)).rd.at_ hio
        rw [hxi] at c3 q2
        obtain ⟨ac, ha, _, hcc⟩ := q2.at_ (k := K) (by omega)
        have := hcc K (by omega)
        rw [hy] at this
        rw [ha, hxl] at c3
        exact ⟨g, o, hd, ac, hA, c3, this⟩))
      obtain ⟨g, o, _, _, rfl, _, _⟩ := HCELL.out wr (Below.refl _ _)
      clear hval hval' hq hx hxi hxl hy hi
      go_wp2_with fail
      refine LK.out.mono ?_; rintro e w6 ⟨rfl, b6⟩
      obtain ⟨g', o', hd, ac, hA, c3, cy⟩ := HCELL.out w6 b6
      simp only [Option.some.injEq, Addr.mk.injEq, and_true] at hA
      obtain ⟨rfl, rfl⟩ := hA
      have ck6 := (XK.out.below b6 (by omega)).cellAt hlt (show ks[j] = (i : Int) from by have := XK.out.cellAt hlt rfl; rw [ck] at this; injection this with this; injection this with _ this; exact this.symm)
      have HB6 := Lib.hid (HB.out.trans (b6.mono (by omega)))
      have hij : (0 : Int) ≤ (i : Int) := Int.natCast_nonneg _
      clear b6 LK HCELL ck
      by_cases hyn : y < 0
      · obtain rfl : qv = v := HVAL.out hyn
        have hne : (qv != qv) = false := by simp
        go_wp2_with fail
        go_roundw
        case rel => exact ⟨j + 1, by omega, by go_num, HB6.out⟩
        case measure => simp [intOf]; omega
      · go_wp2_with fail
        go_roundw
        case rel => exact ⟨j + 1, by omega, by go_num, HB6.out⟩
        case measure => simp [intOf]; omega
    · have LK := Lib.hid (implLookUp (w := wr) (c := c2) (P : Int) (K : Int) os2 rfl (by omega) HM2.out X2.out.rd (by omega))
      rw [HLK.out] at LK
      go_wp2_with fail
      refine LK.out.mono ?_; rintro e w6 ⟨rfl, b6⟩
      have hvv : (v == v) = true := by simp
      have VO := Lib.hid (implValidOwners (w := w6) (c := c2) os2 rfl (by omega) HM2.out (X2.out.below b6 (by omega)).rd (by have := b6.size; omega))
      rw [HV2.out] at VO
      have HB6 := Lib.hid (B5.out.trans ((HB.out.trans (b6.mono (by omega))).mono (by omega)))
      have z6 := b6.size
      clear b6 LK
      go_wp2_with fail
      refine VO.out.mono ?_; rintro e w7 ⟨rfl, b7⟩
      have HF := Lib.hid (HB6.out.trans (b7.mono (by omega)))
      clear b7
      go_wp2_with fail
      go_ret
      exact ⟨rfl, HF.out⟩
end Go.Proofs.Ytbikejdghdoaiaa

/-
  The walk of laws.FnValidOwners.
-/
import Derived.Test.YtnlbmiangbahgaaClearLaw
import Derived.Test.YtnlbmiangbahgaaDrawO
import Derived.Test.YtnlbmiangbahgaaEqO
import Derived.Test.YtnlbmiangbahgaaOwnJ
namespace Go.Proofs.Ytnlbmiangbahgaa
open Go.RowKit

set_option maxRecDepth 100000 in
set_option maxHeartbeats 3200000 in
theorem walkFnValidOwners (A : Option Addr) (c : Nat) (bs : List Int) (w : World) (hr : Rd w w.heap.size A (bytes8 bs)) (hn : bs.length ≤ 9223372036854775807) (lc : bs.length ≤ c) (cm : c ≤ 9223372036854775807) (hx : ∀ x ∈ bs, (Lit.int .u8 x).wf = true) :
    Calls Try.prog 8 #[.slice A bs.length c] w fun e w' => e = .returned (.bool true) ∧ Below w.heap.size w w' := by
  by_cases hbig : bs.length ≤ 1048576
  case neg =>
    go_enter Try.func8, Try.ntmps8
    go_wp2
    go_ret
    exact ⟨rfl, Below.refl _ _⟩
  case pos =>
  have HR := Lib.hid hr; clear hr
  have HX := Lib.hid hx; clear hx
  go_enter Try.func8, Try.ntmps8
  go_wp2_with fail
  refine (drawValidOwners bs rfl lc cm HX.out HR.out).mono ?_; rintro e w1 ⟨A1, c1, os, rfl, hsm, s1, b1⟩
  have hz1 := b1.size
  have hl12 := hsm.1.2
  have HM := Lib.hid (show ∀ o ∈ os, o.cl.length ≤ 1099511627776 ∧ o.cx.length ≤ 1099511627776 from fun o ho => by have := hsm.2 o ho; omega)
  have HT := Lib.hid (tot_small hsm)
  have S1 := Lib.hid s1
  have B1 := Lib.hid b1
  clear s1 b1 HR HX hsm
  go_wp2_with fail
  refine (implValidOwners (c := c1) os rfl (by omega) HM.out S1.out.rd (Nat.le_refl _)).mono ?_; rintro e w2 ⟨rfl, b2⟩
  have hz2 := b2.size
  have S1 := Lib.hid (S1.out.below b2 (Nat.le_refl _))
  have B2 := Lib.hid (B1.out.trans (b2.mono hz1))
  clear b2 B1
  obtain ⟨v, hv⟩ : ∃ v, voB os = v := ⟨_, rfl⟩
  have SP := Lib.hid (fun (W : World) (hb : Below w2.heap.size w2 W) => specValidOwners (w := W) (c := c1) os rfl (by omega) HM.out (S1.out.below hb (by omega)).rd (by have := hb.size; omega))
  rw [hv] at SP ⊢
  have hvv : (v != v) = false := by simp
  have hvw : (v == v) = true := by simp
  have HV := Lib.hid hv; clear hv
  have SP2 := Lib.hid (SP.out w2 (Below.refl _ _))
  go_wp2_with fail
  refine SP2.out.mono ?_; rintro e w3 ⟨rfl, b3⟩
  have hz3 := b3.size
  have SP3 := Lib.hid (SP.out w3 b3)
  have S1 := Lib.hid (S1.out.below b3 (by omega))
  have B3 := Lib.hid (B2.out.trans (b3.mono (by omega)))
  clear b3 SP SP2 B2
  cases v
  case false =>
    go_wp2_with fail
    refine SP3.out.mono ?_; rintro e w4 ⟨rfl, b4⟩
    have B4 := Lib.hid (B3.out.trans (b4.mono (by omega)))
    clear b4
    go_wp2_with fail
    go_ret
    exact ⟨rfl, B4.out⟩
  case true =>
  clear SP3 hvv hvw
  go_wp2_with fail
  go_loopw [5] (fun i wr => ∃ j : Nat, (1 ≤ j ∧ j ≤ os.length) ∧ i = .int .i64 j ∧ Below w3.heap.size w3 wr) (fun i _ => os.length - (intOf i).toNat)
  case atStart => exact ⟨1, ⟨Nat.le_refl _, (vo_lens HV.out).1.1⟩, rfl, Below.refl _ _⟩
  case round =>
    obtain ⟨j, ⟨hj1, hj⟩, rfl, hb⟩ := hrel
    have hzb := hb.size
    have X1 := Lib.hid (S1.out.below hb (by omega))
    have HB := Lib.hid hb
    clear hb
    by_cases hlt : j < os.length
    · have HCELL := Lib.hid (fun (W : World) (hb : Below wr.heap.size wr W) => (show ∃ (g o : Nat), A1 = some ⟨g, o, none⟩ ∧ W.cell? ⟨g, o + j * 4 + 1, none⟩ = some (.bool (opAt os (j : Int))) from by
        obtain ⟨g, o, hd, hA, _, ⟨_, c1', _, _⟩, _⟩ := (X1.out.below hb (by omega)).rd.at_ hlt
        exact ⟨g, o, hA, by rw [opAt_eq hlt]; exact c1'⟩))
      obtain ⟨g, o, rfl, _⟩ := HCELL.out wr (Below.refl _ _)
      have DS := Lib.hid (implDisposeOwner (w := wr) (c := c1) (j : Int) os rfl (by omega) (by have := HT.out; omega) HM.out X1.out.rd (by omega))
      have HVD := Lib.hid (fun (h : opAt os (j : Int) = true) => (show voB (dispF os (j : Int)).1 = true from
        vo_dispF (opB_iff.2 ⟨HV.out, by omega, by omega, h⟩) (by omega)))
      have hdl := dispF_bd os (j : Int) (by have := HT.out; omega)
      obtain ⟨p, hp⟩ : ∃ p, dispF os (j : Int) = p := ⟨_, rfl⟩
      rw [hp] at DS HVD hdl
      obtain ⟨os2, ls⟩ := p
      simp only at HVD hdl
      obtain ⟨⟨hdl1, hdl2⟩, _⟩ := hdl
      have HM2 := Lib.hid (show ∀ o ∈ os2, o.cl.length ≤ 1099511627776 ∧ o.cx.length ≤ 1099511627776 from fun o ho => by have := mem_tot ho; omega)
      have hj0 : (0 : Int) ≤ (j : Int) := Int.natCast_nonneg _
      clear hp
      go_wp2_with fail
      refine DS.out.mono ?_; rintro e w4 ⟨A4, c4, A4', c4', m4, ⟨m4a, m4b⟩, rfl, s4, t4, b4⟩
      have hz4 := b4.size
      have VO := Lib.hid (implValidOwners (w := w4) (c := c4) os2 rfl (by omega) HM2.out (show SlO w4 wr.heap.size m4 A4 c4 os2 from s4).rd (by omega))
      obtain ⟨g', o', hA, ck⟩ := HCELL.out w4 b4
      simp only [Option.some.injEq, Addr.mk.injEq, and_true] at hA
      obtain ⟨rfl, rfl⟩ := hA
      have HB4 := Lib.hid (HB.out.trans (b4.mono (by omega)))
      clear s4 t4 b4 DS HCELL hdl2 m4a m4b
      obtain ⟨q, hq⟩ : ∃ q, opAt os (j : Int) = q := ⟨_, rfl⟩
      rw [hq] at ck HVD
      clear hq
      dsimp only
      cases q
      case false =>
        clear VO HVD
        go_wp2_with fail
        go_roundw
        case rel => exact ⟨j + 1, by omega, by go_num, HB4.out⟩
        case measure => simp [intOf]; omega
      case true =>
        rw [HVD.out rfl] at VO
        go_wp2_with fail
        refine VO.out.mono ?_; rintro e w5 ⟨rfl, b5⟩
        have HB5 := Lib.hid (HB4.out.trans (b5.mono (by omega)))
        clear b5
        go_wp2_with fail
        go_roundw
        case rel => exact ⟨j + 1, by omega, by go_num, HB5.out⟩
        case measure => simp [intOf]; omega
    · have HBF := Lib.hid (B3.out.trans (HB.out.mono (by omega)))
      go_wp2_with fail
      go_ret
      exact ⟨rfl, HBF.out⟩
end Go.Proofs.Ytnlbmiangbahgaa

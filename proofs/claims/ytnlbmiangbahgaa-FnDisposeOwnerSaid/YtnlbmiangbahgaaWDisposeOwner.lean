/-
  The walk of laws.FnDisposeOwner.
-/
import Derived.Test.YtnlbmiangbahgaaClearLaw
import Derived.Test.YtnlbmiangbahgaaDrawO
import Derived.Test.YtnlbmiangbahgaaEqO
import Derived.Test.YtnlbmiangbahgaaOwnJ
namespace Go.Proofs.Ytnlbmiangbahgaa
open Go.RowKit

set_option maxRecDepth 100000 in
set_option maxHeartbeats 6400000 in
theorem walkFnDisposeOwner (A : Option Addr) (c : Nat) (bs : List Int) (w : World) (hr : Rd w w.heap.size A (bytes8 bs)) (hn : bs.length ≤ 9223372036854775807) (lc : bs.length ≤ c) (cm : c ≤ 9223372036854775807) (hx : ∀ x ∈ bs, (Lit.int .u8 x).wf = true) :
    Calls Try.prog 7 #[.slice A bs.length c] w fun e w' => e = .returned (.bool true) ∧ Below w.heap.size w w' := by
  by_cases hbig : bs.length ≤ 1048576
  case neg =>
    go_enter Try.func7, Try.ntmps7
    go_wp2
    go_ret
    exact ⟨rfl, Below.refl _ _⟩
  case pos =>
  have HR := Lib.hid hr; clear hr
  have HX := Lib.hid hx; clear hx
  go_enter Try.func7, Try.ntmps7
  go_wp2_with fail
  refine (drawDisposeOwner bs rfl lc cm HX.out HR.out).mono ?_; rintro e w1 ⟨A1, c1, os, k, rfl, hk, hsm, s1, b1⟩
  have hz1 := b1.size
  have hl12 := hsm.1.2
  have HM := Lib.hid (show ∀ o ∈ os, o.cl.length ≤ 1099511627776 ∧ o.cx.length ≤ 1099511627776 from fun o ho => by have := hsm.2 o ho; omega)
  have HT := Lib.hid (tot_small hsm)
  have S1 := Lib.hid s1
  have B1 := Lib.hid b1
  have Hk := Lib.hid hk
  clear s1 b1 HR HX hsm hk
  go_wp2_with fail
  refine (implDisposeOwner (c := c1) k os rfl (by omega) (by have := HT.out; omega) HM.out S1.out.rd (Nat.le_refl _)).mono ?_; rintro e w2 ⟨A2, c2, A2', c2', m2, ⟨m2a, m2b⟩, rfl, s2, t2, b2⟩
  have hz2 := b2.size
  have SP := Lib.hid (fun (W : World) (hb : Below w1.heap.size w1 W) => specDisposeOwner (w := W) (c := c1) k os rfl (by omega) (by have := HT.out; omega) HM.out (S1.out.below hb (Nat.le_refl _)).rd hb.size)
  have hpb := dispF_bd os k (by have := HT.out; omega)
  obtain ⟨p, hp⟩ : ∃ p, dispF os k = p := ⟨_, rfl⟩
  rw [hp] at s2 t2 SP hpb ⊢
  have HQ := Lib.hid hp; clear hp
  obtain ⟨os2, ls⟩ := p
  simp only at hpb
  obtain ⟨⟨hpb1, hpb2⟩, hpb3⟩ := hpb
  have HM2 := Lib.hid (show ∀ o ∈ os2, o.cl.length ≤ 1099511627776 ∧ o.cx.length ≤ 1099511627776 from fun o ho => by have := mem_tot ho; omega)
  have HM3 := Lib.hid (show ∀ o ∈ os2, o.cl.length ≤ 9223372036854775807 ∧ o.cx.length ≤ 9223372036854775807 from fun o ho => by have := mem_tot ho; omega)
  clear hpb2
  have S1 := Lib.hid (S1.out.below b2 (Nat.le_refl _))
  have S2 := Lib.hid (show SlO w2 w1.heap.size m2 A2 c2 os2 from s2)
  have T2 := Lib.hid (show SlI w2 m2 w2.heap.size A2' c2' ls from t2)
  have B2 := Lib.hid (B1.out.trans (b2.mono hz1))
  have SP2 := Lib.hid (SP.out w2 b2)
  clear s2 t2 b2 SP
  go_wp2_with fail
  refine SP2.out.mono ?_; rintro e w3 ⟨A3, c3, A3', c3', m3, ⟨m3a, m3b⟩, rfl, s3, t3, b3⟩
  have hz3 := b3.size
  have S1 := Lib.hid (S1.out.below b3 (by omega))
  have S2 := Lib.hid (S2.out.below b3 (by omega))
  have T2 := Lib.hid (T2.out.below b3 (by omega))
  have S3 := Lib.hid (show SlO w3 w2.heap.size m3 A3 c3 os2 from s3)
  have T3 := Lib.hid (show SlI w3 m3 w3.heap.size A3' c3' ls from t3)
  have B3 := Lib.hid (B2.out.trans (b3.mono (by omega)))
  clear s3 t3 b3 SP2 B1 B2
  by_cases hne : os2 = []
  case pos =>
    subst hne
    go_wp2_with fail
    refine (sameOwners (c := c2) (c' := c3) [] rfl (by simp) (by simp) S2.out.rd S3.out.rd).mono ?_; rintro e w4 ⟨d, rfl, rfl⟩
    go_wp2_with fail
    refine (qb (equalInts (c := c2') (c' := c3') ls ls rfl rfl (by omega) (T2.out.drewN d).rd (T3.out.drewN d).rd)).mono ?_; rw [decide_eq_true (Eq.refl ls)]; rintro e w5 ⟨rfl, b5⟩
    have B5 := Lib.hid (show Below w.heap.size w w5 from (below_drewN B3.out d).trans (b5.mono (by show w.heap.size ≤ w3.heap.size; omega)))
    have hz5 : w3.heap.size ≤ w5.heap.size := b5.size
    have S2 := Lib.hid ((S2.out.drewN d).below b5 (by show _ ≤ w3.heap.size; omega))
    have S3 := Lib.hid ((S3.out.drewN d).below b5 (by show _ ≤ w3.heap.size; omega))
    have T2 := Lib.hid ((T2.out.drewN d).below b5 (by show _ ≤ w3.heap.size; omega))
    have T3 := Lib.hid ((T3.out.drewN d).below b5 (by show _ ≤ w3.heap.size; omega))
    clear b5
    go_wp2_with fail
    refine (sameOwners (c := c2) (c' := c3) [] rfl (by simp) (by simp) S2.out.rd S3.out.rd).mono ?_; rintro e w6 ⟨d2, rfl, rfl⟩
    go_wp2_with fail
    refine (qb (equalInts (c := c2') (c' := c3') ls ls rfl rfl (by omega) (T2.out.drewN d2).rd (T3.out.drewN d2).rd)).mono ?_; rw [decide_eq_true (Eq.refl ls)]; rintro e w7 ⟨rfl, b7⟩
    have B7 := Lib.hid (show Below w.heap.size w w7 from (below_drewN B5.out d2).trans (b7.mono (by show w.heap.size ≤ w5.heap.size; omega)))
    clear b7
    go_wp2_with fail
    go_ret
    exact ⟨rfl, B7.out⟩
  case neg =>
  obtain ⟨P, rfl, ⟨hP, hl2⟩, hv, hv2, hls, hall⟩ := disp_law HQ.out hne
  have HL2 := Lib.hid hl2
  have hl22 : os2.length ≤ 12 := by omega
  have hpos : ((os2.length : Int) == 0) = false := by rw [beq_eq_false_iff_ne]; omega
  have HV2 := Lib.hid hv2
  have HLS := Lib.hid hls
  have HALL := Lib.hid (fun (i : Nat) (h1 : i < os.length) (h2 : i < os2.length) => hall i _ _ (List.getElem?_eq_getElem h1) (List.getElem?_eq_getElem h2))
  clear hv hv2 hls hall
  clear hl2 hne
  go_wp2_with fail
  refine (sameOwners (c := c2) (c' := c3) os2 rfl (by omega) HM3.out S2.out.rd S3.out.rd).mono ?_; rintro e w4 ⟨d, rfl, hw4⟩
  have z4 : w4.heap.size = w3.heap.size := by rw [hw4]; rfl
  have S1 := Lib.hid (show SlO w4 w.heap.size w1.heap.size A1 c1 os from by rw [hw4]; exact S1.out.drewN d)
  have S2 := Lib.hid (show SlO w4 w1.heap.size m2 A2 c2 os2 from by rw [hw4]; exact S2.out.drewN d)
  have T2 := Lib.hid (show SlI w4 m2 w2.heap.size A2' c2' ls from by rw [hw4]; exact T2.out.drewN d)
  have T3 := Lib.hid (show SlI w4 m3 w3.heap.size A3' c3' ls from by rw [hw4]; exact T3.out.drewN d)
  have B4 := Lib.hid (show Below w.heap.size w w4 from by rw [hw4]; exact below_drewN B3.out d)
  clear hw4 S3 B3
  go_wp2_with fail
  refine (qb (equalInts (c := c2') (c' := c3') ls ls rfl rfl (by omega) T2.out.rd T3.out.rd)).mono ?_; rw [decide_eq_true (Eq.refl ls)]; rintro e w5 ⟨rfl, b5⟩
  have z5 := b5.size
  have S1 := Lib.hid (S1.out.below b5 (by omega))
  have S2 := Lib.hid (S2.out.below b5 (by omega))
  have T2 := Lib.hid (T2.out.below b5 (by omega))
  have B5 := Lib.hid (B4.out.trans (b5.mono (by omega)))
  clear b5 T3 B4 HQ HM3
  go_wp2_with fail
  go_loopw [9] (fun i wr => ∃ j : Nat, j ≤ os.length ∧ i = .int .i64 j ∧ Below w5.heap.size w5 wr) (fun i _ => os.length - (intOf i).toNat)
  case atStart => exact ⟨0, Nat.zero_le _, rfl, Below.refl _ _⟩
  case round =>
    obtain ⟨j, hj, rfl, hb⟩ := hrel
    have hzb := hb.size
    have X1 := Lib.hid (S1.out.below hb (by omega))
    have X2 := Lib.hid (S2.out.below hb (by omega))
    have HB := Lib.hid hb
    clear hb
    by_cases hlt : j < os.length
    · have hlt2 : j < os2.length := by have := HL2.out; omega
      have AB := Lib.hid (implAboveOf (w := wr) (c := c1) (j : Int) os rfl (by omega) HM.out X1.out.rd (by omega))
      have hall := HALL.out j hlt hlt2
      have hal : (aboveOfF os (j : Int)).length ≤ 14 := aboveOf_le os _ hl12
      obtain ⟨ys, hys⟩ : ∃ ys, aboveOfF os (j : Int) = ys := ⟨_, rfl⟩
      rw [hys] at AB hall hal
      have HM1 := HM.out os[j] (List.getElem_mem hlt)
      have CELLS := Lib.hid (fun (W : World) (hb : Below wr.heap.size wr W) => (show ∃ (g o g2 o2 : Nat) (hd hd2 : Hd), A1 = some ⟨g, o, none⟩ ∧ A2 = some ⟨g2, o2, none⟩ ∧
          (W.cell? ⟨g, o + j * 4 + 1, none⟩ = some (.bool os[j].op) ∧ W.cell? ⟨g, o + j * 4 + 2, none⟩ = some (.slice hd.clA os[j].cl.length hd.clC)) ∧
          (W.cell? ⟨g2, o2 + j * 4 + 1, none⟩ = some (.bool os2[j].op) ∧ W.cell? ⟨g2, o2 + j * 4 + 2, none⟩ = some (.slice hd2.clA os2[j].cl.length hd2.clC)) ∧ RdI W w1.heap.size hd.clA os[j].cl ∧ RdI W m2 hd2.clA os2[j].cl from by
        obtain ⟨g, o, hd, hA, _, ⟨_, d1, d2, _⟩, q1, _⟩ := (X1.out.below hb (by omega)).rd.at_ hlt
        obtain ⟨g2, o2, hd2, hA2, _, ⟨_, e1, e2, _⟩, q2, _⟩ := (X2.out.below hb (by omega)).rd.at_ hlt2
        exact ⟨g, o, g2, o2, hd, hd2, hA, hA2, ⟨d1, d2⟩, ⟨e1, e2⟩, q1, q2⟩))
      obtain ⟨x, hx⟩ : ∃ x, os[j] = x := ⟨_, rfl⟩
      obtain ⟨y, hy⟩ : ∃ y, os2[j] = y := ⟨_, rfl⟩
      rw [hx] at hall HM1
      rw [hy] at hall
      simp only [hx, hy] at CELLS
      have HMX := Lib.hid HM1
      clear hys hx hy HM1
      go_wp2_with fail
      refine AB.out.mono ?_; rintro e w6 ⟨A6, c6, rfl, s6, b6⟩
      have hz6 := b6.size
      have IS := Lib.hid (isIn (x := (P : Int)) (w := w6) (c := c6) ys rfl (by omega) (show SlI w6 wr.heap.size w6.heap.size A6 c6 ys from s6).rd)
      obtain ⟨g, o, g2, o2, hd, hd2, rfl, rfl, ⟨k1, k2⟩, ⟨k3, k4⟩, r1, r2⟩ := CELLS.out w6 b6
      have HB6 := Lib.hid (HB.out.trans (b6.mono (by omega)))
      obtain ⟨p, op, cl, cx⟩ := x
      obtain ⟨p', op', cl', cx'⟩ := y
      simp only at k1 k2 k3 k4 r1 r2 hall HMX
      clear s6 b6 AB CELLS
      rcases hall with ⟨h1, h2⟩ | ⟨h1, h2, h3⟩
      · rw [h1] at IS
        subst h2
        clear h1 r1 r2
        go_wp2_with fail
        refine IS.out.mono ?_; rintro e w7 ⟨rfl, rfl⟩
        go_wp2_with fail
        go_quiet (fail)
        go_wp2_with fail
        go_roundw
        case rel => exact ⟨j + 1, by omega, by go_num, below_drewN HB6.out _⟩
        case measure => simp [intOf]; omega
      · rw [h1] at IS
        subst h2 h3
        have e1 := fun m => quiet_bool (n := m) (w := w6) (equalInts (c := hd2.clC) (c' := hd.clC) cl' cl' rfl rfl (by have := HMX.out.1; omega) (r2.drewN m) (r1.drewN m))
        simp only [decide_true] at e1
        have E1 := Lib.hid e1
        have hoo : (op' != op') = false := by simp
        clear h1 r1 r2 e1
        go_wp2_with fail
        refine IS.out.mono ?_; rintro e w7 ⟨rfl, rfl⟩
        go_wp2_with fail
        go_quiet ((go_at_call 15; with_reducible exact E1.out _))
        go_wp2_with fail
        go_roundw
        case rel => exact ⟨j + 1, by omega, by go_num, below_drewN HB6.out _⟩
        case measure => simp [intOf]; omega
    · have VO := Lib.hid (implValidOwners (w := wr) (c := c2) os2 rfl (by omega) HM2.out X2.out.rd (by omega))
      rw [HV2.out] at VO
      have XT := Lib.hid (T2.out.below HB.out (by omega))
      clear HALL
      go_wp2_with fail
      refine VO.out.mono ?_; rintro e w6 ⟨rfl, b6⟩
      have hz6 := b6.size
      have LB := Lib.hid (implLabelsOf (w := w6) (c := c1) (P : Int) os rfl (by omega) (by have := HT.out; omega) HM.out (X1.out.below b6 (by omega)).rd (by omega))
      rw [← HLS.out] at LB
      have XT := Lib.hid (XT.out.below b6 (by omega))
      have HB6 := Lib.hid (B5.out.trans ((HB.out.trans (b6.mono (by omega))).mono (by omega)))
      clear b6 VO
      go_wp2_with fail
      refine LB.out.mono ?_; rintro e w7 ⟨A7, c7, rfl, s7, b7⟩
      have hz7 := b7.size
      have XT := Lib.hid (XT.out.below b7 (by omega))
      have XS := Lib.hid (show SlI w7 w6.heap.size w7.heap.size A7 c7 ls from s7)
      have HB7 := Lib.hid (HB6.out.trans (b7.mono (by omega)))
      clear s7 b7 LB
      go_wp2_with fail
      refine (qb (equalInts (c := c2') (c' := c7) ls ls rfl rfl (by omega) XT.out.rd XS.out.rd)).mono ?_; rw [decide_eq_true (Eq.refl ls)]; rintro e w8 ⟨rfl, b8⟩
      have HB8 := Lib.hid (HB7.out.trans (b8.mono (by omega)))
      clear b8
      go_wp2_with fail
      go_ret
      exact ⟨rfl, HB8.out⟩
end Go.Proofs.Ytnlbmiangbahgaa


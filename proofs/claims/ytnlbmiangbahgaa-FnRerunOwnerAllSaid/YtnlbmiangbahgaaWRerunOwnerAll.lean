/-
  The walk of laws.FnRerunOwnerAll.
-/
import Derived.Test.YtnlbmiangbahgaaClearLaw
import Derived.Test.YtnlbmiangbahgaaDrawO
import Derived.Test.YtnlbmiangbahgaaEqO
import Derived.Test.YtnlbmiangbahgaaOwnJ
namespace Go.Proofs.Ytnlbmiangbahgaa
open Go.RowKit

set_option maxRecDepth 100000 in
set_option maxHeartbeats 6400000 in
theorem walkFnRerunOwnerAll (A : Option Addr) (c : Nat) (bs : List Int) (w : World) (hr : Rd w w.heap.size A (bytes8 bs)) (hn : bs.length ≤ 9223372036854775807) (lc : bs.length ≤ c) (cm : c ≤ 9223372036854775807) (hx : ∀ x ∈ bs, (Lit.int .u8 x).wf = true) :
    Calls Try.prog 6 #[.slice A bs.length c] w fun e w' => e = .returned (.bool true) ∧ Below w.heap.size w w' := by
  by_cases hbig : bs.length ≤ 1048576
  case neg =>
    go_enter Try.func6, Try.ntmps6
    go_wp2
    go_ret
    exact ⟨rfl, Below.refl _ _⟩
  case pos =>
  have HR := Lib.hid hr; clear hr
  have HX := Lib.hid hx; clear hx
  go_enter Try.func6, Try.ntmps6
  go_wp2_with fail
  refine (drawRerunOwner bs rfl lc cm HX.out HR.out).mono ?_; rintro e w1 ⟨A1, c1, os, k, rfl, hk, hsm, s1, b1⟩
  have hz1 := b1.size
  have hl12 := hsm.1.2
  have HM := Lib.hid (show ∀ o ∈ os, o.cl.length ≤ 1099511627776 ∧ o.cx.length ≤ 1099511627776 from fun o ho => by have := hsm.2 o ho; omega)
  have HT := Lib.hid (tot_small hsm)
  have S1 := Lib.hid s1
  have B1 := Lib.hid b1
  have Hk := Lib.hid hk
  clear s1 b1 HR HX hsm hk
  go_wp2_with fail
  refine (implRerunOwner (c := c1) k os rfl (by omega) (by have := HT.out; omega) HM.out S1.out.rd (Nat.le_refl _)).mono ?_; rintro e w2 ⟨A2, c2, A2', c2', m2, ⟨m2a, m2b⟩, rfl, s2, t2, b2⟩
  have hz2 := b2.size
  have SP := Lib.hid (fun (W : World) (hb : Below w1.heap.size w1 W) => specRerunOwner (w := W) (c := c1) k os rfl (by omega) (by have := HT.out; omega) HM.out (S1.out.below hb (Nat.le_refl _)).rd hb.size)
  have hpb := rerunF_bd os k (by have := HT.out; omega)
  obtain ⟨p, hp⟩ : ∃ p, rerunF os k = p := ⟨_, rfl⟩
  rw [hp] at s2 t2 SP hpb ⊢
  have HQ := Lib.hid hp; clear hp
  obtain ⟨os2, ls⟩ := p
  simp only at hpb
  obtain ⟨⟨hpb1, hpb2⟩, hpb3⟩ := hpb
  have HM2 := Lib.hid (show ∀ o ∈ os2, o.cl.length ≤ 1099511627776 ∧ o.cx.length ≤ 1099511627776 from fun o ho => by have := mem_tot ho; omega)
  have HM3 := Lib.hid (show ∀ o ∈ os2, o.cl.length ≤ 9223372036854775807 ∧ o.cx.length ≤ 9223372036854775807 from fun o ho => by have := mem_tot ho; omega)
  clear hpb2
  have S1 := Lib.hid (S1.out.below b2 (Nat.le_refl _))
  have S2 := Lib.hid (show SlO w2 w1.heap.size m2 A2 c2 os2 from s2)
  have T2 := Lib.hid (show SlI w2 m2 w2.heap.size A2' c2' ls from t2)
  have B2 := Lib.hid (B1.out.trans (b2.mono hz1))
  have SP2 := Lib.hid (SP.out w2 b2)
  clear s2 t2 b2 SP
  go_wp2_with fail
  refine SP2.out.mono ?_; rintro e w3 ⟨A3, c3, A3', c3', m3, ⟨m3a, m3b⟩, rfl, s3, t3, b3⟩
  have hz3 := b3.size
  have S1 := Lib.hid (S1.out.below b3 (by omega))
  have S2 := Lib.hid (S2.out.below b3 (by omega))
  have T2 := Lib.hid (T2.out.below b3 (by omega))
  have S3 := Lib.hid (show SlO w3 w2.heap.size m3 A3 c3 os2 from s3)
  have T3 := Lib.hid (show SlI w3 m3 w3.heap.size A3' c3' ls from t3)
  have B3 := Lib.hid (B2.out.trans (b3.mono (by omega)))
  clear s3 t3 b3 SP2 B1 B2
  by_cases hne : os2 = []
  case pos =>
    subst hne
    go_wp2_with fail
    refine (sameOwners (c := c2) (c' := c3) [] rfl (by simp) (by simp) S2.out.rd S3.out.rd).mono ?_; rintro e w4 ⟨d, rfl, rfl⟩
    go_wp2_with fail
    refine (qb (equalInts (c := c2') (c' := c3') ls ls rfl rfl (by omega) (T2.out.drewN d).rd (T3.out.drewN d).rd)).mono ?_; rw [decide_eq_true (Eq.refl ls)]; rintro e w5 ⟨rfl, b5⟩
    have B5 := Lib.hid (show Below w.heap.size w w5 from (below_drewN B3.out d).trans (b5.mono (by show w.heap.size ≤ w3.heap.size; omega)))
    have hz5 : w3.heap.size ≤ w5.heap.size := b5.size
    have S2 := Lib.hid ((S2.out.drewN d).below b5 (by show _ ≤ w3.heap.size; omega))
    have S3 := Lib.hid ((S3.out.drewN d).below b5 (by show _ ≤ w3.heap.size; omega))
    have T2 := Lib.hid ((T2.out.drewN d).below b5 (by show _ ≤ w3.heap.size; omega))
    have T3 := Lib.hid ((T3.out.drewN d).below b5 (by show _ ≤ w3.heap.size; omega))
    clear b5
    go_wp2_with fail
    refine (sameOwners (c := c2) (c' := c3) [] rfl (by simp) (by simp) S2.out.rd S3.out.rd).mono ?_; rintro e w6 ⟨d2, rfl, rfl⟩
    go_wp2_with fail
    refine (qb (equalInts (c := c2') (c' := c3') ls ls rfl rfl (by omega) (T2.out.drewN d2).rd (T3.out.drewN d2).rd)).mono ?_; rw [decide_eq_true (Eq.refl ls)]; rintro e w7 ⟨rfl, b7⟩
    have B7 := Lib.hid (show Below w.heap.size w w7 from (below_drewN B5.out d2).trans (b7.mono (by show w.heap.size ≤ w5.heap.size; omega)))
    clear b7
    go_wp2_with fail
    go_ret
    exact ⟨rfl, B7.out⟩
  case neg =>
  obtain ⟨P, rfl, ⟨hP, hl2⟩, hv, hv2, hop, hop2, hk0, hag, _, hct⟩ := rerun_law HQ.out hne
  have HL2 := Lib.hid hl2
  have hl22 : os2.length ≤ 12 := by omega
  have hpos : ((os2.length : Int) == 0) = false := by rw [beq_eq_false_iff_ne]; omega
  have HALL := Lib.hid (rerun_all hop)
  have HCT := Lib.hid hct
  have hbd : ∀ l : List Own, (∀ i, clTot (l.take i) ≤ clTot l) := fun l i => clTot_take l i
  have HBD := Lib.hid hbd
  have hct1 : clTot os ≤ 108 := by have := clTot_le os; have := HT.out; omega
  have hct2 : clTot os2 ≤ 108 := by omega
  clear hv hv2 hop hop2 hk0 hag hct hbd
  clear hl2 hne
  go_wp2_with fail
  refine (sameOwners (c := c2) (c' := c3) os2 rfl (by omega) HM3.out S2.out.rd S3.out.rd).mono ?_; rintro e w4 ⟨d, rfl, hw4⟩
  have z4 : w4.heap.size = w3.heap.size := by rw [hw4]; rfl
  have S1 := Lib.hid (show SlO w4 w.heap.size w1.heap.size A1 c1 os from by rw [hw4]; exact S1.out.drewN d)
  have S2 := Lib.hid (show SlO w4 w1.heap.size m2 A2 c2 os2 from by rw [hw4]; exact S2.out.drewN d)
  have T2 := Lib.hid (show SlI w4 m2 w2.heap.size A2' c2' ls from by rw [hw4]; exact T2.out.drewN d)
  have T3 := Lib.hid (show SlI w4 m3 w3.heap.size A3' c3' ls from by rw [hw4]; exact T3.out.drewN d)
  have B4 := Lib.hid (show Below w.heap.size w w4 from by rw [hw4]; exact below_drewN B3.out d)
  clear hw4 S3 B3
  go_wp2_with fail
  refine (qb (equalInts (c := c2') (c' := c3') ls ls rfl rfl (by omega) T2.out.rd T3.out.rd)).mono ?_; rw [decide_eq_true (Eq.refl ls)]; rintro e w5 ⟨rfl, b5⟩
  have z5 := b5.size
  have S1 := Lib.hid (S1.out.below b5 (by omega))
  have S2 := Lib.hid (S2.out.below b5 (by omega))
  have T2 := Lib.hid (T2.out.below b5 (by omega))
  have B5 := Lib.hid (B4.out.trans (b5.mono (by omega)))
  clear b5 T3 B4 HQ HM3
  go_wp2_with fail
  go_loop [9, 10] (fun n i => ∃ j : Nat, j ≤ os.length ∧ i = .int .i64 j ∧ n = .int .i64 (clTot (os.take j) : Nat)) (fun _ i => os.length - (intOf i).toNat)
  case atStart => exact ⟨0, Nat.zero_le _, rfl, rfl⟩
  case round =>
    obtain ⟨j, hj, rfl, rfl⟩ := hrel
    have hb1 := HBD.out os j
    by_cases hlt : j < os.length
    · obtain ⟨g, o, hd, rfl, _, ⟨_, _, c2', _⟩, _⟩ := S1.out.rd.at_ hlt
      have hs := clTot_snoc (os.take j) os[j]
      rw [← List.take_succ_eq_append_getElem hlt] at hs
      have hb2 := HBD.out os (j + 1)
      obtain ⟨m, hm⟩ : ∃ m, clTot (os.take j) = m := ⟨_, rfl⟩
      obtain ⟨x, hx⟩ : ∃ x, os[j] = x := ⟨_, rfl⟩
      rw [hx] at c2' hs
      rw [hm] at hs hb1 ⊢
      rw [hs] at hb2
      have HS := Lib.hid hs
      clear hs hm hx
      go_wp2_with fail
      go_round
      case rel => exact ⟨j + 1, by omega, by go_num, by rw [HS.out]; go_num⟩
      case measure => simp [intOf]; omega
    · have hjl : os.take j = os := List.take_of_length_le (by omega)
      rw [hjl]
      clear hb1
      have LB := Lib.hid (implLabelsOf (w := w5) (c := c1) 0 os rfl (by omega) (by have := HT.out; omega) HM.out S1.out.rd (by omega))
      have hll := HALL.out
      obtain ⟨all, hall⟩ : ∃ all, labF os 0 = all := ⟨_, rfl⟩
      rw [hall] at LB hll
      have HLL := Lib.hid hll
      have hll2 : all.length ≤ 108 := by omega
      clear hll hall hjl
      go_wp2_with fail
      refine LB.out.mono ?_; rintro e w6 ⟨A6, c6, rfl, s6, b6⟩
      have z6 := b6.size
      have S2 := Lib.hid (S2.out.below b6 (by omega))
      have B6 := Lib.hid (B5.out.trans (b6.mono (by omega)))
      clear s6 b6 LB
      go_wp2_with fail
      go_loop [12, 13] (fun n i => ∃ j : Nat, j ≤ os2.length ∧ i = .int .i64 j ∧ n = .int .i64 (clTot (os2.take j) : Nat)) (fun _ i => os2.length - (intOf i).toNat)
      case atStart => exact ⟨0, Nat.zero_le _, rfl, rfl⟩
      case round =>
        obtain ⟨j, hj, rfl, rfl⟩ := hrel
        have hb1 := HBD.out os2 j
        by_cases hlt : j < os2.length
        · obtain ⟨g, o, hd, rfl, _, ⟨_, _, c2', _⟩, _⟩ := S2.out.rd.at_ hlt
          have hs := clTot_snoc (os2.take j) os2[j]
          rw [← List.take_succ_eq_append_getElem hlt] at hs
          have hb2 := HBD.out os2 (j + 1)
          obtain ⟨m, hm⟩ : ∃ m, clTot (os2.take j) = m := ⟨_, rfl⟩
          obtain ⟨x, hx⟩ : ∃ x, os2[j] = x := ⟨_, rfl⟩
          rw [hx] at c2' hs
          rw [hm] at hs hb1 ⊢
          rw [hs] at hb2
          have HS := Lib.hid hs
          clear hs hm hx
          go_wp2_with fail
          go_round
          case rel => exact ⟨j + 1, by omega, by go_num, by rw [HS.out]; go_num⟩
          case measure => simp [intOf]; omega
        · have hjl : os2.take j = os2 := List.take_of_length_le (by omega)
          rw [hjl]
          have e1 : ((all.length : Int) == (clTot os : Nat)) = true := by rw [HLL.out]; simp
          have e2 : (((clTot os2 : Nat) : Int) + (ls.length : Int) == (clTot os : Nat)) = true := by rw [beq_iff_eq]; have := HCT.out; omega
          clear hb1 hjl
          go_wp2_with fail
          go_ret
          exact ⟨rfl, B6.out⟩
end Go.Proofs.Ytnlbmiangbahgaa


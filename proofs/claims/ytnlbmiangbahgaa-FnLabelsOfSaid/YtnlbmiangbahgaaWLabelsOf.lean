/-
  The walk of laws.FnLabelsOf.
-/
import Derived.Test.YtnlbmiangbahgaaClearLaw
import Derived.Test.YtnlbmiangbahgaaDrawO
import Derived.Test.YtnlbmiangbahgaaEqO
import Derived.Test.YtnlbmiangbahgaaOwnJ
import Derived.Test.YtnlbmiangbahgaaJoin
namespace Go.Proofs.Ytnlbmiangbahgaa
open Go.RowKit

theorem labF_le (os : List Own) (k : Int) : (labF os k).length ≤ tot os := by
  unfold labF rerunF
  split
  · exact (clearF_len os k).2.2
  · simp
set_option maxRecDepth 100000 in
set_option maxHeartbeats 6400000 in
theorem walkFnLabelsOf (A : Option Addr) (c : Nat) (bs : List Int) (w : World) (hr : Rd w w.heap.size A (bytes8 bs)) (hn : bs.length ≤ 9223372036854775807) (lc : bs.length ≤ c) (cm : c ≤ 9223372036854775807) (hx : ∀ x ∈ bs, (Lit.int .u8 x).wf = true) :
    Calls Try.prog 4 #[.slice A bs.length c] w fun e w' => e = .returned (.bool true) ∧ Below w.heap.size w w' := by
  by_cases hbig : bs.length ≤ 1048576
  case neg =>
    go_enter Try.func4, Try.ntmps4
    go_wp2
    go_ret
    exact ⟨rfl, Below.refl _ _⟩
  case pos =>
  have HR := Lib.hid hr; clear hr
  have HX := Lib.hid hx; clear hx
  go_enter Try.func4, Try.ntmps4
  go_wp2_with fail
  refine (drawLabelsOf bs rfl lc cm HX.out HR.out).mono ?_; rintro e w1 ⟨A1, c1, os, k, rfl, ⟨hkl, hkh⟩, hsm, s1, b1⟩
  have hz1 := b1.size
  have hl12 := hsm.1.2
  have HM := Lib.hid (show ∀ o ∈ os, o.cl.length ≤ 1099511627776 ∧ o.cx.length ≤ 1099511627776 from fun o ho => by have := hsm.2 o ho; omega)
  have HT := Lib.hid (tot_small hsm)
  have S1 := Lib.hid s1
  have B1 := Lib.hid b1
  clear s1 b1 HR HX hsm
  go_wp2_with fail
  refine (implLabelsOf (c := c1) k os rfl (by omega) (by have := HT.out; omega) HM.out S1.out.rd (Nat.le_refl _)).mono ?_; rintro e w2 ⟨A2, c2, rfl, s2, b2⟩
  have hz2 := b2.size
  have SP := Lib.hid (fun (W : World) (hb : Below w1.heap.size w1 W) => specLabelsOf (w := W) (c := c1) k os rfl (by omega) (by have := HT.out; omega) HM.out (S1.out.below hb (Nat.le_refl _)).rd hb.size)
  obtain ⟨xs, hxs⟩ : ∃ xs, labF os k = xs := ⟨_, rfl⟩
  have hxl : xs.length ≤ 108 := by rw [← hxs]; exact by have := labF_le os k; have := HT.out; omega
  rw [hxs] at s2 SP ⊢
  have XS := Lib.hid hxs; clear hxs
  have S1 := Lib.hid (S1.out.below b2 (Nat.le_refl _))
  have S2 := Lib.hid (show SlI w2 w1.heap.size w2.heap.size A2 c2 xs from s2)
  have B2 := Lib.hid (B1.out.trans (b2.mono hz1))
  have SP2 := Lib.hid (SP.out w2 b2)
  have HB2 := Lib.hid b2
  clear s2 b2
  go_wp2_with fail
  refine SP2.out.mono ?_; rintro e w3 ⟨A3, c3, rfl, s3, b3⟩
  have hz3 := b3.size
  have S1 := Lib.hid (S1.out.below b3 (by omega))
  have S2 := Lib.hid (S2.out.below b3 (Nat.le_refl _))
  have S3 := Lib.hid (show SlI w3 w2.heap.size w3.heap.size A3 c3 xs from s3)
  have B3 := Lib.hid (B2.out.trans (b3.mono (by omega)))
  have HB3 := Lib.hid (HB2.out.trans (b3.mono hz2))
  clear s3 b3 SP2 B1 B2 HB2
  go_wp2_with fail
  refine (qb (equalInts (c := c2) (c' := c3) xs xs rfl rfl (by omega) S2.out.rd S3.out.rd)).mono ?_; rw [decide_eq_true (Eq.refl xs)]; rintro e w4 ⟨rfl, b4⟩
  have hz4 := b4.size
  have S1 := Lib.hid (S1.out.below b4 (by omega))
  have S2 := Lib.hid (S2.out.below b4 (by omega))
  have B4 := Lib.hid (B3.out.trans (b4.mono (by omega)))
  have HB4 := Lib.hid (HB3.out.trans (b4.mono (by omega)))
  have SP4 := Lib.hid (SP.out w4 HB4.out)
  have SPF := SP
  clear b4 S3 B3 HB3 SP SP4
  have VO := Lib.hid (implValidOwners (w := w4) (c := c1) os rfl (by omega) HM.out S1.out.rd (by omega))
  go_wp2_with fail
  refine VO.out.mono ?_; rintro e w5 ⟨rfl, b5⟩
  have hz5 := b5.size
  have S1 := Lib.hid (S1.out.below b5 (by omega))
  have S2 := Lib.hid (S2.out.below b5 (by omega))
  have B4 := Lib.hid (B4.out.trans (b5.mono (by omega)))
  have SP4 := Lib.hid (SPF.out w5 (HB4.out.trans (b5.mono (by omega))))
  clear b5 VO SPF HB4
  cases hv : voB os
  case false =>
    go_wp2_with fail
    refine SP4.out.mono ?_; rintro e w6 ⟨A5, c5, rfl, s5, b5⟩
    have z5 := b5.size
    have T2 := Lib.hid (S2.out.below b5 (by omega))
    have T5 := Lib.hid (show SlI w6 w5.heap.size w6.heap.size A5 c5 xs from s5)
    have C5 := Lib.hid (B4.out.trans (b5.mono (by omega)))
    clear s5 b5
    go_wp2_with fail
    refine (qb (equalInts (c := c2) (c' := c5) xs xs rfl rfl (by first | omega | simp) T2.out.rd T5.out.rd)).mono ?_; rw [decide_eq_true (Eq.refl _)]; rintro e w7 ⟨rfl, b6⟩
    have C6 := Lib.hid (C5.out.trans (b6.mono (by omega)))
    clear b6
    go_wp2_with fail
    go_ret
    exact ⟨rfl, C6.out⟩
  case true =>
  by_cases h1 : k < 0
  case pos =>
    go_wp2_with fail
    refine SP4.out.mono ?_; rintro e w6 ⟨A5, c5, rfl, s5, b5⟩
    have z5 := b5.size
    have T2 := Lib.hid (S2.out.below b5 (by omega))
    have T5 := Lib.hid (show SlI w6 w5.heap.size w6.heap.size A5 c5 xs from s5)
    have C5 := Lib.hid (B4.out.trans (b5.mono (by omega)))
    clear s5 b5
    go_wp2_with fail
    refine (qb (equalInts (c := c2) (c' := c5) xs xs rfl rfl (by first | omega | simp) T2.out.rd T5.out.rd)).mono ?_; rw [decide_eq_true (Eq.refl _)]; rintro e w7 ⟨rfl, b6⟩
    have C6 := Lib.hid (C5.out.trans (b6.mono (by omega)))
    clear b6
    go_wp2_with fail
    go_ret
    exact ⟨rfl, C6.out⟩
  by_cases h2 : (os.length : Int) ≤ k
  case pos =>
    go_wp2_with fail
    refine SP4.out.mono ?_; rintro e w6 ⟨A5, c5, rfl, s5, b5⟩
    have z5 := b5.size
    have T2 := Lib.hid (S2.out.below b5 (by omega))
    have T5 := Lib.hid (show SlI w6 w5.heap.size w6.heap.size A5 c5 xs from s5)
    have C5 := Lib.hid (B4.out.trans (b5.mono (by omega)))
    clear s5 b5
    go_wp2_with fail
    refine (qb (equalInts (c := c2) (c' := c5) xs xs rfl rfl (by first | omega | simp) T2.out.rd T5.out.rd)).mono ?_; rw [decide_eq_true (Eq.refl _)]; rintro e w7 ⟨rfl, b6⟩
    have C6 := Lib.hid (C5.out.trans (b6.mono (by omega)))
    clear b6
    go_wp2_with fail
    go_ret
    exact ⟨rfl, C6.out⟩
  obtain ⟨P, rfl⟩ := Int.eq_ofNat_of_zero_le (show 0 ≤ k by omega)
  have hP : P < os.length := by omega
  obtain ⟨g, o, hd, rfl, _, ⟨_, c1', _, _⟩, _⟩ := S1.out.rd.at_ hP
  obtain ⟨op, hop⟩ : ∃ op, os[P].op = op := ⟨_, rfl⟩
  rw [hop] at c1'
  have HOP := Lib.hid hop; clear hop
  cases op
  case false =>
    go_wp2_with fail
    refine SP4.out.mono ?_; rintro e w6 ⟨A5, c5, rfl, s5, b5⟩
    have z5 := b5.size
    have T2 := Lib.hid (S2.out.below b5 (by omega))
    have T5 := Lib.hid (show SlI w6 w5.heap.size w6.heap.size A5 c5 xs from s5)
    have C5 := Lib.hid (B4.out.trans (b5.mono (by omega)))
    clear s5 b5
    go_wp2_with fail
    refine (qb (equalInts (c := c2) (c' := c5) xs xs rfl rfl (by first | omega | simp) T2.out.rd T5.out.rd)).mono ?_; rw [decide_eq_true (Eq.refl _)]; rintro e w7 ⟨rfl, b6⟩
    have C6 := Lib.hid (C5.out.trans (b6.mono (by omega)))
    clear b6
    go_wp2_with fail
    go_ret
    exact ⟨rfl, C6.out⟩
  case true =>
  have hopn : opAt os (P : Int) = true := by rw [opAt_eq hP]; exact HOP.out
  have hopB : opB os (P : Int) = true := opB_iff.2 ⟨hv, by omega, by omega, hopn⟩
  have hrec := labF_rec hopB
  rw [clAt_eq hP, XS.out] at hrec
  obtain ⟨ks, hks⟩ : ∃ ks, kidsOfF os (P : Int) = ks := ⟨_, rfl⟩
  rw [hks] at hrec
  have hkl : ks.length ≤ 12 := by
    rw [← hks]; unfold kidsOfF; split
    · exact Nat.le_trans (selF_le _ _) (by omega)
    · simp
  obtain ⟨F, hF⟩ : ∃ F, ks.reverse.flatMap (labF os) = F := ⟨_, rfl⟩
  rw [hF] at hrec
  have hFl : F.length + os[P].cl.length = xs.length := by rw [hrec]; simp
  have HREC := Lib.hid hrec
  have HF := Lib.hid hF
  have HKS := Lib.hid hks
  have HTK := Lib.hid (show ∀ m, ((ks.reverse.take m).flatMap (labF os)).length ≤ F.length from fun m => by
    rw [← hF]
    conv => rhs; rw [← List.take_append_drop m ks.reverse]
    rw [List.flatMap_append, List.length_append]
    exact Nat.le_add_right _ _)
  have HLB := Lib.hid (show ∀ k, (labF os k).length ≤ 1048577 from fun k => labF_bd os k (by have := HT.out; omega))
  clear hrec hF hks hv SP4 hopn hopB
  go_wp2_with fail
  refine (implKidsOf (c := c1) (P : Int) os rfl (by omega) HM.out (S1.out.alloc (.cells #[] 3)).rd (by simp; omega)).mono ?_
  rw [HKS.out]
  rintro e w6 ⟨A6, c6, rfl, s6, b6⟩
  have b6' : Below w5.heap.size w5 w6 := ((Below.refl w5.heap.size w5).alloc (Nat.le_refl _) (.cells #[] 3)).trans (b6.mono (by simp))
  have z6 : w5.heap.size + 1 ≤ w6.heap.size := by have := b6.size; simpa using this
  have S1 := Lib.hid (S1.out.below b6' (by omega))
  have S2 := Lib.hid (S2.out.below b6' (by omega))
  have KS := Lib.hid (show SlI w6 w5.heap.size w6.heap.size A6 c6 ks from SlI.mono s6 (by simp) (Nat.le_refl _))
  have B6 := Lib.hid (B4.out.trans (b6'.mono (by omega)))
  clear s6 b6 b6' B4
  go_wp2_with fail
  go_loopw [6, 8] (fun v i wr => ∃ (j : Nat) (z : Int) (A7 : Option Addr) (c7 : Nat) (ys : List Int), j ≤ ks.length ∧ z = (j : Int) - 1 ∧ i = .int .i64 z ∧ v = .slice A7 ys.length c7 ∧ ys = (ks.reverse.take (ks.length - j)).flatMap (labF os) ∧ SlI wr w5.heap.size wr.heap.size A7 c7 ys ∧ Below w6.heap.size w6 wr) (fun _ i _ => (intOf i + 1).toNat)
  case atStart => exact ⟨ks.length, _, some ⟨w5.heap.size, 0, none⟩, 0, [], Nat.le_refl _, rfl, rfl, rfl, by simp, SlI.nil, Below.refl _ _⟩
  case round =>
    obtain ⟨j, z, A7, c7, ys, hj, hz, rfl, rfl, hys, sy, hb⟩ := hrel
    have hyl : ys.length ≤ 108 := by rw [hys]; have := HTK.out (ks.length - j); omega
    have HYS := Lib.hid hys
    have SY := Lib.hid sy
    have hzb := hb.size
    have X1 := Lib.hid (S1.out.below hb (by omega))
    have X2 := Lib.hid (S2.out.below hb (by omega))
    have XK := Lib.hid (KS.out.below hb (by omega))
    have HB := Lib.hid hb
    clear hys sy hb
    cases j with
    | succ j =>
      obtain rfl : z = (j : Int) := by omega
      clear hz
      have hjl : j < ks.length := by omega
      have RS := Lib.hid (rev_snoc hjl)
      obtain ⟨adk, rfl⟩ : ∃ adk, A6 = some adk := by obtain ⟨adk, h, _⟩ := XK.out.rd.at_ hjl; exact ⟨adk, h⟩
      have ck := XK.out.cellAt hjl rfl
      obtain ⟨u, hu⟩ : ∃ u, ks[j] = u := ⟨_, rfl⟩
      rw [hu] at RS ck
      have hji : (0 : Int) ≤ (j : Int) := Int.natCast_nonneg _
      have LB := Lib.hid (implLabelsOf (w := wr) (c := c1) u os rfl (by omega) (by have := HT.out; omega) HM.out X1.out.rd (by omega))
      have hll := HLB.out u
      obtain ⟨ls, hls⟩ : ∃ ls, labF os u = ls := ⟨_, rfl⟩
      rw [hls] at LB hll
      have HLS := Lib.hid hls
      clear hu hls
      go_wp2_with fail
      refine LB.out.mono ?_; rintro e w7 ⟨A8, c8, rfl, s8, b8⟩
      have z8 := b8.size
      have S8 := Lib.hid (show SlI w7 wr.heap.size w7.heap.size A8 c8 ls from s8)
      have SY := Lib.hid (SY.out.below b8 (Nat.le_refl _))
      have HB8 := Lib.hid (HB.out.trans (b8.mono (by omega)))
      clear s8 b8 LB
      go_wp2_with fail
      refine (join (c := c7) (c' := c8) ys ls rfl rfl (by omega) (by omega) SY.out.rd S8.out.rd (by omega) (by omega)).mono ?_; rintro e w8 ⟨A9, c9, rfl, s9, b9⟩
      have z9 := b9.size
      have HB9 := Lib.hid (HB8.out.trans (b9.mono (by omega)))
      have S9 := Lib.hid (show SlI w8 w5.heap.size w8.heap.size A9 c9 (ys ++ ls) from SlI.mono s9 (by omega) (Nat.le_refl _))
      clear s9 b9
      go_wp2_with fail
      go_roundw
      case rel => exact ⟨j, _, A9, c9, ys ++ ls, by omega, rfl, by first | rfl | go_num, by rw [List.length_append], by rw [RS.out, List.flatMap_append, HYS.out, ← HLS.out]; simp, S9.out, HB9.out⟩
      case measure => simp [intOf]
    | zero =>
      obtain rfl : z = -1 := by omega
      clear hz
      have hyF : ys = F := by rw [HYS.out, ← HF.out, Nat.sub_zero, List.take_of_length_le (by simp)]
      subst hyF
      have CELL := Lib.hid (fun (W : World) (hb : Turn w5.heap.size W.heap.size wr W) => (show ∃ (hd : Hd), W.cell? ⟨g, o + P * 4 + 2, none⟩ = some (.slice hd.clA os[P].cl.length hd.clC) ∧ RdI W w1.heap.size hd.clA os[P].cl from by
        obtain ⟨g2, o2, hd, hA, _, ⟨_, _, e2, _⟩, q1, _⟩ := (X1.out.turn hb (.inl (by omega))).rd.at_ hP
        injection hA with hA
        injection hA with h1 h2
        subst h1 h2
        exact ⟨hd, e2, q1⟩))
      obtain ⟨cl, hcl⟩ : ∃ cl, os[P].cl = cl := ⟨_, rfl⟩
      rw [hcl] at hFl
      simp only [hcl] at CELL
      have HREC := Lib.hid (show xs = ys ++ cl.reverse from by rw [← hcl]; exact HREC.out)
      obtain ⟨hd0, cl2, _⟩ := CELL.out wr (Turn.refl _ _ _)
      have BF := Lib.hid (B6.out.trans (HB.out.mono (by omega)))
      clear hcl HYS HF HTK HLB HKS XK KS HOP c1'
      obtain ⟨wx, hwx⟩ : ∃ wo : World, wo = wr := ⟨_, rfl⟩
      subst hwx
      go_wp2_with fail
      go_loopw [6, 9] (fun v i wr => ∃ (j : Nat) (z : Int) (A7 : Option Addr) (c7 : Nat) (zs : List Int), j ≤ cl.length ∧ z = (j : Int) - 1 ∧ i = .int .i64 z ∧ v = .slice A7 zs.length c7 ∧ zs = ys ++ cl.reverse.take (cl.length - j) ∧ SlI wr w5.heap.size wr.heap.size A7 c7 zs ∧ Turn w5.heap.size wr.heap.size wx wr) (fun _ i _ => (intOf i + 1).toNat)
      case atStart => exact ⟨cl.length, _, A7, c7, ys, Nat.le_refl _, rfl, rfl, rfl, by simp, SY.out, Turn.refl _ _ _⟩
      case round =>
        clear cl2 SY
        obtain ⟨j, z, A8, c8, zs, hj, hz, rfl, rfl, hzs, sz, ht⟩ := hrel
        have hzl : zs.length ≤ 108 := by rw [hzs, List.length_append, List.length_take, List.length_reverse]; omega
        have HZS := Lib.hid hzs
        have SZ := Lib.hid sz
        have hzb := ht.size
        have HT2 := Lib.hid ht
        clear hzs sz ht
        cases j with
        | succ j =>
          obtain rfl : z = (j : Int) := by omega
          clear hz
          have hjl : j < cl.length := by omega
          have RS := Lib.hid (rev_snoc hjl)
          obtain ⟨hd2, cl3, q3⟩ := CELL.out _ HT2.out
          obtain ⟨adc, hadc, hcb, hcc⟩ := q3.at_ hjl
          have hcj := hcc j hjl
          rw [hadc] at cl3
          have hji : (0 : Int) ≤ (j : Int) := Int.natCast_nonneg _
          obtain ⟨u, hu⟩ : ∃ u, cl[j] = u := ⟨_, rfl⟩
          rw [hu] at hcj RS
          clear hcc hu hadc hcb q3
          go_wp2_with (at_builtin; refine wpList_appI (.tmp 85) (.tmp 94) rfl rfl zs [u] rfl rfl (SZ.out.alloc _) rfl rfl (SlI.newAt (w := wr) wr.heap.size rfl [u] (lo := 0) (Nat.zero_le _)).rd (by simp; omega) (by simp; omega) ?_; intro A9 c9 w9 h9 t9 _)
          have hz9 : wr.heap.size + 1 ≤ w9.heap.size := by have := t9.size; simpa using this
          have S9 := Lib.hid (h9.all t9 (by simp))
          have T9 := Lib.hid (show Turn w5.heap.size w9.heap.size wx w9 from ((HT2.out.alloc (.cells (ints [u]).toArray 3)).mono (Nat.le_refl _) (by omega)).trans (t9.mono (Nat.le_refl _) (by omega)))
          clear h9 t9
          go_wp2
          go_roundw
          case rel => exact ⟨j, _, A9, c9, zs ++ [u], by omega, rfl, by first | rfl | go_num, by simp, by rw [RS.out, HZS.out, List.append_assoc], S9.out, T9.out⟩
          case measure => simp [intOf]
        | zero =>
          obtain rfl : z = -1 := by omega
          clear hz
          have hzx : zs = xs := by rw [HZS.out, HREC.out, Nat.sub_zero, List.take_of_length_le (by simp)]
          subst hzx
          have XX := Lib.hid (X2.out.turn HT2.out (.inl (by omega)))
          have BG := Lib.hid (Below.new BF.out HT2.out (by omega) (Nat.le_refl _))
          clear HZS HREC CELL
          go_wp2_with fail
          refine (qb (equalInts (c := c8) (c' := c2) zs zs rfl rfl (by omega) SZ.out.rd XX.out.rd)).mono ?_; rw [decide_eq_true (Eq.refl zs)]; rintro e w9 ⟨rfl, b9⟩
          have HF9 := Lib.hid (BG.out.trans (b9.mono (by omega)))
          clear b9
          go_wp2_with fail
          go_ret
          exact ⟨rfl, HF9.out⟩
end Go.Proofs.Ytnlbmiangbahgaa

/-
  The walk of laws.FnLiveOf.
-/
import Derived.Test.YtbdkodlaagcknaaAboveLaw
import Derived.Test.YtbdkodlaagcknaaDrawO
import Derived.Test.YtbdkodlaagcknaaEqO
import Derived.Test.YtbdkodlaagcknaaAsc
namespace Go.Proofs.Ytbdkodlaagcknaa
open Go.RowKit

theorem aboveOf_le (os : List Own) (k : Int) (h : os.length ≤ 12) : (aboveOfF os k).length ≤ 14 := by
  unfold aboveOfF aboveF
  split
  · exact Nat.le_trans (aboveG_len _ _ _) (by omega)
  · simp
theorem liveOf_le (os : List Own) (h : os.length ≤ 12) : (liveOfF os).length ≤ 14 := by
  unfold liveOfF
  split
  · exact Nat.le_trans (selF_le _ _) (by omega)
  · simp
/-- who is open has open ones above -/
theorem live_up {os : List Own} (hv : voB os = true) : ∀ {i : Nat} {x : Own}, os[i]? = some x → x.op = true → ∀ a ∈ aboveOfF os (i : Int), a ∈ liveF os := by
  have key : ∀ (m i : Nat) (x : Own), os[i]? = some x → x.op = true → ∀ a ∈ aboveG os m (i : Int), a ∈ liveF os := by
    intro m
    induction m with
    | zero => intro i x _ _ a ha; cases ha
    | succ m ih =>
      intro i x hx ho a ha
      rw [aboveG, if_neg (by omega), List.mem_cons, parAt_get hx] at ha
      have hi := (List.getElem?_eq_some_iff.1 hx).1
      rcases ha with rfl | ha
      · unfold liveF
        refine mem_selF.2 ⟨i, hi, ?_, rfl⟩
        rw [List.getElem?_eq_getElem hi] at hx
        injection hx with hx
        rw [liveB_at hi, hx, ho]
      · have hk := okO_iff.1 ((vo_iff.1 hv).1 i x hx)
        rcases parB_iff.1 hk.1.1 with ⟨h0, h1⟩ | ⟨h0, h1, h2⟩
        · rw [h1, aboveG_neg _ _ _ (by omega)] at ha; cases ha
        · obtain ⟨q, hq⟩ := Int.eq_ofNat_of_zero_le h1
          rw [hq] at ha
          rcases hk.2.1 ho with h5 | h5
          · omega
          · rw [hq] at h5
            obtain ⟨y, hy, hyo⟩ := opAt_get.1 h5
            exact ih q y hy hyo a ha
  intro i x hx ho a ha
  unfold aboveOfF at ha
  split at ha
  · exact key _ i x hx ho a ha
  · cases ha
set_option maxRecDepth 100000 in
set_option maxHeartbeats 3200000 in
theorem walkFnLiveOf (A : Option Addr) (c : Nat) (bs : List Int) (w : World) (hr : Rd w w.heap.size A (bytes8 bs)) (hn : bs.length ≤ 9223372036854775807) (lc : bs.length ≤ c) (cm : c ≤ 9223372036854775807) (hx : ∀ x ∈ bs, (Lit.int .u8 x).wf = true) :
    Calls Try.prog 11 #[.slice A bs.length c] w fun e w' => e = .returned (.bool true) ∧ Below w.heap.size w w' := by
  by_cases hbig : bs.length ≤ 1048576
  case neg =>
    go_enter Try.func11, Try.ntmps11
    go_wp2
    go_ret
    exact ⟨rfl, Below.refl _ _⟩
  case pos =>
  have HR := Lib.hid hr; clear hr
  have HX := Lib.hid hx; clear hx
  go_enter Try.func11, Try.ntmps11
  go_wp2_with fail
  refine (drawLiveOf bs rfl lc cm HX.out HR.out).mono ?_; rintro e w1 ⟨A1, c1, os, rfl, hsm, s1, b1⟩
  have hz1 := b1.size
  have hl12 := hsm.1.2
  have HM := Lib.hid (show ∀ o ∈ os, o.cl.length ≤ 1099511627776 ∧ o.cx.length ≤ 1099511627776 from fun o ho => by have := hsm.2 o ho; omega)
  have S1 := Lib.hid s1
  have B1 := Lib.hid b1
  clear s1 b1 HR HX hsm
  go_wp2_with fail
  refine (implLiveOf (c := c1)  os rfl (by omega) HM.out S1.out.rd (Nat.le_refl _)).mono ?_; rintro e w2 ⟨A2, c2, rfl, s2, b2⟩
  have hz2 := b2.size
  have SP := Lib.hid (fun (W : World) (hb : Below w1.heap.size w1 W) => specLiveOf (w := W) (c := c1)  os rfl (by omega) HM.out (S1.out.below hb (Nat.le_refl _)).rd hb.size)
  obtain ⟨xs, hxs⟩ : ∃ xs, liveOfF os = xs := ⟨_, rfl⟩
  have hxl : xs.length ≤ 14 := by rw [← hxs]; exact liveOf_le os hl12
  rw [hxs] at s2 SP ⊢
  have XS := Lib.hid hxs; clear hxs
  have S1 := Lib.hid (S1.out.below b2 (Nat.le_refl _))
  have S2 := Lib.hid (show SlI w2 w1.heap.size w2.heap.size A2 c2 xs from s2)
  have B2 := Lib.hid (B1.out.trans (b2.mono hz1))
  have SP2 := Lib.hid (SP.out w2 b2)
  have HB2 := Lib.hid b2
  clear s2 b2
  go_wp2_with fail
  refine SP2.out.mono ?_; rintro e w3 ⟨A3, c3, rfl, s3, b3⟩
  have hz3 := b3.size
  have S1 := Lib.hid (S1.out.below b3 (by omega))
  have S2 := Lib.hid (S2.out.below b3 (Nat.le_refl _))
  have S3 := Lib.hid (show SlI w3 w2.heap.size w3.heap.size A3 c3 xs from s3)
  have B3 := Lib.hid (B2.out.trans (b3.mono (by omega)))
  have HB3 := Lib.hid (HB2.out.trans (b3.mono hz2))
  clear s3 b3 SP2 B1 B2 HB2
  go_wp2_with fail
  refine (qb (equalInts (c := c2) (c' := c3) xs xs rfl rfl (by omega) S2.out.rd S3.out.rd)).mono ?_; rw [decide_eq_true (Eq.refl xs)]; rintro e w4 ⟨rfl, b4⟩
  have hz4 := b4.size
  have S1 := Lib.hid (S1.out.below b4 (by omega))
  have S2 := Lib.hid (S2.out.below b4 (by omega))
  have B4 := Lib.hid (B3.out.trans (b4.mono (by omega)))
  have HB4 := Lib.hid (HB3.out.trans (b4.mono (by omega)))
  have SP4 := Lib.hid (SP.out w4 HB4.out)
  have SPF := SP
  clear b4 S3 B3 HB3 SP SP4
  have VO := Lib.hid (implValidOwners (w := w4) (c := c1) os rfl (by omega) HM.out S1.out.rd (by omega))
  go_wp2_with fail
  refine VO.out.mono ?_; rintro e w5 ⟨rfl, b5⟩
  have hz5 := b5.size
  have S1 := Lib.hid (S1.out.below b5 (by omega))
  have S2 := Lib.hid (S2.out.below b5 (by omega))
  have B4 := Lib.hid (B4.out.trans (b5.mono (by omega)))
  have SP4 := Lib.hid (SPF.out w5 (HB4.out.trans (b5.mono (by omega))))
  clear b5 VO SPF HB4
  cases hv : voB os
  case false =>
    go_wp2_with fail
    refine SP4.out.mono ?_; rintro e w6 ⟨A5, c5, rfl, s5, b5⟩
    have z5 := b5.size
    have T2 := Lib.hid (S2.out.below b5 (by omega))
    have T5 := Lib.hid (show SlI w6 w5.heap.size w6.heap.size A5 c5 xs from s5)
    have C5 := Lib.hid (B4.out.trans (b5.mono (by omega)))
    clear s5 b5
    go_wp2_with fail
    refine (qb (equalInts (c := c2) (c' := c5) xs xs rfl rfl (by first | omega | simp) T2.out.rd T5.out.rd)).mono ?_; rw [decide_eq_true (Eq.refl _)]; rintro e w7 ⟨rfl, b6⟩
    have C6 := Lib.hid (C5.out.trans (b6.mono (by omega)))
    clear b6
    go_wp2_with fail
    go_ret
    exact ⟨rfl, C6.out⟩
  case true =>
  have hxs := XS.out
  have hxe : xs = liveF os := by rw [← hxs]; unfold liveOfF; rw [hv]; rfl
  have HLV := Lib.hid (fun (a : Int) (ha : a ∈ xs) => (show ∃ (i : Nat) (x : Own), a = i ∧ os[i]? = some x ∧ x.op = true from by
    rw [hxe] at ha
    obtain ⟨i, h1, h2, h3⟩ := mem_selF.1 ha
    rw [liveB_at h1] at h2
    exact ⟨i, _, h3, List.getElem?_eq_getElem h1, h2⟩))
  have HASC := Lib.hid (show xs.Pairwise (· < ·) from by rw [hxe]; exact selF_asc _ _)
  have HWI := Lib.hid (fun (i : Nat) (x : Own) (hx : os[i]? = some x) (ho : x.op = true) => (show withinB (aboveOfF os (i : Int)) xs = true from by
    rw [withinB_iff, hxe]
    exact live_up hv hx ho))
  have HV := Lib.hid hv
  clear hxs hxe hv SP4
  go_wp2_with fail
  go_loopw [5] (fun i wr => ∃ j : Nat, j ≤ xs.length ∧ i = .int .i64 j ∧ Below w5.heap.size w5 wr) (fun i _ => xs.length - (intOf i).toNat)
  case atStart => exact ⟨0, Nat.zero_le _, rfl, Below.refl _ _⟩
  case round =>
    obtain ⟨j, hj, rfl, hb⟩ := hrel
    have hzb := hb.size
    have X1 := Lib.hid (S1.out.below hb (by omega))
    have X2 := Lib.hid (S2.out.below hb (by omega))
    have HB := Lib.hid hb
    clear hb
    by_cases hlt : j < xs.length
    · obtain ⟨i, x, hi, hx, ho⟩ := HLV.out xs[j] (List.getElem_mem hlt)
      obtain ⟨adk, rfl⟩ : ∃ adk, A2 = some adk := by obtain ⟨adk, h, _⟩ := X2.out.rd.at_ hlt; exact ⟨adk, h⟩
      have ck := X2.out.cellAt hlt hi
      have hio : i < os.length := (List.getElem?_eq_some_iff.1 hx).1
      have hxi : os[i] = x := by have := List.getElem?_eq_getElem hio; rw [hx] at this; injection this with this; exact this.symm
      have AB := Lib.hid (implAboveOf (w := wr) (c := c1) (i : Int) os rfl (by omega) HM.out X1.out.rd (by omega))
      have HW := Lib.hid (HWI.out i x hx ho)
      have hal : (aboveOfF os (i : Int)).length ≤ 14 := aboveOf_le os _ hl12
      obtain ⟨ys, hys⟩ : ∃ ys, aboveOfF os (i : Int) = ys := ⟨_, rfl⟩
      rw [hys] at AB HW hal
      have HCELL := Lib.hid (fun (W : World) (hb : Below wr.heap.size wr W) => (show W.cell? (adk.add j) = some (.int .i64 (i : Int)) ∧ ∃ (g o : Nat), A1 = some ⟨g, o, none⟩ ∧ W.cell? ⟨g, o + i * 4 + 1, none⟩ = some (.bool true) from by
        obtain ⟨g, o, hd, hA, _, ⟨_, c1', _, _⟩, _⟩ := (X1.out.below hb (by omega)).rd.at_ hio
        rw [hxi, ho] at c1'
        exact ⟨(X2.out.below hb (by omega)).cellAt hlt hi, g, o, hA, c1'⟩))
      obtain ⟨_, g, o, rfl, _⟩ := HCELL.out wr (Below.refl _ _)
      have hij : (0 : Int) ≤ (i : Int) := Int.natCast_nonneg _
      clear hys hx ho hxi hi
      go_wp2_with fail
      refine AB.out.mono ?_; rintro e w6 ⟨A6, c6, rfl, s6, b6⟩
      have hz6 := b6.size
      have Y6 := Lib.hid (show SlI w6 wr.heap.size w6.heap.size A6 c6 ys from s6)
      have X6 := Lib.hid (X2.out.below b6 (by omega))
      have WI := Lib.hid (within (w := w6) (c := c6) (c' := c2) ys xs rfl rfl (by omega) (by omega) Y6.out.rd X6.out.rd)
      rw [HW.out] at WI
      obtain ⟨ck6, g', o', hA, cb6⟩ := HCELL.out w6 b6
      simp only [Option.some.injEq, Addr.mk.injEq, and_true] at hA
      obtain ⟨rfl, rfl⟩ := hA
      have HB6 := Lib.hid (HB.out.trans (b6.mono (by omega)))
      clear s6 b6 AB HCELL ck
      go_wp2_with fail
      refine WI.out.mono ?_; rintro e w7 ⟨rfl, rfl⟩
      go_wp2_with fail
      go_roundw
      case rel => exact ⟨j + 1, by omega, by go_num, HB6.out⟩
      case measure => simp [intOf]; omega
    · have AS := Lib.hid (ascends_yes (w := wr) (c := c2) xs rfl (by omega) HASC.out X2.out.rd)
      have BF := Lib.hid (B4.out.trans (HB.out.mono (by omega)))
      go_wp2_with fail
      refine AS.out.mono ?_; rintro e w7 ⟨d, rfl, rfl⟩
      go_wp2_with fail
      go_ret
      exact ⟨rfl, below_drewN BF.out d⟩
end Go.Proofs.Ytbdkodlaagcknaa

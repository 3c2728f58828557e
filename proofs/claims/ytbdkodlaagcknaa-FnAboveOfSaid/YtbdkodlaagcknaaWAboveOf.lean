/-
  The walk of laws.FnAboveOf.
-/
import Derived.Test.YtbdkodlaagcknaaAboveLaw
import Derived.Test.YtbdkodlaagcknaaDrawO
import Derived.Test.YtbdkodlaagcknaaEqO
import Derived.Test.YtbdkodlaagcknaaLists
namespace Go.Proofs.Ytbdkodlaagcknaa
open Go.RowKit

theorem aboveOf_le (os : List Own) (k : Int) (h : os.length ≤ 12) : (aboveOfF os k).length ≤ 14 := by
  unfold aboveOfF aboveF
  split
  · exact Nat.le_trans (aboveG_len _ _ _) (by omega)
  · simp
set_option maxRecDepth 100000 in
set_option maxHeartbeats 3200000 in
theorem walkFnAboveOf (A : Option Addr) (c : Nat) (bs : List Int) (w : World) (hr : Rd w w.heap.size A (bytes8 bs)) (hn : bs.length ≤ 9223372036854775807) (lc : bs.length ≤ c) (cm : c ≤ 9223372036854775807) (hx : ∀ x ∈ bs, (Lit.int .u8 x).wf = true) :
    Calls Try.prog 9 #[.slice A bs.length c] w fun e w' => e = .returned (.bool true) ∧ Below w.heap.size w w' := by
  by_cases hbig : bs.length ≤ 1048576
  case neg =>
    go_enter Try.func9, Try.ntmps9
    go_wp2
    go_ret
    exact ⟨rfl, Below.refl _ _⟩
  case pos =>
  have HR := Lib.hid hr; clear hr
  have HX := Lib.hid hx; clear hx
  go_enter Try.func9, Try.ntmps9
  go_wp2_with fail
  refine (drawAboveOf bs rfl lc cm HX.out HR.out).mono ?_; rintro e w1 ⟨A1, c1, os, k, rfl, ⟨hkl, hkh⟩, hsm, s1, b1⟩
  have hz1 := b1.size
  have hl12 := hsm.1.2
  have HM := Lib.hid (show ∀ o ∈ os, o.cl.length ≤ 1099511627776 ∧ o.cx.length ≤ 1099511627776 from fun o ho => by have := hsm.2 o ho; omega)
  have S1 := Lib.hid s1
  have B1 := Lib.hid b1
  clear s1 b1 HR HX hsm
  go_wp2_with fail
  refine (implAboveOf (c := c1) k os rfl (by omega) HM.out S1.out.rd (Nat.le_refl _)).mono ?_; rintro e w2 ⟨A2, c2, rfl, s2, b2⟩
  have hz2 := b2.size
  have SP := Lib.hid (fun (W : World) (hb : Below w1.heap.size w1 W) => specAboveOf (w := W) (c := c1) k os rfl (by omega) HM.out (S1.out.below hb (Nat.le_refl _)).rd hb.size)
  obtain ⟨xs, hxs⟩ : ∃ xs, aboveOfF os k = xs := ⟨_, rfl⟩
  have hxl : xs.length ≤ 14 := by rw [← hxs]; exact aboveOf_le os k hl12
  rw [hxs] at s2 SP ⊢
  have XS := Lib.hid hxs; clear hxs
  have S1 := Lib.hid (S1.out.below b2 (Nat.le_refl _))
  have S2 := Lib.hid (show SlI w2 w1.heap.size w2.heap.size A2 c2 xs from s2)
  have B2 := Lib.hid (B1.out.trans (b2.mono hz1))
  have SP2 := Lib.hid (SP.out w2 b2)
  have HB2 := Lib.hid b2
  clear s2 b2
  go_wp2_with fail
  refine SP2.out.mono ?_; rintro e w3 ⟨A3, c3, rfl, s3, b3⟩
  have hz3 := b3.size
  have S1 := Lib.hid (S1.out.below b3 (by omega))
  have S2 := Lib.hid (S2.out.below b3 (Nat.le_refl _))
  have S3 := Lib.hid (show SlI w3 w2.heap.size w3.heap.size A3 c3 xs from s3)
  have B3 := Lib.hid (B2.out.trans (b3.mono (by omega)))
  have HB3 := Lib.hid (HB2.out.trans (b3.mono hz2))
  clear s3 b3 SP2 B1 B2 HB2
  go_wp2_with fail
  refine (qb (equalInts (c := c2) (c' := c3) xs xs rfl rfl (by omega) S2.out.rd S3.out.rd)).mono ?_; rw [decide_eq_true (Eq.refl xs)]; rintro e w4 ⟨rfl, b4⟩
  have hz4 := b4.size
  have S1 := Lib.hid (S1.out.below b4 (by omega))
  have S2 := Lib.hid (S2.out.below b4 (by omega))
  have B4 := Lib.hid (B3.out.trans (b4.mono (by omega)))
  have HB4 := Lib.hid (HB3.out.trans (b4.mono (by omega)))
  have SP4 := Lib.hid (SP.out w4 HB4.out)
  clear b4 S3 B3 HB3 SP
  by_cases hne : xs = []
  case pos =>
    subst hne
    go_wp2_with fail
    refine SP4.out.mono ?_; rintro e w5 ⟨A5, c5, rfl, s5, b5⟩
    have z5 := b5.size
    have T2 := Lib.hid (S2.out.below b5 (by omega))
    have T5 := Lib.hid (show SlI w5 w4.heap.size w5.heap.size A5 c5 [] from s5)
    have C5 := Lib.hid (B4.out.trans (b5.mono (by omega)))
    clear s5 b5
    go_wp2_with fail
    refine (qb (equalInts (c := c2) (c' := c5) [] [] rfl rfl (by simp; try omega) T2.out.rd T5.out.rd)).mono ?_; rw [decide_eq_true (Eq.refl _)]; rintro e w6 ⟨rfl, b6⟩
    have C6 := Lib.hid (C5.out.trans (b6.mono (by omega)))
    clear b6
    go_wp2_with fail
    go_ret
    exact ⟨rfl, C6.out⟩
  case neg =>
  have hxs := XS.out
  rw [← hxs] at hne
  obtain ⟨hv, ⟨hk0, hk1⟩, l, hl, w1', w2', w3', w4'⟩ := aboveOf_way hne
  rw [hl] at hxs
  have HW1 := Lib.hid w1'
  have HW2 := Lib.hid w2'
  have HW3 := Lib.hid w3'
  subst hxs
  have hll : l.length ≤ 12 := w4'
  obtain ⟨ad, rfl⟩ : ∃ ad, A2 = some ad := by obtain ⟨ad, h, _⟩ := S2.out.rd.at_ (k := 0) (by simp); exact ⟨ad, h⟩
  clear hne hl w1' w2' w3' w4' SP4 HB4 XS hv
  go_wp2_with fail
  go_loopw [6] (fun i wr => ∃ (q d : Nat), q ≤ l.length ∧ i = .int .i64 ((q : Int) + 1) ∧ wr = w4.drewN d) (fun i _ => l.length + 1 - (intOf i).toNat)
  case atStart => exact ⟨0, 0, by omega, rfl, rfl⟩
  case round =>
    obtain ⟨q, d, hq, rfl, rfl⟩ := hrel
    by_cases hlt : q < l.length
    · have hltI : (q : Int) + 1 < (l.length : Int) + 1 := by omega
      have hq1 : q < (k :: l).length := by simp; omega
      have hq2 : q + 1 < (k :: l).length := by simp; omega
      obtain ⟨i, x, hi, hx, hp⟩ := HW1.out q _ _ (List.getElem?_eq_getElem hq1) (List.getElem?_eq_getElem hq2)
      have c1' := S2.out.cellAt hq1 hi
      have c2' := S2.out.cellAt hq2 rfl
      have hio : i < os.length := (List.getElem?_eq_some_iff.1 hx).1
      have hxi : os[i] = x := by have := List.getElem?_eq_getElem hio; rw [hx] at this; injection this with this; exact this.symm
      obtain ⟨g, o, hd, rfl, _, ⟨c0, _, _, _⟩, _⟩ := S1.out.rd.at_ hio
      rw [hxi, hp] at c0
      obtain ⟨y, hy⟩ : ∃ y, (k :: l)[q + 1] = y := ⟨_, rfl⟩
      rw [hy] at c0 c2'
      have hyy : (y != y) = false := by simp
      have hqz : (0 : Int) ≤ (q : Int) := Int.natCast_nonneg _
      have hiz : (0 : Int) ≤ (i : Int) := Int.natCast_nonneg _
      have htn : ((q : Int) + 1).toNat = q + 1 := by omega
      have hlq : (q : Int) < (l.length : Int) := by omega
      have hq0 : (0 : Int) ≤ (q : Int) + 1 := by omega
      have hwr : IntKind.i64.wrap (q : Int) = (q : Int) := IntWalk.i64_in _ (by omega)
      have hqq : (q : Int) < (l.length : Int) + 1 := by omega
      clear hi hx hp hxi hy hq1 hq2
      have c2s := c2'
      simp [Addr.add] at c2s
      go_wp2_with fail
      go_quiet (fail)
      go_wp2_with fail
      go_roundw
      case rel => exact ⟨q + 1, _, by omega, by go_num, rfl⟩
      case measure => simp [intOf]; omega
    · obtain rfl : q = l.length := by omega
      have c0 : w4.cell? ad = some (.int .i64 k) := by have := S2.out.cellAt (k := 0) (p := k) (by simp) rfl; simpa [Addr.add] using this
      have hlast : (k :: l)[l.length]'(by simp) = 0 := by
        have := HW2.out
        rw [List.getLast?_eq_getElem?] at this
        simp only [List.length_cons, Nat.add_sub_cancel] at this
        rw [List.getElem?_eq_getElem (by simp)] at this
        injection this
      have cl := S2.out.cellAt (k := l.length) (by simp) hlast
      have hkk : (k == k) = true := by simp
      have B := Lib.hid (below_drewN B4.out d)
      clear hlast
      go_wp2_with fail
      go_ret
      exact ⟨rfl, B.out⟩
end Go.Proofs.Ytbdkodlaagcknaa

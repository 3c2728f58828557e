/-
  The walk of laws.FnCostOf.
-/
import Derived.Test.YtjajcionbnfldaaKeysDraws
import Derived.Test.YtjajcionbnfldaaCostLaw
namespace Go.Proofs.Ytjajcionbnfldaa
open Go.RowKit

set_option maxRecDepth 100000 in
set_option maxHeartbeats 800000 in
theorem walkFnCostOf (A : Option Addr) (c : Nat) (bs : List Int) (w : World) (hr : Rd w w.heap.size A (bytes8 bs)) (hn : bs.length ≤ 9223372036854775807) (lc : bs.length ≤ c) (cm : c ≤ 9223372036854775807) (hx : ∀ x ∈ bs, (Lit.int .u8 x).wf = true) :
    Calls Try.prog 4 #[.slice A bs.length c] w fun e w' => e = .returned (.bool true) ∧ Below w.heap.size w w' := by
  by_cases hbig : bs.length ≤ 1048576
  · have HR := Lib.hid hr; clear hr
    have HX := Lib.hid hx; clear hx
    go_enter Try.func4, Try.ntmps4
    go_wp2_with fail
    refine (drawCostOf bs rfl lc cm HX.out HR.out).mono ?_; rintro e w1 ⟨A1, c1, xs, A2, c2, ys, rfl, hl1, hl2, hc1, hc2, r1, r2, b1⟩
    have z1 := b1.size
    have X1 := Lib.hid r1
    have Y1 := Lib.hid r2
    have B1 := Lib.hid b1
    clear r1 r2 b1 HR HX
    obtain ⟨v, hv⟩ : ∃ v, costF xs ys = v := ⟨_, rfl⟩
    have HV := Lib.hid hv; clear hv
    go_wp2_with fail
    refine (implCostOf xs ys rfl rfl (by omega) (by omega) hc1 hc2 X1.out Y1.out (Nat.le_refl _) (Nat.le_refl _)).mono ?_; rw [HV.out]; rintro e w2 ⟨rfl, b2⟩
    have z2 := b2.size
    have X := Lib.hid (X1.out.below b2)
    have Y := Lib.hid (Y1.out.below b2)
    have B := Lib.hid (B1.out.trans (b2.mono z1))
    clear b2 X1 Y1 B1
    go_wp2_with fail
    refine (specCostOf xs ys rfl rfl (by omega) (by omega) hc1 hc2 X.out Y.out z2 z2).mono ?_; rw [HV.out]; rintro e w3 ⟨rfl, b3⟩
    have z3 := b3.size
    have X := Lib.hid (X.out.belowLe b3 z2)
    have Y := Lib.hid (Y.out.belowLe b3 z2)
    have B := Lib.hid (B.out.trans (b3.mono (Nat.le_trans z1 z2)))
    clear b3
    have hne : (v != v) = false := by simp
    by_cases hneg : v < 0
    · go_wp2_with fail
      refine (specCostOf xs ys rfl rfl (by omega) (by omega) hc1 hc2 X.out Y.out (by omega) (by omega)).mono ?_; rw [HV.out]; rintro e w4 ⟨rfl, b4⟩
      have B := Lib.hid (B.out.trans (b4.mono (by omega)))
      clear b4
      go_wp2_with fail
      go_ret
      exact ⟨ret_bool (by simp), B.out⟩
    · have hval : (vkB xs && vkB ys) = true := by
        by_cases h : (vkB xs && vkB ys) = true
        · exact h
        · have := HV.out
          unfold costF at this
          rw [if_neg h] at this
          omega
      have HP := Lib.hid (show patchOfF xs ys = patchF xs ys from by unfold patchOfF; rw [hval]; rfl)
      have hvl : v = ((patchF xs ys).length : Int) := by rw [← HV.out]; unfold costF; rw [hval]; rfl
      rw [Bool.and_eq_true] at hval
      have hz : decide (v = 0) = decide (xs = ys) := by
        rw [hvl]
        have := patchF_zero (vkB_iff.1 hval.1).1 (vkB_iff.1 hval.2).1
        by_cases h : xs = ys
        · have h2 := this.2 h; rw [decide_eq_true h, decide_eq_true (by omega)]
        · have h2 : ¬ (patchF xs ys).length = 0 := fun e => h (this.1 e)
          rw [decide_eq_false h, decide_eq_false (by omega)]
      have HZ := Lib.hid hz
      have HVL := Lib.hid hvl
      have HS := Lib.hid ((costF_sym xs ys).trans HV.out)
      clear hval hz hvl
      go_wp2_with fail
      refine (implPatchOf xs ys rfl rfl (by omega) (by omega) hc1 hc2 X.out Y.out (by omega) (by omega)).mono ?_; rw [HP.out]; rintro e w5 ⟨A5, c5, rfl, s5, b5⟩
      have z5 := b5.size
      have X := Lib.hid (X.out.belowLe b5 (by omega))
      have Y := Lib.hid (Y.out.belowLe b5 (by omega))
      have B := Lib.hid (B.out.trans (b5.mono (by omega)))
      obtain ⟨pn, hpn⟩ : ∃ pn, (patchF xs ys).length = pn := ⟨_, rfl⟩
      rw [hpn]
      have ht : (v == (pn : Int)) = true := by rw [HVL.out, hpn]; simp
      clear s5 b5 hpn HVL
      go_wp2_with fail
      refine (implCostOf ys xs rfl rfl (by omega) (by omega) hc2 hc1 Y.out X.out (by omega) (by omega)).mono ?_; rw [HS.out]; rintro e w6 ⟨rfl, b6⟩
      have z6 := b6.size
      have X := Lib.hid (X.out.belowLe b6 (by omega))
      have Y := Lib.hid (Y.out.belowLe b6 (by omega))
      have B := Lib.hid (B.out.trans (b6.mono (by omega)))
      clear b6 ht
      have ht2 : (v == v) = true := by simp
      go_wp2_with fail
      refine (qb (equalInts xs ys rfl rfl (by omega) X.out Y.out)).mono ?_; rintro e w7 ⟨rfl, b7⟩
      have B := Lib.hid (B.out.trans (b7.mono (by omega)))
      clear b7 ht2
      have HB2 := Lib.hid (show ((v == 0) == decide (xs = ys)) = true from by rw [← HZ.out]; by_cases h0 : v = 0 <;> simp [h0])
      go_wp2_with fail
      go_ret
      exact ⟨ret_bool (by first | exact HB2.out | (have := HB2.out; simp at this ⊢; exact this)), B.out⟩
  · go_enter Try.func4, Try.ntmps4
    go_wp2
    go_ret
    exact ⟨rfl, Below.refl _ _⟩
end Go.Proofs.Ytjajcionbnfldaa

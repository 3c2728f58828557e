/-
  The walk of laws.FnMovesOf.
-/
import Derived.Test.YtplgmieiclicoaaKeysDraws
import Derived.Test.YtplgmieiclicoaaStaysMost
namespace Go.Proofs.Ytplgmieiclicoaa
open Go.RowKit

set_option maxRecDepth 100000 in
set_option maxHeartbeats 800000 in
theorem walkFnMovesOf (A : Option Addr) (c : Nat) (bs : List Int) (w : World) (hr : Rd w w.heap.size A (bytes8 bs)) (hn : bs.length ≤ 9223372036854775807) (lc : bs.length ≤ c) (cm : c ≤ 9223372036854775807) (hx : ∀ x ∈ bs, (Lit.int .u8 x).wf = true) :
    Calls Try.prog 11 #[.slice A bs.length c] w fun e w' => e = .returned (.bool true) ∧ Below w.heap.size w w' := by
  by_cases hbig : bs.length ≤ 1048576
  · have HR := Lib.hid hr; clear hr
    have HX := Lib.hid hx; clear hx
    go_enter Try.func11, Try.ntmps11
    go_wp2_with fail
    refine (drawMovesOf bs rfl lc cm HX.out HR.out).mono ?_; rintro e w1 ⟨A1, c1, xs, A2, c2, ys, rfl, hl1, hl2, hc1, hc2, r1, r2, b1⟩
    have z1 := b1.size
    have X1 := Lib.hid r1
    have Y1 := Lib.hid r2
    have B1 := Lib.hid b1
    clear r1 r2 b1 HR HX
    obtain ⟨v, hv⟩ : ∃ v, movesOfF xs ys = v := ⟨_, rfl⟩
    have HV := Lib.hid hv; clear hv
    go_wp2_with fail
    refine (implMovesOf xs ys rfl rfl (by omega) (by omega) hc1 hc2 X1.out Y1.out (Nat.le_refl _) (Nat.le_refl _)).mono ?_; rw [HV.out]; rintro e w2 ⟨rfl, b2⟩
    have z2 := b2.size
    have X := Lib.hid (X1.out.below b2)
    have Y := Lib.hid (Y1.out.below b2)
    have B := Lib.hid (B1.out.trans (b2.mono z1))
    clear b2 X1 Y1 B1
    go_wp2_with fail
    refine (specMovesOf xs ys rfl rfl (by omega) (by omega) hc1 hc2 X.out Y.out z2 z2).mono ?_; rw [HV.out]; rintro e w3 ⟨rfl, b3⟩
    have z3 := b3.size
    have X := Lib.hid (X.out.belowLe b3 z2)
    have Y := Lib.hid (Y.out.belowLe b3 z2)
    have B := Lib.hid (B.out.trans (b3.mono (Nat.le_trans z1 z2)))
    clear b3
    have hne : (v != v) = false := by simp
    by_cases hneg : v < 0
    · go_wp2_with fail
      refine (specMovesOf xs ys rfl rfl (by omega) (by omega) hc1 hc2 X.out Y.out (by omega) (by omega)).mono ?_; rw [HV.out]; rintro e w4 ⟨rfl, b4⟩
      have B := Lib.hid (B.out.trans (b4.mono (by omega)))
      clear b4
      go_wp2_with fail
      go_ret
      exact ⟨ret_bool (by simp), B.out⟩
    · have hval : (vkB xs && vkB ys) = true := by
        by_cases h : (vkB xs && vkB ys) = true
        · exact h
        · have := HV.out
          unfold movesOfF at this
          rw [if_neg h] at this
          omega
      rw [Bool.and_eq_true] at hval
      have HV1 := Lib.hid hval.1
      have HV2 := Lib.hid hval.2
      clear hval
      go_wp2_with fail
      clear hne
      go_loopw [6, 7] (fun nv i wr => wr = w3 ∧ ∃ k : Nat, k ≤ xs.length ∧ i = .int .i64 k ∧ nv = .int .i64 ((commF (xs.take k) ys).length : Nat)) (fun _ i _ => xs.length - (intOf i).toNat)
      case atStart => exact ⟨rfl, 0, Nat.zero_le _, rfl, rfl⟩
      case round =>
        obtain ⟨rfl, k, hk, rfl, rfl⟩ := hrel
        by_cases hlt : k < xs.length
        · obtain ⟨ad, rfl, _, hc⟩ := X.out.at_ hlt
          have hcell := hc k hlt
          have hcm : (commF (xs.take k) ys).length ≤ (xs.take k).length := commF_len _ _
          have hstep : (commF (xs.take (k + 1)) ys).length = (commF (xs.take k) ys).length + if memB xs[k] ys then 1 else 0 := by
            unfold commF
            rw [List.take_succ_eq_append_getElem hlt, List.filter_append, List.length_append]
            congr 1
            cases h : memB xs[k] ys <;> simp [h]
          rw [List.length_take] at hcm
          obtain ⟨x, hxk⟩ : ∃ x, xs[k] = x := ⟨_, rfl⟩
          rw [hxk] at hcell hstep
          have HS := Lib.hid hstep
          obtain ⟨cn, hcn⟩ : ∃ cn, (commF (xs.take k) ys).length = cn := ⟨_, rfl⟩
          rw [hcn] at HS hcm ⊢
          clear hc hxk hcn hstep
          go_wp2_with fail
          refine (isIn (x := x) ys rfl (by omega) Y.out).mono ?_; rintro e w9 ⟨rfl, rfl⟩
          cases hm : memB x ys
          · have HM := Lib.hid hm; clear hm
            go_wp2_with fail
            go_roundw
            case rel => exact ⟨trivial, k + 1, by omega, by go_num, by rw [HS.out, HM.out]; go_num⟩
            case measure => simp [intOf]; omega
          · have HM := Lib.hid hm; clear hm
            go_wp2_with fail
            go_roundw
            case rel => exact ⟨trivial, k + 1, by omega, by go_num, by rw [HS.out, HM.out]; go_num⟩
            case measure => simp [intOf]; omega
        · have hkl : k = xs.length := by omega
          have hn1 := (vkB_iff.1 HV1.out).1
          have hn2 := (vkB_iff.1 HV2.out).1
          have e1 : v = ((commF ys xs).length : Int) - (staysF xs ys).length := by
            rw [← HV.out]; unfold movesOfF; rw [HV1.out, HV2.out]; rfl
          have e2 := commF_sym hn1 hn2
          have e3 : staysOfF xs ys = staysF xs ys := by unfold staysOfF; rw [HV1.out, HV2.out]; rfl
          have e4 : (commF (xs.take k) ys).length = (commF xs ys).length := by rw [hkl, List.take_length]
          rw [e4]
          have l1 : (commF xs ys).length ≤ xs.length := commF_len xs ys
          have l2 := staysF_len xs ys
          rw [← e2] at e1
          obtain ⟨cn, hcn⟩ : ∃ cn, (commF xs ys).length = cn := ⟨_, rfl⟩
          obtain ⟨ss, hss⟩ : ∃ ss, staysF xs ys = ss := ⟨_, rfl⟩
          rw [hcn] at e1 l1 ⊢
          rw [hss] at e1 l2 e3
          have ht : (v == (cn : Int) - (ss.length : Int)) = true := by rw [e1]; simp
          have E3 := Lib.hid e3
          have M2 := Lib.hid ((movesOfF_sym xs ys).trans HV.out)
          have M3 := Lib.hid (movesOfF_self HV1.out)
          clear e1 e2 e3 e4 hcn hss hkl hn1 hn2
          go_wp2_with fail
          refine (implStaysOf xs ys rfl rfl (by omega) (by omega) hc1 hc2 X.out Y.out (by omega) (by omega)).mono ?_; rw [E3.out]; rintro e w5 ⟨A5, c5, rfl, s5, b5⟩
          have z5 := b5.size
          have X := Lib.hid (X.out.belowLe b5 (by omega))
          have Y := Lib.hid (Y.out.belowLe b5 (by omega))
          have B := Lib.hid (B.out.trans (b5.mono (by omega)))
          clear s5 b5
          go_wp2_with fail
          refine (implMovesOf ys xs rfl rfl (by omega) (by omega) hc2 hc1 Y.out X.out (by omega) (by omega)).mono ?_; rw [M2.out]; rintro e w6 ⟨rfl, b6⟩
          have z6 := b6.size
          have X := Lib.hid (X.out.belowLe b6 (by omega))
          have B := Lib.hid (B.out.trans (b6.mono (by omega)))
          clear b6 ht
          have ht2 : (v == v) = true := by simp
          go_wp2_with fail
          refine (implMovesOf xs xs rfl rfl (by omega) (by omega) hc1 hc1 X.out X.out (by omega) (by omega)).mono ?_; rw [M3.out]; rintro e w7 ⟨rfl, b7⟩
          have B := Lib.hid (B.out.trans (b7.mono (by omega)))
          clear b7
          go_wp2_with fail
          go_ret
          exact ⟨rfl, B.out⟩
  · go_enter Try.func11, Try.ntmps11
    go_wp2
    go_ret
    exact ⟨rfl, Below.refl _ _⟩
end Go.Proofs.Ytplgmieiclicoaa

/-
  The walk of laws.FnPatchOf.
-/
import Derived.Test.YtmmegmefiihabaaPatchLaw
import Derived.Test.YtmmegmefiihabaaApplyImpl
import Derived.Test.YtmmegmefiihabaaSameC
import Derived.Test.YtmmegmefiihabaaKeysDraws
namespace Go.Proofs.Ytmmegmefiihabaa
open Go.RowKit

set_option maxRecDepth 100000 in
set_option maxHeartbeats 1600000 in
theorem walkFnPatchOf (A : Option Addr) (c : Nat) (bs : List Int) (w : World) (hr : Rd w w.heap.size A (bytes8 bs)) (hn : bs.length ≤ 9223372036854775807) (lc : bs.length ≤ c) (cm : c ≤ 9223372036854775807) (hx : ∀ x ∈ bs, (Lit.int .u8 x).wf = true) :
    Calls Try.prog 7 #[.slice A bs.length c] w fun e w' => e = .returned (.bool true) ∧ Below w.heap.size w w' := by
  by_cases hbig : bs.length ≤ 1048576
  · have HR := Lib.hid hr; clear hr
    have HX := Lib.hid hx; clear hx
    go_enter Try.func7, Try.ntmps7
    go_wp2_with fail
    refine (drawPatchOf bs rfl lc cm HX.out HR.out).mono ?_; rintro e w1 ⟨A1, c1, xs, A2, c2, ys, rfl, hl1, hl2, hc1, hc2, r1, r2, b1⟩
    have z1 := b1.size
    have X1 := Lib.hid r1
    have Y1 := Lib.hid r2
    have B1 := Lib.hid b1
    clear r1 r2 b1 HR HX
    go_wp2_with fail
    refine (implPatchOf xs ys rfl rfl (by omega) (by omega) hc1 hc2 X1.out Y1.out (Nat.le_refl _) (Nat.le_refl _)).mono ?_; rintro e w2 ⟨A3, c3, rfl, s3, b2⟩
    obtain ⟨os, hos⟩ : ∃ os, os = patchOfF xs ys := ⟨_, rfl⟩
    rw [← hos] at s3 ⊢
    have hol : os.length ≤ 20 := by rw [hos]; exact (by have := patchOfF_len xs ys; omega)
    have OS := Lib.hid hos; clear hos
    have z2 := b2.size
    have OUT := Lib.hid s3
    have X := Lib.hid (X1.out.below b2)
    have Y := Lib.hid (Y1.out.below b2)
    have B := Lib.hid (B1.out.trans (b2.mono z1))
    clear s3 b2 X1 Y1 B1
    go_wp2_with fail
    refine (specPatchOf xs ys rfl rfl (by omega) (by omega) hc1 hc2 X.out Y.out z2 z2).mono ?_; rw [← OS.out]; rintro e w3 ⟨A4, c4, rfl, s4, b3⟩
    have z3 := b3.size
    have OUT := Lib.hid (OUT.out.below b3 (Nat.le_refl _))
    have X := Lib.hid (X.out.belowLe b3 z2)
    have Y := Lib.hid (Y.out.belowLe b3 z2)
    have B := Lib.hid (B.out.trans (b3.mono (Nat.le_trans z1 z2)))
    have W4 := Lib.hid s4
    clear s4 b3
    go_wp2_with fail
    refine (qb (sameC os rfl rfl (by omega) OUT.out.rd W4.out.rd)).mono ?_; rintro e w4 ⟨rfl, b4⟩
    have z4 := b4.size
    have OUT := Lib.hid (OUT.out.below b4 (by omega))
    have X := Lib.hid (X.out.belowLe b4 (by omega))
    have Y := Lib.hid (Y.out.belowLe b4 (by omega))
    have B := Lib.hid (B.out.trans (b4.mono (by omega)))
    clear b4 W4
    go_wp2_with fail
    refine (implValidKeys xs rfl (by omega) hc1 X.out).mono ?_; rintro e w5 ⟨rfl, rfl⟩
    cases hv1 : vkB xs
    · go_wp2_with fail
      refine (specPatchOf xs ys rfl rfl (by omega) (by omega) hc1 hc2 X.out Y.out (by omega) (by omega)).mono ?_; rw [← OS.out]; rintro e w6 ⟨A7, c7, rfl, s7, b6⟩
      have z6 := b6.size
      have OUT := Lib.hid (OUT.out.below b6 (by omega))
      have B := Lib.hid (B.out.trans (b6.mono (by omega)))
      have W7 := Lib.hid s7
      clear s7 b6
      go_wp2_with fail
      refine (qb (sameC os rfl rfl (by omega) OUT.out.rd W7.out.rd)).mono ?_; rintro e w8 ⟨rfl, b8⟩
      have B := Lib.hid (B.out.trans (b8.mono (by omega)))
      clear b8
      go_wp2_with fail
      go_ret
      exact ⟨rfl, B.out⟩
    · have HV1 := Lib.hid hv1; clear hv1
      go_wp2_with fail
      refine (implValidKeys ys rfl (by omega) hc2 Y.out).mono ?_; rintro e w5 ⟨rfl, rfl⟩
      cases hv2 : vkB ys
      · go_wp2_with fail
        refine (specPatchOf xs ys rfl rfl (by omega) (by omega) hc1 hc2 X.out Y.out (by omega) (by omega)).mono ?_; rw [← OS.out]; rintro e w6 ⟨A7, c7, rfl, s7, b6⟩
        have z6 := b6.size
        have OUT := Lib.hid (OUT.out.below b6 (by omega))
        have B := Lib.hid (B.out.trans (b6.mono (by omega)))
        have W7 := Lib.hid s7
        clear s7 b6
        go_wp2_with fail
        refine (qb (sameC os rfl rfl (by omega) OUT.out.rd W7.out.rd)).mono ?_; rintro e w8 ⟨rfl, b8⟩
        have B := Lib.hid (B.out.trans (b8.mono (by omega)))
        clear b8
        go_wp2_with fail
        go_ret
        exact ⟨rfl, B.out⟩
      · have HV2 := Lib.hid hv2; clear hv2
        have hos : os = patchF xs ys := by rw [OS.out]; unfold patchOfF; rw [HV1.out, HV2.out]; rfl
        have HL := Lib.hid (show applyF xs os = (ys, true) from by rw [hos]; exact patch_law HV1.out HV2.out)
        clear hos
        go_wp2_with fail
        refine (implApplyPatch xs os rfl rfl (by omega) (by omega) hc1 X.out OUT.out.rd (by omega) (by omega)).mono ?_; rw [HL.out]; rintro e w6 ⟨A6, c6, rfl, s6, b6⟩
        have z6 := b6.size
        have G := Lib.hid s6
        have Y := Lib.hid (Y.out.belowLe b6 (by omega))
        have B := Lib.hid (B.out.trans (b6.mono (by omega)))
        clear s6 b6
        go_wp2_with fail
        refine (qb (equalInts ys ys rfl rfl (by omega) G.out.rd Y.out)).mono ?_; rw [decide_eq_true (Eq.refl ys)]; rintro e w7 ⟨rfl, b7⟩
        have B := Lib.hid (B.out.trans (b7.mono (by omega)))
        clear b7
        go_wp2_with fail
        go_ret
        exact ⟨rfl, B.out⟩
  · go_enter Try.func7, Try.ntmps7
    go_wp2
    go_ret
    exact ⟨rfl, Below.refl _ _⟩
end Go.Proofs.Ytmmegmefiihabaa

/-
  spec.PatchOf, CostOf of both sides.
-/
import Derived.Test.YtmmegmefiihabaaPatchImpl
namespace Go.Proofs.Ytmmegmefiihabaa
open Go.RowKit

def costF (a b : List Int) : Int := if vkB a && vkB b then ((patchF a b).length : Int) else -1
set_option maxHeartbeats 400000 in
theorem specPatchOf {A A' : Option Addr} {c n B c' n' B' : Nat} {w : World} (xs ys : List Int) (ln : xs.length = n) (ln' : ys.length = n') (hn : n ≤ 1048576) (hn' : n' ≤ 1048576) (hc : n ≤ c) (hc' : n' ≤ c') (h : RdI w B A xs) (h' : RdI w B' A' ys) (hB : B ≤ w.heap.size) (hB' : B' ≤ w.heap.size) :
    Calls Try.prog 29 #[.slice A n c, .slice A' n' c'] w (MadeC w (patchOfF xs ys)) := by
  subst ln ln'
  have H := Lib.hid h; clear h
  have H' := Lib.hid h'; clear h'
  cases hv : vkB xs
  · have HV := Lib.hid (show (vkB xs && vkB ys) = false by rw [hv]; rfl)
    have HV1 := Lib.hid hv; clear hv
    go_enter Try.func29, Try.ntmps29
    go_wp2_with fail
    refine (qb (validKeys xs rfl (by omega) hc H.out)).mono ?_; rw [HV1.out]; rintro e w1 ⟨rfl, b1⟩
    have B1 := Lib.hid b1; clear b1
    go_wp2_with fail
    go_ret
    exact ⟨none, 0, by unfold patchOfF; rw [HV.out]; rfl, by unfold patchOfF; rw [HV.out]; exact SlR.nil, B1.out⟩
  · have HV1 := Lib.hid hv; clear hv
    go_enter Try.func29, Try.ntmps29
    go_wp2_with fail
    refine (qb (validKeys xs rfl (by omega) hc H.out)).mono ?_; rw [HV1.out]; rintro e w1 ⟨rfl, b1⟩
    have s1 := b1.size
    have B1 := Lib.hid b1; clear b1
    go_wp2_with fail
    cases hv2 : vkB ys
    · have HV := Lib.hid (show (vkB xs && vkB ys) = false by rw [hv2, HV1.out]; rfl)
      have HV2 := Lib.hid hv2; clear hv2
      refine (qb (validKeys ys rfl (by omega) hc' (H'.out.belowLe B1.out hB'))).mono ?_; rw [HV2.out]; rintro e w2 ⟨rfl, b2⟩
      have B2 := Lib.hid (B1.out.trans (b2.mono s1)); clear b2
      go_wp2_with fail
      go_ret
      exact ⟨none, 0, by unfold patchOfF; rw [HV.out]; rfl, by unfold patchOfF; rw [HV.out]; exact SlR.nil, B2.out⟩
    · have HV := Lib.hid (show (vkB xs && vkB ys) = true by rw [hv2, HV1.out]; rfl)
      have HV2 := Lib.hid hv2; clear hv2
      refine (qb (validKeys ys rfl (by omega) hc' (H'.out.belowLe B1.out hB'))).mono ?_; rw [HV2.out]; rintro e w2 ⟨rfl, b2⟩
      have b12 := B1.out.trans (b2.mono s1)
      have s2 := b12.size
      have B2 := Lib.hid b12; clear b12 b2
      have hx10 := (vkB_iff.1 HV1.out).2.2
      have hy10 := (vkB_iff.1 HV2.out).2.2
      have R := Lib.hid (H.out.belowLe B2.out hB)
      have R' := Lib.hid (H'.out.belowLe B2.out hB')
      go_wp2_with fail
      refine (specPatch xs ys rfl rfl (by omega) (by omega) R.out R'.out (by omega) (by omega)).mono ?_; rintro e w3 ⟨A3, c3, rfl, s3, b3⟩
      have hf : patchOfF xs ys = patchF xs ys := by unfold patchOfF; rw [HV.out]; rfl
      have HF := Lib.hid (show MadeC w (patchOfF xs ys) (.returned (.slice A3 (patchF xs ys).length c3)) w3 from ⟨A3, c3, by rw [hf], by rw [hf]; exact s3.mono s2 (Nat.le_refl _), B2.out.trans (b3.mono s2)⟩)
      clear s3 b3 hf
      go_wp2_with fail
      go_ret
      exact HF.out



end Go.Proofs.Ytmmegmefiihabaa

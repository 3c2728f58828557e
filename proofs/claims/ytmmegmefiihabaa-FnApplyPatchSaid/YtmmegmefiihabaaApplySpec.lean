/-
  spec.ApplyPatch.
-/
import Derived.Test.YtmmegmefiihabaaChanged
namespace Go.Proofs.Ytmmegmefiihabaa
open Go.RowKit

set_option maxRecDepth 100000 in
set_option maxHeartbeats 3200000 in
theorem specApplyPatch {A A' : Option Addr} {c n B c' n' B' : Nat} {w : World} (xs : List Int) (cs : List Chg) (ln : xs.length = n) (ln' : cs.length = n') (hn : n ≤ 1048576) (hn' : n' ≤ 1048576) (hc : n ≤ c) (h : RdI w B A xs) (h' : RdC w B' A' cs) (hB : B ≤ w.heap.size) (hB' : B' ≤ w.heap.size) :
    Calls Try.prog 14 #[.slice A n c, .slice A' n' c'] w (RetP (applyF xs cs) w) := by
  subst ln ln'
  have H := Lib.hid h; clear h
  have H' := Lib.hid h'; clear h'
  cases hv : vkB xs
  case false =>
    have HF := Lib.hid (show applyF xs cs = ([], false) from by unfold applyF; rw [hv]; rfl)
    have HV := Lib.hid hv; clear hv
    go_enter Try.func14, Try.ntmps14
    go_wp2_with fail
    refine (qb (validKeys xs rfl (by omega) hc H.out)).mono ?_; rw [HV.out]; rintro e w1 ⟨rfl, b1⟩
    have B1 := Lib.hid b1; clear b1
    go_wp2_with fail
    go_ret2
    exact RetP.bad HF.out B1.out
  case true =>
  by_cases h40 : cs.length ≤ 40
  case neg =>
    have HF := Lib.hid (show applyF xs cs = ([], false) from by unfold applyF; rw [decide_eq_false h40, Bool.and_false]; rfl)
    have HV := Lib.hid hv; clear hv
    go_enter Try.func14, Try.ntmps14
    go_wp2_with fail
    refine (qb (validKeys xs rfl (by omega) hc H.out)).mono ?_; rw [HV.out]; rintro e w1 ⟨rfl, b1⟩
    have B1 := Lib.hid b1; clear b1
    go_wp2_with fail
    go_ret2
    exact RetP.bad HF.out B1.out
  case pos =>
  have hx10 := (in30_of_vk hv).2
  have HX30 := Lib.hid (in30_of_vk hv).1
  have HAF := Lib.hid (show applyF xs cs = finF (applyG xs cs) from by unfold applyF; rw [hv, decide_eq_true h40]; rfl)
  have HV := Lib.hid hv; clear hv
  go_enter Try.func14, Try.ntmps14
  go_wp2_with fail
  refine (qb (validKeys xs rfl (by omega) hc H.out)).mono ?_; rw [HV.out]; rintro e w1 ⟨rfl, b1⟩
  have z1 := b1.size
  have H := Lib.hid (H.out.belowLe b1 hB)
  have H' := Lib.hid (H'.out.belowLe b1 hB')
  have B1 := Lib.hid b1; clear b1 HV
  go_wp2_with fail
  refine (copyInts (c := c) xs rfl (by omega) H.out (by omega)).mono ?_; rintro e w2 ⟨A2, c2, rfl, s2, b2⟩
  have z2 := b2.size
  have H' := Lib.hid (H'.out.belowLe b2 (by omega))
  have S2 := Lib.hid (show SlI w2 w.heap.size w2.heap.size A2 c2 xs from SlI.mono s2 (by omega) (Nat.le_refl _))
  have B2 := Lib.hid (B1.out.trans (b2.mono (by omega)))
  clear s2 b2 B1 H
  go_wp2_with fail
  go_loopw [6, 7] (fun v i wr => ∃ (j : Nat) (A4 : Option Addr) (c4 : Nat) (ks : List Int), j ≤ cs.length ∧ i = .int .i64 j ∧ v = .slice A4 ks.length c4 ∧ applyG xs (cs.take j) = some ks ∧ SlI wr w.heap.size wr.heap.size A4 c4 ks ∧ Below w.heap.size w wr ∧ RdC wr B' A' cs) (fun _ i _ => cs.length - (intOf i).toNat)
  case atStart => exact ⟨0, A2, c2, xs, Nat.zero_le _, rfl, rfl, by simp [applyG], S2.out, B2.out, H'.out⟩
  case round =>
    clear S2 B2 H'
    obtain ⟨j, A4, c4, ks, hj, rfl, rfl, hap, so, hb, r2⟩ := hrel
    have hin := applyG_len hap HX30.out
    have hkl : ks.length ≤ 50 := by have h1 := hin.1; rw [List.length_take] at h1; omega
    have HIN := Lib.hid hin.2
    have HAP := Lib.hid hap
    have SO := Lib.hid so
    have HB := Lib.hid hb
    have hzb := hb.size
    have R2 := Lib.hid r2
    clear hap hin so hb r2
    by_cases hlt : j < cs.length
    · have HSN := Lib.hid (show applyG xs (cs.take (j + 1)) = stepA ks cs[j] from by rw [List.take_succ_eq_append_getElem hlt, applyG_snoc, HAP.out])
      obtain ⟨g, o, rfl, _, c0, c1, c2'⟩ := RdC_at R2.out hlt
      obtain ⟨ch, hch⟩ : ∃ ch, cs[j] = ch := ⟨_, rfl⟩
      rw [hch] at c0 c1 c2' HSN
      obtain ⟨kd, ky, aa⟩ := ch
      have CG := Lib.hid (changed (w := wr) (c := c4) ks ⟨kd, ky, aa⟩ rfl (by omega) SO.out.le (fun hA => Sl.noAddr SO.out (by rw [hA])) SO.out.rd (Nat.le_refl _) HIN.out)
      dsimp only [vC] at CG
      obtain ⟨q, hq⟩ : ∃ q, stepA ks ⟨kd, ky, aa⟩ = q := ⟨_, rfl⟩
      rw [hq] at CG HSN
      simp only at c0 c1 c2'
      clear hch hq
      go_wp2_with fail
      refine CG.out.mono ?_; rintro e w3 ⟨A5, c5, rfl, s5, b5⟩
      have z5 := b5.size
      have HB5 := Lib.hid (HB.out.trans (b5.mono hzb))
      have R5 := Lib.hid (R2.out.belowLe b5 (by omega))
      cases q with
      | none =>
        have HF := Lib.hid (show applyF xs cs = ([], false) from by rw [HAF.out, applyG_none (j + 1) HSN.out]; rfl)
        clear s5 b5
        dsimp only [optP]
        go_wp2_with fail
        go_ret2
        exact RetP.bad HF.out HB5.out
      | some k2 =>
        have S5 := Lib.hid (show SlI w3 w.heap.size w3.heap.size A5 c5 k2 from SlI.mono s5 hzb (Nat.le_refl _))
        clear s5 b5
        dsimp only [optP]
        go_wp2_with fail
        go_roundw
        case rel => exact ⟨j + 1, A5, c5, k2, by omega, by go_num, rfl, HSN.out, S5.out, HB5.out, R5.out⟩
        case measure => simp [intOf]; omega
    · have hjl : cs.take j = cs := List.take_of_length_le (by omega)
      have HF := Lib.hid (show applyF xs cs = finF (some ks) from by rw [HAF.out, ← HAP.out, hjl])
      have VK := Lib.hid (qb (validKeys (w := wr) (c := c4) ks rfl (by omega) SO.out.le SO.out.rd))
      clear hjl
      cases hv : vkB ks
      case false =>
        rw [hv] at VK
        have HF := Lib.hid (show applyF xs cs = ([], false) from by rw [HF.out]; unfold finF; simp [hv])
        clear hv
        go_wp2_with fail
        refine VK.out.mono ?_; rintro e w3 ⟨rfl, b3⟩
        have HB3 := Lib.hid (HB.out.trans (b3.mono hzb)); clear b3
        go_wp2_with fail
        go_ret2
        exact RetP.bad HF.out HB3.out
      case true =>
        rw [hv] at VK
        have HF := Lib.hid (show applyF xs cs = (ks, true) from by rw [HF.out]; unfold finF; simp [hv])
        clear hv
        go_wp2_with fail
        refine VK.out.mono ?_; rintro e w3 ⟨rfl, b3⟩
        have S3 := Lib.hid ((SO.out.below b3 (Nat.le_refl _)).mono (Nat.le_refl _) b3.size)
        have HB3 := Lib.hid (HB.out.trans (b3.mono hzb)); clear b3
        go_wp2_with fail
        go_ret2
        exact RetP.ok HF.out rfl S3.out HB3.out

end Go.Proofs.Ytmmegmefiihabaa

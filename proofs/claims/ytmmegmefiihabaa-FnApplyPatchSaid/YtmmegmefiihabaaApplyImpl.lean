/-
  impl.ApplyPatch.
-/
import Derived.Test.YtmmegmefiihabaaApplySpec
import Derived.Test.YtmmegmefiihabaaSlIns
namespace Go.Proofs.Ytmmegmefiihabaa
open Go.RowKit

theorem cloneX {A : Option Addr} {c n B : Nat} {w : World} (xs : List Int) (ln : xs.length = n) (hn : n ≤ 17592186044416) (h : RdI w B A xs) (hB : B ≤ w.heap.size) :
    Calls Try.prog 52 #[.slice A n c] w fun e w' => ∃ A', e = .returned (.slice A' n n) ∧ SlI w' w.heap.size w'.heap.size A' n xs ∧ Below w.heap.size w w' := by
  subst ln
  have CALL := Lib.hid (slicesClone (c := c) xs rfl hn h hB)
  clear h
  go_enter Try.func52, Try.ntmps52
  go_wp2_with fail
  refine CALL.out.mono ?_; rintro e w1 ⟨A1, c1, rfl, s1, b1⟩
  have S1 := Lib.hid s1
  have B1 := Lib.hid b1
  clear s1 b1 CALL
  go_wp2_with fail
  refine (slicesClip xs rfl S1.out).mono ?_; rintro e w' ⟨rfl, s5, rfl⟩
  have S5 := Lib.hid s5
  clear s5
  go_wp2_with fail
  go_ret
  exact ⟨A1, rfl, S5.out, B1.out⟩

set_option maxRecDepth 100000 in
set_option maxHeartbeats 1600000 in
theorem implApplyPatch {A A' : Option Addr} {c n B c' n' B' : Nat} {w : World} (xs : List Int) (cs : List Chg) (ln : xs.length = n) (ln' : cs.length = n') (hn : n ≤ 1048576) (hn' : n' ≤ 1048576) (hc : n ≤ c) (h : RdI w B A xs) (h' : RdC w B' A' cs) (hB : B ≤ w.heap.size) (hB' : B' ≤ w.heap.size) :
    Calls Try.prog 13 #[.slice A n c, .slice A' n' c'] w (RetP (applyF xs cs) w) := by
  subst ln ln'
  have H := Lib.hid h; clear h
  have H' := Lib.hid h'; clear h'
  have VK0 := Lib.hid (implValidKeys (w := w) (c := c) xs rfl (by omega) hc H.out)
  cases hv : vkB xs
  case false =>
    have HF := Lib.hid (show applyF xs cs = ([], false) from by unfold applyF; rw [hv]; rfl)
    rw [hv] at VK0; clear hv
    go_enter Try.func13, Try.ntmps13
    go_wp2_with fail
    refine VK0.out.mono ?_; rintro e w1 ⟨rfl, rfl⟩
    go_wp2_with fail
    go_ret2
    exact RetP.bad HF.out (Below.refl _ _)
  case true =>
  by_cases h40 : cs.length ≤ 40
  case neg =>
    have HF := Lib.hid (show applyF xs cs = ([], false) from by unfold applyF; rw [decide_eq_false h40, Bool.and_false]; rfl)
    rw [hv] at VK0; clear hv
    go_enter Try.func13, Try.ntmps13
    go_wp2_with fail
    refine VK0.out.mono ?_; rintro e w1 ⟨rfl, rfl⟩
    go_wp2_with fail
    go_ret2
    exact RetP.bad HF.out (Below.refl _ _)
  case pos =>
  have hx10 := (in30_of_vk hv).2
  have HX30 := Lib.hid (in30_of_vk hv).1
  have HAF := Lib.hid (show applyF xs cs = finF (applyG xs cs) from by unfold applyF; rw [hv, decide_eq_true h40]; rfl)
  rw [hv] at VK0; clear hv
  go_enter Try.func13, Try.ntmps13
  go_wp2_with fail
  refine VK0.out.mono ?_; rintro e w1 ⟨rfl, rfl⟩
  go_wp2_with fail
  refine (cloneX (c := c) xs rfl (by omega) H.out hB).mono ?_; rintro e w2 ⟨A2, rfl, s2, b2⟩
  have z2 := b2.size
  have H' := Lib.hid (H'.out.belowLe b2 hB')
  have S2 := Lib.hid s2
  have B2 := Lib.hid b2
  clear s2 b2 H VK0
  go_wp2_with fail
  go_loopw [6, 23] (fun v i wr => ∃ (j : Nat) (A4 : Option Addr) (c4 : Nat) (ks : List Int), j ≤ cs.length ∧ i = .int .i64 j ∧ v = .slice A4 ks.length c4 ∧ c4 ≤ 9223372036854775807 ∧ applyG xs (cs.take j) = some ks ∧ SlI wr w.heap.size wr.heap.size A4 c4 ks ∧ Below w.heap.size w wr ∧ RdC wr B' A' cs) (fun _ i _ => cs.length - (intOf i).toNat)
  case atStart => exact ⟨0, A2, xs.length, xs, Nat.zero_le _, rfl, rfl, by omega, by simp [applyG], S2.out, B2.out, H'.out⟩
  case round =>
    clear S2 B2 H'
    obtain ⟨j, A4, c4, ks, hj, rfl, rfl, hcm, hap, so, hb, r2⟩ := hrel
    have hin := applyG_len hap HX30.out
    have hkl : ks.length ≤ 50 := by have h1 := hin.1; rw [List.length_take] at h1; omega
    have HIN := Lib.hid hin.2
    have HAP := Lib.hid hap
    have SO := Lib.hid so
    have HB := Lib.hid hb
    have hzb := hb.size
    have R2 := Lib.hid r2
    clear hap hin so hb r2
    by_cases hlt : j < cs.length
    · have HSN := Lib.hid (show applyG xs (cs.take (j + 1)) = stepA ks cs[j] from by rw [List.take_succ_eq_append_getElem hlt, applyG_snoc, HAP.out])
      obtain ⟨g, o, rfl, _, c0, c1, c2'⟩ := RdC_at R2.out hlt
      obtain ⟨ch, hch⟩ : ∃ ch, cs[j] = ch := ⟨_, rfl⟩
      rw [hch] at c0 c1 c2' HSN
      obtain ⟨kd, ky, aa⟩ := ch
      simp only at c0 c1 c2'
      have HB1 := Lib.hid (show Below w.heap.size w (wr.alloc (.cells #[.int .i64 kd, .int .i64 ky, .int .i64 aa] 32)) from HB.out.alloc hzb _)
      have IX1 := Lib.hid (slicesIndex (x := ky) (c := c4) (w := wr.alloc (.cells #[.int .i64 kd, .int .i64 ky, .int .i64 aa] 32)) ks rfl (by omega) (SO.out.alloc _).rd)
      have BX := Lib.hid (fun (W : World) (t : Turn w.heap.size wr.heap.size (wr.alloc (.cells #[.int .i64 kd, .int .i64 ky, .int .i64 aa] 32)) W) =>
        (show W.cell? ⟨wr.heap.size, 0, none⟩ = some (.int .i64 kd) ∧ W.cell? ⟨wr.heap.size, 1, none⟩ = some (.int .i64 ky) ∧ W.cell? ⟨wr.heap.size, 2, none⟩ = some (.int .i64 aa) from by
          have hb := t.blk (Blk.new wr 32 #[.int .i64 kd, .int .i64 ky, .int .i64 aa]) (.inr (Nat.le_refl _))
          exact ⟨hb.cell 0, hb.cell 1, hb.cell 2⟩))
      clear hch
      by_cases h1 : kd = 1
      case pos =>
        subst h1
        have hk2 : inB 1 0 2 = true := by decide
        cases hm : memB ky ks
        case true =>
          obtain ⟨e1, hi⟩ := plc_idx hm
          obtain ⟨i, hi0⟩ : ∃ i, idx ky ks = i := ⟨_, rfl⟩
          rw [hi0] at e1 hi
          rw [e1] at IX1
          have hii : (0 : Int) ≤ (i : Int) := Int.natCast_nonneg _
          clear e1 hi0
          have HS := Lib.hid (show stepA ks ⟨1, ky, aa⟩ = none from by unfold stepA; simp [hm])
          have HF := Lib.hid (show applyF xs cs = ([], false) from by rw [HAF.out, applyG_none (j + 1) (HSN.out.trans HS.out)]; rfl)
          clear HS HSN HAP HAF
          go_wp2_with (first
            | (go_at_call 53; (with_reducible refine IX1.out.mono ?_); rintro e w' ⟨rfl, rfl⟩)
            | (go_at_call 54; refine in_.mono ?_; rintro e w' ⟨rfl, rfl⟩))
          go_ret2
          exact RetP.bad HF.out HB1.out
        case false =>
          rw [plc_none hm] at IX1
          cases hb : inB ky 0 30
          case false =>
            have HS := Lib.hid (show stepA ks ⟨1, ky, aa⟩ = none from by unfold stepA; simp [hm, hb])
            have HF := Lib.hid (show applyF xs cs = ([], false) from by rw [HAF.out, applyG_none (j + 1) (HSN.out.trans HS.out)]; rfl)
            clear HS HSN HAP HAF
            go_wp2_with (first
              | (go_at_call 53; (with_reducible refine IX1.out.mono ?_); rintro e w' ⟨rfl, rfl⟩)
              | (go_at_call 54; refine in_.mono ?_; rintro e w' ⟨rfl, rfl⟩))
            go_ret2
            exact RetP.bad HF.out HB1.out
          case true =>
            by_cases ha : aa = -1
            case pos =>
              subst ha
              have HS := Lib.hid (show stepA ks ⟨1, ky, -1⟩ = some (ks.take 0 ++ ky :: ks.drop 0) from by unfold stepA putF; simp [hm, hb])
              have INS := Lib.hid (slicesInsert (w := (wr.alloc (.cells #[.int .i64 1, .int .i64 ky, .int .i64 (-1)] 32)).alloc (.cells #[.int .i64 ky] 3)) (c := c4) (k := 0) (vb := wr.heap.size + 1) ks ky rfl (by omega) ((SO.out.alloc _).alloc _) hcm (Nat.zero_le _) (by have := Blk.new (wr.alloc (.cells #[.int .i64 1, .int .i64 ky, .int .i64 (-1)] 32)) 3 #[.int .i64 ky]; rwa [World.size_alloc] at this) (by omega) (by simp; omega))
              have HBA := Lib.hid (HB1.out.alloc (by simp; omega) (.cells #[.int .i64 ky] 3))
              clear hm
              go_wp2_with (first
                | (go_at_call 53; (with_reducible refine IX1.out.mono ?_); rintro e w' ⟨rfl, rfl⟩)
                | (go_at_call 54; refine in_.mono ?_; rintro e w' ⟨rfl, rfl⟩)
                | (go_at_call 56; refine INS.out.mono ?_; rintro e w4 ⟨A5, c5, rfl, hcm5, s5, t5⟩))
              have hz5 := t5.size
              rw [World.size_alloc, World.size_alloc] at hz5
              have S5 := Lib.hid (show SlI w4 w.heap.size w4.heap.size A5 c5 (ks.take 0 ++ ky :: ks.drop 0) from by rw [Nat.max_eq_right (by omega)] at s5; exact s5)
              have HB5 := Lib.hid (Below.new HBA.out t5 (Nat.le_refl _) (Nat.le_refl _))
              have R5 := Lib.hid (show RdC w4 B' (some ⟨g, o, none⟩) cs from RdR.turn (R2.out.belowLe (((Below.refl wr.heap.size wr).alloc (Nat.le_refl _) _).alloc (by simp) _) (by omega)) t5 (by omega) (by rw [World.size_alloc, World.size_alloc]; omega))
              have HLN := Lib.hid (show (ks.take 0 ++ ky :: ks.drop 0).length = ks.length + 1 from by first | (simp; done) | (simp; omega))
              clear s5 t5
              go_roundw
              case rel => exact ⟨j + 1, A5, c5, _, by omega, by go_num, by rw [HLN.out], hcm5, by rw [HSN.out, HS.out], S5.out, HB5.out, R5.out⟩
              case measure => simp [intOf]; omega
            case neg =>
              have hab : (aa != -1) = true := by simp [ha]
              cases hm2 : memB aa ks
              case false =>
                have IX2 := Lib.hid (slicesIndex (x := aa) (c := c4) (w := wr.alloc (.cells #[.int .i64 1, .int .i64 ky, .int .i64 aa] 32)) ks rfl (by omega) (SO.out.alloc _).rd)
                rw [plc_none hm2] at IX2
                have HS := Lib.hid (show stepA ks ⟨1, ky, aa⟩ = none from by unfold stepA putF; simp [hm, hb, hm2, ha])
                have HF := Lib.hid (show applyF xs cs = ([], false) from by rw [HAF.out, applyG_none (j + 1) (HSN.out.trans HS.out)]; rfl)
                clear HS HSN HAP HAF
                go_wp2_with (first
                  | (go_at_call 53; (with_reducible refine IX1.out.mono ?_); rintro e w' ⟨rfl, rfl⟩)
                  | (go_at_call 53; (with_reducible refine IX2.out.mono ?_); rintro e w' ⟨rfl, rfl⟩)
                  | (go_at_call 54; refine in_.mono ?_; rintro e w' ⟨rfl, rfl⟩))
                go_ret2
                exact RetP.bad HF.out HB1.out
              case true =>
                have IX2 := Lib.hid (slicesIndex (x := aa) (c := c4) (w := wr.alloc (.cells #[.int .i64 1, .int .i64 ky, .int .i64 aa] 32)) ks rfl (by omega) (SO.out.alloc _).rd)
                obtain ⟨e2, hi2⟩ := plc_idx hm2
                obtain ⟨i2, hi20⟩ : ∃ i2, idx aa ks = i2 := ⟨_, rfl⟩
                rw [hi20] at e2 hi2
                rw [e2] at IX2
                have HS := Lib.hid (show stepA ks ⟨1, ky, aa⟩ = some (ks.take (i2 + 1) ++ ky :: ks.drop (i2 + 1)) from by unfold stepA putF; simp [hm, hb, hm2, ha, hi20])
                have hii : (0 : Int) ≤ (i2 : Int) := Int.natCast_nonneg _
                have hil : (i2 : Int) ≤ 50 := by omega
                have hne0 : ((i2 : Int) + 1 == 0) = false := by rw [beq_eq_false_iff_ne]; omega
                have INS := Lib.hid (slicesInsert (w := (wr.alloc (.cells #[.int .i64 1, .int .i64 ky, .int .i64 aa] 32)).alloc (.cells #[.int .i64 ky] 3)) (c := c4) (k := i2 + 1) (vb := wr.heap.size + 1) ks ky rfl (by omega) ((SO.out.alloc _).alloc _) hcm (by omega) (by have := Blk.new (wr.alloc (.cells #[.int .i64 1, .int .i64 ky, .int .i64 aa] 32)) 3 #[.int .i64 ky]; rwa [World.size_alloc] at this) (by omega) (by simp; omega))
                rw [show ((i2 + 1 : Nat) : Int) = (i2 : Int) + 1 from rfl] at INS
                have HBA := Lib.hid (HB1.out.alloc (by simp; omega) (.cells #[.int .i64 ky] 3))
                clear hm hm2 ha e2 hi20
                go_wp2_with (first
                  | (go_at_call 53; (with_reducible refine IX1.out.mono ?_); rintro e w' ⟨rfl, rfl⟩)
                  | (go_at_call 53; (with_reducible refine IX2.out.mono ?_); rintro e w' ⟨rfl, rfl⟩)
                  | (go_at_call 54; refine in_.mono ?_; rintro e w' ⟨rfl, rfl⟩)
                  | (go_at_call 56; refine INS.out.mono ?_; rintro e w4 ⟨A5, c5, rfl, hcm5, s5, t5⟩))
                have hz5 := t5.size
                rw [World.size_alloc, World.size_alloc] at hz5
                have S5 := Lib.hid (show SlI w4 w.heap.size w4.heap.size A5 c5 (ks.take (i2 + 1) ++ ky :: ks.drop (i2 + 1)) from by rw [Nat.max_eq_right (by omega)] at s5; exact s5)
                have HB5 := Lib.hid (Below.new HBA.out t5 (Nat.le_refl _) (Nat.le_refl _))
                have R5 := Lib.hid (show RdC w4 B' (some ⟨g, o, none⟩) cs from RdR.turn (R2.out.belowLe (((Below.refl wr.heap.size wr).alloc (Nat.le_refl _) _).alloc (by simp) _) (by omega)) t5 (by omega) (by rw [World.size_alloc, World.size_alloc]; omega))
                have HLN := Lib.hid (show (ks.take (i2 + 1) ++ ky :: ks.drop (i2 + 1)).length = ks.length + 1 from by first | (simp; done) | (simp; omega))
                clear s5 t5
                go_roundw
                case rel => exact ⟨j + 1, A5, c5, _, by omega, by go_num, by rw [HLN.out], hcm5, by rw [HSN.out, HS.out], S5.out, HB5.out, R5.out⟩
                case measure => simp [intOf]; omega
      case neg =>
        have h1b : (kd == 1) = false := by rw [beq_eq_false_iff_ne]; exact h1
        have h1c : (kd != 1) = true := by simp [h1]
        cases hm : memB ky ks
        case false =>
          rw [plc_none hm] at IX1
          have HS := Lib.hid (show stepA ks ⟨kd, ky, aa⟩ = none from by unfold stepA; simp [hm, h1])
          have HF := Lib.hid (show applyF xs cs = ([], false) from by rw [HAF.out, applyG_none (j + 1) (HSN.out.trans HS.out)]; rfl)
          clear HS HSN HAP HAF
          go_wp2_with (first
            | (go_at_call 53; (with_reducible refine IX1.out.mono ?_); rintro e w' ⟨rfl, rfl⟩)
            | (go_at_call 54; refine in_.mono ?_; rintro e w' ⟨rfl, rfl⟩))
          go_ret2
          exact RetP.bad HF.out HB1.out
        case true =>
          obtain ⟨e1, hi⟩ := plc_idx hm
          obtain ⟨i, hi0⟩ : ∃ i, idx ky ks = i := ⟨_, rfl⟩
          rw [hi0] at e1 hi
          rw [e1] at IX1
          have hii : (0 : Int) ≤ (i : Int) := Int.natCast_nonneg _
          have hil : (i : Int) ≤ 50 := by omega
          have hdl := delF_len hm
          obtain ⟨k2, hk2⟩ : ∃ k2, delF ks ky = k2 := ⟨_, rfl⟩
          have HDF := Lib.hid (show ks.take i ++ ks.drop (i + 1) = k2 from by rw [← hk2]; unfold delF; rw [hi0])
          rw [hk2] at hdl
          have HK2 := Lib.hid hk2
          have DL := Lib.hid (slicesDelete (w := wr.alloc (.cells #[.int .i64 kd, .int .i64 ky, .int .i64 aa] 32)) (c := c4) (k := i) ks rfl (SO.out.alloc _) hcm hi)
          rw [HDF.out] at DL
          have hk2l : ks.length - 1 = k2.length := by omega
          rw [hk2l] at DL
          clear e1 hi0 hk2 HDF hk2l
          by_cases h0 : kd = 0
          case pos =>
            subst h0
            clear h1 h1b h1c
            have hk2 : inB 0 0 2 = true := by decide
            by_cases ha : aa = -1
            case pos =>
              subst ha
              have HS := Lib.hid (show stepA ks ⟨0, ky, -1⟩ = some k2 from by unfold stepA; simp [hm, HK2.out])
              clear hm
              go_wp2_with (first
                | (go_at_call 53; (with_reducible refine IX1.out.mono ?_); rintro e w' ⟨rfl, rfl⟩)
                | (go_at_call 54; refine in_.mono ?_; rintro e w' ⟨rfl, rfl⟩)
                | (go_at_call 55; refine DL.out.mono ?_; rintro e w3 ⟨rfl, s3, t3, z3⟩; obtain ⟨k0, k1, k2'⟩ := BX.out w3 t3; have Z3 := Lib.hid z3; clear z3))
              have hz3 := Z3.out
              rw [World.size_alloc] at hz3
              have S3 := Lib.hid (SlI.mono s3 (Nat.le_refl _) (show wr.heap.size ≤ w3.heap.size by omega))
              have HB3 := Lib.hid (Below.new HB1.out t3 (Nat.le_refl _) (Nat.le_refl _))
              have R5 := Lib.hid (show RdC w3 B' (some ⟨g, o, none⟩) cs from RdR.turn (R2.out.belowLe ((Below.refl wr.heap.size wr).alloc (Nat.le_refl _) _) (by omega)) t3 (by omega) (by rw [World.size_alloc]; omega))
              clear s3 t3
              go_roundw
              case rel => exact ⟨j + 1, A4, c4, k2, by omega, by go_num, rfl, hcm, by rw [HSN.out, HS.out], S3.out, HB3.out, R5.out⟩
              case measure => simp [intOf]; omega
            case neg =>
              have hab : (aa != -1) = true := by simp [ha]
              clear DL
              have HS := Lib.hid (show stepA ks ⟨0, ky, aa⟩ = none from by unfold stepA; simp [hm, ha])
              have HF := Lib.hid (show applyF xs cs = ([], false) from by rw [HAF.out, applyG_none (j + 1) (HSN.out.trans HS.out)]; rfl)
              clear HS HSN HAP HAF
              go_wp2_with (first
                | (go_at_call 53; (with_reducible refine IX1.out.mono ?_); rintro e w' ⟨rfl, rfl⟩)
                | (go_at_call 54; refine in_.mono ?_; rintro e w' ⟨rfl, rfl⟩))
              go_ret2
              exact RetP.bad HF.out HB1.out
          case neg =>
            have h0b : (kd == 0) = false := by rw [beq_eq_false_iff_ne]; exact h0
            by_cases h2 : kd = 2
            case neg =>
              have hk2 : inB kd 0 2 = false := by
                rw [inB_no]; omega
              clear DL
              have HS := Lib.hid (show stepA ks ⟨kd, ky, aa⟩ = none from by unfold stepA; simp [h0, h1, h2])
              have HF := Lib.hid (show applyF xs cs = ([], false) from by rw [HAF.out, applyG_none (j + 1) (HSN.out.trans HS.out)]; rfl)
              clear HS HSN HAP HAF
              go_wp2_with (first
                | (go_at_call 53; (with_reducible refine IX1.out.mono ?_); rintro e w' ⟨rfl, rfl⟩)
                | (go_at_call 54; refine in_.mono ?_; rintro e w' ⟨rfl, rfl⟩))
              go_ret2
              exact RetP.bad HF.out HB1.out
            case pos =>
              subst h2
              clear h1 h1b h1c h0 h0b
              have hk2 : inB 2 0 2 = true := by decide
              by_cases ha : aa = -1
              case pos =>
                subst ha
                have HS := Lib.hid (show stepA ks ⟨2, ky, -1⟩ = some (k2.take 0 ++ ky :: k2.drop 0) from by unfold stepA putF; simp [hm, HK2.out])
                have INS := Lib.hid (fun (W : World) (s : SlI W w.heap.size wr.heap.size A4 c4 k2) (hz : wr.heap.size ≤ W.heap.size) => slicesInsert (w := W.alloc (.cells #[.int .i64 ky] 3)) (c := c4) (k := 0) (vb := W.heap.size) k2 ky rfl (by omega) (s.alloc _) hcm (Nat.zero_le _) (Blk.new W 3 #[.int .i64 ky]) hz (by rw [World.size_alloc]; omega))
                clear hm
                go_wp2_with (first
                  | (go_at_call 53; (with_reducible refine IX1.out.mono ?_); rintro e w' ⟨rfl, rfl⟩)
                  | (go_at_call 54; refine in_.mono ?_; rintro e w' ⟨rfl, rfl⟩)
                  | (go_at_call 55; refine DL.out.mono ?_; rintro e w3 ⟨rfl, s3, t3, z3⟩; obtain ⟨k0, k1, k2'⟩ := BX.out w3 t3; have Z3 := Lib.hid z3; clear z3)
                  | (go_at_call 56; refine (INS.out w3 s3 (by rw [Z3.out, World.size_alloc]; omega)).mono ?_; rintro e w4 ⟨A5, c5, rfl, hcm5, s5, t5⟩))
                have HBA := Lib.hid ((Below.new HB1.out t3 (Nat.le_refl _) (Nat.le_refl _)).alloc (by rw [Z3.out, World.size_alloc]; omega) (.cells #[.int .i64 ky] 3))
                have hz5 := t5.size
                have hz3 := Z3.out
                rw [World.size_alloc] at hz3
                rw [World.size_alloc] at hz5
                have S5 := Lib.hid (show SlI w4 w.heap.size w4.heap.size A5 c5 (k2.take 0 ++ ky :: k2.drop 0) from by rw [Nat.max_eq_right (by omega)] at s5; exact s5)
                have HB5 := Lib.hid (Below.new HBA.out t5 (Nat.le_refl _) (Nat.le_refl _))
                have R5 := Lib.hid (show RdC w4 B' (some ⟨g, o, none⟩) cs from RdR.turn (RdR.belowLe (RdR.turn (R2.out.belowLe ((Below.refl wr.heap.size wr).alloc (Nat.le_refl _) _) (by omega)) t3 (by omega) (by rw [World.size_alloc]; omega)) ((Below.refl w3.heap.size w3).alloc (Nat.le_refl _) _) (by rw [Z3.out, World.size_alloc]; omega)) t5 (by omega) (by rw [World.size_alloc, Z3.out, World.size_alloc]; omega))
                have HLN := Lib.hid (show (k2.take 0 ++ ky :: k2.drop 0).length = k2.length + 1 from by first | (simp; done) | (simp; omega))
                clear s5 t5 s3 t3
                go_roundw
                case rel => exact ⟨j + 1, A5, c5, _, by omega, by go_num, by rw [HLN.out]; first | done | rw [hdl], hcm5, by rw [HSN.out, HS.out], S5.out, HB5.out, R5.out⟩
                case measure => simp [intOf]; omega
              case neg =>
                have hab : (aa != -1) = true := by simp [ha]
                have IX3 := Lib.hid (fun (W : World) (s : SlI W w.heap.size wr.heap.size A4 c4 k2) => slicesIndex (x := aa) (c := c4) (w := W) k2 rfl (by omega) s.rd)
                cases hm2 : memB aa k2
                case false =>
                  rw [plc_none hm2] at IX3
                  have HS := Lib.hid (show stepA ks ⟨2, ky, aa⟩ = none from by unfold stepA putF; simp [hm, HK2.out, ha, hm2])
                  have HF := Lib.hid (show applyF xs cs = ([], false) from by rw [HAF.out, applyG_none (j + 1) (HSN.out.trans HS.out)]; rfl)
                  clear HS HSN HAP HAF hm hm2
                  go_wp2_with (first
                    | (go_at_call 53; (with_reducible refine (IX3.out w3 s3).mono ?_); rintro e w' ⟨rfl, rfl⟩)
                    | (go_at_call 53; (with_reducible refine IX1.out.mono ?_); rintro e w' ⟨rfl, rfl⟩)
                    | (go_at_call 54; refine in_.mono ?_; rintro e w' ⟨rfl, rfl⟩)
                    | (go_at_call 55; refine DL.out.mono ?_; rintro e w3 ⟨rfl, s3, t3, z3⟩; obtain ⟨k0, k1, k2'⟩ := BX.out w3 t3; have Z3 := Lib.hid z3; clear z3))
                  have HB3 := Lib.hid (Below.new HB1.out t3 (Nat.le_refl _) (Nat.le_refl _))
                  go_ret2
                  exact RetP.bad HF.out HB3.out
                case true =>
                  obtain ⟨e2, hi2⟩ := plc_idx hm2
                  obtain ⟨i2, hi20⟩ : ∃ i2, idx aa k2 = i2 := ⟨_, rfl⟩
                  rw [hi20] at e2 hi2
                  rw [e2] at IX3
                  have HS := Lib.hid (show stepA ks ⟨2, ky, aa⟩ = some (k2.take (i2 + 1) ++ ky :: k2.drop (i2 + 1)) from by unfold stepA putF; simp [hm, HK2.out, ha, hm2, hi20])
                  have hii2 : (0 : Int) ≤ (i2 : Int) := Int.natCast_nonneg _
                  have hil2 : (i2 : Int) ≤ 50 := by omega
                  have hne0 : ((i2 : Int) + 1 == 0) = false := by rw [beq_eq_false_iff_ne]; omega
                  have INS := Lib.hid (fun (W : World) (s : SlI W w.heap.size wr.heap.size A4 c4 k2) (hz : wr.heap.size ≤ W.heap.size) => (show Calls Try.prog 56 #[.slice A4 k2.length c4, .int .i64 ((i2 : Int) + 1), .slice (some ⟨W.heap.size, 0, none⟩) 1 1] (W.alloc (.cells #[.int .i64 ky] 3)) _ from slicesInsert (w := W.alloc (.cells #[.int .i64 ky] 3)) (c := c4) (k := i2 + 1) (vb := W.heap.size) k2 ky rfl (by omega) (s.alloc _) hcm (by omega) (Blk.new W 3 #[.int .i64 ky]) hz (by rw [World.size_alloc]; omega)))
                  clear hm hm2 ha e2 hi20
                  go_wp2_with (first
                    | (go_at_call 53; (with_reducible refine (IX3.out w3 s3).mono ?_); rintro e w' ⟨rfl, rfl⟩)
                    | (go_at_call 53; (with_reducible refine IX1.out.mono ?_); rintro e w' ⟨rfl, rfl⟩)
                    | (go_at_call 54; refine in_.mono ?_; rintro e w' ⟨rfl, rfl⟩)
                    | (go_at_call 55; refine DL.out.mono ?_; rintro e w3 ⟨rfl, s3, t3, z3⟩; obtain ⟨k0, k1, k2'⟩ := BX.out w3 t3; have Z3 := Lib.hid z3; clear z3)
                    | (go_at_call 56; refine (INS.out w3 s3 (by rw [Z3.out, World.size_alloc]; omega)).mono ?_; rintro e w4 ⟨A5, c5, rfl, hcm5, s5, t5⟩))
                  have HBA := Lib.hid ((Below.new HB1.out t3 (Nat.le_refl _) (Nat.le_refl _)).alloc (by rw [Z3.out, World.size_alloc]; omega) (.cells #[.int .i64 ky] 3))
                  have hz5 := t5.size
                  have hz3 := Z3.out
                  rw [World.size_alloc] at hz3
                  rw [World.size_alloc] at hz5
                  have S5 := Lib.hid (show SlI w4 w.heap.size w4.heap.size A5 c5 (k2.take (i2 + 1) ++ ky :: k2.drop (i2 + 1)) from by rw [Nat.max_eq_right (by omega)] at s5; exact s5)
                  have HB5 := Lib.hid (Below.new HBA.out t5 (Nat.le_refl _) (Nat.le_refl _))
                  have R5 := Lib.hid (show RdC w4 B' (some ⟨g, o, none⟩) cs from RdR.turn (RdR.belowLe (RdR.turn (R2.out.belowLe ((Below.refl wr.heap.size wr).alloc (Nat.le_refl _) _) (by omega)) t3 (by omega) (by rw [World.size_alloc]; omega)) ((Below.refl w3.heap.size w3).alloc (Nat.le_refl _) _) (by rw [Z3.out, World.size_alloc]; omega)) t5 (by omega) (by rw [World.size_alloc, Z3.out, World.size_alloc]; omega))
                  have HLN := Lib.hid (show (k2.take (i2 + 1) ++ ky :: k2.drop (i2 + 1)).length = k2.length + 1 from by first | (simp; done) | (simp; omega))
                  clear s5 t5 s3 t3
                  go_roundw
                  case rel => exact ⟨j + 1, A5, c5, _, by omega, by go_num, by rw [HLN.out]; first | done | rw [hdl], hcm5, by rw [HSN.out, HS.out], S5.out, HB5.out, R5.out⟩
                  case measure => simp [intOf]; omega
    · have hjl : cs.take j = cs := List.take_of_length_le (by omega)
      have HF := Lib.hid (show applyF xs cs = finF (some ks) from by rw [HAF.out, ← HAP.out, hjl])
      have VK := Lib.hid (implValidKeys (w := wr) (c := c4) ks rfl (by omega) SO.out.le SO.out.rd)
      clear hjl
      cases hv : vkB ks
      case false =>
        rw [hv] at VK
        have HF := Lib.hid (show applyF xs cs = ([], false) from by rw [HF.out]; unfold finF; simp [hv])
        clear hv
        go_wp2_with fail
        refine VK.out.mono ?_; rintro e w3 ⟨rfl, rfl⟩
        go_wp2_with fail
        go_ret2
        exact RetP.bad HF.out HB.out
      case true =>
        rw [hv] at VK
        have HF := Lib.hid (show applyF xs cs = (ks, true) from by rw [HF.out]; unfold finF; simp [hv])
        clear hv
        go_wp2_with fail
        refine VK.out.mono ?_; rintro e w3 ⟨rfl, rfl⟩
        go_wp2_with fail
        refine (cloneX (c := c4) ks rfl (by omega) SO.out.rd (Nat.le_refl _)).mono ?_; rintro e w4 ⟨A5, rfl, s5, b5⟩
        have S5 := Lib.hid (SlI.mono s5 hzb (Nat.le_refl _))
        have HB5 := Lib.hid (HB.out.trans (b5.mono hzb)); clear s5 b5
        go_wp2_with fail
        go_ret2
        exact RetP.ok HF.out rfl S5.out HB5.out

end Go.Proofs.Ytmmegmefiihabaa

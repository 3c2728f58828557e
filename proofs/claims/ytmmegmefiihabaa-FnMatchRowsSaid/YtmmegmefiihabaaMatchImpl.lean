/-
  impl.MatchRows.
-/
import Derived.Test.YtmmegmefiihabaaRowsValid
namespace Go.Proofs.Ytmmegmefiihabaa
open Go.RowKit

theorem fold_none (k : Int) : ∀ (rs : List Rwx) (z : Int), k ∉ rs.map (·.ky) → rs.foldl (fun id r => if r.ky == k then r.no else id) z = z := by
  intro rs
  induction rs with
  | nil => intro z _; rfl
  | cons r rs ih =>
    intro z h
    rw [List.map_cons, List.mem_cons, not_or] at h
    have e : (r.ky == k) = false := beq_eq_false_iff_ne.2 (fun e => h.1 e.symm)
    rw [List.foldl_cons, ih _ h.2]; simp [e]
theorem look_none {rs : List Rwx} {k : Int} (h : ¬ k ∈ rs.map (·.ky)) : lookL rs k = -1 := fold_none k rs (-1) h
theorem look_at {rs : List Rwx} {k : Int} (hn : (rs.map (·.ky)).Nodup) (h : k ∈ rs.map (·.ky)) :
    ∃ i, ∃ hi : i < rs.length, plc k (rs.map (·.ky)) = (i : Int) ∧ rs[i].ky = k ∧ lookL rs k = rs[i].no := by
  have hi := (idx_lt k (rs.map (·.ky))).2 h
  have hx := idx_get' k (rs.map (·.ky)) hi
  have hi' : idx k (rs.map (·.ky)) < rs.length := by rw [List.length_map] at hi; exact hi
  refine ⟨idx k (rs.map (·.ky)), hi', by unfold plc; rw [if_pos h], by rw [List.getElem_map] at hx; exact hx, ?_⟩
  obtain ⟨i, hii⟩ : ∃ i, idx k (rs.map (·.ky)) = i := ⟨_, rfl⟩
  simp only [hii] at hi' hx ⊢
  rw [List.getElem_map] at hx
  have hs : rs = rs.take i ++ rs[i] :: rs.drop (i + 1) := by rw [← List.drop_eq_getElem_cons hi', List.take_append_drop]
  have hnd : k ∉ (rs.drop (i + 1)).map (·.ky) := by
    rw [hs, List.map_append, List.map_cons, hx] at hn
    exact (nodup_mid hn).2.1
  have e : lookL rs k = lookL (rs.take i ++ rs[i] :: rs.drop (i + 1)) k := congrArg (fun t => lookL t k) hs
  rw [e]
  unfold lookL
  rw [List.foldl_append, List.foldl_cons, fold_none k _ _ hnd]
  simp [hx]

set_option maxRecDepth 100000 in
set_option maxHeartbeats 1600000 in
theorem implMatchRows {A A' : Option Addr} {c c' n n' B B' : Nat} {w : World} (rs : List Rwx) (nx : Int) (ks : List Int) (ln : rs.length = n) (ln' : ks.length = n') (hn : n ≤ 1048576) (hn' : n' ≤ 1048576) (hc' : n' ≤ c') (h : RdQ w B A rs) (h' : RdI w B' A' ks) (hB : B ≤ w.heap.size) (hB' : B' ≤ w.heap.size) :
    Calls Try.prog 39 #[.slice A n c, .int .i64 nx, .slice A' n' c'] w (RetQ (matchF rs nx ks) w) := by
  subst ln ln'
  have H := Lib.hid h; clear h
  have H' := Lib.hid h'; clear h'
  cases hv : rowsVB rs nx
  case false =>
    have HF := Lib.hid (show matchF rs nx ks = ([], -1) from by unfold matchF; rw [hv]; rfl)
    have HV := Lib.hid hv; clear hv
    go_enter Try.func39, Try.ntmps39
    go_wp2_with fail
    refine (rowsValid rs nx rfl (by omega) H.out hB).mono ?_; rw [HV.out]; rintro e w2 ⟨rfl, b2⟩
    have B2 := Lib.hid b2; clear b2
    go_wp2_with fail
    go_ret2
    exact RetQ.bad HF.out B2.out
  case true =>
  have HV := Lib.hid hv
  cases hk : vkB ks
  case false =>
    have HF := Lib.hid (show matchF rs nx ks = ([], -1) from by unfold matchF; rw [hv, hk]; rfl)
    have HK := Lib.hid hk; clear hk hv
    go_enter Try.func39, Try.ntmps39
    go_wp2_with fail
    refine (rowsValid rs nx rfl (by omega) H.out hB).mono ?_; rw [HV.out]; rintro e w2 ⟨rfl, b2⟩
    have B2 := Lib.hid b2
    have HX := Lib.hid (H'.out.belowLe b2 hB'); clear b2
    go_wp2_with fail
    refine (implValidKeys ks rfl (by omega) hc' HX.out).mono ?_; rw [HK.out]; rintro e w3 ⟨rfl, rfl⟩
    go_wp2_with fail
    go_ret2
    exact RetQ.bad HF.out B2.out
  case true =>
    have HK := Lib.hid hk
    have hk10 := (vkB_iff.1 hk).2.2
    have hv2 := hv
    unfold rowsVB at hv2
    rw [Bool.and_eq_true, Bool.and_eq_true, Bool.and_eq_true] at hv2
    obtain ⟨hnx0, hnx1⟩ := inB_iff.1 hv2.2
    have HND := Lib.hid (vkB_iff.1 hv2.1.1.1).1
    have HPOS := Lib.hid (show ∀ i (hi : i < rs.length), 0 ≤ rs[i].no from fun i hi => (allB_iff.1 hv2.1.1.2 _ (List.mem_map.2 ⟨rs[i], List.getElem_mem hi, rfl⟩)).1)
    have hrl : rs.length ≤ 10 := by have := (vkB_iff.1 hv2.1.1.1).2.2; rw [List.length_map] at this; exact this
    have HF := Lib.hid (show matchF rs nx ks = finM (matchG rs nx ks) from by unfold matchF; rw [hv, hk]; rfl)
    clear hk hv hv2
    go_enter Try.func39, Try.ntmps39
    go_wp2_with fail
    refine (rowsValid rs nx rfl (by omega) H.out hB).mono ?_; rw [HV.out]; rintro e w2 ⟨rfl, b2⟩
    have z2 := b2.size
    have B2 := Lib.hid b2
    have HX := Lib.hid (H'.out.belowLe b2 hB'); clear b2
    go_wp2_with fail
    refine (implValidKeys ks rfl (by omega) hc' HX.out).mono ?_; rw [HK.out]; rintro e w3 ⟨rfl, rfl⟩
    go_wp2_with fail
    go_loopw [1, 8, 23] (fun nv v i wr => ∃ (j : Nat) (A4 : Option Addr) (c4 : Nat), j ≤ ks.length ∧ i = .int .i64 j ∧ nv = .int .i64 (matchG rs nx (ks.take j)).2 ∧ v = .slice A4 j c4 ∧ SlQ wr w.heap.size wr.heap.size A4 c4 (matchG rs nx (ks.take j)).1 ∧ Below w.heap.size w wr) (fun _ _ i _ => ks.length - (intOf i).toNat)
    case atStart => exact ⟨0, none, 0, Nat.zero_le _, rfl, rfl, rfl, SlR.nil, B2.out⟩
    case round =>
      obtain ⟨j, A4, c4, hj, rfl, rfl, rfl, hs, hb⟩ := hrel
      have hzb := hb.size
      obtain ⟨gl, g1, g2⟩ := matchG_len rs nx ks j hj
      have SO := Lib.hid hs
      have HB := Lib.hid hb
      clear hs hb HX
      by_cases hlt : j < ks.length
      · have HT := Lib.hid (show matchG rs nx (ks.take (j + 1)) = stepM rs (matchG rs nx (ks.take j)) ks[j] from by rw [List.take_succ_eq_append_getElem hlt, matchG_snoc])
        obtain ⟨os, cur, hoc⟩ : ∃ os cur, matchG rs nx (ks.take j) = (os, cur) := ⟨_, _, rfl⟩
        rw [hoc] at SO HT gl g1 g2 ⊢
        simp only at gl g1 g2 ⊢
        have SO' := Lib.hid (show SlQ wr w.heap.size wr.heap.size A4 c4 os from SO.out)
        have GL := Lib.hid gl
        obtain ⟨ad, hA', _, hc⟩ := (H'.out.belowLe HB.out hB').at_ hlt
        subst hA'
        have hcell := hc j hlt
        obtain ⟨k, hk⟩ : ∃ k, ks[j] = k := ⟨_, rfl⟩
        rw [hk] at hcell HT
        have hjj0 : (0 : Int) ≤ (j : Int) := Int.natCast_nonneg _
        have hjj1 : (j : Int) < (ks.length : Int) := by omega
        have bw1 := HB.out.alloc hzb (.cells #[.int .i64 k] 3)
        have IDX := Lib.hid (matchIndexFunc (c := c) (b := wr.heap.size) (k := k) (w := wr.alloc (.cells #[.int .i64 k] 3)) rs rfl (by omega) (H.out.belowLe bw1 hB) (by simp; omega) (by simp) ((Blk.new wr 3 #[.int .i64 k]).cell 0))
        have BXK := Lib.hid (Blk.new wr 3 #[.int .i64 k])
        have BW1 := Lib.hid bw1
        have S1 := Lib.hid (SO'.out.alloc (.cells #[.int .i64 k] 3))
        clear hc hk hoc SO gl bw1 SO'
        by_cases hm : k ∈ rs.map (·.ky)
        · obtain ⟨i, hi, e1, e2, e3⟩ := look_at HND.out hm
          have hpos := HPOS.out i hi
          have HS := Lib.hid (show matchG rs nx (ks.take (j + 1)) = (os ++ [rs[i]], cur) from by
            rw [HT.out]; unfold stepM; rw [e3, if_neg (by omega)]
            have : rs[i] = ⟨k, rs[i].no⟩ := by rw [← e2]
            rw [this])
          rw [e1] at IDX
          have hi0 : (0 : Int) ≤ (i : Int) := Int.natCast_nonneg _
          have hi1 : (i : Int) < (rs.length : Int) := by omega
          clear e1 e2 e3 hm hpos HT
          go_wp2_with fail
          refine IDX.out.mono ?_; rintro e w5 ⟨rfl, b5⟩
          have z5 := b5.size
          rw [World.size_alloc] at z5
          have BW5 := Lib.hid (BW1.out.trans (b5.mono (by simp; omega)))
          have S5 := Lib.hid ((S1.out.below b5 (by simp)).mono (Nat.le_refl _) (show wr.heap.size ≤ w5.heap.size by omega))
          obtain ⟨g, o, hAx, _, k0, k1⟩ := RdQ_at (H.out.belowLe BW5.out hB) hi
          subst hAx
          obtain ⟨x, hx⟩ : ∃ x, rs[i] = x := ⟨_, rfl⟩
          rw [hx] at k0 k1 HS
          obtain ⟨kx, no⟩ := x
          simp only at k0 k1
          have hzw5 : w.heap.size ≤ w5.heap.size := by omega
          clear b5 hx IDX
          go_wp2_with (at_builtin; refine wpList_appQ (.tmp 32) (.tmp 37) rfl rfl os ⟨kx, no⟩ rfl GL.out (S5.out.alloc _) rfl (Blk.new _ _ _) (by omega) (by simp; omega) ?_; intro A7 c7 w7 h7 t7 _)
          have S7 := Lib.hid (show SlQ w7 w.heap.size w7.heap.size A7 c7 (os ++ [⟨kx, no⟩]) from SlQ_all h7 t7 (by simp))
          have HB7 := Lib.hid ((BW5.out.alloc hzw5 _).trans (t7.below (by simp; omega)))
          clear h7 t7
          go_wp2
          go_roundw
          case rel => exact ⟨j + 1, A7, c7, by omega, by go_num, by rw [HS.out], rfl, by rw [HS.out]; exact S7.out, HB7.out⟩
          case measure => simp [intOf]; omega
        · have HS := Lib.hid (show matchG rs nx (ks.take (j + 1)) = (os ++ [⟨k, cur⟩], cur + 1) from by rw [HT.out]; unfold stepM; rw [look_none hm]; rfl)
          have e1 : plc k (rs.map (·.ky)) = -1 := by unfold plc; rw [if_neg hm]
          rw [e1] at IDX
          clear e1 hm HT
          go_wp2_with fail
          refine IDX.out.mono ?_; rintro e w5 ⟨rfl, b5⟩
          have z5 := b5.size
          rw [World.size_alloc] at z5
          have BW5 := Lib.hid (BW1.out.trans (b5.mono (by simp; omega)))
          have S5 := Lib.hid ((S1.out.below b5 (by simp)).mono (Nat.le_refl _) (show wr.heap.size ≤ w5.heap.size by omega))
          have kc : w5.cell? ⟨wr.heap.size, 0, none⟩ = some (.int .i64 k) := (BXK.out.below b5 (by simp)).cell 0
          have hzw5 : w.heap.size ≤ w5.heap.size := by omega
          clear b5 IDX
          go_wp2_with (at_builtin; refine wpList_appQ (.tmp 39) (.tmp 43) rfl rfl os ⟨k, cur⟩ rfl GL.out (S5.out.alloc _) rfl (Blk.new _ _ _) (by omega) (by simp; omega) ?_; intro A7 c7 w7 h7 t7 _)
          have S7 := Lib.hid (show SlQ w7 w.heap.size w7.heap.size A7 c7 (os ++ [⟨k, cur⟩]) from SlQ_all h7 t7 (by simp))
          have HB7 := Lib.hid ((BW5.out.alloc hzw5 _).trans (t7.below (by simp; omega)))
          clear h7 t7
          go_wp2
          go_roundw
          case rel => exact ⟨j + 1, A7, c7, by omega, by go_num, by rw [HS.out], rfl, by rw [HS.out]; exact S7.out, HB7.out⟩
          case measure => simp [intOf]; omega
      · have hjl : ks.take j = ks := List.take_of_length_le (by omega)
        rw [hjl] at SO gl g1 g2 ⊢
        obtain ⟨os, cur, hoc⟩ : ∃ os cur, matchG rs nx ks = (os, cur) := ⟨_, _, rfl⟩
        rw [hoc] at SO HF gl g1 g2 ⊢
        simp only at gl g1 g2 ⊢
        have SO' := Lib.hid (show SlQ wr w.heap.size wr.heap.size A4 c4 os from SO.out)
        have GL := Lib.hid gl
        clear hjl SO gl
        by_cases hbig : 100 < cur
        · have HF := Lib.hid (show matchF rs nx ks = ([], -1) from by rw [HF.out]; unfold finM; rw [if_pos hbig])
          clear hoc
          go_wp2_with fail
          go_ret2
          exact RetQ.bad HF.out HB.out
        · have HF := Lib.hid (show matchF rs nx ks = (os, cur) from by rw [HF.out]; unfold finM; rw [if_neg hbig])
          clear hoc
          go_wp2_with fail
          refine (slicesClipQ os GL.out SO'.out).mono ?_; rintro e w' ⟨rfl, s5, rfl⟩
          have S5 := Lib.hid s5; clear s5
          go_wp2_with fail
          go_ret2
          exact ⟨A4, _, by rw [HF.out, GL.out]; rfl, by rw [HF.out]; exact S5.out, HB.out⟩
end Go.Proofs.Ytmmegmefiihabaa

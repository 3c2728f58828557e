/-
  spec.MatchRows.
-/
import Derived.Test.YtmmegmefiihabaaMatch
namespace Go.Proofs.Ytmmegmefiihabaa
open Go.RowKit

def lookL (rs : List Rwx) (k : Int) : Int := rs.foldl (fun id r => if r.ky == k then r.no else id) (-1)
theorem lookL_snoc (rs : List Rwx) (r : Rwx) (k : Int) : lookL (rs ++ [r]) k = if r.ky == k then r.no else lookL rs k := by unfold lookL; rw [List.foldl_append]; rfl
def stepM (rs : List Rwx) (p : List Rwx × Int) (k : Int) : List Rwx × Int := if lookL rs k < 0 then (p.1 ++ [⟨k, p.2⟩], p.2 + 1) else (p.1 ++ [⟨k, lookL rs k⟩], p.2)
def matchG (rs : List Rwx) (nx : Int) (ks : List Int) : List Rwx × Int := ks.foldl (stepM rs) ([], nx)
theorem matchG_snoc (rs : List Rwx) (nx : Int) (ks : List Int) (k : Int) : matchG rs nx (ks ++ [k]) = stepM rs (matchG rs nx ks) k := by unfold matchG; rw [List.foldl_append]; rfl
def finM (p : List Rwx × Int) : List Rwx × Int := if 100 < p.2 then ([], -1) else p
def matchF (rs : List Rwx) (nx : Int) (ks : List Int) : List Rwx × Int := if rowsVB rs nx && vkB ks then finM (matchG rs nx ks) else ([], -1)
theorem stepM_len (rs : List Rwx) (p : List Rwx × Int) (k : Int) : (stepM rs p k).1.length = p.1.length + 1 ∧ p.2 ≤ (stepM rs p k).2 ∧ (stepM rs p k).2 ≤ p.2 + 1 := by
  unfold stepM
  split
  · exact ⟨by simp, by simp; omega, by simp⟩
  · exact ⟨by simp, by simp, by simp; omega⟩
theorem matchG_len (rs : List Rwx) (nx : Int) (ks : List Int) : ∀ j, j ≤ ks.length → (matchG rs nx (ks.take j)).1.length = j ∧ nx ≤ (matchG rs nx (ks.take j)).2 ∧ (matchG rs nx (ks.take j)).2 ≤ nx + j := by
  intro j
  induction j with
  | zero => intro _; simp [matchG]
  | succ j ih =>
    intro h
    obtain ⟨a, b, c⟩ := ih (by omega)
    rw [List.take_succ_eq_append_getElem (by omega), matchG_snoc]
    obtain ⟨d, e, f⟩ := stepM_len rs (matchG rs nx (ks.take j)) ks[j]
    omega
theorem matchF_len (rs : List Rwx) (nx : Int) (ks : List Int) : (matchF rs nx ks).1.length ≤ 10 := by
  unfold matchF
  split
  · next h =>
    rw [Bool.and_eq_true] at h
    have hk := (vkB_iff.1 h.2).2.2
    have := (matchG_len rs nx ks ks.length (Nat.le_refl _)).1
    rw [List.take_length] at this
    unfold finM
    split
    · simp
    · omega
  · simp
/-- a list of rows that is new, and a number -/
def RetQ (p : List Rwx × Int) (w : World) (e : Ending) (w' : World) : Prop :=
  ∃ A c, e = .returned (.tuple #[.slice A p.1.length c, .int .i64 p.2]) ∧ SlQ w' w.heap.size w'.heap.size A c p.1 ∧ Below w.heap.size w w'
theorem RetQ.bad {p : List Rwx × Int} {w w' : World} (h : p = ([], -1)) (b : Below w.heap.size w w') : RetQ p w (.returned (.tuple #[.slice none 0 0, .int .i64 (-1)])) w' := by
  subst h; exact ⟨none, 0, rfl, SlR.nil, b⟩

set_option maxRecDepth 100000 in
set_option maxHeartbeats 1600000 in
theorem specMatchRows {A A' : Option Addr} {c c' n n' B B' : Nat} {w : World} (rs : List Rwx) (nx : Int) (ks : List Int) (ln : rs.length = n) (ln' : ks.length = n') (hn : n ≤ 1048576) (hn' : n' ≤ 1048576) (hc' : n' ≤ c') (h : RdQ w B A rs) (h' : RdI w B' A' ks) (hB : B ≤ w.heap.size) (hB' : B' ≤ w.heap.size) :
    Calls Try.prog 37 #[.slice A n c, .int .i64 nx, .slice A' n' c'] w (RetQ (matchF rs nx ks) w) := by
  subst ln ln'
  have H := Lib.hid h; clear h
  have H' := Lib.hid h'; clear h'
  cases hv : rowsVB rs nx
  case false =>
    have HF := Lib.hid (show matchF rs nx ks = ([], -1) from by unfold matchF; rw [hv]; rfl)
    have HV := Lib.hid hv; clear hv
    go_enter Try.func37, Try.ntmps37
    go_wp2_with fail
    refine (validRows rs nx rfl (by omega) H.out hB).mono ?_; rw [HV.out]; rintro e w2 ⟨rfl, b2⟩
    have B2 := Lib.hid b2; clear b2
    go_wp2_with fail
    go_ret2
    exact RetQ.bad HF.out B2.out
  case true =>
  have HV := Lib.hid hv
  cases hk : vkB ks
  case false =>
    have HF := Lib.hid (show matchF rs nx ks = ([], -1) from by unfold matchF; rw [hv, hk]; rfl)
    have HK := Lib.hid hk; clear hk hv
    go_enter Try.func37, Try.ntmps37
    go_wp2_with fail
    refine (validRows rs nx rfl (by omega) H.out hB).mono ?_; rw [HV.out]; rintro e w2 ⟨rfl, b2⟩
    have B2 := Lib.hid b2
    have HX := Lib.hid (H'.out.belowLe b2 hB'); clear b2
    go_wp2_with fail
    refine (qb (validKeys ks rfl (by omega) hc' HX.out)).mono ?_; rw [HK.out]; rintro e w3 ⟨rfl, b3⟩
    have B3 := Lib.hid (B2.out.trans (b3.mono (B2.out.size))); clear b3
    go_wp2_with fail
    go_ret2
    exact RetQ.bad HF.out B3.out
  case true =>
    have HK := Lib.hid hk
    have hk10 := (vkB_iff.1 hk).2.2
    have hnx : 0 ≤ nx ∧ nx ≤ 100 := by
      unfold rowsVB at hv
      rw [Bool.and_eq_true] at hv
      exact inB_iff.1 hv.2
    obtain ⟨hnx0, hnx1⟩ := hnx
    have HF := Lib.hid (show matchF rs nx ks = finM (matchG rs nx ks) from by unfold matchF; rw [hv, hk]; rfl)
    clear hk hv
    go_enter Try.func37, Try.ntmps37
    go_wp2_with fail
    refine (validRows rs nx rfl (by omega) H.out hB).mono ?_; rw [HV.out]; rintro e w2 ⟨rfl, b2⟩
    have z2 := b2.size
    have B2 := Lib.hid b2
    have HX := Lib.hid (H'.out.belowLe b2 hB'); clear b2
    go_wp2_with fail
    refine (qb (validKeys ks rfl (by omega) hc' HX.out)).mono ?_; rw [HK.out]; rintro e w3 ⟨rfl, b3⟩
    have z3 := b3.size
    have B3 := Lib.hid (B2.out.trans (b3.mono z2)); clear b3 HX
    go_wp2_with fail
    go_loopw [1, 8, 9] (fun nv v i wr => ∃ (j : Nat) (A4 : Option Addr) (c4 : Nat), j ≤ ks.length ∧ i = .int .i64 j ∧ nv = .int .i64 (matchG rs nx (ks.take j)).2 ∧ v = .slice A4 j c4 ∧ SlQ wr w.heap.size wr.heap.size A4 c4 (matchG rs nx (ks.take j)).1 ∧ Below w.heap.size w wr) (fun _ _ i _ => ks.length - (intOf i).toNat)
    case atStart => exact ⟨0, _, 0, Nat.zero_le _, rfl, rfl, rfl, SlR.nil, B3.out.alloc (by omega) _⟩
    case round =>
      obtain ⟨j, A4, c4, hj, rfl, rfl, rfl, hs, hb⟩ := hrel
      have hzb := hb.size
      obtain ⟨gl, g1, g2⟩ := matchG_len rs nx ks j hj
      have SO := Lib.hid hs
      have HB := Lib.hid hb
      clear hs hb
      by_cases hlt : j < ks.length
      · have HT := Lib.hid (show matchG rs nx (ks.take (j + 1)) = stepM rs (matchG rs nx (ks.take j)) ks[j] from by rw [List.take_succ_eq_append_getElem hlt, matchG_snoc])
        obtain ⟨os, cur, hoc⟩ : ∃ os cur, matchG rs nx (ks.take j) = (os, cur) := ⟨_, _, rfl⟩
        rw [hoc] at SO HT gl g1 g2 ⊢
        simp only at gl g1 g2 ⊢
        have SO' := Lib.hid (show SlQ wr w.heap.size wr.heap.size A4 c4 os from SO.out)
        have GL := Lib.hid gl
        obtain ⟨ad, hA', _, hc⟩ := (H'.out.belowLe HB.out hB').at_ hlt
        subst hA'
        have hcell := hc j hlt
        obtain ⟨k, hk⟩ : ∃ k, ks[j] = k := ⟨_, rfl⟩
        rw [hk] at hcell HT
        have HXR := Lib.hid (H.out.belowLe HB.out hB)
        have hjj0 : (0 : Int) ≤ (j : Int) := Int.natCast_nonneg _
        have hjj1 : (j : Int) < (ks.length : Int) := by omega
        clear hc hk hoc SO gl
        go_wp2_with fail
        go_loopw [10, 11] (fun v i wx => ∃ (q d : Nat), q ≤ rs.length ∧ i = .int .i64 q ∧ v = .int .i64 (lookL (rs.take q) k) ∧ wx = wr.drewN d) (fun _ i _ => rs.length - (intOf i).toNat)
        case atStart => exact ⟨0, 0, Nat.zero_le _, rfl, rfl, rfl⟩
        case round =>
          obtain ⟨q, d, hq, rfl, rfl, rfl⟩ := hrel
          by_cases hqr : q < rs.length
          · obtain ⟨g, o, hAx, hgB, k0, k1⟩ := RdQ_at HXR.out hqr
            subst hAx
            have HL := Lib.hid (show lookL (rs.take (q + 1)) k = if rs[q].ky == k then rs[q].no else lookL (rs.take q) k from by rw [List.take_succ_eq_append_getElem hqr, lookL_snoc])
            obtain ⟨x, hx⟩ : ∃ x, rs[q] = x := ⟨_, rfl⟩
            rw [hx] at k0 k1 HL
            obtain ⟨ky, no⟩ := x
            simp only at k0 k1 HL
            have hqq0 : (0 : Int) ≤ (q : Int) := Int.natCast_nonneg _
            have hqq1 : (q : Int) < (rs.length : Int) := by omega
            clear hx
            cases he : ky == k
            · rw [he] at HL
              go_wp2_with fail
              go_quiet (fail)
              go_wp2_with fail
              go_roundw
              case rel => exact ⟨q + 1, _, by omega, by go_num, by rw [HL.out]; rfl, rfl⟩
              case measure => simp [intOf]; omega
            · rw [he] at HL
              go_wp2_with fail
              go_quiet (fail)
              go_wp2_with fail
              go_roundw
              case rel => exact ⟨q + 1, _, by omega, by go_num, by rw [HL.out]; rfl, rfl⟩
              case measure => simp [intOf]; omega
          · have hqe : rs.take q = rs := List.take_of_length_le (by omega)
            rw [hqe]
            obtain ⟨id, hid⟩ : ∃ id, lookL rs k = id := ⟨_, rfl⟩
            rw [hid]
            have hzd : (wr.drewN d).heap.size = wr.heap.size := rfl
            have SD := Lib.hid (show SlQ (wr.drewN d) w.heap.size wr.heap.size A4 c4 os from SO'.out)
            have HBD := Lib.hid (show Below w.heap.size w (wr.drewN d) from ⟨HB.out.os, HB.out.tape, HB.out.output, HB.out.size, HB.out.block⟩)
            have hcell2 : (wr.drewN d).cell? (ad.add j) = some (.int .i64 k) := hcell
            obtain ⟨W, hW⟩ : ∃ W, W = wr.drewN d := ⟨_, rfl⟩
            rw [← hW] at SD HBD hcell2 ⊢
            have hzW : W.heap.size = wr.heap.size := by rw [hW]; rfl
            have HZW := Lib.hid hzW
            have hzw2 : w.heap.size ≤ W.heap.size := by omega
            by_cases hneg : id < 0
            · have HS := Lib.hid (show matchG rs nx (ks.take (j + 1)) = (os ++ [⟨k, cur⟩], cur + 1) from by rw [HT.out]; unfold stepM; rw [hid, if_pos hneg])
              clear hzd hW hzW hqe hid HT
              go_wp2_with (at_builtin; refine wpList_appQ (.tmp 54) (.tmp 61) rfl rfl os ⟨k, cur⟩ rfl GL.out (SD.out.alloc _) rfl (Blk.new _ _ _) (by omega) (by simp; omega) ?_; intro A7 c7 w7 h7 t7 _)
              have S7 := Lib.hid (show SlQ w7 w.heap.size w7.heap.size A7 c7 (os ++ [⟨k, cur⟩]) from SlQ_all (h7.mono (Nat.le_refl _) (Nat.le_refl _)) t7 (by rw [World.size_alloc, HZW.out]; omega))
              have HB7 := Lib.hid ((HBD.out.alloc hzw2 _).trans (t7.below (by simp; omega)))
              clear h7 t7
              go_wp2
              go_roundw
              case rel => exact ⟨j + 1, A7, c7, by omega, by go_num, by rw [HS.out], rfl, by rw [HS.out]; exact S7.out, HB7.out⟩
              case measure => simp [intOf]; omega
            · have HS := Lib.hid (show matchG rs nx (ks.take (j + 1)) = (os ++ [⟨k, id⟩], cur) from by rw [HT.out]; unfold stepM; rw [hid, if_neg hneg])
              clear hzd hW hzW hqe hid HT
              go_wp2_with (at_builtin; refine wpList_appQ (.tmp 54) (.tmp 61) rfl rfl os ⟨k, id⟩ rfl GL.out (SD.out.alloc _) rfl (Blk.new _ _ _) (by omega) (by simp; omega) ?_; intro A7 c7 w7 h7 t7 _)
              have S7 := Lib.hid (show SlQ w7 w.heap.size w7.heap.size A7 c7 (os ++ [⟨k, id⟩]) from SlQ_all (h7.mono (Nat.le_refl _) (Nat.le_refl _)) t7 (by rw [World.size_alloc, HZW.out]; omega))
              have HB7 := Lib.hid ((HBD.out.alloc hzw2 _).trans (t7.below (by simp; omega)))
              clear h7 t7
              go_wp2
              go_roundw
              case rel => exact ⟨j + 1, A7, c7, by omega, by go_num, by rw [HS.out], rfl, by rw [HS.out]; exact S7.out, HB7.out⟩
              case measure => simp [intOf]; omega
      · have hjl : ks.take j = ks := List.take_of_length_le (by omega)
        rw [hjl] at SO gl g1 g2 ⊢
        obtain ⟨os, cur, hoc⟩ : ∃ os cur, matchG rs nx ks = (os, cur) := ⟨_, _, rfl⟩
        rw [hoc] at SO HF gl g1 g2 ⊢
        simp only at gl g1 g2 ⊢
        have SO' := Lib.hid (show SlQ wr w.heap.size wr.heap.size A4 c4 os from SO.out)
        have GL := Lib.hid gl
        clear hjl SO gl
        by_cases hbig : 100 < cur
        · have HF := Lib.hid (show matchF rs nx ks = ([], -1) from by rw [HF.out]; unfold finM; rw [if_pos hbig])
          clear hoc
          go_wp2_with fail
          go_ret2
          exact RetQ.bad HF.out HB.out
        · have HF := Lib.hid (show matchF rs nx ks = (os, cur) from by rw [HF.out]; unfold finM; rw [if_neg hbig])
          clear hoc
          go_wp2_with fail
          go_ret2
          exact ⟨A4, c4, by rw [HF.out, GL.out]; rfl, by rw [HF.out]; exact SO'.out, HB.out⟩
end Go.Proofs.Ytmmegmefiihabaa

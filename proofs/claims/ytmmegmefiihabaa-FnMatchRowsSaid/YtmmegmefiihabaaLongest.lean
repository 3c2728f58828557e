/-
  spec.longest, slices.Max.
-/
import Derived.Test.YtmmegmefiihabaaStaysLaw
import Derived.BigRegion
import Derived.WalkLawsBesides
namespace Go.Proofs.Ytmmegmefiihabaa
open Go.RowKit

def natsI (ls : List Nat) : List Int := ls.map fun n : Nat => (n : Int)
theorem natsI_len (ls : List Nat) : (natsI ls).length = ls.length := by simp [natsI]
theorem natsI_at (ls : List Nat) (k : Nat) (h : k < (natsI ls).length) : (natsI ls)[k] = ((ls[k]'(by simpa [natsI] using h) : Nat) : Int) := by simp [natsI]

set_option maxHeartbeats 400000 in
theorem slicesMax {A : Option Addr} {c n B : Nat} {w : World} (ls : List Nat) (ln : ls.length = n) (hp : 0 < n) (hn : n ≤ 1099511627776) (h : RdI w B A (natsI ls)) :
    Calls Try.prog 89 #[.slice A n c] w fun e w' => e = .returned (.int .i64 (maxN ls : Nat)) ∧ w = w' := by
  subst ln
  obtain ⟨ad, rfl, _, hc⟩ := h.at_ (k := 0) (by rw [natsI_len]; exact hp)
  have hcell0 := hc 0 (by rw [natsI_len]; exact hp)
  rw [natsI_at] at hcell0
  have ead : ad.add 0 = ad := by simp [Addr.add]
  rw [ead] at hcell0
  have hn1 : ¬ (ls.length : Int) < 1 := by omega
  have hne : ls ≠ [] := by rintro rfl; simp at hp
  clear ead
  go_enter Try.func89, Try.ntmps89
  go_wp2
  go_loop [3, 4] (fun m i => ∃ k : Nat, 1 ≤ k ∧ k ≤ ls.length ∧ i = .int .i64 k ∧ m = .int .i64 (maxN (ls.take k) : Nat)) (fun _ i => ls.length - (intOf i).toNat)
  case atStart => exact ⟨1, Nat.le_refl _, by omega, rfl, by rw [List.take_succ_eq_append_getElem hp, maxN_append]; rfl⟩
  case round =>
    obtain ⟨k, hk1, hk, rfl, rfl⟩ := hrel
    by_cases hlt : k < ls.length
    · have hcell := hc k (by rw [natsI_len]; exact hlt)
      rw [natsI_at] at hcell
      have HS := Lib.hid (show maxN (ls.take (k + 1)) = max (maxN (ls.take k)) ls[k] by rw [List.take_succ_eq_append_getElem hlt, maxN_append]; congr 1)
      clear hc h
      go_wp2
      all_goals
        go_round
        case rel => exact ⟨k + 1, by omega, by omega, by go_num, by rw [HS.out]; simp; split <;> omega⟩
        case measure => simp [intOf]; omega
    · go_wp2
      go_ret
      exact ⟨ret_int (by rw [List.take_of_length_le (by omega)]), rfl⟩

/-- the row while it is filled from behind: j zeros, then what is known -/
def fromB (ps : List Int) (j : Nat) : List Int := List.replicate j 0 ++ natsI (lensF (ps.drop j))
theorem fromB_len (ps : List Int) (j : Nat) (hj : j ≤ ps.length) : (fromB ps j).length = ps.length := by simp [fromB, natsI_len, lensF_len]; omega
def midB (ps : List Int) (i : Nat) (acc : Nat) : List Int := List.replicate i 0 ++ (acc : Int) :: natsI (lensF (ps.drop (i + 1)))
theorem midB_len (ps : List Int) (i acc : Nat) (hi : i < ps.length) : (midB ps i acc).length = ps.length := by simp [midB, natsI_len, lensF_len]; omega
theorem midB_set (ps : List Int) (i acc : Nat) (x : Nat) : (midB ps i acc).set i (x : Int) = midB ps i x := by
  unfold midB
  rw [List.set_append_right _ _ (by simp), List.length_replicate, Nat.sub_self]
  rfl
theorem fromB_set (ps : List Int) (i : Nat) (x : Nat) : (fromB ps (i + 1)).set i (x : Int) = midB ps i x := by
  unfold fromB midB
  rw [List.replicate_succ', List.append_assoc, List.set_append_right _ _ (by simp), List.length_replicate, Nat.sub_self]
  rfl
theorem midB_done (ps : List Int) (i : Nat) (hi : i < ps.length) (hp : 0 ≤ ps[i]) : midB ps i (bestF ps[i] (ps.drop (i + 1)) (lensF (ps.drop (i + 1))) 1) = fromB ps i := by
  unfold fromB midB
  rw [List.drop_eq_getElem_cons hi]
  simp only [lensF, if_neg (by omega : ¬ ps[i] < 0), natsI, List.map_cons]
theorem midB_at (ps : List Int) (i acc : Nat) : (midB ps i acc)[i]? = some (acc : Int) := by
  unfold midB
  rw [List.getElem?_append_right (by simp)]
  simp
def hdN (ps : List Int) (k : Nat) : Nat := (lensF (ps.drop k)).headD 0
theorem midB_next (ps : List Int) (i acc k : Nat) (hik : i < k) (hk : k < ps.length) : (midB ps i acc)[k]? = some (hdN ps k : Int) := by
  unfold midB
  rw [List.getElem?_append_right (by simp; omega)]
  obtain ⟨m, hm⟩ : ∃ m, k - (List.replicate i (0 : Int)).length = m + 1 := ⟨k - i - 1, by simp; omega⟩
  have hm' : m = k - (i + 1) := by simp at hm; omega
  rw [hm, List.getElem?_cons_succ, natsI, List.getElem?_map]
  have h1 : lensF (ps.drop k) = (lensF (ps.drop (i + 1))).drop m := by
    rw [lensF_drop, List.drop_drop]; congr 2; omega
  have h2 : (lensF (ps.drop (i + 1)))[m]? = some (hdN ps k) := by
    unfold hdN
    rw [h1]
    have hl : m < (lensF (ps.drop (i + 1))).length := by rw [lensF_len, List.length_drop]; omega
    rw [List.drop_eq_getElem_cons hl, List.getElem?_eq_getElem hl]
    rfl
  rw [h2]
  rfl
theorem best_step (ps : List Int) (p : Int) (k acc : Nat) (hk : k < ps.length) : bestF p (ps.drop k) (lensF (ps.drop k)) acc = bestF p (ps.drop (k + 1)) (lensF (ps.drop (k + 1))) (if p < ps[k] then max acc (hdN ps k + 1) else acc) := by
  unfold hdN
  have h1 : ps.drop k = ps[k] :: ps.drop (k + 1) := List.drop_eq_getElem_cons hk
  rw [h1]
  simp only [lensF, bestF, List.headD_cons]
theorem hdN_le (ps : List Int) (k : Nat) (hk : k < ps.length) : hdN ps k ≤ ps.length := by
  unfold hdN
  have hl : 0 < (lensF (ps.drop k)).length := by rw [lensF_len, List.length_drop]; omega
  cases h : lensF (ps.drop k) with
  | nil => simp
  | cons l ls =>
    have := lensF_le (ps.drop k) l (by rw [h]; exact List.mem_cons_self)
    rw [List.length_drop] at this
    simp; omega
theorem acc_le (ps : List Int) (p : Int) (k acc : Nat) (h : bestF p (ps.drop k) (lensF (ps.drop k)) acc ≤ ps.length) : acc ≤ ps.length := Nat.le_trans (bestF_ge _ _ _ _) h
theorem best_le (ps : List Int) (i : Nat) (hi : i < ps.length) : bestF ps[i] (ps.drop (i + 1)) (lensF (ps.drop (i + 1))) 1 ≤ ps.length :=
  bestF_le _ _ _ _ _ (by omega) fun l hl => by have := lensF_le (ps.drop (i + 1)) l hl; rw [List.length_drop] at this; omega

set_option maxHeartbeats 1600000 in
theorem longest {A : Option Addr} {c n B : Nat} {w : World} (ps : List Int) (ln : ps.length = n) (hn : n ≤ 1099511627776) (hp : ∀ p ∈ ps, 0 ≤ p) (h : RdI w B A ps) (hB : B ≤ w.heap.size) :
    Calls Try.prog 97 #[.slice A n c] w (MadeI w (natsI (lensF ps))) := by
  subst ln
  have hmk := run_makeI ps.length hn
  have S0 := Lib.hid (SlI.new w (List.replicate ps.length 0) (lo := w.heap.size) (Nat.le_refl _))
  have HP := Lib.hid hp; clear hp
  go_enter Try.func97, Try.ntmps97
  go_wp2_with fail
  clear hmk
  go_loopw [4] (fun i wr => ∃ j : Nat, j ≤ ps.length ∧ i = .int .i64 (j - 1 : Int) ∧ SlI wr w.heap.size (w.heap.size + 1) (some ⟨w.heap.size, 0, none⟩) ps.length (fromB ps j) ∧ Below w.heap.size w wr ∧ wr.heap.size = w.heap.size + 1) (fun i _ => (intOf i + 1).toNat)
  case atStart => exact ⟨ps.length, Nat.le_refl _, rfl, by have := S0.out; simpa [fromB, natsI, lensF] using this, (Below.refl _ _).alloc (Nat.le_refl _) _, by simp⟩
  case round =>
    obtain ⟨j, hj, rfl, hs, hb, hz⟩ := hrel
    have HS := Lib.hid hs; clear hs
    have HB := Lib.hid hb; clear hb
    have HZ := Lib.hid hz; clear hz
    rcases Nat.eq_zero_or_pos j with h0 | hpos
    · have HJ := Lib.hid h0
      have hlt : ¬ (0 : Int) ≤ (j : Int) - 1 := by omega
      clear h0
      go_wp2_with fail
      go_ret
      have e : fromB ps j = natsI (lensF ps) := by rw [HJ.out]; simp [fromB]
      have h2 := HS.out
      rw [e] at h2
      exact ⟨_, _, by rw [natsI_len, lensF_len]; rfl, h2.mono (Nat.le_refl _) (by rw [HZ.out]; exact Nat.le_refl _), HB.out⟩
    · obtain ⟨i, rfl⟩ : ∃ i, j = i + 1 := ⟨j - 1, by omega⟩
      have ei : ((i + 1 : Nat) : Int) - 1 = (i : Int) := by omega
      rw [ei]
      have hi : i < ps.length := by omega
      clear ei hpos
      have hpi : 0 ≤ ps[i] := HP.out _ (List.getElem_mem hi)
      have HPI := Lib.hid hpi; clear hpi
      have R1 := Lib.hid (h.belowLe HB.out hB)
      obtain ⟨adp, rfl, _, hcp⟩ := R1.out.at_ hi
      have hst1 := HS.out.get (j := i) (x := 0) (by unfold fromB; rw [List.getElem?_append_left (by simp)]; simp)
      obtain ⟨g, o, hA, hg1, hg2, _, hff, hst⟩ := HS.out.at_ (k := i) (by rw [fromB_len _ _ hj]; exact hi)
      simp only [Option.some.injEq, Addr.mk.injEq, and_true] at hA
      obtain ⟨rfl, rfl⟩ := hA
      have hfr := hff i
      simp only [Nat.zero_add] at hst1 hfr
      obtain ⟨h1, h2⟩ := hst i 1 (by rw [fromB_len _ _ hj]; exact hi)
      rw [Nat.zero_add] at h1 h2
      have h1' := h1
      rw [show (1 : Int) = ((1 : Nat) : Int) from rfl, fromB_set] at h1'
      have H1 := Lib.hid h1'
      have H2 := Lib.hid (HB.out.setCell (p := ⟨w.heap.size, i, none⟩) (Nat.le_refl _) (.int .i64 1))
      have BEST := Lib.hid (best_le ps i hi)
      clear hst hff hcp h1 h1' h2
      go_wp2_with fail
      obtain ⟨wo, HWO⟩ : ∃ wo : World, Hid (wo = wr) := ⟨wr, rfl⟩
      go_loopw [5] (fun q wi => ∃ (k acc : Nat), i < k ∧ k ≤ ps.length ∧ q = .int .i64 k ∧ bestF ps[i] (ps.drop k) (lensF (ps.drop k)) acc = bestF ps[i] (ps.drop (i + 1)) (lensF (ps.drop (i + 1))) 1 ∧ SlI wi w.heap.size (w.heap.size + 1) (some ⟨w.heap.size, 0, none⟩) ps.length (midB ps i acc) ∧ Below w.heap.size w wi ∧ wi.heap.size = w.heap.size + 1) (fun q _ => ps.length - (intOf q).toNat)
      case atStart => exact ⟨i + 1, 1, by omega, by omega, by go_num, rfl, H1.out, H2.out, by simp [World.setCell, HZ.out]⟩
      case round =>
        obtain ⟨k, acc, hik, hk, rfl, hbe, hs, hb2, hz2⟩ := hrel
        clear HWO
        have HBE := Lib.hid hbe
        have HS2 := Lib.hid hs
        have HB2 := Lib.hid hb2
        have HZ2 := Lib.hid hz2
        have hacc : acc ≤ ps.length := acc_le ps ps[i] k acc (by rw [hbe]; exact BEST.out)
        clear hbe hs hb2 hz2
        by_cases hlt : k < ps.length
        · have R2 := Lib.hid (h.belowLe HB2.out hB)
          have hRI : wr.cell? (adp.add i) = some (.int .i64 ps[i]) := by
            obtain ⟨a1, e1, _, hc1⟩ := R2.out.at_ hi
            injection e1 with e1; subst e1
            exact hc1 i hi
          have hRK : wr.cell? (adp.add k) = some (.int .i64 ps[k]) := by
            obtain ⟨a1, e1, _, hc1⟩ := R2.out.at_ hi
            injection e1 with e1; subst e1
            exact hc1 k hlt
          have hSI := HS2.out.get (midB_at ps i acc)
          have hSK := HS2.out.get (midB_next ps i acc k hik hlt)
          obtain ⟨g, o, hA, hg1, hg2, _, hff, hst⟩ := HS2.out.at_ (k := i) (by rw [midB_len _ _ _ hi]; exact hi)
          simp only [Option.some.injEq, Addr.mk.injEq, and_true] at hA
          obtain ⟨rfl, rfl⟩ := hA
          have hfr := hff i
          simp only [Nat.zero_add] at hSI hSK hfr
          have hhd := hdN_le ps k hlt
          have STEP := Lib.hid (best_step ps ps[i] k acc hlt)
          obtain ⟨h1, h2⟩ := hst i ((max acc (hdN ps k + 1) : Nat) : Int) (by rw [midB_len _ _ _ hi]; exact hi)
          rw [midB_set, Nat.zero_add] at h1
          rw [Nat.zero_add] at h2
          have H3 := Lib.hid h1
          have H4 := Lib.hid (Below.new HB2.out h2 (Nat.le_refl _) (Nat.le_refl _))
          obtain ⟨hd, hhde⟩ : ∃ hd, hdN ps k = hd := ⟨_, rfl⟩
          rw [hhde] at hSK hhd STEP H3 H4
          clear hst hff h1 h2 hhde
          by_cases hpq : ps[i] < ps[k]
          · have STEP' := Lib.hid (show bestF ps[i] (ps.drop (k + 1)) (lensF (ps.drop (k + 1))) (max acc (hd + 1)) = bestF ps[i] (ps.drop (i + 1)) (lensF (ps.drop (i + 1))) 1 by rw [← HBE.out, STEP.out, if_pos hpq])
            have hwr : IntKind.i64.wrap ((hd : Int) + 1) = (hd : Int) + 1 := IntWalk.i64_in _ (by omega)
            go_wp2_with fail
            go_quiet (fail)
            go_wp2_with fail
            go_region
            have hv : (if (acc : Int) < (hd : Int) + 1 then (hd : Int) + 1 else (acc : Int)) = ((max acc (hd + 1) : Nat) : Int) := by split <;> omega
            have HV := Lib.hid hv; clear hv hwr
            go_wp2_with fail
            go_roundw
            case rel =>
              refine ⟨k + 1, max acc (hd + 1), by omega, by omega, by go_num, STEP'.out, ?_, ?_, ?_⟩
              · rw [HV.out]; exact H3.out.drewN (nq + 1)
              · rw [HV.out]; exact below_drewN H4.out (nq + 1)
              · simpa [World.setCell] using HZ2.out
            case measure => simp [intOf]; omega
          · have STEP' := Lib.hid (show bestF ps[i] (ps.drop (k + 1)) (lensF (ps.drop (k + 1))) acc = bestF ps[i] (ps.drop (i + 1)) (lensF (ps.drop (i + 1))) 1 by rw [← HBE.out, STEP.out, if_neg hpq])
            go_wp2_with fail
            go_quiet (fail)
            go_wp2_with fail
            go_roundw
            case rel => exact ⟨k + 1, acc, by omega, by omega, by go_num, STEP'.out, HS2.out, below_drewN HB2.out _, HZ2.out⟩
            case measure => simp [intOf]; omega
        · have hkl : k = ps.length := by omega
          have e : midB ps i acc = fromB ps i := by
            have h1 := HBE.out
            rw [hkl, List.drop_length] at h1
            rw [← midB_done ps i hi HPI.out, ← h1]
            simp [bestF]
          have h2 := HS2.out
          rw [e] at h2
          have HS3 := Lib.hid h2
          clear h2 e hkl
          go_wp2_with fail
          go_roundw
          case rel => exact ⟨i, by omega, by go_num, HS3.out, HB2.out, HZ2.out⟩
          case measure => simp [intOf]
end Go.Proofs.Ytmmegmefiihabaa

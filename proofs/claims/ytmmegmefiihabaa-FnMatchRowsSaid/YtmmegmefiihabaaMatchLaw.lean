/-
  Rows that are matched: the plain laws of FnMatchRows and FnMatchRowsAgain.
-/
import Derived.Test.YtmmegmefiihabaaMatchImpl
namespace Go.Proofs.Ytmmegmefiihabaa
open Go.RowKit

theorem matchG_app (rs : List Rwx) (nx : Int) (ps qs : List Int) : ∃ t, (matchG rs nx (ps ++ qs)).1 = (matchG rs nx ps).1 ++ t := by
  unfold matchG
  rw [List.foldl_append]
  generalize ps.foldl (stepM rs) ([], nx) = p
  induction qs generalizing p with
  | nil => exact ⟨[], by simp⟩
  | cons q qs ih =>
    rw [List.foldl_cons]
    obtain ⟨t, ht⟩ := ih (stepM rs p q)
    obtain ⟨u, hu⟩ : ∃ u, (stepM rs p q).1 = p.1 ++ u := by unfold stepM; split <;> exact ⟨_, rfl⟩
    exact ⟨u ++ t, by rw [ht, hu, List.append_assoc]⟩
def MInv (rs : List Rwx) (nx : Int) (ps : List Int) (os : List Rwx) (cur : Int) : Prop :=
  os.map (·.ky) = ps ∧ nx ≤ cur ∧ (∀ r ∈ os, 0 ≤ r.no ∧ r.no < cur) ∧ (∀ r ∈ os, r.no < nx → r ∈ rs) ∧ (os.map (·.no)).Nodup
theorem no_uniq {rs : List Rwx} (hn : (rs.map (·.no)).Nodup) {a b : Rwx} (ha : a ∈ rs) (hb : b ∈ rs) (h : a.no = b.no) : a = b := by
  induction rs with
  | nil => cases ha
  | cons r rs ih =>
    rw [List.map_cons, List.nodup_cons] at hn
    rcases List.mem_cons.1 ha with ea | ha'
    · rcases List.mem_cons.1 hb with eb | hb'
      · rw [ea, eb]
      · exact (hn.1 (List.mem_map.2 ⟨b, hb', by rw [← h, ea]⟩)).elim
    · rcases List.mem_cons.1 hb with eb | hb'
      · exact (hn.1 (List.mem_map.2 ⟨a, ha', by rw [h, eb]⟩)).elim
      · exact ih hn.2 ha' hb'
theorem match_inv {rs : List Rwx} {nx : Int} (hky : (rs.map (·.ky)).Nodup) (hno : (rs.map (·.no)).Nodup) (h0 : 0 ≤ nx) (hin : ∀ r ∈ rs, 0 ≤ r.no ∧ r.no < nx) (ks : List Int) (hk : ks.Nodup) :
    ∀ j, j ≤ ks.length → MInv rs nx (ks.take j) (matchG rs nx (ks.take j)).1 (matchG rs nx (ks.take j)).2 := by
  intro j
  induction j with
  | zero => intro _; exact ⟨rfl, Int.le_refl _, fun _ h => by simp [matchG] at h, fun _ h => by simp [matchG] at h, by simp [matchG]⟩
  | succ j ih =>
    intro hj
    obtain ⟨a1, a2, a3, a4, a5⟩ := ih (by omega)
    have hlt : j < ks.length := by omega
    rw [List.take_succ_eq_append_getElem hlt, matchG_snoc]
    obtain ⟨os, cur, hoc⟩ : ∃ os cur, matchG rs nx (ks.take j) = (os, cur) := ⟨_, _, rfl⟩
    rw [hoc] at a1 a2 a3 a4 a5 ⊢
    simp only at a1 a2 a3 a4 a5
    have hkn : ks[j] ∉ ks.take j := by
      have : ks = ks.take j ++ ks[j] :: ks.drop (j + 1) := by rw [← List.drop_eq_getElem_cons hlt, List.take_append_drop]
      intro h
      rw [this] at hk
      exact (nodup_mid hk).1 h
    obtain ⟨k, hkk⟩ : ∃ k, ks[j] = k := ⟨_, rfl⟩
    rw [hkk] at hkn ⊢
    by_cases hm : k ∈ rs.map (·.ky)
    · obtain ⟨i, hi, _, e2, e3⟩ := look_at hky hm
      have hr := hin rs[i] (List.getElem_mem hi)
      have es : stepM rs (os, cur) k = (os ++ [rs[i]], cur) := by
        unfold stepM; rw [e3, if_neg (by omega)]
        have : rs[i] = ⟨k, rs[i].no⟩ := by rw [← e2]
        rw [this]
      rw [es]
      refine ⟨by simp [a1, e2], a2, fun r h => ?_, fun r h h1 => ?_, ?_⟩
      · rcases List.mem_append.1 h with h | h
        · exact a3 r h
        · rw [List.mem_singleton] at h; subst h; exact ⟨hr.1, by omega⟩
      · rcases List.mem_append.1 h with h | h
        · exact a4 r h h1
        · rw [List.mem_singleton] at h; subst h; exact List.getElem_mem hi
      · rw [List.map_append, List.nodup_append]
        refine ⟨a5, by simp, fun a ha b hb => ?_⟩
        rw [List.map_cons, List.map_nil, List.mem_singleton] at hb
        subst hb
        obtain ⟨r, hr1, rfl⟩ := List.mem_map.1 ha
        intro e
        have := no_uniq hno (a4 r hr1 (by omega)) (List.getElem_mem hi) e
        refine hkn ?_
        rw [← a1, ← e2, ← this]
        exact List.mem_map.2 ⟨r, hr1, rfl⟩
    · have es : stepM rs (os, cur) k = (os ++ [⟨k, cur⟩], cur + 1) := by unfold stepM; rw [look_none hm]; rfl
      rw [es]
      refine ⟨by simp [a1], by simp only; omega, fun r h => ?_, fun r h h1 => ?_, ?_⟩
      · rcases List.mem_append.1 h with h | h
        · have := a3 r h; simp only; omega
        · rw [List.mem_singleton] at h; subst h; simp only; omega
      · rcases List.mem_append.1 h with h | h
        · exact a4 r h h1
        · rw [List.mem_singleton] at h; subst h; simp only at h1; omega
      · rw [List.map_append, List.nodup_append]
        refine ⟨a5, by simp, fun a ha b hb => ?_⟩
        rw [List.map_cons, List.map_nil, List.mem_singleton] at hb
        subst hb
        obtain ⟨r, hr1, rfl⟩ := List.mem_map.1 ha
        have := (a3 r hr1).2
        omega
theorem matchG_self {os : List Rwx} {f : Int} (hn : (os.map (·.ky)).Nodup) (h0 : ∀ r ∈ os, 0 ≤ r.no) : matchG os f (os.map (·.ky)) = (os, f) := by
  have : ∀ j, j ≤ os.length → matchG os f ((os.map (·.ky)).take j) = (os.take j, f) := by
    intro j
    induction j with
    | zero => intro _; rfl
    | succ j ih =>
      intro hj
      have hlt : j < os.length := by omega
      have hlt2 : j < (os.map (·.ky)).length := by rw [List.length_map]; exact hlt
      rw [List.take_succ_eq_append_getElem hlt2, matchG_snoc, ih (by omega), List.getElem_map, List.take_succ_eq_append_getElem hlt]
      obtain ⟨i, hi, _, e2, e3⟩ := look_at hn (List.mem_map.2 ⟨os[j], List.getElem_mem hlt, rfl⟩)
      have hij : i = j := by
        have hi2 : i < (os.map (·.ky)).length := by rw [List.length_map]; exact hi
        have e4 := idx_eq_of_nodup hn i hi2
        have e5 := idx_eq_of_nodup hn j hlt2
        rw [List.getElem_map, e2] at e4
        rw [List.getElem_map] at e5
        exact e4.symm.trans e5
      subst hij
      have := h0 os[i] (List.getElem_mem hi)
      unfold stepM; rw [e3, if_neg (by omega)]
  have h := this os.length (Nat.le_refl _)
  rw [List.take_length, List.take_of_length_le (by rw [List.length_map]; exact Nat.le_refl _)] at h
  exact h
theorem match_ok {rs : List Rwx} {nx f : Int} {ks : List Int} {os : List Rwx} (h : matchF rs nx ks = (os, f)) (hf : ¬ f < 0) : rowsVB rs nx = true ∧ vkB ks = true ∧ matchG rs nx ks = (os, f) ∧ f ≤ 100 := by
  unfold matchF at h
  split at h
  · next hg =>
    rw [Bool.and_eq_true] at hg
    unfold finM at h
    split at h
    · simp only [Prod.mk.injEq] at h; omega
    · refine ⟨hg.1, hg.2, h, ?_⟩
      have : (matchG rs nx ks).2 = f := by rw [h]
      omega
  · simp only [Prod.mk.injEq] at h; omega
theorem prevI_in {nx : Int} (h0 : 0 ≤ nx) (h1 : nx ≤ 100) : prevI nx = nx - 1 := by unfold prevI; exact IntWalk.i64_in _ (by omega)
theorem rowsVB_iff {rs : List Rwx} {nx : Int} : rowsVB rs nx = true ↔ vkB (rs.map (·.ky)) = true ∧ (∀ r ∈ rs, 0 ≤ r.no ∧ r.no < nx) ∧ (rs.map (·.no)).Nodup ∧ 0 ≤ nx ∧ nx ≤ 100 := by
  unfold rowsVB nodupB
  simp only [Bool.and_eq_true, decide_eq_true_eq, inB_iff, allB_iff, and_assoc]
  constructor
  · rintro ⟨h1, h2, h3, h4, h5⟩
    refine ⟨h1, fun r hr => ?_, h3, h4, h5⟩
    have := h2 r.no (List.mem_map.2 ⟨r, hr, rfl⟩)
    rw [prevI_in h4 h5] at this
    omega
  · rintro ⟨h1, h2, h3, h4, h5⟩
    refine ⟨h1, fun x hx => ?_, h3, h4, h5⟩
    obtain ⟨r, hr, rfl⟩ := List.mem_map.1 hx
    have := h2 r hr
    rw [prevI_in h4 h5]
    omega
theorem match_end {rs : List Rwx} {nx f : Int} {ks : List Int} {os : List Rwx} (h : matchF rs nx ks = (os, f)) (hf : ¬ f < 0) : MInv rs nx ks os f := by
  obtain ⟨h1, h2, h3, _⟩ := match_ok h hf
  obtain ⟨a1, a2, a3, a4, _⟩ := rowsVB_iff.1 h1
  have := match_inv (vkB_iff.1 a1).1 a3 a4 a2 ks (vkB_iff.1 h2).1 ks.length (Nat.le_refl _)
  rw [List.take_length, h3] at this
  exact this
theorem match_again {rs : List Rwx} {nx f : Int} {ks : List Int} {os : List Rwx} (h : matchF rs nx ks = (os, f)) (hf : ¬ f < 0) : matchF os f ks = (os, f) := by
  obtain ⟨h1, h2, h3, h4⟩ := match_ok h hf
  obtain ⟨m1, m2, m3, m4, m5⟩ := match_end h hf
  have hg : matchG os f ks = (os, f) := by
    have := matchG_self (os := os) (f := f) (by rw [m1]; exact (vkB_iff.1 h2).1) (fun r hr => (m3 r hr).1)
    rwa [m1] at this
  have hv : rowsVB os f = true := rowsVB_iff.2 ⟨by rw [m1]; exact h2, m3, m5, by omega, h4⟩
  unfold matchF
  rw [hv, h2, hg]
  unfold finM
  simp only [Bool.and_self, if_true]
  rw [if_neg (by omega)]
theorem match_at {rs : List Rwx} {nx f : Int} {ks : List Int} {os : List Rwx} (h : matchF rs nx ks = (os, f)) (hf : ¬ f < 0) {i : Nat} (hi : i < ks.length) (hi' : i < os.length) :
    os[i].ky = ks[i] ∧ ((lookL rs ks[i] < 0 ∧ os[i].no = (matchG rs nx (ks.take i)).2 ∧ (matchG rs nx (ks.take (i + 1))).2 = (matchG rs nx (ks.take i)).2 + 1) ∨
      (¬ lookL rs ks[i] < 0 ∧ os[i].no = lookL rs ks[i] ∧ (matchG rs nx (ks.take (i + 1))).2 = (matchG rs nx (ks.take i)).2)) := by
  obtain ⟨_, h2, h3, _⟩ := match_ok h hf
  obtain ⟨t, ht⟩ := matchG_app rs nx (ks.take (i + 1)) (ks.drop (i + 1))
  rw [List.take_append_drop, h3] at ht
  have hl := (matchG_len rs nx ks i (by omega)).1
  have hs : matchG rs nx (ks.take (i + 1)) = stepM rs (matchG rs nx (ks.take i)) ks[i] := by rw [List.take_succ_eq_append_getElem hi, matchG_snoc]
  rw [hs] at ht ⊢
  obtain ⟨ps, cur, hp⟩ : ∃ ps cur, matchG rs nx (ks.take i) = (ps, cur) := ⟨_, _, rfl⟩
  rw [hp] at ht hl ⊢
  simp only at ht hl ⊢
  unfold stepM at ht ⊢
  split at ht
  · next hlt =>
    rw [if_pos hlt]
    simp only at ht
    subst ht
    have e : (ps ++ [(⟨ks[i], cur⟩ : Rwx)] ++ t)[i]'hi' = ⟨ks[i], cur⟩ := by
      have : ∀ (j : Nat) (hj : j < (ps ++ [(⟨ks[i], cur⟩ : Rwx)] ++ t).length), ps.length = j → (ps ++ [(⟨ks[i], cur⟩ : Rwx)] ++ t)[j] = ⟨ks[i], cur⟩ := by
        intro j hj e; subst e; simp
      exact this i hi' hl
    rw [e]
    exact ⟨rfl, .inl ⟨hlt, rfl, rfl⟩⟩
  · next hlt =>
    rw [if_neg hlt]
    simp only at ht
    subst ht
    have e : (ps ++ [(⟨ks[i], lookL rs ks[i]⟩ : Rwx)] ++ t)[i]'hi' = ⟨ks[i], lookL rs ks[i]⟩ := by
      have : ∀ (j : Nat) (hj : j < (ps ++ [(⟨ks[i], lookL rs ks[i]⟩ : Rwx)] ++ t).length), ps.length = j → (ps ++ [(⟨ks[i], lookL rs ks[i]⟩ : Rwx)] ++ t)[j] = ⟨ks[i], lookL rs ks[i]⟩ := by
        intro j hj e; subst e; simp
      exact this i hi' hl
    rw [e]
    exact ⟨rfl, .inr ⟨hlt, rfl, rfl⟩⟩
end Go.Proofs.Ytmmegmefiihabaa

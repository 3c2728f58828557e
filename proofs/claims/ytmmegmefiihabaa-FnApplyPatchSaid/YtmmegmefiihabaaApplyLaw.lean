/-
  What the changes keep: the plain laws of FnApplyPatch and FnApplyPatchMoves.
-/
import Derived.Test.YtmmegmefiihabaaPatchLaw
namespace Go.Proofs.Ytmmegmefiihabaa
open Go.RowKit

def cntF (k : Int) (cs : List Chg) : Nat := (cs.filter fun c => c.kd == k).length
theorem putF_shape {ks ys : List Int} {p k : Int} (h : putF ks p k = some ys) : ∃ l m, ks = l ++ m ∧ ys = l ++ k :: m := by
  unfold putF at h
  split at h
  · injection h with h; exact ⟨[], ks, rfl, h.symm⟩
  · split at h
    · injection h with h; exact ⟨_, _, (List.take_append_drop (idx p ks + 1) ks).symm, h.symm⟩
    · cases h
theorem stepA_move {ks ys : List Int} {c : Chg} (h : stepA ks c = some ys) (h2 : c.kd = 2) : c.ky ∈ ks ∧ putF (delF ks c.ky) c.aa c.ky = some ys := by
  unfold stepA at h
  rw [if_neg (by omega), if_neg (by omega), if_pos h2] at h
  split at h
  · next hm => exact ⟨by simpa [memB] using hm, h⟩
  · cases h
theorem stepA_add {ks ys : List Int} {c : Chg} (h : stepA ks c = some ys) (h2 : c.kd = 1) : c.ky ∉ ks ∧ putF ks c.aa c.ky = some ys := by
  unfold stepA at h
  rw [if_neg (by omega), if_pos h2] at h
  split at h
  · cases h
  · next hm =>
    split at h
    · exact ⟨by simpa [memB] using hm, h⟩
    · cases h
theorem stepA_rem {ks ys : List Int} {c : Chg} (h : stepA ks c = some ys) (h2 : c.kd = 0) : c.ky ∈ ks ∧ delF ks c.ky = ys := by
  unfold stepA at h
  rw [if_pos h2] at h
  split at h
  · next hm =>
    rw [Bool.and_eq_true] at hm
    injection h with h
    exact ⟨by simpa [memB] using hm.1, h⟩
  · cases h
theorem stepA_kd {ks ys : List Int} {c : Chg} (h : stepA ks c = some ys) : c.kd = 0 ∨ c.kd = 1 ∨ c.kd = 2 := by
  by_cases h0 : c.kd = 0
  · exact .inl h0
  · by_cases h1 : c.kd = 1
    · exact .inr (.inl h1)
    · by_cases h2 : c.kd = 2
      · exact .inr (.inr h2)
      · unfold stepA at h; rw [if_neg h0, if_neg h1, if_neg h2] at h; cases h
theorem stepA_nodup {ks ys : List Int} {c : Chg} (h : stepA ks c = some ys) (hn : ks.Nodup) : ys.Nodup := by
  rcases stepA_kd h with h0 | h1 | h2
  · obtain ⟨hm, rfl⟩ := stepA_rem h h0
    obtain ⟨l, m, e, hd⟩ := delF_split hm
    rw [hd]; exact (nodup_mid (e ▸ hn)).2.2
  · obtain ⟨hm, hp⟩ := stepA_add h h1
    obtain ⟨l, m, e, rfl⟩ := putF_shape hp
    exact nodup_in (e ▸ hn) (e ▸ hm)
  · obtain ⟨hm, hp⟩ := stepA_move h h2
    obtain ⟨l, m, e, hd⟩ := delF_split hm
    obtain ⟨n1, n2, n3⟩ := nodup_mid (e ▸ hn)
    obtain ⟨l2, m2, e2, rfl⟩ := putF_shape hp
    rw [hd] at e2
    exact nodup_in (e2 ▸ n3) (by rw [← e2]; simp [n1, n2])
theorem stepA_count {ks ys : List Int} {c : Chg} (h : stepA ks c = some ys) : ys.length + cntF 0 [c] = ks.length + cntF 1 [c] := by
  rcases stepA_kd h with h0 | h1 | h2
  · obtain ⟨hm, rfl⟩ := stepA_rem h h0
    have := delF_len (ks := ks) (key := c.ky) (by simpa [memB] using hm)
    simp [cntF, h0]; omega
  · obtain ⟨hm, hp⟩ := stepA_add h h1
    have := putF_len hp
    simp [cntF, h1]; omega
  · obtain ⟨hm, hp⟩ := stepA_move h h2
    have h1 := putF_len hp
    have := delF_len (ks := ks) (key := c.ky) (by simpa [memB] using hm)
    simp [cntF, h2]; omega
theorem cntF_cons (k : Int) (c : Chg) (r : List Chg) : cntF k (c :: r) = cntF k [c] + cntF k r := by
  unfold cntF
  rw [show c :: r = [c] ++ r from rfl, List.filter_append, List.length_append]
theorem applyG_count {cs : List Chg} : ∀ {ks ys : List Int}, applyG ks cs = some ys → ys.length + cntF 0 cs = ks.length + cntF 1 cs := by
  induction cs with
  | nil => intro ks ys h; injection h with h; subst h; rfl
  | cons c r ih =>
    intro ks ys h
    rw [applyG] at h
    split at h
    · next k2 h2 =>
      have h3 := stepA_count h2
      have h4 := ih h
      rw [cntF_cons 0 c r, cntF_cons 1 c r]; omega
    · cases h
theorem applyG_nodup {cs : List Chg} : ∀ {ks ys : List Int}, applyG ks cs = some ys → ks.Nodup → ys.Nodup := by
  induction cs with
  | nil => intro ks ys h hn; injection h with h; subst h; exact hn
  | cons c r ih =>
    intro ks ys h hn
    rw [applyG] at h
    split at h
    · next k2 h2 => exact ih h (stepA_nodup h2 hn)
    · cases h
theorem applyF_ok {ks ys : List Int} {cs : List Chg} (h : applyF ks cs = (ys, true)) : vkB ks = true ∧ cs.length ≤ 40 ∧ applyG ks cs = some ys ∧ vkB ys = true := by
  unfold applyF at h
  split at h
  · next hg =>
    rw [Bool.and_eq_true, decide_eq_true_eq] at hg
    refine ⟨hg.1, hg.2, ?_⟩
    unfold finF at h
    split at h
    · next k2 e =>
      split at h
      · next hv => simp only [Prod.mk.injEq, and_true] at h; subst h; exact ⟨e, hv⟩
      · simp at h
    · simp at h
  · simp at h
theorem apply_early {ks ys : List Int} {cs : List Chg} (h : applyF ks cs = (ys, true)) (hc : cs ≠ []) :
    (applyF (applyF ks (cs.take (cs.length - 1))).1 (cs.drop (cs.length - 1))).2 = (applyF ks (cs.take (cs.length - 1))).2 ∧ ((applyF ks (cs.take (cs.length - 1))).2 = true → (applyF (applyF ks (cs.take (cs.length - 1))).1 (cs.drop (cs.length - 1))).1 = ys) := by
  obtain ⟨hv, hl, hg, hy⟩ := applyF_ok h
  obtain ⟨ds, c, e⟩ : ∃ ds c, cs = ds ++ [c] := ⟨cs.dropLast, cs.getLast hc, (List.dropLast_concat_getLast hc).symm⟩
  subst e
  have e1 : (ds ++ [c]).take ((ds ++ [c]).length - 1) = ds := by simp
  have e2 : (ds ++ [c]).drop ((ds ++ [c]).length - 1) = [c] := by simp
  rw [e1, e2]
  rw [applyG_snoc] at hg
  rw [List.length_append] at hl
  cases hd : applyG ks ds with
  | none => rw [hd] at hg; cases hg
  | some k2 =>
    rw [hd] at hg
    have hs : stepA k2 c = some ys := hg
    by_cases hk : vkB k2 = true
    · have h1 : applyF ks ds = (k2, true) := by
        unfold applyF; rw [hv, hd, decide_eq_true (by omega)]; simp [finF, hk]
      have h2 : applyF k2 [c] = (ys, true) := by
        unfold applyF; rw [hk, applyG, hs]; simp [applyG, finF, hy]
      rw [h1, h2]; exact ⟨rfl, fun _ => rfl⟩
    · have h1 : applyF ks ds = ([], false) := by
        unfold applyF; rw [hv, hd, decide_eq_true (by omega)]; simp [finF, hk]
      rw [h1]
      have n2 := applyG_nodup hd (vkB_iff.1 hv).1
      have i2 := (applyG_len hd (in30_of_vk hv).1).2
      have l2 : 10 < k2.length := by
        by_cases hlt : k2.length ≤ 10
        · exact absurd (vkB_iff.2 ⟨n2, i2, hlt⟩) hk
        · omega
      have l3 := (vkB_iff.1 hy).2.2
      have l4 := stepA_count hs
      have hkd : c.kd = 0 := by
        rcases stepA_kd hs with h0 | h1 | h1
        · exact h0
        · simp [cntF, h1] at l4; omega
        · simp [cntF, h1] at l4; omega
      have hnone : stepA [] c = none := by unfold stepA; simp [hkd, memB]
      have h3 : applyF [] [c] = ([], false) := by
        unfold applyF; rw [applyG, hnone]; simp [finF]
      show (applyF [] [c]).2 = false ∧ (false = true → _)
      rw [h3]; exact ⟨rfl, fun h => by cases h⟩
theorem cntF_all {cs : List Chg} {k : Int} (h : ¬ cntF k cs < cs.length) : ∀ c ∈ cs, c.kd = k := by
  have h1 : cntF k cs ≤ cs.length := List.length_filter_le _ _
  have h2 : cs.filter (fun c => c.kd == k) = cs := (List.filter_sublist (p := fun c : Chg => c.kd == k)).eq_of_length (by unfold cntF at *; omega)
  intro c hc
  rw [← h2] at hc
  simpa using (List.mem_filter.1 hc).2
theorem move_step {ks ys : List Int} {c : Chg} (h : stepA ks c = some ys) (h2 : c.kd = 2) : (∀ P : Int → Bool, P c.ky = false → ys.filter P = ks.filter P) ∧ (∀ x ∈ ys, x ∈ ks) := by
  obtain ⟨hm, hp⟩ := stepA_move h h2
  obtain ⟨l, m, e, hd⟩ := delF_split hm
  obtain ⟨l2, m2, e2, e3⟩ := putF_shape hp
  rw [hd] at e2
  constructor
  · intro P hP
    have h1 : ys.filter P = (l2 ++ m2).filter P := by rw [e3]; simp [hP]
    have h3 : ks.filter P = (l ++ m).filter P := by rw [e]; simp [hP]
    rw [h1, h3, e2]
  · intro x hx
    rw [e3] at hx
    have hx : x = c.ky ∨ x ∈ l2 ++ m2 := by
      simp only [List.mem_append, List.mem_cons] at hx ⊢
      rcases hx with h | h | h <;> simp [h]
    rcases hx with rfl | hx
    · exact hm
    · rw [← e2] at hx
      rw [e]
      simp only [List.mem_append, List.mem_cons] at hx ⊢
      rcases hx with h | h <;> simp [h]
theorem moves_keep {cs : List Chg} : ∀ {ks ys : List Int}, applyG ks cs = some ys → (∀ c ∈ cs, c.kd = 2) → (∀ P : Int → Bool, (∀ c ∈ cs, P c.ky = false) → ys.filter P = ks.filter P) ∧ (∀ x ∈ ys, x ∈ ks) := by
  induction cs with
  | nil => intro ks ys h _; injection h with h; subst h; exact ⟨fun _ _ => rfl, fun _ h => h⟩
  | cons c r ih =>
    intro ks ys h hk
    rw [applyG] at h
    split at h
    · next k2 h2 =>
      obtain ⟨a1, a2⟩ := move_step h2 (hk c (by simp))
      obtain ⟨b1, b2⟩ := ih h (fun d hd => hk d (by simp [hd]))
      exact ⟨fun P hP => by rw [b1 P (fun d hd => hP d (by simp [hd])), a1 P (hP c (by simp))], fun x hx => a2 x (b2 x hx)⟩
    · cases h
/-- what is not moved stays in order -/
theorem rest_rise {ks ys : List Int} {cs : List Chg} (h : applyF ks cs = (ys, true)) (hc : ∀ c ∈ cs, c.kd = 2) :
    (ks.filter fun x => !memB x (cs.map (·.ky))).Pairwise (fun x y => plc x ys < plc y ys) ∧ (∀ x ∈ (ks.filter fun x => !memB x (cs.map (·.ky))), 0 ≤ plc x ys) ∧ withinB ys ks = true ∧ ys.length = ks.length := by
  obtain ⟨hv, hl, hg, hy⟩ := applyF_ok h
  obtain ⟨a1, a2⟩ := moves_keep hg hc
  have e := a1 (fun x => !memB x (cs.map (·.ky))) (fun c hc => by simp [memB]; exact ⟨c, hc, rfl⟩)
  rw [← e]
  refine ⟨rise_of_sub (vkB_iff.1 hy).1 _ List.filter_sublist, fun x hx => plc_mem.2 (List.mem_filter.1 hx).1, withinB_iff.2 a2, ?_⟩
  have := applyG_count hg
  have z0 : cntF 0 cs = 0 := by
    unfold cntF; rw [List.filter_eq_nil_iff.2 (fun c h => by simp [hc c h])]; rfl
  have z1 : cntF 1 cs = 0 := by
    unfold cntF; rw [List.filter_eq_nil_iff.2 (fun c h => by simp [hc c h])]; rfl
  omega
end Go.Proofs.Ytmmegmefiihabaa

/-
  The plain law of the keys that stay: a longest common part. No program in sight.
-/
import Derived.Test.YtmmegmefiihabaaStays
namespace Go.Proofs.Ytmmegmefiihabaa

theorem plc_cons_self (c : Int) (a : List Int) : plc c (c :: a) = 0 := by simp [plc, idx]
theorem plc_cons_ne {x c : Int} {a : List Int} (h : x ≠ c) (hx : x ∈ a) : plc x (c :: a) = plc x a + 1 := by
  have h2 : ¬ c = x := fun e => h e.symm
  unfold plc
  rw [if_pos (List.mem_cons_of_mem _ hx), if_pos hx]
  simp only [idx, if_neg h2]
  omega
theorem plc_mem {x : Int} {a : List Int} : 0 ≤ plc x a ↔ x ∈ a := by
  have := plc_ge x a
  simp only [memB] at this
  by_cases hx : x ∈ a
  · simp [hx] at this; exact ⟨fun _ => hx, fun _ => this⟩
  · simp [hx] at this; exact ⟨fun h => absurd h (by omega), fun h => absurd h hx⟩
/-- a list whose places rise is a part of the list of places -/
theorem sub_of_rise (a : List Int) : ∀ zs : List Int, zs.Pairwise (fun x y => plc x a < plc y a) → (∀ x ∈ zs, x ∈ a) → zs.Sublist a := by
  induction a with
  | nil =>
    intro zs _ hm
    cases zs with
    | nil => exact List.Sublist.refl _
    | cons z zs => exact absurd (hm z List.mem_cons_self) (by simp)
  | cons c a ih =>
    intro zs hp hm
    cases zs with
    | nil => exact List.nil_sublist _
    | cons z zs =>
      have hpp := hp
      rw [List.pairwise_cons] at hp
      by_cases hz : z = c
      · subst hz
        have hne : ∀ x ∈ zs, x ≠ z := fun x hx e => by
          have := hp.1 x hx; rw [e] at this; omega
        have hma : ∀ x ∈ zs, x ∈ a := fun x hx => by
          rcases List.mem_cons.1 (hm x (List.mem_cons_of_mem _ hx)) with e | e
          · exact absurd e (hne x hx)
          · exact e
        refine List.Sublist.cons_cons _ (ih zs ?_ hma)
        refine hp.2.imp_of_mem fun {x y} hx hy h => ?_
        rw [plc_cons_ne (hne x hx) (hma x hx), plc_cons_ne (hne y hy) (hma y hy)] at h
        omega
      · have hza : z ∈ a := by
          rcases List.mem_cons.1 (hm z List.mem_cons_self) with e | e
          · exact absurd e hz
          · exact e
        have hz0 : 0 < plc z (c :: a) := by
          rw [plc_cons_ne hz hza]; have := plc_mem.2 hza; omega
        have hne : ∀ x ∈ z :: zs, x ≠ c := fun x hx e => by
          rcases List.mem_cons.1 hx with e2 | e2
          · exact hz (e2 ▸ e)
          · have := hp.1 x e2; rw [e, plc_cons_self] at this; omega
        have hma : ∀ x ∈ z :: zs, x ∈ a := fun x hx => by
          rcases List.mem_cons.1 (hm x hx) with e | e
          · exact absurd e (hne x hx)
          · exact e
        refine List.Sublist.cons _ (ih (z :: zs) ?_ hma)
        refine hpp.imp_of_mem fun {x y} hx hy h => ?_
        rw [plc_cons_ne (hne x hx) (hma x hx), plc_cons_ne (hne y hy) (hma y hy)] at h
        omega
/-- the places of a part rise -/
theorem rise_of_sub {a : List Int} (hn : a.Nodup) : ∀ zs : List Int, zs.Sublist a → zs.Pairwise (fun x y => plc x a < plc y a) := by
  induction a with
  | nil => intro zs h; rw [List.sublist_nil.1 h]; exact List.Pairwise.nil
  | cons c a ih =>
    have hn' := List.nodup_cons.1 hn
    have hne : ∀ x, x ∈ a → x ≠ c := fun x hx e => hn'.1 (e ▸ hx)
    intro zs h
    cases h with
    | cons _ h =>
      refine (ih hn'.2 zs h).imp_of_mem fun {x y} hx hy hlt => ?_
      rw [plc_cons_ne (hne x (h.subset hx)) (h.subset hx), plc_cons_ne (hne y (h.subset hy)) (h.subset hy)]
      omega
    | cons_cons _ h =>
      rw [List.pairwise_cons]
      refine ⟨fun y hy => ?_, (ih hn'.2 _ h).imp_of_mem fun {x y} hx hy hlt => ?_⟩
      · rw [plc_cons_self, plc_cons_ne (hne y (h.subset hy)) (h.subset hy)]
        have := plc_mem.2 (h.subset hy); omega
      · rw [plc_cons_ne (hne x (h.subset hx)) (h.subset hx), plc_cons_ne (hne y (h.subset hy)) (h.subset hy)]
        omega
theorem selF_rise (a : List Int) (ks : List Int) (ls : List Nat) (want : Nat) (last : Int) :
    (selF ks (ks.map fun x => plc x a) ls want last).Pairwise (fun x y => plc x a < plc y a) ∧ (∀ x ∈ selF ks (ks.map fun x => plc x a) ls want last, last < plc x a) ∧ (selF ks (ks.map fun x => plc x a) ls want last).Sublist ks := by
  induction ks generalizing ls want last with
  | nil => cases ls <;> simp [selF]
  | cons k ks ih =>
    cases ls with
    | nil => simp [selF]
    | cons l ls =>
      simp only [List.map_cons, selF]
      split
      · next h =>
        obtain ⟨h1, h2, h3⟩ := ih ls (want - 1) (plc k a)
        refine ⟨List.pairwise_cons.2 ⟨fun y hy => h2 y hy, h1⟩, fun x hx => ?_, List.Sublist.cons_cons _ h3⟩
        rcases List.mem_cons.1 hx with e | e
        · rw [e]; exact h.2.2
        · have := h2 x e; omega
      · obtain ⟨h1, h2, h3⟩ := ih ls want last
        exact ⟨h1, h2, List.Sublist.cons _ h3⟩
theorem staysF_rise (a b : List Int) : (staysF a b).Pairwise (fun x y => plc x a < plc y a) := (selF_rise a b _ _ _).1
theorem staysF_after (a b : List Int) : (staysF a b).Sublist b := (selF_rise a b _ _ _).2.2
theorem staysF_in (a b : List Int) : ∀ x ∈ staysF a b, x ∈ a := fun x hx => plc_mem.1 (by have := (selF_rise a b _ _ _).2.1 x hx; omega)
theorem staysF_before (a b : List Int) : (staysF a b).Sublist a := sub_of_rise a _ (staysF_rise a b) (staysF_in a b)
/-- a rising part is no longer than what is known at its first place -/
theorem chain (ps : List Int) : ∀ q qs, (q :: qs).Sublist ps → (q :: qs).Pairwise (· < ·) → (∀ x ∈ q :: qs, 0 ≤ x) → ∃ i, ∃ hi : i < ps.length, ps[i] = q ∧ (q :: qs).length ≤ (lensF ps)[i]'(by rw [lensF_len]; exact hi) := by
  induction ps with
  | nil => intro q qs h; simp at h
  | cons p ps ih =>
    intro q qs h hp h0
    cases h with
    | cons _ h =>
      obtain ⟨i, hi, e, hl⟩ := ih q qs h hp h0
      exact ⟨i + 1, by simpa using hi, by simpa using e, by simpa [lensF] using hl⟩
    | cons_cons _ h =>
      refine ⟨0, by simp, rfl, ?_⟩
      have hq0 := h0 p List.mem_cons_self
      simp only [lensF, List.getElem_cons_zero, if_neg (by omega : ¬ p < 0)]
      cases qs with
      | nil => have := bestF_ge p ps (lensF ps) 1; simpa using this
      | cons r rs =>
        rw [List.pairwise_cons] at hp
        obtain ⟨j, hj, e, hl⟩ := ih r rs h hp.2 (fun x hx => h0 x (List.mem_cons_of_mem _ hx))
        have hj' : j < (lensF ps).length := by rw [lensF_len]; exact hj
        have := bestF_at p ps (lensF ps) 1 j hj hj' (by rw [e]; exact hp.1 r List.mem_cons_self)
        simp only [List.length_cons] at hl ⊢
        omega
theorem chain_le (ps qs : List Int) (h : qs.Sublist ps) (hp : qs.Pairwise (· < ·)) (h0 : ∀ x ∈ qs, 0 ≤ x) : qs.length ≤ maxN (lensF ps) := by
  cases qs with
  | nil => simp
  | cons q qs =>
    obtain ⟨i, hi, _, hl⟩ := chain ps q qs h hp h0
    exact Nat.le_trans hl (le_maxN (List.getElem_mem _))
theorem selF_full (ks ps : List Int) (hl : ps.length = ks.length) (n k want : Nat) (last : Int) (hn : ks.length = k + n) (hm : 0 < want → More ps k want last) : (selF (ks.drop k) (ps.drop k) ((lensF ps).drop k) want last).length = want := by
  induction n generalizing k want last with
  | zero =>
    rw [List.drop_eq_nil_of_le (by omega)]
    have : want = 0 := by
      rcases Nat.eq_zero_or_pos want with h | h
      · exact h
      · obtain ⟨j, hj, h1, _⟩ := hm h; omega
    subst this
    cases ps.drop k <;> cases (lensF ps).drop k <;> rfl
  | succ n ih =>
    have h1 : k < ks.length := by omega
    have h2 : k < ps.length := by omega
    have h3 : k < (lensF ps).length := by rw [lensF_len]; exact h2
    rw [selF_drop ks ps (lensF ps) k want last ks[k] ps[k] (lensF ps)[k] (List.getElem?_eq_getElem h1) (List.getElem?_eq_getElem h2) (List.getElem?_eq_getElem h3)]
    split
    · next h =>
      rw [List.length_cons, ih (k + 1) (want - 1) ps[k] (by omega) (fun hw => more_take ps k want h2 h.2.1 hw)]
      omega
    · next h =>
      refine ih (k + 1) want last (by omega) fun hw => more_skip ps k want last h2 (hm hw) fun e => h ⟨hw, e.1, e.2⟩
theorem staysF_length (a b : List Int) : (staysF a b).length = maxN (lensF (b.map fun x => plc x a)) := by
  have := selF_full b (b.map fun x => plc x a) (by simp) b.length 0 (maxN (lensF (b.map fun x => plc x a))) (-1) (by simp) (fun h => more_start _ h)
  simpa [staysF] using this
/-- it is a longest one -/
theorem staysF_most {a b zs : List Int} (ha : a.Nodup) (h1 : zs.Sublist a) (h2 : zs.Sublist b) : zs.length ≤ (staysF a b).length := by
  rw [staysF_length]
  have hr := rise_of_sub ha zs h1
  have := chain_le (b.map fun x => plc x a) (zs.map fun x => plc x a) (h2.map _) (List.pairwise_map.2 hr) (fun p hp => by
    obtain ⟨x, hx, rfl⟩ := List.mem_map.1 hp
    exact plc_mem.2 (h1.subset hx))
  simpa using this
theorem staysF_sym {a b : List Int} (ha : a.Nodup) (hb : b.Nodup) : (staysF a b).length = (staysF b a).length :=
  Nat.le_antisymm (staysF_most hb (staysF_after a b) (staysF_before a b)) (staysF_most ha (staysF_after b a) (staysF_before b a))
theorem staysF_self {a : List Int} (ha : a.Nodup) : staysF a a = a :=
  (staysF_after a a).eq_of_length (Nat.le_antisymm (staysF_after a a).length_le (staysF_most ha (List.Sublist.refl _) (List.Sublist.refl _)))
theorem commF_self (a : List Int) : commF a a = a := List.filter_eq_self.2 fun x hx => by simpa [memB] using hx
theorem movesOfF_sym (a b : List Int) : movesOfF b a = movesOfF a b := by
  unfold movesOfF
  rw [Bool.and_comm]
  by_cases h : (vkB a && vkB b) = true
  · have h2 := h
    rw [Bool.and_eq_true] at h2
    have ha := (vkB_iff.1 h2.1).1
    have hb := (vkB_iff.1 h2.2).1
    rw [if_pos h, if_pos h, commF_sym ha hb, staysF_sym ha hb]
  · rw [if_neg h, if_neg h]
theorem movesOfF_self {a : List Int} (ha : vkB a = true) : movesOfF a a = 0 := by
  unfold movesOfF
  rw [ha, commF_self, staysF_self (vkB_iff.1 ha).1]
  simp
end Go.Proofs.Ytmmegmefiihabaa

/-
  The plain law of the keys that stay: no program in sight.
-/
import Derived.Test.YtmmegmefiihabaaLists
namespace Go.Proofs.Ytmmegmefiihabaa

/-- of the places behind: one more than the longest that goes on from a greater place -/
def bestF (p : Int) : List Int → List Nat → Nat → Nat
  | q :: qs, l :: ls, acc => bestF p qs ls (if p < q then max acc (l + 1) else acc)
  | _, _, acc => acc
/-- for each place the length of the longest rising list from it on; 0 where there is no place -/
def lensF : List Int → List Nat
  | [] => []
  | p :: ps => (if p < 0 then 0 else bestF p ps (lensF ps) 1) :: lensF ps
theorem lensF_len (ps : List Int) : (lensF ps).length = ps.length := by
  induction ps with
  | nil => rfl
  | cons p ps ih => simp [lensF, ih]
theorem lensF_drop (ps : List Int) (k : Nat) : (lensF ps).drop k = lensF (ps.drop k) := by
  induction ps generalizing k with
  | nil => simp [lensF]
  | cons p ps ih =>
    cases k with
    | zero => rfl
    | succ k => simp [lensF, ih]
/-- the keys that are chosen -/
def selF : List Int → List Int → List Nat → Nat → Int → List Int
  | k :: ks, p :: ps, l :: ls, want, last => if 0 < want ∧ l = want ∧ last < p then k :: selF ks ps ls (want - 1) p else selF ks ps ls want last
  | _, _, _, _, _ => []
def maxN (ls : List Nat) : Nat := ls.foldl max 0
/-- the keys that stay -/
def staysF (before after : List Int) : List Int :=
  selF after (after.map fun x => plc x before) (lensF (after.map fun x => plc x before)) (maxN (lensF (after.map fun x => plc x before))) (-1)

theorem selF_zero (ks ps : List Int) (ls : List Nat) (last : Int) : selF ks ps ls 0 last = [] := by
  induction ks generalizing ps ls last with
  | nil => cases ps <;> cases ls <;> rfl
  | cons k ks ih => cases ps <;> cases ls <;> simp [selF, ih]
theorem selF_len (ks ps : List Int) (ls : List Nat) (want : Nat) (last : Int) : (selF ks ps ls want last).length ≤ ks.length := by
  induction ks generalizing ps ls want last with
  | nil => cases ps <;> cases ls <;> simp [selF]
  | cons k ks ih =>
    cases ps with
    | nil => simp [selF]
    | cons p ps => cases ls with
      | nil => simp [selF]
      | cons l ls =>
        simp only [selF]
        split
        · simp only [List.length_cons]; have := ih ps ls (want - 1) p; omega
        · have := ih ps ls want last; simp only [List.length_cons]; omega
theorem foldl_max (ls : List Nat) (a : Nat) : ls.foldl max a = max a (maxN ls) := by
  unfold maxN
  induction ls generalizing a with
  | nil => simp
  | cons l ls ih => simp only [List.foldl_cons]; rw [ih, ih (max 0 l)]; omega
theorem maxN_cons (l : Nat) (ls : List Nat) : maxN (l :: ls) = max l (maxN ls) := by
  show (l :: ls).foldl max 0 = _
  rw [List.foldl_cons, foldl_max]; omega
theorem maxN_append (ls ms : List Nat) : maxN (ls ++ ms) = max (maxN ls) (maxN ms) := by
  induction ls with
  | nil => simp [maxN]
  | cons l ls ih => rw [List.cons_append, maxN_cons, maxN_cons, ih]; omega
theorem le_maxN {l : Nat} {ls : List Nat} (h : l ∈ ls) : l ≤ maxN ls := by
  induction ls with
  | nil => cases h
  | cons m ls ih =>
    rw [maxN_cons]
    rcases List.mem_cons.1 h with rfl | h
    · omega
    · have := ih h; omega
theorem maxN_mem {ls : List Nat} (h : 0 < maxN ls) : maxN ls ∈ ls := by
  induction ls with
  | nil => simp [maxN] at h
  | cons m ls ih =>
    rw [maxN_cons] at h ⊢
    by_cases hm : maxN ls ≤ m
    · rw [Nat.max_eq_left hm]; exact List.mem_cons_self
    · rw [Nat.max_eq_right (by omega)]; exact List.mem_cons_of_mem _ (ih (by omega))

/-! ### what bestF and lensF say -/
theorem bestF_ge (p : Int) (qs : List Int) (ls : List Nat) (acc : Nat) : acc ≤ bestF p qs ls acc := by
  induction qs generalizing ls acc with
  | nil => simp [bestF]
  | cons q qs ih =>
    cases ls with
    | nil => simp [bestF]
    | cons l ls =>
      simp only [bestF]
      refine Nat.le_trans ?_ (ih ls _)
      split <;> omega
theorem bestF_at (p : Int) (qs : List Int) (ls : List Nat) (acc : Nat) : ∀ k (hk : k < qs.length) (hl : k < ls.length), p < qs[k] → ls[k] + 1 ≤ bestF p qs ls acc := by
  induction qs generalizing ls acc with
  | nil => intro k hk; simp at hk
  | cons q qs ih =>
    cases ls with
    | nil => intro k _ hl; simp at hl
    | cons l ls =>
      intro k hk hl hp
      simp only [bestF]
      cases k with
      | zero =>
        simp at hp ⊢
        refine Nat.le_trans ?_ (bestF_ge p qs ls _)
        rw [if_pos hp]; omega
      | succ k => exact ih ls _ k (by simpa using hk) (by simpa using hl) (by simpa using hp)
theorem bestF_from (p : Int) (qs : List Int) (ls : List Nat) (acc : Nat) (h : acc < bestF p qs ls acc) : ∃ k, ∃ (hk : k < qs.length) (hl : k < ls.length), p < qs[k] ∧ ls[k] + 1 = bestF p qs ls acc := by
  induction qs generalizing ls acc with
  | nil => simp [bestF] at h
  | cons q qs ih =>
    cases ls with
    | nil => simp [bestF] at h
    | cons l ls =>
      simp only [bestF] at h ⊢
      by_cases hpq : p < q
      · rw [if_pos hpq] at h ⊢
        by_cases hb : max acc (l + 1) < bestF p qs ls (max acc (l + 1))
        · obtain ⟨k, hk, hl, h1, h2⟩ := ih ls _ hb
          exact ⟨k + 1, by simpa using hk, by simpa using hl, by simpa using h1, by simpa using h2⟩
        · have hge := bestF_ge p qs ls (max acc (l + 1))
          refine ⟨0, by simp, by simp, by simpa using hpq, ?_⟩
          simp; omega
      · rw [if_neg hpq] at h ⊢
        obtain ⟨k, hk, hl, h1, h2⟩ := ih ls _ h
        exact ⟨k + 1, by simpa using hk, by simpa using hl, by simpa using h1, by simpa using h2⟩
theorem bestF_le (p : Int) (qs : List Int) (ls : List Nat) (acc b : Nat) (ha : acc ≤ b) (hl : ∀ l ∈ ls, l + 1 ≤ b) : bestF p qs ls acc ≤ b := by
  induction qs generalizing ls acc with
  | nil => simpa [bestF]
  | cons q qs ih =>
    cases ls with
    | nil => simpa [bestF]
    | cons l ls =>
      simp only [bestF]
      have := hl l List.mem_cons_self
      exact ih ls _ (by split <;> omega) (fun m hm => hl m (List.mem_cons_of_mem _ hm))
theorem lensF_le (ps : List Int) : ∀ l ∈ lensF ps, l ≤ ps.length := by
  induction ps with
  | nil => simp [lensF]
  | cons p ps ih =>
    intro l hl
    simp only [lensF, List.mem_cons] at hl
    rcases hl with rfl | hl
    · split
      · omega
      · exact bestF_le p ps _ 1 _ (by simp) (fun m hm => by have := ih m hm; simp; omega)
    · have := ih l hl; simp; omega
/-- a place that goes on has a greater one behind it, whose length is one less -/
theorem lensF_next (ps : List Int) (i : Nat) (hi : i < ps.length) (h : 1 < (lensF ps)[i]'(by rw [lensF_len]; exact hi)) :
    ∃ j, ∃ hj : j < ps.length, i < j ∧ ps[i] < ps[j] ∧ (lensF ps)[j]'(by rw [lensF_len]; exact hj) + 1 = (lensF ps)[i]'(by rw [lensF_len]; exact hi) := by
  induction ps generalizing i with
  | nil => simp at hi
  | cons p ps ih =>
    cases i with
    | zero =>
      by_cases hp : p < 0
      · simp [lensF, hp] at h
      · have h' : 1 < bestF p ps (lensF ps) 1 := by simpa [lensF, hp] using h
        obtain ⟨k, hk, hl, h1, h2⟩ := bestF_from p ps (lensF ps) 1 h'
        refine ⟨k + 1, by simpa using hk, by omega, by simpa using h1, ?_⟩
        simp only [lensF, List.getElem_cons_succ, List.getElem_cons_zero, if_neg hp]
        exact h2
    | succ i =>
      simp only [lensF, List.getElem_cons_succ] at h ⊢
      obtain ⟨j, hj, h1, h2, h3⟩ := ih i (by simpa using hi) h
      exact ⟨j + 1, by simpa using hj, by omega, by simpa using h2, by simpa using h3⟩
theorem lensF_pos (ps : List Int) (i : Nat) (hi : i < ps.length) : 0 < (lensF ps)[i]'(by rw [lensF_len]; exact hi) ↔ 0 ≤ ps[i] := by
  induction ps generalizing i with
  | nil => simp at hi
  | cons p ps ih =>
    cases i with
    | zero =>
      simp only [lensF, List.getElem_cons_zero]
      by_cases hp : p < 0
      · rw [if_pos hp]; omega
      · rw [if_neg hp]; have := bestF_ge p ps (lensF ps) 1; omega
    | succ i => simpa [lensF] using ih i (by simpa using hi)
/-- the choice goes on: there is one still to come -/
def More (ps : List Int) (i want : Nat) (last : Int) : Prop := ∃ j, ∃ hj : j < ps.length, i ≤ j ∧ (lensF ps)[j]'(by rw [lensF_len]; exact hj) = want ∧ last < ps[j]
theorem more_start (ps : List Int) (h : 0 < maxN (lensF ps)) : More ps 0 (maxN (lensF ps)) (-1) := by
  obtain ⟨j, hj, e⟩ := List.getElem_of_mem (maxN_mem h)
  have hj' : j < ps.length := by rw [← lensF_len]; exact hj
  have := (lensF_pos ps j hj').1 (by rw [e]; exact h)
  exact ⟨j, hj', Nat.zero_le _, e, by omega⟩
theorem more_take (ps : List Int) (i want : Nat) (hi : i < ps.length) (h : (lensF ps)[i]'(by rw [lensF_len]; exact hi) = want) (hw : 0 < want - 1) : More ps (i + 1) (want - 1) ps[i] := by
  obtain ⟨j, hj, h1, h2, h3⟩ := lensF_next ps i hi (by omega)
  exact ⟨j, hj, by omega, by omega, h2⟩
theorem more_skip (ps : List Int) (i want : Nat) (last : Int) (hi : i < ps.length) (h : More ps i want last) (hn : ¬ ((lensF ps)[i]'(by rw [lensF_len]; exact hi) = want ∧ last < ps[i])) : More ps (i + 1) want last := by
  obtain ⟨j, hj, h1, h2, h3⟩ := h
  refine ⟨j, hj, ?_, h2, h3⟩
  rcases Nat.eq_or_lt_of_le h1 with e | e
  · subst e; exact absurd ⟨h2, h3⟩ hn
  · omega

/-! ### keys without a place do not matter -/
def zips (ps : List Int) (ls : List Nat) : List (Int × Nat) := ps.zip ls
theorem bestF_filter (p : Int) (hp : 0 ≤ p) (qs : List Int) (ls : List Nat) (acc : Nat) (hl : ls.length = qs.length) :
    bestF p (qs.filter fun q => decide (0 ≤ q)) ((qs.zip ls).filterMap fun x => if 0 ≤ x.1 then some x.2 else none) acc = bestF p qs ls acc := by
  induction qs generalizing ls acc with
  | nil => cases ls <;> simp [bestF]
  | cons q qs ih =>
    cases ls with
    | nil => simp at hl
    | cons l ls =>
      have ih' := ih ls
      by_cases hq : 0 ≤ q
      · simp only [List.filter_cons, decide_eq_true hq, if_true, List.zip_cons_cons, List.filterMap_cons, if_pos hq, bestF]
        exact ih' _ (by simpa using hl)
      · have : ¬ p < q := by omega
        simp only [List.filter_cons, decide_eq_false hq, List.zip_cons_cons, List.filterMap_cons, if_neg hq, bestF, if_neg this]
        simpa using ih' acc (by simpa using hl)
theorem lensF_filter (ps : List Int) : lensF (ps.filter fun q => decide (0 ≤ q)) = (ps.zip (lensF ps)).filterMap fun x => if 0 ≤ x.1 then some x.2 else none := by
  induction ps with
  | nil => simp [lensF]
  | cons p ps ih =>
    by_cases hp : 0 ≤ p
    · simp only [List.filter_cons, decide_eq_true hp, if_true, lensF, List.zip_cons_cons, List.filterMap_cons, if_pos hp, if_neg (by omega : ¬ p < 0)]
      rw [ih, bestF_filter p hp ps (lensF ps) 1 (lensF_len ps)]
    · simp only [List.filter_cons, decide_eq_false hp, lensF, List.zip_cons_cons, List.filterMap_cons, if_neg hp, if_pos (by omega : p < 0)]
      simpa using ih
theorem selF_filter (b : List Int) (ks : List Int) (ls : List Nat) (want : Nat) (last : Int) (hl : ls.length = ks.length) (hlast : -1 ≤ last) :
    selF (ks.filter fun k => memB k b) ((ks.filter fun k => memB k b).map fun x => plc x b) (((ks.map fun x => plc x b).zip ls).filterMap fun x => if 0 ≤ x.1 then some x.2 else none) want last = selF ks (ks.map fun x => plc x b) ls want last := by
  induction ks generalizing ls want last with
  | nil => cases ls <;> simp [selF]
  | cons k ks ih =>
    cases ls with
    | nil => simp at hl
    | cons l ls =>
      by_cases hm : memB k b = true
      · have hp : 0 ≤ plc k b := by have := plc_ge k b; rw [hm] at this; simpa using this
        simp only [List.filter_cons, hm, if_true, List.map_cons, List.zip_cons_cons, List.filterMap_cons, if_pos hp, selF]
        split
        · rw [ih ls (want - 1) (plc k b) (by simpa using hl) (by omega)]
        · exact ih ls want last (by simpa using hl) hlast
      · have hp : ¬ 0 ≤ plc k b := by
          have := plc_ge k b
          rw [Bool.eq_false_iff.2 hm] at this
          simpa using this
        have hp1 : plc k b = -1 := by
          unfold plc at hp ⊢
          split
          · next h => rw [if_pos h] at hp; omega
          · rfl
        have hno : ¬ (0 < want ∧ l = want ∧ last < plc k b) := by omega
        have h2 := ih ls want last (by simpa using hl) hlast
        simp only [List.filter_cons, hm, List.map_cons, List.zip_cons_cons, List.filterMap_cons, if_neg hp, selF, if_neg hno]
        simpa using h2
theorem maxN_filter (ps : List Int) : maxN (lensF (ps.filter fun q => decide (0 ≤ q))) = maxN (lensF ps) := by
  rw [lensF_filter]
  have key : ∀ (qs : List Int) (ls : List Nat), (∀ i (hi : i < qs.length) (hl : i < ls.length), ¬ 0 ≤ qs[i] → ls[i] = 0) → ls.length = qs.length → maxN ((qs.zip ls).filterMap fun x => if 0 ≤ x.1 then some x.2 else none) = maxN ls := by
    intro qs
    induction qs with
    | nil => intro ls _ hl; have : ls = [] := List.eq_nil_of_length_eq_zero hl; subst this; rfl
    | cons q qs ih =>
      intro ls h hl
      cases ls with
      | nil => simp at hl
      | cons l ls =>
        have ih' := ih ls (fun i hi hl2 hn => h (i + 1) (by simpa using hi) (by simpa using hl2) (by simpa using hn)) (by simpa using hl)
        by_cases hq : 0 ≤ q
        · simp only [List.zip_cons_cons, List.filterMap_cons, if_pos hq]
          rw [maxN_cons, maxN_cons, ih']
        · have := h 0 (by simp) (by simp) (by simpa using hq)
          simp only [List.getElem_cons_zero] at this
          simp only [List.zip_cons_cons, List.filterMap_cons, if_neg hq]
          rw [maxN_cons, ih', this]; omega
  exact key ps (lensF ps) (fun i hi hl hn => by have := lensF_pos ps i hi; omega) (lensF_len ps)
theorem map_filter_plc (b ks : List Int) : (ks.filter fun k => memB k b).map (fun x => plc x b) = (ks.map fun x => plc x b).filter fun q => decide (0 ≤ q) := by
  rw [List.filter_map]
  congr 1
  apply List.filter_congr
  intro k _
  exact (plc_ge k b).symm
/-- the reference's way: over the keys that are in both -/
theorem staysF_spec (before after : List Int) :
    selF (after.filter fun k => memB k before) ((after.filter fun k => memB k before).map fun x => plc x before) (lensF ((after.filter fun k => memB k before).map fun x => plc x before)) (maxN (lensF ((after.filter fun k => memB k before).map fun x => plc x before))) (-1) = staysF before after := by
  have e1 := map_filter_plc before after
  rw [e1, maxN_filter, lensF_filter, ← e1]
  exact selF_filter before after (lensF (after.map fun x => plc x before)) _ (-1) (by rw [lensF_len, List.length_map]) (by omega)
end Go.Proofs.Ytmmegmefiihabaa

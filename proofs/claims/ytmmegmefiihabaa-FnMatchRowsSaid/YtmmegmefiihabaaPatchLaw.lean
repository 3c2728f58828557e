/-
  The changes from keys to others lead there: the plain law.
-/
import Derived.Test.YtmmegmefiihabaaApply
import Derived.Test.YtmmegmefiihabaaPatchOf
namespace Go.Proofs.Ytmmegmefiihabaa
open Go.RowKit

theorem idx_get' (x : Int) (xs : List Int) (h : idx x xs < xs.length) : xs[idx x xs] = x := by
  induction xs with
  | nil => simp at h
  | cons a r ih =>
    by_cases e : a = x
    · simp [idx, e]
    · simp only [idx, e, if_false, List.length_cons] at h ⊢
      simpa using ih (by simpa using h)
theorem idx_split {x : Int} {ks : List Int} (h : x ∈ ks) : ∃ l m, ks = l ++ x :: m ∧ ks.take (idx x ks) = l ∧ ks.drop (idx x ks + 1) = m ∧ ks.take (idx x ks + 1) = l ++ [x] := by
  have hi := (idx_lt x ks).2 h
  have hx : ks[idx x ks] = x := idx_get' x ks hi
  refine ⟨ks.take (idx x ks), ks.drop (idx x ks + 1), ?_, rfl, rfl, ?_⟩
  · have := List.take_append_drop (idx x ks) ks
    rw [List.drop_eq_getElem_cons hi, hx] at this
    exact this.symm
  · rw [List.take_succ_eq_append_getElem hi, hx]
theorem delF_split {x : Int} {ks : List Int} (h : x ∈ ks) : ∃ l m, ks = l ++ x :: m ∧ delF ks x = l ++ m := by
  obtain ⟨l, m, e, h1, h2, _⟩ := idx_split h
  exact ⟨l, m, e, by unfold delF; rw [h1, h2]⟩
theorem putF_split {p k : Int} {ks : List Int} (h : p ∈ ks) (hp : ¬ p = -1) : ∃ l m, ks = l ++ p :: m ∧ putF ks p k = some (l ++ p :: k :: m) := by
  obtain ⟨l, m, e, _, h2, h3⟩ := idx_split h
  exact ⟨l, m, e, by unfold putF; rw [if_neg hp, h2, h3, if_pos (by simpa [memB] using h)]; simp⟩
theorem nodup_mid {l m : List Int} {x : Int} (h : (l ++ x :: m).Nodup) : x ∉ l ∧ x ∉ m ∧ (l ++ m).Nodup := by
  rw [List.nodup_append] at h
  obtain ⟨h1, h2, h3⟩ := h
  rw [List.nodup_cons] at h2
  refine ⟨fun hx => h3 x hx x (by simp) rfl, h2.1, ?_⟩
  rw [List.nodup_append]
  exact ⟨h1, h2.2, fun a ha b hb => h3 a ha b (List.mem_cons_of_mem _ hb)⟩
theorem nodup_in {l m : List Int} {x : Int} (h : (l ++ m).Nodup) (hx : x ∉ l ++ m) : (l ++ x :: m).Nodup := by
  rw [List.mem_append, not_or] at hx
  rw [List.nodup_append] at h ⊢
  obtain ⟨h1, h2, h3⟩ := h
  refine ⟨h1, List.nodup_cons.2 ⟨hx.2, h2⟩, fun a ha b hb => ?_⟩
  rcases List.mem_cons.1 hb with rfl | hb
  · intro e; subst e; exact hx.1 ha
  · exact h3 a ha b hb
theorem mid_uniq {l m xs ys : List Int} {x : Int} (h : (l ++ x :: m).Nodup) (e : l ++ x :: m = xs ++ x :: ys) : l = xs ∧ m = ys := by
  induction l generalizing xs with
  | nil =>
    cases xs with
    | nil => simpa using e
    | cons a r =>
      simp only [List.nil_append, List.cons_append, List.cons.injEq] at e
      obtain ⟨rfl, e⟩ := e
      rw [List.nil_append, List.nodup_cons] at h
      exact absurd (by rw [e]; simp) h.1
  | cons b l ih =>
    cases xs with
    | nil =>
      simp only [List.nil_append, List.cons_append, List.cons.injEq] at e
      obtain ⟨rfl, e⟩ := e
      rw [List.cons_append, List.nodup_cons] at h
      exact absurd (by simp) h.1
    | cons a r =>
      simp only [List.cons_append, List.cons.injEq] at e
      obtain ⟨rfl, e⟩ := e
      rw [List.cons_append, List.nodup_cons] at h
      have := ih h.2 e
      exact ⟨by rw [this.1], this.2⟩
theorem sub_filter {s a : List Int} (h : s.Sublist a) (ha : a.Nodup) : a.filter (fun x => memB x s) = s := by
  have h1 : s.Sublist (a.filter fun x => memB x s) := by
    have := h.filter (fun x => memB x s)
    rwa [List.filter_eq_self.2 (fun x hx => by simpa [memB] using hx)] at this
  refine (h1.eq_of_length_le ?_).symm
  refine List.Nodup.length_le_of_subset (ha.filter _) fun x hx => ?_
  simpa [memB] using (List.mem_filter.1 hx).2

theorem rem_law (rs : List Int) : ∀ ks : List Int, ks.Nodup → rs.Nodup → (∀ x ∈ rs, x ∈ ks) → applyG ks (rs.map fun k => (⟨0, k, -1⟩ : Chg)) = some (ks.filter fun x => !memB x rs) := by
  induction rs with
  | nil => intro ks _ _ _; rw [List.map_nil, applyG, List.filter_eq_self.2 (fun x _ => by simp [memB])]
  | cons r rs ih =>
    intro ks hk hr hs
    have hm : r ∈ ks := hs r (by simp)
    obtain ⟨l, m, e, hd⟩ := delF_split hm
    rw [List.map_cons, applyG]
    have hstep : stepA ks ⟨0, r, -1⟩ = some (delF ks r) := by
      have : memB r ks = true := by simpa [memB] using hm
      unfold stepA; simp [this]
    rw [hstep]
    obtain ⟨n1, n2, n3⟩ := nodup_mid (e ▸ hk)
    have hr2 := List.nodup_cons.1 hr
    show applyG (delF ks r) _ = _
    rw [ih (delF ks r) (by rw [hd]; exact n3) hr2.2 (fun x hx => by
      have h1 := hs x (by simp [hx])
      have h2 : x ≠ r := fun e => hr2.1 (e ▸ hx)
      rw [e] at h1; rw [hd]
      simp only [List.mem_append, List.mem_cons] at h1 ⊢
      rcases h1 with h1 | h1 | h1
      · exact .inl h1
      · exact absurd h1 h2
      · exact .inr h1)]
    rw [hd, e]
    have f1 : ∀ t : List Int, r ∉ t → t.filter (fun x => !memB x (r :: rs)) = t.filter (fun x => !memB x rs) := fun t ht => by
      refine List.filter_congr fun x hx => ?_
      have : x ≠ r := fun e => ht (e ▸ hx)
      simp [memB, this]
    rw [List.filter_append, List.filter_append, List.filter_cons, if_neg (by simp [memB]), f1 l n1, f1 m n2]
theorem applyG_append (cs ds : List Chg) : ∀ ks : List Int, applyG ks (cs ++ ds) = match applyG ks cs with | some k2 => applyG k2 ds | none => none := by
  induction cs with
  | nil => intro ks; rfl
  | cons c r ih =>
    intro ks
    rw [List.cons_append, applyG, applyG]
    cases stepA ks c with
    | none => rfl
    | some k2 => exact ih k2
/-- what is still to be moved -/
def movU (a st r : List Int) (x : Int) : Bool := memB x r && memB x a && !memB x st
theorem ins_put {cur xs q : List Int} {p k : Int} (P : Int → Bool) (hn : cur.Nodup) (hk : k ∉ cur) (hp : p = lastP (-1) xs) (h0 : ∀ x ∈ xs, 0 ≤ x) (hf : cur.filter P = xs ++ q) (hPk : P k = true) :
    ∃ c2, putF cur p k = some c2 ∧ c2.Nodup ∧ c2.filter P = (xs ++ [k]) ++ q ∧ ∀ x, x ∈ c2 ↔ x = k ∨ x ∈ cur := by
  rcases List.eq_nil_or_concat xs with rfl | ⟨ys, y, rfl⟩
  · have hp : p = -1 := by rw [hp]; rfl
    refine ⟨k :: cur, by unfold putF; rw [if_pos hp], List.nodup_cons.2 ⟨hk, hn⟩, by rw [List.filter_cons, if_pos hPk, hf]; rfl, fun x => by simp⟩
  · rw [List.concat_eq_append] at hp h0 hf ⊢
    rw [lastP_snoc] at hp
    subst hp
    have hpc : p ∈ cur := by
      have : p ∈ cur.filter P := by rw [hf]; simp
      exact (List.mem_filter.1 this).1
    have hPp : P p = true := by
      have : p ∈ cur.filter P := by rw [hf]; simp
      exact (List.mem_filter.1 this).2
    have hp0 : ¬ p = -1 := by have := h0 p (by simp); omega
    obtain ⟨l, m, e, hd⟩ := putF_split (k := k) hpc hp0
    have hf2 : l.filter P ++ p :: m.filter P = ys ++ p :: q := by
      rw [e, List.filter_append, List.filter_cons, if_pos hPp] at hf
      simpa using hf
    have hn2 : (l.filter P ++ p :: m.filter P).Nodup := by
      have := hn.filter P
      rw [e, List.filter_append, List.filter_cons, if_pos hPp] at this
      exact this
    obtain ⟨e1, e2⟩ := mid_uniq hn2 hf2
    refine ⟨_, hd, ?_, ?_, ?_⟩
    · have := nodup_in (l := l ++ [p]) (m := m) (x := k) (by rw [e] at hn; simpa using hn) (by rw [e] at hk; simpa using hk)
      simpa using this
    · rw [List.filter_append, List.filter_cons, if_pos hPp, List.filter_cons, if_pos hPk, e1, e2]; simp
    · intro x; rw [e]; simp only [List.mem_append, List.mem_cons]
      constructor
      · rintro (h | h | h | h) <;> simp [h]
      · rintro (h | h | h | h) <;> simp [h]
theorem ins_law (a b st : List Int) (hb : b.Nodup) (h30 : In30 b) (hsa : ∀ x ∈ st, x ∈ a) :
    ∀ (r xs cur : List Int), b = xs ++ r → cur.Nodup → cur.filter (fun x => !movU a st r x) = xs ++ r.filter (fun x => memB x st) → (∀ x, movU a st r x = true → x ∈ cur) → applyG cur (insG st a (lastP (-1) xs) r) = some b := by
  intro r
  induction r with
  | nil =>
    intro xs cur e hn hf _
    have : cur.filter (fun x => !movU a st [] x) = cur := List.filter_eq_self.2 fun x _ => by simp [movU, memB]
    rw [this] at hf
    rw [e, insG, applyG, hf]; simp
  | cons k r ih =>
    intro xs cur e hn hf hU
    have hkb : k ∈ b := by rw [e]; simp
    have hk30 := h30 k hkb
    have hnb := e ▸ hb
    obtain ⟨nx, nr, _⟩ := nodup_mid hnb
    have hx0 : ∀ x ∈ xs, 0 ≤ x := fun x hx => (h30 x (by rw [e]; simp [hx])).1
    have e2 : b = (xs ++ [k]) ++ r := by rw [e]; simp
    have hinB : inB k 0 30 = true := inB_iff.2 hk30
    rw [insG, applyG_append]
    rw [show insG st a k r = insG st a (lastP (-1) (xs ++ [k])) r from by rw [lastP_snoc]]
    have hPk : (!movU a st r k) = true := by simp [movU, memB, nr]
    have hP : ∀ x, x ≠ k → movU a st (k :: r) x = movU a st r x := fun x hx => by simp [movU, memB, hx]
    by_cases hka : k ∈ a
    · by_cases hks : k ∈ st
      · have hs : stepI st a (lastP (-1) xs) k = [] := by simp [stepI, memB, hka, hks]
        rw [hs]
        show applyG cur _ = _
        refine ih _ cur e2 hn ?_ fun x hx => hU x ?_
        · rw [List.filter_cons, if_pos (by simpa [memB] using hks)] at hf
          rw [List.append_assoc, List.singleton_append, ← hf]
          refine List.filter_congr fun x _ => ?_
          by_cases hxk : x = k
          · subst hxk; simp [movU, memB, hks]
          · rw [hP x hxk]
        · by_cases hxk : x = k
          · subst hxk; simp [movU, memB, hks] at hx
          · rw [hP x hxk]; exact hx
      · have hs : stepI st a (lastP (-1) xs) k = [⟨2, k, lastP (-1) xs⟩] := by simp [stepI, memB, hka, hks]
        have hkc : k ∈ cur := hU k (by simp [movU, memB, hka, hks])
        obtain ⟨l, m, ec, hd⟩ := delF_split hkc
        obtain ⟨n1, n2, n3⟩ := nodup_mid (ec ▸ hn)
        have hf2 : (l ++ m).filter (fun x => !movU a st r x) = xs ++ r.filter (fun x => memB x st) := by
          rw [ec, List.filter_append, List.filter_cons, if_neg (by simp [movU, memB, hka, hks]), List.filter_cons, if_neg (by simpa [memB] using hks)] at hf
          rw [← hf, List.filter_append]
          congr 1
          · exact List.filter_congr fun x hx => by rw [hP x (fun e => n1 (e ▸ hx))]
          · exact List.filter_congr fun x hx => by rw [hP x (fun e => n2 (e ▸ hx))]
        obtain ⟨c2, p1, p2, p3, p4⟩ := ins_put (fun x => !movU a st r x) n3 (k := k) (by simp [n1, n2]) rfl hx0 hf2 hPk
        have hst : stepA cur ⟨2, k, lastP (-1) xs⟩ = some c2 := by
          unfold stepA; rw [← hd] at p1; simp [memB, hkc, p1]
        rw [hs, applyG, hst]
        show applyG c2 _ = _
        refine ih _ c2 e2 p2 p3 fun x hx => (p4 x).2 ?_
        by_cases hxk : x = k
        · exact .inl hxk
        · have := hU x (by rw [hP x hxk]; exact hx)
          rw [ec] at this
          simp only [List.mem_append, List.mem_cons, hxk, false_or] at this
          exact .inr (by simpa using this)
    · have hks : k ∉ st := fun h => hka (hsa k h)
      have hs : stepI st a (lastP (-1) xs) k = [⟨1, k, lastP (-1) xs⟩] := by simp [stepI, memB, hka]
      have hkc : k ∉ cur := fun h => by
        have : k ∈ cur.filter (fun x => !movU a st (k :: r) x) := List.mem_filter.2 ⟨h, by simp [movU, memB, hka]⟩
        rw [hf, List.mem_append] at this
        rcases this with h2 | h2
        · exact nx h2
        · exact hks (by simpa [memB] using (List.mem_filter.1 h2).2)
      have hf2 : cur.filter (fun x => !movU a st r x) = xs ++ r.filter (fun x => memB x st) := by
        rw [List.filter_cons, if_neg (by simpa [memB] using hks)] at hf
        rw [← hf]
        exact List.filter_congr fun x hx => by rw [hP x (fun e => hkc (e ▸ hx))]
      obtain ⟨c2, p1, p2, p3, p4⟩ := ins_put (fun x => !movU a st r x) hn (k := k) hkc rfl hx0 hf2 hPk
      have hst : stepA cur ⟨1, k, lastP (-1) xs⟩ = some c2 := by
        unfold stepA; simp [memB, hkc, hinB, p1]
      rw [hs, applyG, hst]
      show applyG c2 _ = _
      refine ih _ c2 e2 p2 p3 fun x hx => (p4 x).2 ?_
      by_cases hxk : x = k
      · exact .inl hxk
      · exact .inr (hU x (by rw [hP x hxk]; exact hx))
theorem patch_law {a b : List Int} (ha : vkB a = true) (hb : vkB b = true) : applyF a (patchF a b) = (b, true) := by
  have va := vkB_iff.1 ha
  have vb := vkB_iff.1 hb
  have hl : (patchF a b).length ≤ 40 := by have := patchF_len a b; omega
  have hg : applyG a (patchF a b) = some b := by
    unfold patchF
    rw [applyG_append, remF, rem_law (missF a b).reverse a va.1 ((List.reverse_perm _).nodup_iff.2 (va.1.filter _)) (fun x hx => (List.mem_filter.1 (List.mem_reverse.1 hx)).1)]
    show applyG _ (insG (staysF a b) a (lastP (-1) []) b) = _
    refine ins_law a b (staysF a b) vb.1 vb.2.1 (staysF_in a b) b [] _ rfl (va.1.filter _) ?_ ?_
    · rw [List.nil_append, sub_filter (staysF_after a b) vb.1, List.filter_filter]
      refine Eq.trans (List.filter_congr fun x hx => ?_) (sub_filter (staysF_before a b) va.1)
      have h1 : x ∈ staysF a b → x ∈ b := fun h => (staysF_after a b).subset h
      by_cases hs : x ∈ staysF a b
      · simp [movU, memB, hs, missF, h1 hs]
      · by_cases hxb : x ∈ b <;> simp [movU, memB, hs, hx, missF, hxb]
    · intro x hx
      simp only [movU, memB, Bool.and_eq_true, decide_eq_true_eq] at hx
      exact List.mem_filter.2 ⟨hx.1.2, by simp [memB, missF, hx.1.1]⟩
  unfold applyF
  rw [ha, hg]
  simp [hl, finF, hb]
end Go.Proofs.Ytmmegmefiihabaa

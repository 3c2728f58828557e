/-
  The plain laws of clearing: the labels that are met, what is left of the owners.
-/
import Derived.Test.YtnlbmiangbahgaaVo
import Derived.Test.YtnlbmiangbahgaaAboveLaw
import Derived.Test.YtnlbmiangbahgaaSome
namespace Go.Proofs.Ytnlbmiangbahgaa
open Go.RowKit

section
variable {os : List Own}
theorem kidsF_out (ha : Ahead os) {P : Nat} (h : os.length ≤ P) : kidsF os (P : Int) = [] := by
  rw [List.eq_nil_iff_forall_not_mem]
  intro k hk
  obtain ⟨i, rfl, h1, x, h2, h3, _⟩ := kids_in hk
  have := (ha _ _ h2).2
  omega
theorem clAt_out {P : Nat} (h : os.length ≤ P) : clAt os (P : Int) = [] := by
  unfold clAt
  simp only [Int.toNat_natCast]
  rw [List.getElem?_eq_none h]
theorem labG_out (ha : Ahead os) {P : Nat} (h : os.length ≤ P) (m : Nat) : labG os m (P : Int) = [] := by
  cases m with
  | zero => rfl
  | succ m => rw [labG, kidsF_out ha h, clAt_out h]; rfl
theorem flatMap_same {l : List Int} {f g : Int → List Int} (h : ∀ k ∈ l, f k = g k) : l.flatMap f = l.flatMap g := by
  induction l with
  | nil => rfl
  | cons a r ih => rw [List.flatMap_cons, List.flatMap_cons, h a (by simp), ih (fun k hk => h k (by simp [hk]))]
theorem labG_fuel (ha : Ahead os) : ∀ (m m' P : Nat), os.length ≤ P + m → os.length ≤ P + m' → labG os m (P : Int) = labG os m' (P : Int)
  | 0, m', P, h, _ => by rw [labG_out ha (by omega), labG_out ha (by omega)]
  | m + 1, 0, P, _, h => by rw [labG_out ha (by omega), labG_out ha (by omega)]
  | m + 1, m' + 1, P, h, h' => by
    rw [labG, labG]
    congr 1
    refine flatMap_same fun k hk => ?_
    rw [List.mem_reverse] at hk
    obtain ⟨i, rfl, h1, x, h2, h3, _⟩ := kids_in hk
    have := (ha _ _ h2).2
    exact labG_fuel ha m m' i (by omega) (by omega)
theorem labF_eq {P : Nat} (h : opB os (P : Int) = true) : labF os (P : Int) = labG os os.length (P : Int) := by
  obtain ⟨hv, h0, h1, _⟩ := opB_iff.1 h
  unfold labF rerunF
  rw [if_pos h]
  exact (clearF_at hv (by omega)).1
theorem opB_kid {o k : Int} (hv : voB os = true) (hk : k ∈ kidsF os o) : opB os k = true := by
  obtain ⟨i, rfl, h2, x, h3, h4, h5⟩ := kids_in hk
  exact opB_iff.2 ⟨hv, by omega, by omega, opAt_get.2 ⟨x, h3, h5⟩⟩
theorem kidsOfF_eq {o : Int} (h : opB os o = true) : kidsOfF os o = kidsF os o := by
  obtain ⟨hv, h0, h1, _⟩ := opB_iff.1 h
  unfold kidsOfF
  rw [if_pos (ofB_iff.2 ⟨hv, h0, h1⟩)]
theorem labG_rec {P : Nat} (hv : voB os = true) (_hP : P < os.length) : labG os os.length (P : Int) = (kidsF os (P : Int)).reverse.flatMap (labG os os.length) ++ (clAt os (P : Int)).reverse := by
  have ha := ahead_of_voB hv
  have e : labG os os.length (P : Int) = labG os (os.length + 1) (P : Int) := labG_fuel ha _ _ _ (by omega) (by omega)
  rw [e, labG]
theorem labF_rec {P : Nat} (h : opB os (P : Int) = true) : labF os (P : Int) = (kidsOfF os (P : Int)).reverse.flatMap (labF os) ++ (clAt os (P : Int)).reverse := by
  obtain ⟨hv, h0, h1, _⟩ := opB_iff.1 h
  rw [labF_eq h, kidsOfF_eq h, labG_rec hv (by omega)]
  congr 1
  refine flatMap_same fun k hk => ?_
  rw [List.mem_reverse] at hk
  have ho := opB_kid hv hk
  obtain ⟨i, rfl, _⟩ := kids_in hk
  exact (labF_eq ho).symm
end

/-- what is left when o has been cleared, once more cleared -/
theorem rerun_law {os os2 : List Own} {ls : List Int} {o : Int} (h : rerunF os o = (os2, ls)) (hne : os2 ≠ []) :
    ∃ P : Nat, o = P ∧ (P < os.length ∧ os2.length = os.length) ∧ voB os = true ∧ voB os2 = true ∧ opB os o = true ∧ opB os2 o = true ∧ kidsOfF os2 o = [] ∧ rerunF os2 o = (os2, []) ∧
      (∃ x y, os[P]? = some x ∧ os2[P]? = some y ∧ y.op = true ∧ y.cx = x.cx) ∧ clTot os2 + ls.length = clTot os := by
  have h1 : (rerunF os o).1 = os2 := by rw [h]
  have h2 : (rerunF os o).2 = ls := by rw [h]
  by_cases hop : opB os o = true
  case neg =>
    unfold rerunF at h1
    rw [if_neg hop] at h1
    exact absurd h1.symm hne
  case pos =>
  have hv2 := vo_rerunF hop
  rw [h1] at hv2
  obtain ⟨hv, h0, hl, hopn⟩ := opB_iff.1 hop
  obtain ⟨P, rfl⟩ := Int.eq_ofNat_of_zero_le h0
  have hP : P < os.length := by omega
  have e1 : (clearF os (P : Int)).1 = os2 := by rw [← h1]; unfold rerunF; rw [if_pos hop]
  have e2 : (clearF os (P : Int)).2 = ls := by rw [← h2]; unfold rerunF; rw [if_pos hop]
  obtain ⟨_, c2, c3, c4⟩ := clearF_at hv hP
  rw [e1] at c2 c3 c4
  have hkp : Keep os os2 := by rw [← e1]; exact keep_clearG _ _ _
  obtain ⟨x, hx, hxo⟩ := opAt_get.1 hopn
  rw [hx] at c2
  have hop2 : opB os2 (P : Int) = true := opB_iff.2 ⟨hv2, h0, by rw [hkp.1]; exact hl, opAt_get.2 ⟨_, c2, hxo⟩⟩
  have hno : kidsF os2 (P : Int) = [] := by
    rw [List.eq_nil_iff_forall_not_mem]
    intro k hk
    obtain ⟨i, rfl, hi, z, hz, hzp, hzo⟩ := kids_in hk
    have hi' : i < os.length := by rw [← hkp.1]; exact hi
    obtain ⟨z', hz', hzp', _⟩ := hkp.2 i _ (List.getElem?_eq_getElem hi')
    rw [hz] at hz'; injection hz' with hz'; subst hz'
    have := c3 i (.kid (List.getElem?_eq_getElem hi') (by rw [← hzp', hzp]))
    rw [hz, List.getElem?_eq_getElem hi'] at this
    simp only [Option.map_some, Option.some.injEq] at this
    rw [this] at hzo; cases hzo
  have hcl : clAt os2 (P : Int) = [] := by unfold clAt; simp only [Int.toNat_natCast]; rw [c2]; rfl
  have hwp : wipe os2 (P : Int) = os2 := by
    unfold wipe; simp only [Int.toNat_natCast]; rw [c2]; exact set_self c2
  have hag : rerunF os2 (P : Int) = (os2, []) := by
    unfold rerunF
    rw [if_pos hop2]
    unfold clearF
    obtain ⟨m, hm⟩ : ∃ m, os2.length = m + 1 := ⟨os2.length - 1, by have := (vo_lens hv2).1; omega⟩
    rw [hm, clearG, hno]
    simp only [List.reverse_nil, List.foldl_nil]
    rw [hcl, hwp]; rfl
  refine ⟨P, rfl, ⟨hP, hkp.1⟩, hv, hv2, hop, hop2, by rw [kidsOfF_eq hop2, hno], hag, ⟨x, _, hx, c2, hxo, rfl⟩, ?_⟩
  have := clTot_clearG os.length os (P : Int)
  rw [← e1, ← e2]
  exact this

theorem root_open {os : List Own} (hv : voB os = true) : ∀ (m P : Nat) (x : Own), P ≤ m → os[P]? = some x → x.op = true → opAt os ((0 : Nat) : Int) = true := by
  intro m
  induction m with
  | zero =>
    intro P x hm hx ho
    obtain rfl : P = 0 := by omega
    exact opAt_get.2 ⟨x, hx, ho⟩
  | succ m ih =>
    intro P x hm hx ho
    have hk := okO_iff.1 ((vo_iff.1 hv).1 P x hx)
    rcases hk.2.1 ho with rfl | h1
    · exact opAt_get.2 ⟨x, hx, ho⟩
    · rcases parB_iff.1 hk.1.1 with h5 | h5
      · obtain rfl := h5.1
        exact opAt_get.2 ⟨x, hx, ho⟩
      · obtain ⟨j, hj⟩ := Int.eq_ofNat_of_zero_le h5.2.1
        rw [hj] at h1
        obtain ⟨y, hy, hyo⟩ := opAt_get.1 h1
        exact ih j y (by omega) hy hyo
theorem sub_root {os : List Own} (hv : voB os = true) : ∀ (m i : Nat), i ≤ m → 0 < i → i < os.length → Sub os 0 i := by
  intro m
  induction m with
  | zero => intro i h1 h2; omega
  | succ m ih =>
    intro i hm h0 hi
    have hx := List.getElem?_eq_getElem hi
    have hk := okO_iff.1 ((vo_iff.1 hv).1 i _ hx)
    rcases parB_iff.1 hk.1.1 with h5 | h5
    · omega
    · obtain ⟨j, hj⟩ := Int.eq_ofNat_of_zero_le h5.2.1
      by_cases hj0 : j = 0
      · subst hj0
        exact .kid hx hj
      · exact .step hx hj (ih j (by omega) (by omega) (by omega))
theorem clTot_zero : ∀ {os : List Own}, (∀ (i : Nat) (x : Own), os[i]? = some x → x.cl = []) → clTot os = 0
  | [], _ => rfl
  | x :: r, h => by
    have h1 := h 0 x rfl
    have h2 := clTot_zero (os := r) (fun i y hy => h (i + 1) y (by simpa using hy))
    simp [clTot, h1] at h2 ⊢
    exact h2
theorem labF_all {os : List Own} (h : opB os ((0 : Nat) : Int) = true) : (labF os ((0 : Nat) : Int)).length = clTot os := by
  obtain ⟨hv, h0, h1, _⟩ := opB_iff.1 h
  have hP : 0 < os.length := by omega
  have e : labF os ((0 : Nat) : Int) = (clearF os ((0 : Nat) : Int)).2 := by unfold labF rerunF; rw [if_pos h]
  obtain ⟨_, c2, c3, c4⟩ := clearF_at hv hP
  have hz : clTot (clearF os ((0 : Nat) : Int)).1 = 0 := clTot_zero fun i x hx => by
    have hi : i < os.length := by
      rw [← (keep_clearG os.length os ((0 : Nat) : Int)).1]; exact (List.getElem?_eq_some_iff.1 hx).1
    by_cases hi0 : i = 0
    · subst hi0
      rw [hx, List.getElem?_eq_getElem hi] at c2
      injection c2 with c2
      rw [c2]; rfl
    · have := c3 i (sub_root hv i i (Nat.le_refl _) (by omega) hi)
      rw [hx, List.getElem?_eq_getElem hi] at this
      injection this with this
      rw [this]; rfl
  have := clTot_clearG os.length os ((0 : Nat) : Int)
  rw [e]
  unfold clearF at hz ⊢
  omega
theorem rerun_all {os : List Own} {o : Int} (h : opB os o = true) : (labF os 0).length = clTot os := by
  obtain ⟨hv, h0, hl, hopn⟩ := opB_iff.1 h
  obtain ⟨P, rfl⟩ := Int.eq_ofNat_of_zero_le h0
  obtain ⟨x, hx, hxo⟩ := opAt_get.1 hopn
  have := (vo_lens hv).1.1
  exact labF_all (opB_iff.2 ⟨hv, by omega, by omega, root_open hv P P x (Nat.le_refl _) hx hxo⟩)

theorem labG_same {os os2 : List Own} (ha : Ahead os) (P : Nat) (hl : os2.length = os.length) (hk : ∀ o i, kidB os2 o i = kidB os o i) (hc : ∀ i : Nat, P < i → clAt os2 (i : Int) = clAt os (i : Int)) :
    ∀ (m i : Nat), P < i → labG os2 m (i : Int) = labG os m (i : Int)
  | 0, _, _ => rfl
  | m + 1, i, hi => by
    have e : kidsF os2 (i : Int) = kidsF os (i : Int) := by unfold kidsF; rw [hl]; exact selF_congr fun j _ => hk _ j
    rw [labG, labG, e, hc i hi]
    congr 1
    refine flatMap_same fun k hk' => ?_
    rw [List.mem_reverse] at hk'
    obtain ⟨j, rfl, h1, x, h2, h3, _⟩ := kids_in hk'
    have := (ha _ _ h2).2
    exact labG_same ha P hl hk hc m j (by omega)
theorem addF_no {os : List Own} {o l : Int} (h : (addF os o l).2 = false) : (addF os o l).1 = [] := by
  unfold addF at h ⊢
  split at h
  · cases h
  · next hc => rw [if_neg hc]
theorem add_law {os os2 : List Own} {o l : Int} (h : addF os o l = (os2, true)) :
    ∃ P : Nat, o = P ∧ (P < os.length ∧ os2.length = os.length) ∧ voB os = true ∧ voB os2 = true ∧ opB os o = true ∧ ∃ (x : Own) (X : List Int), os[P]? = some x ∧ labF os o = X ++ x.cl.reverse ∧ labF os2 o = X ++ l :: x.cl.reverse := by
  have h2 : (addF os o l).2 = true := by rw [h]
  have h1 : (addF os o l).1 = os2 := by rw [h]
  have hset := h2
  unfold addF at hset
  split at hset
  case isFalse => cases hset
  case isTrue hc =>
  have hop := hc
  simp only [Bool.and_eq_true] at hop
  obtain ⟨⟨ho, hlb⟩, hcn⟩ := hop
  obtain ⟨hvo, h0, hl, hopn⟩ := opB_iff.1 ho
  have hvo2 := vo_addF hvo h2
  rw [h1] at hvo2
  obtain ⟨P, rfl⟩ := Int.eq_ofNat_of_zero_le h0
  have hP : P < os.length := by omega
  have e : os2 = os.set P ⟨os[P].p, os[P].op, os[P].cl ++ [l], os[P].cx⟩ := by
    rw [← h1, ← putCl_eq l hP]
    unfold addF
    rw [if_pos hc]
  have hl2 : os2.length = os.length := by rw [e]; simp
  have hat : os2[P]? = some ⟨os[P].p, os[P].op, os[P].cl ++ [l], os[P].cx⟩ := by rw [e]; exact get_set_self (List.getElem?_eq_getElem hP)
  have hopP : os[P].op = true := by rw [← opAt_eq hP]; exact hopn
  have ho2 : opB os2 (P : Int) = true := opB_iff.2 ⟨hvo2, h0, by omega, opAt_get.2 ⟨_, hat, hopP⟩⟩
  have hkb : ∀ o i, kidB os2 o i = kidB os o i := fun o i => by
    unfold kidB
    by_cases hi : i = P
    · subst hi; rw [hat, List.getElem?_eq_getElem hP]
    · rw [e, List.getElem?_set_ne (Ne.symm hi)]
  have hcl : ∀ i : Nat, P < i → clAt os2 (i : Int) = clAt os (i : Int) := fun i hi => by
    unfold clAt
    simp only [Int.toNat_natCast]
    rw [e, List.getElem?_set_ne (by omega)]
  have ha := ahead_of_voB hvo
  have hk : kidsF os2 (P : Int) = kidsF os (P : Int) := by unfold kidsF; rw [hl2]; exact selF_congr fun j _ => hkb _ j
  refine ⟨P, rfl, ⟨hP, hl2⟩, hvo, hvo2, ho, os[P], (kidsF os (P : Int)).reverse.flatMap (labG os os.length), List.getElem?_eq_getElem hP, ?_, ?_⟩
  · rw [labF_eq ho, labG_rec hvo hP, clAt_eq hP]
  · rw [labF_eq ho2, labG_rec hvo2 (by omega), hk]
    have ec : clAt os2 (P : Int) = os[P].cl ++ [l] := by unfold clAt; simp only [Int.toNat_natCast]; rw [hat]
    rw [ec, List.reverse_append, hl2]
    simp only [List.reverse_cons, List.reverse_nil, List.nil_append, List.singleton_append]
    congr 1
    refine flatMap_same fun k hk' => ?_
    rw [List.mem_reverse] at hk'
    obtain ⟨j, rfl, h3, x, h4, h5, _⟩ := kids_in hk'
    have := (ha _ _ h4).2
    exact labG_same ha P hl2 hkb hcl _ j (by omega)

theorem sub_par {os : List Own} {P i : Nat} {x : Own} (hx : os[i]? = some x) {j : Nat} (hj : x.p = (j : Int)) : Sub os P i ↔ j = P ∨ Sub os P j := by
  constructor
  · intro h
    cases h with
    | kid h1 h2 => rw [hx] at h1; injection h1 with h1; subst h1; left; omega
    | @step _ j' _ h1 h2 h3 =>
      rw [hx] at h1; injection h1 with h1; subst h1
      have : j = j' := by omega
      subst this
      exact .inr h3
  · rintro (rfl | h)
    · exact .kid hx hj
    · exact .step hx hj h
theorem mem_above {os : List Own} (hv : voB os = true) (P : Nat) : ∀ (m i : Nat), i < m → i < os.length → ((P : Int) ∈ aboveG os m (i : Int) ↔ i = P ∨ Sub os P i) := by
  intro m
  induction m with
  | zero => intro i h; omega
  | succ m ih =>
    intro i hm hi
    have hx := List.getElem?_eq_getElem hi
    have hk := okO_iff.1 ((vo_iff.1 hv).1 i _ hx)
    rw [aboveG, if_neg (by omega), parAt_get hx, List.mem_cons]
    rcases parB_iff.1 hk.1.1 with ⟨h0, h1⟩ | ⟨h0, h1, h2⟩
    · subst h0
      rw [h1, aboveG_neg _ _ _ (by omega)]
      constructor
      · rintro (h | h)
        · left; omega
        · cases h
      · rintro (h | h)
        · left; omega
        · have := h.gt (ahead_of_voB hv); omega
    · obtain ⟨j, hj⟩ := Int.eq_ofNat_of_zero_le h1
      rw [hj, ih j (by omega) (by omega), sub_par hx hj]
      constructor
      · rintro (h | h)
        · left; omega
        · exact .inr h
      · rintro (h | h)
        · left; omega
        · exact .inr h
theorem disp_law {os os2 : List Own} {ls : List Int} {o : Int} (h : dispF os o = (os2, ls)) (hne : os2 ≠ []) :
    ∃ P : Nat, o = P ∧ (P < os.length ∧ os2.length = os.length) ∧ voB os = true ∧ voB os2 = true ∧ ls = labF os o ∧
      ∀ (i : Nat) (x y : Own), os[i]? = some x → os2[i]? = some y → (memB o (aboveOfF os (i : Int)) = true ∧ y.op = false) ∨ (memB o (aboveOfF os (i : Int)) = false ∧ y.op = x.op ∧ y.cl = x.cl) := by
  have h1 : (dispF os o).1 = os2 := by rw [h]
  have h2 : (dispF os o).2 = ls := by rw [h]
  by_cases hop' : (opB os o && !(o == 0)) = true
  case neg =>
    unfold dispF at h1
    rw [if_neg hop'] at h1
    exact absurd h1.symm hne
  case pos =>
  have hc := hop'
  rw [Bool.and_eq_true] at hc
  obtain ⟨hop, ho0⟩ := hc
  have ho0' : o ≠ 0 := by simpa using ho0
  have hv2 := vo_dispF hop ho0'
  rw [h1] at hv2
  obtain ⟨hv, h0, hl, hopn⟩ := opB_iff.1 hop
  obtain ⟨P, rfl⟩ := Int.eq_ofNat_of_zero_le h0
  have hP : P < os.length := by omega
  have e1 : shut (clearF os (P : Int)).1 (P : Int) = os2 := by rw [← h1]; unfold dispF; rw [if_pos hop']
  have e2 : (clearF os (P : Int)).2 = ls := by rw [← h2]; unfold dispF; rw [if_pos hop']
  obtain ⟨_, c2, c3, c4⟩ := clearF_at hv hP
  refine ⟨P, rfl, ⟨hP, ?_⟩, hv, hv2, ?_, fun i x y hx hy => ?_⟩
  · rw [← e1, (keep_shut _ _).1]; exact (keep_clearG _ _ _).1
  · rw [← e2]; unfold labF rerunF; rw [if_pos hop]
  · have hi : i < os.length := (List.getElem?_eq_some_iff.1 hx).1
    have hab : aboveOfF os (i : Int) = aboveG os (os.length + 1) (i : Int) := by
      unfold aboveOfF aboveF
      rw [if_pos (ofB_iff.2 ⟨hv, by omega, by omega⟩)]
    have hmem := mem_above hv P (os.length + 1) i (by omega) hi
    rw [← hab] at hmem
    rw [← e1, shut_get] at hy
    by_cases hs : i = P ∨ Sub os P i
    · left
      refine ⟨by unfold memB; exact decide_eq_true (hmem.2 hs), ?_⟩
      by_cases e : i = P
      · subst e
        rw [if_pos rfl] at hy
        obtain ⟨z, _, rfl⟩ := Option.map_eq_some_iff.1 hy
        rfl
      · rw [if_neg e, c3 i (hs.resolve_left e)] at hy
        obtain ⟨z, _, rfl⟩ := Option.map_eq_some_iff.1 hy
        rfl
    · right
      have e : ¬ i = P := fun e => hs (.inl e)
      refine ⟨by unfold memB; exact decide_eq_false fun h => hs (hmem.1 h), ?_⟩
      rw [if_neg e, c4 i e (fun h => hs (.inr h)), hx] at hy
      injection hy with hy
      subst hy
      exact ⟨rfl, rfl⟩
theorem tot_small {os : List Own} (h : Smalls os) : tot os ≤ 108 := by
  have key : ∀ l : List Own, (∀ x ∈ l, x.cl.length ≤ 6 ∧ x.cx.length ≤ 3) → tot l ≤ 9 * l.length := by
    intro l
    induction l with
    | nil => intro _; simp [tot]
    | cons x r ih =>
      intro hl
      have h1 := hl x (by simp)
      have h2 := ih (fun y hy => hl y (by simp [hy]))
      simp [tot] at h2 ⊢
      omega
  have := key os h.2
  have := h.1.2
  omega
theorem clTot_snoc (os : List Own) (o : Own) : clTot (os ++ [o]) = clTot os + o.cl.length := by simp [clTot]
theorem clTot_take (os : List Own) (k : Nat) : clTot (os.take k) ≤ clTot os := by
  conv => rhs; rw [← List.take_append_drop k os]
  simp only [clTot, List.map_append, List.sum_append]
  omega
theorem aboveOf_le (os : List Own) (k : Int) (h : os.length ≤ 12) : (aboveOfF os k).length ≤ 14 := by
  unfold aboveOfF aboveF
  split
  · exact Nat.le_trans (aboveG_len _ _ _) (by omega)
  · simp
end Go.Proofs.Ytnlbmiangbahgaa

/-
  Owners as a tree: who stands below whom; what clearing does to each; owners stay owners.
-/
import Derived.Test.YtnlbmiangbahgaaOwnG
namespace Go.Proofs.Ytnlbmiangbahgaa
open Go.RowKit

/-- i stands below P -/
inductive Sub (os : List Own) (P : Nat) : Nat → Prop
  | kid {i : Nat} {x : Own} : os[i]? = some x → x.p = (P : Int) → Sub os P i
  | step {i j : Nat} {x : Own} : os[i]? = some x → x.p = (j : Int) → Sub os P j → Sub os P i
section
variable {os : List Own} {P i : Nat}
theorem Sub.gt (ha : Ahead os) (h : Sub os P i) : P < i ∧ i < os.length := by
  induction h with
  | kid h1 h2 => have := ha _ _ h1; have := (List.getElem?_eq_some_iff.1 h1).1; omega
  | step h1 h2 _ ih => have := ha _ _ h1; have := (List.getElem?_eq_some_iff.1 h1).1; omega
theorem Sub.first (h : Sub os P i) : ∃ (k : Nat) (x : Own), os[k]? = some x ∧ x.p = (P : Int) ∧ (i = k ∨ Sub os k i) := by
  induction h with
  | kid h1 h2 => exact ⟨_, _, h1, h2, .inl rfl⟩
  | step h1 h2 _ ih =>
    obtain ⟨k, y, h3, h4, h5⟩ := ih
    refine ⟨k, y, h3, h4, .inr ?_⟩
    rcases h5 with rfl | h5
    · exact .kid h1 h2
    · exact .step h1 h2 h5
theorem Sub.under {k : Nat} {x : Own} (h1 : os[k]? = some x) (h2 : x.p = (P : Int)) (h : Sub os k i) : Sub os P i := by
  induction h with
  | kid h3 h4 => exact .step h3 h4 (.kid h1 h2)
  | step h3 h4 _ ih => exact .step h3 h4 ih
theorem Sub.line {k k' : Nat} (h : Sub os k i) (h' : Sub os k' i) : k = k' ∨ Sub os k k' ∨ Sub os k' k := by
  induction h with
  | kid h1 h2 =>
    cases h' with
    | kid h3 h4 => rw [h1] at h3; injection h3 with h3; subst h3; left; omega
    | @step _ j _ h3 h4 h5 =>
      rw [h1] at h3; injection h3 with h3; subst h3
      have : k = j := by omega
      subst this
      exact .inr (.inr h5)
  | @step _ j _ h1 h2 hs ih =>
    cases h' with
    | kid h3 h4 =>
      rw [h1] at h3; injection h3 with h3; subst h3
      have : k' = j := by omega
      subst this
      exact .inr (.inl hs)
    | @step _ j' _ h3 h4 h5 =>
      rw [h1] at h3; injection h3 with h3; subst h3
      have : j' = j := by omega
      subst this
      exact ih h5
/-- two kids of one owner have nothing below in common -/
theorem kids_apart (ha : Ahead os) {k k' : Nat} {x x' : Own} (h1 : os[k]? = some x) (h2 : x.p = (P : Int)) (h1' : os[k']? = some x') (h2' : x'.p = (P : Int)) (h : i = k ∨ Sub os k i) (h' : i = k' ∨ Sub os k' i) : k = k' := by
  have no : ∀ {a b : Nat} {y z : Own}, os[a]? = some y → y.p = (P : Int) → os[b]? = some z → z.p = (P : Int) → ¬ Sub os a b := fun {a b y z} hy hyp hz hzp hs => by
    have hPa := ha _ _ hy
    cases hs with
    | kid h3 h4 => rw [hz] at h3; injection h3 with h3; subst h3; omega
    | @step _ j _ h3 h4 h5 =>
      rw [hz] at h3; injection h3 with h3; subst h3
      have := h5.gt ha
      omega
  rcases h with rfl | h
  · rcases h' with h' | h'
    · exact h'
    · exact absurd h' (no h1' h2' h1 h2)
  · rcases h' with rfl | h'
    · exact absurd h (no h1 h2 h1' h2')
    · rcases h.line h' with h3 | h3 | h3
      · exact h3
      · exact absurd h3 (no h1 h2 h1' h2')
      · exact absurd h3 (no h1' h2' h1 h2)
theorem Sub.par {os' : List Own} (hp : ∀ (i : Nat) (x : Own), os[i]? = some x → ∃ y, os'[i]? = some y ∧ y.p = x.p) (h : Sub os P i) : Sub os' P i := by
  induction h with
  | kid h1 h2 => obtain ⟨y, h3, h4⟩ := hp _ _ h1; exact .kid h3 (h4.trans h2)
  | step h1 h2 _ ih => obtain ⟨y, h3, h4⟩ := hp _ _ h1; exact .step h3 (h4.trans h2) ih
end

def close1 (x : Own) : Own := ⟨x.p, false, [], x.cx⟩
def wipe1 (x : Own) : Own := ⟨x.p, x.op, [], x.cx⟩
/-- what is closed has nothing, and only closed ones below -/
def Shutty (os : List Own) : Prop := (∀ (i : Nat) (x : Own), os[i]? = some x → x.op = false → x.cl = []) ∧ ∀ (i j : Nat) (x y : Own), os[i]? = some x → x.p = (j : Int) → os[j]? = some y → y.op = false → x.op = false
theorem Shutty.below {os : List Own} (h : Shutty os) {P i : Nat} {y : Own} (hy : os[P]? = some y) (hc : y.op = false) (hs : Sub os P i) : ∃ x, os[i]? = some x ∧ x.op = false := by
  induction hs with
  | kid h1 h2 => exact ⟨_, h1, h.2 _ _ _ _ h1 h2 hy hc⟩
  | step h1 h2 _ ih => obtain ⟨z, h3, h4⟩ := ih; exact ⟨_, h1, h.2 _ _ _ _ h1 h2 h3 h4⟩
def labG (os : List Own) : Nat → Int → List Int
  | 0, _ => []
  | m + 1, o => ((kidsF os o).reverse.flatMap (labG os m)) ++ (clAt os o).reverse

theorem selF_congr {f g : Nat → Bool} {n : Nat} (h : ∀ i, i < n → f i = g i) : selF f n = selF g n := by
  induction n with
  | zero => rfl
  | succ n ih => unfold selF; rw [ih (fun i hi => h i (by omega)), h n (by omega)]
theorem selF_nodup (f : Nat → Bool) (n : Nat) : (selF f n).Nodup := by
  induction n with
  | zero => simp [selF]
  | succ n ih =>
    unfold selF
    rw [List.nodup_append]
    refine ⟨ih, by split <;> simp, fun a ha b hb hab => ?_⟩
    obtain ⟨i, h1, _, h3⟩ := mem_selF.1 ha
    split at hb
    · have : b = n := by simpa using hb
      omega
    · cases hb
/-- parents as in os0 -/
def SameP (os0 os : List Own) : Prop := os.length = os0.length ∧ ∀ (i : Nat) (x : Own), os[i]? = some x → ∃ y, os0[i]? = some y ∧ y.p = x.p
theorem SameP.keep {os0 os os' : List Own} (h : SameP os0 os) (k : Keep os os') : SameP os0 os' := ⟨k.1.trans h.1, fun i x hx => by
  have hi : i < os.length := by rw [← k.1]; exact (List.getElem?_eq_some_iff.1 hx).1
  obtain ⟨y, hy, h1, _⟩ := k.2 i _ (List.getElem?_eq_getElem hi)
  rw [hx] at hy; injection hy with hy; subst hy
  obtain ⟨z, hz, h2⟩ := h.2 i _ (List.getElem?_eq_getElem hi)
  exact ⟨z, hz, by rw [h2, h1]⟩⟩

section
variable {os0 : List Own}
/-- what clearing P does, from whatever list that has os0's parents and is os0 from P on downward -/
def ClearOk (os0 : List Own) (m : Nat) : Prop := ∀ (P : Nat) (os : List Own), P < os0.length → os0.length ≤ P + m → SameP os0 os → (∀ i, i = P ∨ Sub os0 P i → os[i]? = os0[i]?) →
    (clearG m os P).2 = labG os0 m P ∧ (clearG m os P).1[P]? = os0[P]?.map wipe1 ∧ (∀ i, Sub os0 P i → (clearG m os P).1[i]? = os0[i]?.map close1) ∧ (∀ i, i ≠ P → ¬ Sub os0 P i → (clearG m os P).1[i]? = os[i]?)

theorem shut_get {os : List Own} {k i : Nat} : (shut os (k : Int))[i]? = if i = k then os[i]?.map (fun x => ⟨x.p, false, x.cl, x.cx⟩) else os[i]? := by
  unfold shut
  simp only [Int.toNat_natCast]
  split
  · next x hx =>
    by_cases e : i = k
    · subst e; rw [if_pos rfl, get_set_self hx, hx]; rfl
    · rw [if_neg e, List.getElem?_set_ne (Ne.symm e)]
  · next hx =>
    by_cases e : i = k
    · subst e; rw [if_pos rfl, hx]; rfl
    · rw [if_neg e]
theorem wipe_get {os : List Own} {k i : Nat} : (wipe os (k : Int))[i]? = if i = k then os[i]?.map wipe1 else os[i]? := by
  unfold wipe
  simp only [Int.toNat_natCast]
  split
  · next x hx =>
    by_cases e : i = k
    · subst e; rw [if_pos rfl, get_set_self hx, hx]; rfl
    · rw [if_neg e, List.getElem?_set_ne (Ne.symm e)]
  · next hx =>
    by_cases e : i = k
    · subst e; rw [if_pos rfl, hx]; rfl
    · rw [if_neg e]

/-- the kids L of P, one after the other -/
theorem fold_ok {m P : Nat} (ha : Ahead os0) (hm : os0.length ≤ P + (m + 1)) (ih : ClearOk os0 m) : ∀ (L : List Int) (acc : List Own × List Int), L.Nodup → (∀ k ∈ L, ∃ (n : Nat) (x : Own), k = n ∧ os0[n]? = some x ∧ x.p = (P : Int)) → SameP os0 acc.1 →
    (∀ (n : Nat), (n : Int) ∈ L → ∀ i, i = n ∨ Sub os0 n i → acc.1[i]? = os0[i]?) →
    (L.foldl (stepG (clearG m)) acc).2 = acc.2 ++ L.flatMap (labG os0 m) ∧ (∀ (n : Nat), (n : Int) ∈ L → ∀ i, i = n ∨ Sub os0 n i → (L.foldl (stepG (clearG m)) acc).1[i]? = os0[i]?.map close1) ∧
      (∀ i, (∀ (n : Nat), (n : Int) ∈ L → ¬ (i = n ∨ Sub os0 n i)) → (L.foldl (stepG (clearG m)) acc).1[i]? = acc.1[i]?) := by
  intro L
  induction L with
  | nil => intro acc _ _ _ _; exact ⟨by simp, fun n hn => (by cases hn), fun i _ => rfl⟩
  | cons k r ihL =>
    intro acc hnd hk hs hag
    obtain ⟨n, x, rfl, hx, hxp⟩ := hk k (by simp)
    have hPn := ha _ _ hx
    have hnl := (List.getElem?_eq_some_iff.1 hx).1
    obtain ⟨c1, c2, c3, c4⟩ := ih n acc.1 hnl (by omega) hs (hag n (by simp))
    rw [List.nodup_cons] at hnd
    have hkp := keep_clearG m acc.1 (n : Int)
    have hs2 : SameP os0 (stepG (clearG m) acc (n : Int)).1 := (hs.keep hkp).keep (keep_shut _ _)
    have get2 : ∀ i, (i = n ∨ Sub os0 n i) → (stepG (clearG m) acc (n : Int)).1[i]? = os0[i]?.map close1 := fun i hi => by
      show (shut (clearG m acc.1 (n : Int)).1 (n : Int))[i]? = _
      rw [shut_get]
      rcases hi with rfl | hi
      · rw [if_pos rfl, c2, hx]; rfl
      · have := hi.gt ha
        rw [if_neg (by omega), c3 i hi]
    have get3 : ∀ i, ¬ (i = n ∨ Sub os0 n i) → (stepG (clearG m) acc (n : Int)).1[i]? = acc.1[i]? := fun i hi => by
      show (shut (clearG m acc.1 (n : Int)).1 (n : Int))[i]? = _
      rw [shut_get, if_neg (fun e => hi (.inl e)), c4 i (fun e => hi (.inl e)) (fun e => hi (.inr e))]
    have apart : ∀ (n' : Nat), (n' : Int) ∈ r → ∀ i, (i = n' ∨ Sub os0 n' i) → ¬ (i = n ∨ Sub os0 n i) := fun n' hn' i hi hi' => by
      obtain ⟨n2, x', e, hx', hxp'⟩ := hk n' (by simp [hn'])
      have e2 : n' = n2 := by omega
      subst e2
      have := kids_apart ha hx' hxp' hx hxp hi hi'
      subst this
      exact hnd.1 hn'
    obtain ⟨d1, d2, d3⟩ := ihL (stepG (clearG m) acc (n : Int)) hnd.2 (fun k hk' => hk k (by simp [hk'])) hs2 (fun n' hn' i hi => by rw [get3 i (apart n' hn' i hi)]; exact hag n' (by simp [hn']) i hi)
    simp only [List.foldl_cons]
    refine ⟨?_, fun n' hn' i hi => ?_, fun i hi => ?_⟩
    · rw [d1]
      show (acc.2 ++ (clearG m acc.1 (n : Int)).2) ++ _ = _
      rw [c1, List.flatMap_cons, List.append_assoc]
    · rw [List.mem_cons] at hn'
      rcases hn' with e | hn'
      · have e2 : n' = n := by omega
        subst e2
        rw [d3 i (fun n2 hn2 hi2 => apart n2 hn2 i hi2 hi)]
        exact get2 i hi
      · exact d2 n' hn' i hi
    · rw [d3 i (fun n' hn' => hi n' (by simp [hn']))]
      exact get3 i (hi n (by simp))

theorem clear_ok (ha : Ahead os0) (hsh : Shutty os0) (m : Nat) : ClearOk os0 m := by
  induction m with
  | zero => intro P os h1 h2; omega
  | succ m ih =>
    intro P os hP hm hs hag
    have hk : kidsF os (P : Int) = kidsF os0 (P : Int) := by
      unfold kidsF
      rw [hs.1]
      refine selF_congr fun i hi => ?_
      have hi' : i < os.length := by rw [hs.1]; exact hi
      rw [kidB_at hi, kidB_at hi']
      obtain ⟨y, hy, hyp⟩ := hs.2 i _ (List.getElem?_eq_getElem hi')
      rw [List.getElem?_eq_getElem hi] at hy
      injection hy with hy
      by_cases hp : os0[i].p = (P : Int)
      · have := hag i (.inr (.kid (List.getElem?_eq_getElem hi) hp))
        rw [List.getElem?_eq_getElem hi, List.getElem?_eq_getElem hi'] at this
        injection this with this
        rw [this]
      · have hp' : ¬ os[i].p = (P : Int) := by rw [← hyp, ← hy]; exact hp
        rw [show (os0[i].p == (P : Int)) = false by rw [beq_eq_false_iff_ne]; exact hp, show (os[i].p == (P : Int)) = false by rw [beq_eq_false_iff_ne]; exact hp']
        simp
    obtain ⟨f1, f2, f3⟩ := fold_ok ha hm ih (kidsF os0 (P : Int)).reverse (os, []) (by unfold List.Nodup; rw [List.pairwise_reverse]; exact (selF_nodup _ _).imp (fun h => Ne.symm h))
      (fun k hk => by
        rw [List.mem_reverse] at hk
        obtain ⟨i, h1, _, x, h2, h3, _⟩ := kids_in hk
        exact ⟨i, x, h1, h2, h3⟩) hs
      (fun n hn i hi => by
        rw [List.mem_reverse] at hn
        obtain ⟨i', h1, _, x, h2, h3, _⟩ := kids_in hn
        have e : n = i' := by omega
        subst e
        refine hag i (.inr ?_)
        rcases hi with rfl | hi
        · exact .kid h2 h3
        · exact hi.under h2 h3)
    have hno : ∀ (n : Nat), (n : Int) ∈ (kidsF os0 (P : Int)).reverse → ¬ (P = n ∨ Sub os0 n P) := fun n hn hi => by
      rw [List.mem_reverse] at hn
      obtain ⟨i', h1, _, x, h2, h3, _⟩ := kids_in hn
      have e : n = i' := by omega
      subst e
      have := ha _ _ h2
      rcases hi with rfl | hi
      · omega
      · have := hi.gt ha; omega
    have hat : ((kidsF os0 (P : Int)).reverse.foldl (stepG (clearG m)) (os, [])).1[P]? = os0[P]? := by rw [f3 P hno]; exact hag P (.inl rfl)
    have hcl : clAt ((kidsF os0 (P : Int)).reverse.foldl (stepG (clearG m)) (os, [])).1 (P : Int) = clAt os0 (P : Int) := by
      unfold clAt; simp only [Int.toNat_natCast]; rw [hat]
    simp only [clearG, hk]
    refine ⟨by rw [f1, hcl, labG]; simp, ?_, fun i hi => ?_, fun i h1 h2 => ?_⟩
    · rw [wipe_get, if_pos rfl, hat]
    · have hgt := hi.gt ha
      rw [wipe_get, if_neg (by omega)]
      obtain ⟨k, x, h1, h2, h3⟩ := hi.first
      by_cases ho : x.op = true
      · refine f2 k ?_ i h3
        rw [List.mem_reverse]
        unfold kidsF
        have hkl := (List.getElem?_eq_some_iff.1 h1).1
        refine mem_selF.2 ⟨k, hkl, ?_, rfl⟩
        rw [List.getElem?_eq_getElem hkl] at h1
        injection h1 with h1
        rw [kidB_at hkl, h1, ho, h2]
        simp
      · have ho' : x.op = false := by simpa using ho
        obtain ⟨y, hy, hyo⟩ : ∃ y, os0[i]? = some y ∧ y.op = false := by
          rcases h3 with rfl | h3
          · exact ⟨x, h1, ho'⟩
          · exact hsh.below h1 ho' h3
        have hyc := hsh.1 i y hy hyo
        have hcy : close1 y = y := by unfold close1; rw [← hyo, ← hyc]
        rw [f3 i (fun n hn hi' => by
          rw [List.mem_reverse] at hn
          obtain ⟨i', e1, _, z, e2, e3, e4⟩ := kids_in hn
          have e : n = i' := by omega
          subst e
          have := kids_apart ha e2 e3 h1 h2 hi' h3
          subst this
          rw [h1] at e2; injection e2 with e2; subst e2
          rw [ho'] at e4; cases e4)]
        show os[i]? = _
        rw [hag i (.inr hi), hy]
        exact congrArg some hcy.symm
    · rw [wipe_get, if_neg h1]
      refine f3 i fun n hn hi' => h2 ?_
      rw [List.mem_reverse] at hn
      obtain ⟨i', e1, _, z, e2, e3, e4⟩ := kids_in hn
      have e : n = i' := by omega
      subst e
      rcases hi' with rfl | hi'
      · exact .kid e2 e3
      · exact hi'.under e2 e3
end

/-- owners: what voB says, by place -/
theorem vo_iff {os : List Own} : voB os = true ↔ (∀ (i : Nat) (x : Own), os[i]? = some x → okO os i x = true) ∧ 1 ≤ os.length ∧ os.length ≤ 12 := by
  rw [voB_iff]
  refine ⟨fun h => ⟨fun i x hx => ?_, h.2⟩, fun h => ⟨fun j hj => h.1 j _ (List.getElem?_eq_getElem hj), h.2⟩⟩
  obtain ⟨hi, rfl⟩ := List.getElem?_eq_some_iff.1 hx
  exact h.1 i hi
theorem opAt_get {os : List Own} {j : Nat} : opAt os (j : Int) = true ↔ ∃ y, os[j]? = some y ∧ y.op = true := by
  unfold opAt
  simp only [Int.toNat_natCast]
  split
  · next y hy => rw [hy]; simp
  · next h => simp [h]
theorem shutty_of_vo {os : List Own} (h : voB os = true) : Shutty os := by
  have h1 := (vo_iff.1 h).1
  refine ⟨fun i x hx ho => (okO_iff.1 (h1 i x hx)).2.2 ho, fun i j x y hx hp hy hc => ?_⟩
  cases ho : x.op
  · rfl
  · have hk := okO_iff.1 (h1 i x hx)
    rcases hk.2.1 ho with rfl | h2
    · have := parB_iff.1 hk.1.1; omega
    · rw [hp] at h2
      obtain ⟨z, hz, hzo⟩ := opAt_get.1 h2
      rw [hy] at hz; injection hz with hz; subst hz
      rw [hc] at hzo; cases hzo
/-- what clearF does, at owners -/
theorem clearF_at {os : List Own} {P : Nat} (h : voB os = true) (hP : P < os.length) : (clearF os P).2 = labG os os.length P ∧ (clearF os P).1[P]? = os[P]?.map wipe1 ∧ (∀ i, Sub os P i → (clearF os P).1[i]? = os[i]?.map close1) ∧ (∀ i, i ≠ P → ¬ Sub os P i → (clearF os P).1[i]? = os[i]?) :=
  clear_ok (ahead_of_voB h) (shutty_of_vo h) os.length P os hP (by omega) ⟨rfl, fun i x hx => ⟨x, hx, rfl⟩⟩ (fun i _ => rfl)
open Classical in
theorem vo_cleared {os : List Own} {P : Nat} (h : voB os = true) (hP : P < os.length) : voB (clearF os P).1 = true ∧ (P ≠ 0 → voB (shut (clearF os P).1 P) = true) := by
  obtain ⟨_, h2, h3, h4⟩ := clearF_at h hP
  have ha := ahead_of_voB h
  obtain ⟨hv, hl1, hl2⟩ := vo_iff.1 h
  have hln : (clearF os P).1.length = os.length := (keep_clearG os.length os (P : Int)).1
  have hsl : (shut (clearF os P).1 P).length = os.length := by rw [(keep_shut _ _).1, hln]
  -- each owner, before and after
  have key : ∀ (i : Nat) (x : Own), (clearF os P).1[i]? = some x → ∃ y, os[i]? = some y ∧ ((i = P ∧ x = wipe1 y) ∨ (Sub os P i ∧ x = close1 y) ∨ (i ≠ P ∧ ¬ Sub os P i ∧ x = y)) := fun i x hx => by
    have hi : i < os.length := by rw [← hln]; exact (List.getElem?_eq_some_iff.1 hx).1
    refine ⟨os[i], List.getElem?_eq_getElem hi, ?_⟩
    by_cases e : i = P
    · subst e
      rw [h2, List.getElem?_eq_getElem hi] at hx
      exact .inl ⟨rfl, by simpa using hx.symm⟩
    · by_cases hs : Sub os P i
      · rw [h3 i hs, List.getElem?_eq_getElem hi] at hx
        exact .inr (.inl ⟨hs, by simpa using hx.symm⟩)
      · rw [h4 i e hs, List.getElem?_eq_getElem hi] at hx
        exact .inr (.inr ⟨e, hs, by simpa using hx.symm⟩)
  have opk : ∀ (j : Nat) (y : Own), os[j]? = some y → y.op = true → ¬ Sub os P j → ∃ z, (clearF os P).1[j]? = some z ∧ z.op = true := fun j y hy hyo hs => by
    by_cases e : j = P
    · subst e; rw [h2, hy]; exact ⟨wipe1 y, rfl, hyo⟩
    · rw [h4 j e hs, hy]; exact ⟨y, rfl, hyo⟩
  have base : ∀ (i : Nat) (x y : Own), os[i]? = some y → x.p = y.p → x.cx = y.cx → (x.cl = y.cl ∨ x.cl = []) → (parB i x.p = true ∧ x.cl.length ≤ 5 ∧ (∀ v ∈ x.cl, 0 ≤ v ∧ v ≤ 50) ∧ x.cx.length = 3 ∧ (∀ v ∈ x.cx, -1 ≤ v ∧ v ≤ 50)) := fun i x y hy e1 e2 e3 => by
    have hk := (okO_iff.1 (hv i y hy)).1
    rw [e1, e2]
    refine ⟨hk.1, ?_, ?_, hk.2.2.2.1, hk.2.2.2.2⟩
    · rcases e3 with e | e <;> rw [e]
      · exact hk.2.1
      · simp
    · rcases e3 with e | e <;> rw [e]
      · exact hk.2.2.1
      · simp
  -- an open owner's parent is open
  have par : ∀ (i : Nat) (y : Own), os[i]? = some y → y.op = true → i = 0 ∨ ∃ (j : Nat) (z : Own), y.p = (j : Int) ∧ os[j]? = some z ∧ z.op = true := fun i y hy ho => by
    have hk := okO_iff.1 (hv i y hy)
    rcases hk.2.1 ho with h0 | h0
    · exact .inl h0
    · rcases parB_iff.1 hk.1.1 with h5 | h5
      · exact .inl h5.1
      · obtain ⟨j, hj⟩ := Int.eq_ofNat_of_zero_le h5.2.1
        rw [hj] at h0
        obtain ⟨z, hz, hzo⟩ := opAt_get.1 h0
        exact .inr ⟨j, z, hj, hz, hzo⟩
  refine ⟨vo_iff.2 ⟨fun i x hx => ?_, by omega, by omega⟩, fun hP0 => vo_iff.2 ⟨fun i x hx => ?_, by omega, by omega⟩⟩
  · obtain ⟨y, hy, hc⟩ := key i x hx
    rw [okO_iff]
    rcases hc with ⟨rfl, rfl⟩ | ⟨hs, rfl⟩ | ⟨hne, hs, rfl⟩
    · refine ⟨base _ _ y hy rfl rfl (.inr rfl), fun ho => ?_, fun _ => rfl⟩
      rcases par _ y hy ho with h0 | ⟨j, z, hj, hz, hzo⟩
      · exact .inl h0
      · right
        show opAt _ y.p = true
        rw [hj]
        refine opAt_get.2 (opk j z hz hzo fun hs => ?_)
        have := hs.gt ha; have := ha _ _ hy; omega
    · exact ⟨base _ _ y hy rfl rfl (.inr rfl), fun ho => (by cases ho), fun _ => rfl⟩
    · refine ⟨base _ _ x hy rfl rfl (.inl rfl), fun ho => ?_, fun ho => (okO_iff.1 (hv i x hy)).2.2 ho⟩
      rcases par _ x hy ho with h0 | ⟨j, z, hj, hz, hzo⟩
      · exact .inl h0
      · right
        rw [hj]
        exact opAt_get.2 (opk j z hz hzo fun hs' => hs (.step hy hj hs'))
  · rw [shut_get] at hx
    by_cases e : i = P
    · subst e
      rw [if_pos rfl] at hx
      obtain ⟨x', hx', rfl⟩ := Option.map_eq_some_iff.1 hx
      obtain ⟨y, hy, hc⟩ := key i x' hx'
      rcases hc with ⟨_, rfl⟩ | ⟨hs, rfl⟩ | ⟨hne, _⟩
      · rw [okO_iff]; exact ⟨base _ _ y hy rfl rfl (.inr rfl), fun ho => (by cases ho), fun _ => rfl⟩
      · exact absurd (hs.gt ha).1 (Nat.lt_irrefl _)
      · exact absurd rfl hne
    · rw [if_neg e] at hx
      obtain ⟨y, hy, hc⟩ := key i x hx
      rw [okO_iff]
      rcases hc with ⟨h0, _⟩ | ⟨hs, rfl⟩ | ⟨hne, hs, rfl⟩
      · exact absurd h0 e
      · exact ⟨base _ _ y hy rfl rfl (.inr rfl), fun ho => (by cases ho), fun _ => rfl⟩
      · refine ⟨base _ _ x hy rfl rfl (.inl rfl), fun ho => ?_, fun ho => (okO_iff.1 (hv i x hy)).2.2 ho⟩
        rcases par _ x hy ho with h0 | ⟨j, z, hj, hz, hzo⟩
        · exact .inl h0
        · right
          rw [hj]
          have hjP : j ≠ P := fun e2 => hs (.kid hy (by rw [hj, e2]))
          obtain ⟨z', hz', hzo'⟩ := opk j z hz hzo fun hs' => hs (.step hy hj hs')
          exact opAt_get.2 ⟨z', by rw [shut_get, if_neg hjP]; exact hz', hzo'⟩
end Go.Proofs.Ytnlbmiangbahgaa

/-
  What is asked of DeepOf, in plain Lean: a valid formula in order is valid and as deep.
-/
import Derived.Test.YtlinngohbghimaaDeep
namespace Go.Proofs.Ytlinngohbghimaa
open Go.RowKit

theorem goodFrom_app (b : List Prt) : ∀ (a : List Prt) (i : Int), goodFrom i (a ++ b) = (goodFrom i a && goodFrom (i + a.length) b) := by
  intro a
  induction a with
  | nil => intro i; simp [goodFrom]
  | cons q r ih =>
    intro i
    rw [List.cons_append, goodFrom, ih, goodFrom, Bool.and_assoc, List.length_cons]
    congr 3
    omega
theorem bumps_at (ks : List Int) : ∀ (u : List Int), (∀ k ∈ ks, 0 ≤ k ∧ k < u.length) → ∀ j : Nat, j < u.length → (ks.foldl bump u).getD j 0 = u.getD j 0 + ks.count (j : Int) := by
  induction ks with
  | nil => intro u _ j _; simp
  | cons k r ih =>
    intro u h j hj
    have hk := h k (by simp)
    rw [List.foldl_cons, ih (bump u k) (fun x hx => by rw [bump_len]; exact h x (by simp [hx])) j (by rw [bump_len]; exact hj), List.count_cons]
    have hg : (bump u k).getD j 0 = if k.toNat = j then u.getD j 0 + 1 else u.getD j 0 := by
      unfold bump
      rw [List.getD_eq_getElem?_getD, List.getElem?_set]
      split
      · next e => subst e; rw [if_pos hj]; rfl
      · rw [← List.getD_eq_getElem?_getD]
    rw [hg]
    by_cases e : k = (j : Int)
    · subst e; simp; omega
    · have e2 : ¬ k.toNat = j := by omega
      have e3 : (k == (j : Int)) = false := by simpa using e
      rw [if_neg e2, e3]
      simp
/-- the numbers lo, lo + 1, .. -/
def upI (lo n : Nat) : List Int := (List.range' lo n).map Int.ofNat
theorem upI_len (lo n : Nat) : (upI lo n).length = n := by simp [upI]
theorem upI_app (lo a b : Nat) : upI lo a ++ upI (lo + a) b = upI lo (a + b) := by
  unfold upI
  rw [← List.map_append, List.range'_append_1]
theorem upI_mem {lo n : Nat} {k : Int} : k ∈ upI lo n ↔ (lo : Int) ≤ k ∧ k < (lo : Int) + n := by
  unfold upI
  simp only [List.mem_map, List.mem_range'_1]
  constructor
  · rintro ⟨a, h, rfl⟩; simp only [Int.ofNat_eq_natCast]; omega
  · intro h; exact ⟨k.toNat, by omega, by simp only [Int.ofNat_eq_natCast]; omega⟩
theorem upI_nodup (lo n : Nat) : (upI lo n).Nodup := by
  unfold upI
  rw [List.nodup_iff_pairwise_ne, List.pairwise_map]
  have := List.nodup_range' (s := lo) (n := n) (step := 1)
  rw [List.nodup_iff_pairwise_ne] at this
  exact this.imp fun h e => h (Int.ofNat.inj e)
theorem upI_count (lo n : Nat) (k : Int) : (upI lo n).count k = if (lo : Int) ≤ k ∧ k < (lo : Int) + n then 1 else 0 := by
  split
  · next h =>
    have h1 := List.nodup_iff_count.1 (upI_nodup lo n) k
    have h2 := List.count_pos_iff.2 (upI_mem.2 h)
    omega
  · next h => exact List.count_eq_zero.2 fun hm => h (upI_mem.1 hm)
theorem desc_in {ps : List Prt} (hd : Desc ps) : ∀ k ∈ ps.flatMap belowL, 0 ≤ k ∧ k < (ps.length : Int) - 1 := by
  intro k hk
  obtain ⟨p, hp, hk⟩ := List.mem_flatMap.1 hk
  obtain ⟨i, hi, rfl⟩ := List.getElem_of_mem hp
  have := hd i hi k hk
  omega
/-- each part but the last is used once -/
theorem valid_perm {ps : List Prt} (h : validF ps = true) : (ps.flatMap belowL).Perm (upI 0 (ps.length - 1)) := by
  have hd := validF_desc h
  have hl := validF_len h
  unfold validF at h
  rw [Bool.and_eq_true, Bool.and_eq_true] at h
  have h1 := h.2
  rw [List.perm_iff_count]
  intro k
  rw [upI_count]
  split
  · next hk =>
    obtain ⟨j, rfl⟩ := Int.eq_ofNat_of_zero_le (show 0 ≤ k by omega)
    have hb := bumps_at (ps.flatMap belowL) (List.replicate ps.length 0) (fun x hx => by have := desc_in hd x hx; rw [List.length_replicate]; omega) j (by rw [List.length_replicate]; omega)
    have ho : (usesF (List.replicate ps.length 0) ps).getD j 0 = 1 := by
      unfold onesB at h1
      rw [List.all_eq_true] at h1
      have hj : j < (usesF (List.replicate ps.length 0) ps).dropLast.length := by rw [List.length_dropLast, usesF_len, List.length_replicate]; omega
      have := of_decide_eq_true (h1 _ (List.getElem_mem hj))
      rw [List.getElem_dropLast] at this
      rw [List.getD_eq_getElem?_getD, List.getElem?_eq_getElem (by rw [usesF_len, List.length_replicate]; omega)]
      exact this
    unfold usesF at ho
    rw [ho, List.getD_eq_getElem?_getD, List.getElem?_replicate, if_pos (by omega)] at hb
    simp only [Option.getD_some] at hb
    omega
  · next hk =>
    refine List.count_eq_zero.2 fun hm => hk ?_
    have := desc_in hd k hm
    omega
theorem perm_valid {ps : List Prt} (hg : goodFrom 0 ps = true) (hl : 1 ≤ ps.length ∧ ps.length ≤ 12) (hp : (ps.flatMap belowL).Perm (upI 0 (ps.length - 1))) : validF ps = true := by
  have hd := goodFrom_desc hg
  unfold validF
  rw [Bool.and_eq_true, Bool.and_eq_true]
  refine ⟨⟨inB_iff.2 (by omega), hg⟩, ?_⟩
  unfold onesB
  rw [List.all_eq_true]
  intro x hx
  obtain ⟨j, hj, rfl⟩ := List.getElem_of_mem hx
  rw [List.length_dropLast, usesF_len, List.length_replicate] at hj
  have hb := bumps_at (ps.flatMap belowL) (List.replicate ps.length 0) (fun x hx => by have := desc_in hd x hx; rw [List.length_replicate]; omega) j (by rw [List.length_replicate]; omega)
  rw [hp.count_eq, upI_count, if_pos (by omega), List.getD_eq_getElem?_getD, List.getD_eq_getElem?_getD, List.getElem?_replicate, if_pos (by omega)] at hb
  simp only [Option.getD_some] at hb
  refine decide_eq_true ?_
  rw [List.getElem_dropLast]
  have hu : j < (usesF (List.replicate ps.length 0) ps).length := by rw [usesF_len, List.length_replicate]; omega
  have : (usesF (List.replicate ps.length 0) ps)[j]? = some ((usesF (List.replicate ps.length 0) ps)[j]) := List.getElem?_eq_getElem hu
  unfold usesF at this hu ⊢
  rw [this] at hb
  simp only [Option.getD_some] at hb
  rw [hb]; rfl

/-- more fuel than there are parts ahead changes nothing -/
theorem deepG_fuel {ps : List Prt} (hd : Desc ps) : ∀ (m m' i : Nat), i < m → i < m' → i < ps.length → deepG ps m i = deepG ps m' i := by
  intro m
  induction m with
  | zero => intro m' i h; omega
  | succ m ih =>
    intro m' i h1 h2 h3
    obtain ⟨m2, rfl⟩ : ∃ m2, m' = m2 + 1 := ⟨m' - 1, by omega⟩
    rw [deepG_succ, deepG_succ, getD_at h3]
    congr 1
    unfold maxs
    have : ∀ (ks : List Int) (d : Int), (∀ k ∈ ks, 0 ≤ k ∧ k < (i : Int)) → ks.foldl (fun d k => max d (deepG ps m k.toNat)) d = ks.foldl (fun d k => max d (deepG ps m2 k.toNat)) d := by
      intro ks
      induction ks with
      | nil => intro d _; rfl
      | cons k r ihr =>
        intro d hk
        have := hk k (by simp)
        rw [List.foldl_cons, List.foldl_cons, ih m2 k.toNat (by omega) (by omega) (by omega)]
        exact ihr _ fun x hx => hk x (by simp [hx])
    exact this _ _ (hd i h3)
theorem maxs_map (f : Int → Int) (ks : List Int) : maxs f ks = maxs id (ks.map f) := by
  unfold maxs
  rw [List.foldl_map]
  rfl

/-- what putting parts in order adds: roots of what is added, and how deep each is -/
def Grown (out r : List Prt) (roots ds : List Int) : Prop :=
  ∃ new, r = out ++ new ∧ goodFrom out.length new = true ∧ (new.flatMap belowL ++ roots).Perm (upI out.length new.length) ∧
    ∀ (ext : List Prt) (M : Nat), r.length ≤ M → roots.map (fun k => deepG (r ++ ext) M k.toNat) = ds
theorem Grown.refl (out : List Prt) : Grown out out [] [] := ⟨[], by simp, rfl, by simp [upI], fun _ _ _ => rfl⟩
theorem Grown.trans {a b c : List Prt} {r1 r2 d1 d2 : List Int} (h1 : Grown a b r1 d1) (h2 : Grown b c r2 d2) : Grown a c (r1 ++ r2) (d1 ++ d2) := by
  obtain ⟨n1, rfl, g1, p1, e1⟩ := h1
  obtain ⟨n2, rfl, g2, p2, e2⟩ := h2
  refine ⟨n1 ++ n2, by rw [List.append_assoc], ?_, ?_, fun ext M hM => ?_⟩
  · rw [goodFrom_app, g1]
    rw [List.length_append] at g2
    rw [Int.natCast_add] at g2
    exact g2
  · rw [List.flatMap_append, List.length_append, ← upI_app]
    rw [List.length_append] at p2
    refine List.Perm.trans ?_ (p1.append p2)
    rw [List.append_assoc, List.append_assoc]
    refine List.Perm.append_left _ ?_
    rw [← List.append_assoc, ← List.append_assoc]
    exact List.Perm.append_right _ List.perm_append_comm
  · have hM' : (a ++ n1).length ≤ M := by rw [List.length_append] at hM; omega
    rw [List.map_append, e2 ext M hM, List.append_assoc, e1 (n2 ++ ext) M hM']
theorem Grown.root {a b : List Prt} {rs ds : List Int} (h : Grown a b rs ds) : ∀ k ∈ rs, 0 ≤ k ∧ k < (b.length : Int) := by
  obtain ⟨n1, rfl, g1, p1, e1⟩ := h
  intro k hk
  have := upI_mem.1 (p1.subset (List.mem_append_right _ hk))
  rw [List.length_append]
  omega
/-- a part over the roots -/
theorem Grown.over {a b : List Prt} {rs ds : List Int} (h : Grown a b rs ds) {p : Prt} (hp : belowL p = rs) (ha : aloneB p = true) : Grown a (b ++ [p]) [(b.length : Int)] [maxs id ds + 1] := by
  have hr := h.root
  obtain ⟨n1, rfl, g1, p1, e1⟩ := h
  refine ⟨n1 ++ [p], by rw [List.append_assoc], ?_, ?_, fun ext M hM => ?_⟩
  · rw [goodFrom_snoc, g1, Bool.true_and]
    unfold goodB
    rw [ha, Bool.true_and, List.all_eq_true, hp]
    intro k hk
    have := hr k hk
    rw [List.length_append] at this
    exact inB_iff.2 (by omega)
  · rw [List.flatMap_append, show (n1 ++ [p]).length = n1.length + 1 from by simp, ← upI_app, List.length_append]
    simp only [List.flatMap_cons, List.flatMap_nil, List.append_nil, hp]
    exact List.Perm.append p1 (by simp [upI])
  · rw [List.length_append] at hM
    obtain ⟨M, rfl⟩ : ∃ M', M = M' + 1 := ⟨M - 1, by simp at hM; omega⟩
    have hb : (((a ++ n1) ++ [p]) ++ ext).getD (a ++ n1).length zP = p := by
      rw [List.getD_eq_getElem?_getD, List.append_assoc, List.getElem?_append_right (Nat.le_refl _), Nat.sub_self]
      rfl
    rw [List.map_cons, List.map_nil, Int.toNat_natCast, deepG_succ, hb, hp, maxs_map, List.append_assoc (a ++ n1), e1 ([p] ++ ext) M (by simp at hM ⊢; omega)]

/-- the parts below, laid one behind the other, and their roots -/
def rootsK (f : Int → List Prt → List Prt) : List Int → List Prt → List Int
  | [], _ => []
  | k :: ks, o => ((f k o).length - 1) :: rootsK f ks (f k o)
theorem kidsG_fst (f : Int → List Prt → List Prt) : ∀ (ks : List Int) (x : Nat) (s : List Prt × Prt), (kidsG f ks x s).1 = ks.foldl (fun o k => f k o) s.1 := by
  intro ks
  induction ks with
  | nil => intro x s; rfl
  | cons k r ih => intro x s; rw [kidsG, ih, List.foldl_cons]
theorem kids_below (f : Int → List Prt → List Prt) (p : Prt) (o : List Prt) : belowL (kidsG f (belowL p) 0 (o, p)).2 = rootsK f (belowL p) o ∧ (aloneB p = true → aloneB (kidsG f (belowL p) 0 (o, p)).2 = true) := by
  by_cases h8 : p.kd = 8
  · have e : belowL p = [p.pa, p.pb, p.pc] := by unfold belowL; rw [if_pos h8]
    rw [e]
    refine ⟨?_, fun h => ?_⟩
    · simp only [kidsG, rootsK, putF, belowL]
      rw [if_pos h8]
    · unfold aloneB at h ⊢
      simp only [kidsG, putF]
      rw [if_neg (by omega), if_neg (by omega), if_pos h8] at h ⊢
      exact h
  · by_cases h2 : 2 ≤ p.kd ∧ p.kd ≤ 7
    · have e : belowL p = [p.pa, p.pb] := by unfold belowL; rw [if_neg h8, if_pos h2]
      rw [e]
      refine ⟨?_, fun h => ?_⟩
      · simp only [kidsG, rootsK, putF, belowL]
        rw [if_neg h8, if_pos h2]
      · unfold aloneB at h ⊢
        simp only [kidsG, putF]
        rw [if_neg (by omega), if_neg (by omega), if_neg h8, if_pos h2] at h ⊢
        exact h
    · have e : belowL p = [] := by unfold belowL; rw [if_neg h8, if_neg h2]
      rw [e]
      exact ⟨e, fun h => h⟩
theorem grown_kids {f : Int → List Prt → List Prt} {d : Int → Int} : ∀ (ks : List Int) (o : List Prt), (∀ k ∈ ks, ∀ o, Grown o (f k o) [((f k o).length - 1 : Int)] [d k]) → Grown o (ks.foldl (fun o k => f k o) o) (rootsK f ks o) (ks.map d) := by
  intro ks
  induction ks with
  | nil => intro o _; exact Grown.refl o
  | cons k r ih =>
    intro o h
    rw [List.foldl_cons]
    exact (h k (by simp) o).trans (ih (f k o) fun x hx => h x (by simp [hx]))
theorem grown_post {ps : List Prt} (hd : Desc ps) (ha : ∀ i (h : i < ps.length), aloneB ps[i] = true) (m : Nat) : ∀ (i : Nat) (out : List Prt), i < m → i < ps.length → Grown out (postG ps m i out) [((postG ps m i out).length - 1 : Int)] [deepG ps m i] := by
  induction m with
  | zero => intro i out h; omega
  | succ m ih =>
    intro i out h1 h2
    have hk := grown_kids (f := fun k o => postG ps m k.toNat o) (d := fun k => deepG ps m k.toNat) (belowL ps[i]) out (fun k hk o => by
      have := hd i h2 k hk
      exact ih k.toNat o (by omega) (by omega))
    obtain ⟨kb, ka⟩ := kids_below (fun k o => postG ps m k.toNat o) ps[i] out
    have ho := hk.over kb (ka (ha i h2))
    rw [postG, deepG_succ, getD_at h2, kidsG_fst, maxs_map]
    rw [List.length_append, List.length_singleton, show (((belowL ps[i]).foldl (fun o k => postG ps m k.toNat o) out).length + 1 : Nat) - (1 : Int) = (((belowL ps[i]).foldl (fun o k => postG ps m k.toNat o) out).length : Int) by omega]
    exact ho

/-- how many parts there are from a part on down -/
def sizeG (ps : List Prt) : Nat → Nat → Nat
  | 0, _ => 0
  | m + 1, i => ((belowL (ps.getD i zP)).map fun k => sizeG ps m k.toNat).sum + 1
theorem postG_size (ps : List Prt) (m : Nat) : ∀ (i : Nat) (out : List Prt), (postG ps m i out).length = out.length + sizeG ps m i := by
  induction m with
  | zero => intro i out; rfl
  | succ m ih =>
    intro i out
    have : ∀ (ks : List Int) (o : List Prt), (ks.foldl (fun o k => postG ps m k.toNat o) o).length = o.length + (ks.map fun k => sizeG ps m k.toNat).sum := by
      intro ks
      induction ks with
      | nil => intro o; rfl
      | cons k r ihr => intro o; rw [List.foldl_cons, ihr, ih, List.map_cons, List.sum_cons]; omega
    rw [postG, List.length_append, kidsG_fst, this, sizeG, List.length_singleton]
    simp only
    omega
theorem sizeG_fuel {ps : List Prt} (hd : Desc ps) : ∀ (m m' i : Nat), i < m → i < m' → i < ps.length → sizeG ps m i = sizeG ps m' i := by
  intro m
  induction m with
  | zero => intro m' i h; omega
  | succ m ih =>
    intro m' i h1 h2 h3
    obtain ⟨m2, rfl⟩ : ∃ m2, m' = m2 + 1 := ⟨m' - 1, by omega⟩
    rw [sizeG, sizeG, getD_at h3]
    congr 2
    apply List.map_congr_left
    intro k hk
    have := hd i h3 k hk
    exact ih m2 k.toNat (by omega) (by omega) (by omega)
theorem perm_sum {f : Int → Nat} {a b : List Int} (h : a.Perm b) : (a.map f).sum = (b.map f).sum := by
  induction h with
  | nil => rfl
  | cons x _ ih => simp only [List.map_cons, List.sum_cons, ih]
  | swap x y l => simp only [List.map_cons, List.sum_cons]; omega
  | trans _ _ h1 h2 => exact h1.trans h2
theorem size_whole {ps : List Prt} (h : validF ps = true) : sizeG ps ps.length (ps.length - 1) = ps.length := by
  have hd := validF_desc h
  have hl := validF_len h
  have hp := valid_perm h
  have key : ∀ j, j ≤ ps.length → ((upI 0 j).map fun k => sizeG ps ps.length k.toNat).sum = j + (((ps.take j).flatMap belowL).map fun k => sizeG ps ps.length k.toNat).sum := by
    intro j
    induction j with
    | zero => intro _; rfl
    | succ j ih =>
      intro hj
      rw [← upI_app, List.map_append, List.sum_append, ih (by omega), List.take_succ_eq_append_getElem (by omega), List.flatMap_append, List.map_append, List.sum_append]
      obtain ⟨m, hm⟩ : ∃ m, ps.length = m + 1 := ⟨ps.length - 1, by omega⟩
      have e1 : sizeG ps ps.length j = ((belowL ps[j]).map fun k => sizeG ps ps.length k.toNat).sum + 1 := by
        rw [show sizeG ps ps.length j = sizeG ps (m + 1) j by rw [hm], sizeG, getD_at (by omega)]
        congr 2
        apply List.map_congr_left
        intro k hk
        have := hd j (by omega) k hk
        exact sizeG_fuel hd _ _ _ (by omega) (by omega) (by omega)
      have e2 : ((upI (0 + j) 1).map fun k => sizeG ps ps.length k.toNat).sum = sizeG ps ps.length j := by simp [upI]
      have e3 : (([ps[j]].flatMap belowL).map fun k => sizeG ps ps.length k.toNat).sum = ((belowL ps[j]).map fun k => sizeG ps ps.length k.toNat).sum := by simp
      rw [e2, e1, e3]
      omega
  have h1 := key ps.length (Nat.le_refl _)
  rw [List.take_length, perm_sum hp] at h1
  have h2 : upI 0 ps.length = upI 0 (ps.length - 1) ++ upI (0 + (ps.length - 1)) 1 := by rw [upI_app]; congr 1; omega
  rw [h2, List.map_append, List.sum_append] at h1
  have h3 : ((upI (0 + (ps.length - 1)) 1).map fun k => sizeG ps ps.length k.toNat).sum = sizeG ps ps.length (ps.length - 1) := by simp [upI]
  omega
theorem alone_at {ps : List Prt} (h : validF ps = true) : ∀ i (h : i < ps.length), aloneB ps[i] = true := by
  intro i hi
  unfold validF at h
  rw [Bool.and_eq_true, Bool.and_eq_true] at h
  have := goodFrom_at h.1.2 hi
  unfold goodB at this
  rw [Bool.and_eq_true] at this
  exact this.1
/-- in order it is valid, and as deep -/
theorem order_deep {ps : List Prt} (h : validF ps = true) : (orderF ps).length = ps.length ∧ validF (orderF ps) = true ∧ deepF (orderF ps) = deepF ps := by
  have hd := validF_desc h
  have hl := validF_len h
  have hn : (orderF ps).length = ps.length := by
    unfold orderF
    rw [if_pos h, postG_size, size_whole h]
    simp
  have hg : Grown [] (orderF ps) [((orderF ps).length - 1 : Int)] [deepG ps ps.length (ps.length - 1)] := by
    unfold orderF
    rw [if_pos h]
    exact grown_post hd (alone_at h) ps.length (ps.length - 1) [] (by omega) (by omega)
  obtain ⟨new, hr, g, p, e⟩ := hg
  rw [List.nil_append] at hr
  subst hr
  have hv : validF (orderF ps) = true := by
    refine perm_valid g (by omega) ?_
    have h2 : upI 0 (orderF ps).length = upI 0 ((orderF ps).length - 1) ++ [((orderF ps).length - 1 : Int)] := by
      have : upI 0 (orderF ps).length = upI 0 ((orderF ps).length - 1) ++ upI (0 + ((orderF ps).length - 1)) 1 := by rw [upI_app]; congr 1; omega
      rw [this]
      congr 1
      simp [upI]
      omega
    rw [List.length_nil, h2] at p
    exact (List.perm_append_right_iff _).1 p
  refine ⟨hn, hv, ?_⟩
  have e0 := e [] (orderF ps).length (Nat.le_refl _)
  rw [List.append_nil, List.map_cons, List.map_nil, List.cons.injEq] at e0
  have e1 := e0.1
  unfold deepF
  rw [if_pos h, if_pos hv, ← e1]
  congr 1
  omega
theorem deepG_pos (ps : List Prt) (m i : Nat) : 1 ≤ deepG ps (m + 1) i := by
  rw [deepG_succ]
  have := (maxs_in (f := fun k => deepG ps m k.toNat) (M := m) (belowL (ps.getD i zP)) (fun k _ => (deepG_in ps m _).2) (by omega)).1
  omega
theorem maxs_ge {f : Int → Int} : ∀ (ks : List Int) (k : Int), k ∈ ks → f k ≤ maxs f ks := by
  have gen : ∀ (ks : List Int) (d : Int), d ≤ ks.foldl (fun d k => max d (f k)) d ∧ ∀ k ∈ ks, f k ≤ ks.foldl (fun d k => max d (f k)) d := by
    intro ks
    induction ks with
    | nil => intro d; exact ⟨Int.le_refl _, fun k hk => by simp at hk⟩
    | cons x r ih =>
      intro d
      rw [List.foldl_cons]
      obtain ⟨i1, i2⟩ := ih (max d (f x))
      refine ⟨by omega, fun k hk => ?_⟩
      rcases List.mem_cons.1 hk with rfl | hk
      · omega
      · exact i2 k hk
  intro ks k hk
  exact (gen ks 0).2 k hk
/-- the law -/
theorem deep_law (ps : List Prt) : (validF ps = false ∧ deepF ps = -1) ∨ (validF ps = true ∧ 1 ≤ deepF ps ∧ deepF ps ≤ ps.length ∧ ps.length ≤ 12 ∧ (orderF ps).length = ps.length ∧ deepF (orderF ps) = deepF ps ∧ (deepF ps = 1 ↔ ps.length = 1)) := by
  cases h : validF ps
  · left; exact ⟨rfl, by unfold deepF; rw [h]; rfl⟩
  · right
    obtain ⟨o1, o2, o3⟩ := order_deep h
    have hl := validF_len h
    have hd := validF_desc h
    have e : deepF ps = deepG ps ps.length (ps.length - 1) := by unfold deepF; rw [if_pos h]
    obtain ⟨m, hm⟩ : ∃ m, ps.length = m + 1 := ⟨ps.length - 1, by omega⟩
    have h1 : 1 ≤ deepF ps := by rw [e, hm]; exact deepG_pos _ _ _
    have h2 : deepF ps ≤ ps.length := by rw [e]; exact (deepG_in _ _ _).2
    refine ⟨rfl, h1, h2, hl.2, o1, o3, fun h3 => ?_, fun h3 => by omega⟩
    by_cases hm0 : m = 0
    · omega
    exfalso
    have hp := valid_perm h
    have hk : ((m - 1 : Nat) : Int) ∈ ps.flatMap belowL := hp.symm.subset (upI_mem.2 (by omega))
    obtain ⟨p, hp, hk⟩ := List.mem_flatMap.1 hk
    obtain ⟨i, hi, rfl⟩ := List.getElem_of_mem hp
    have hki := hd i hi _ hk
    have him : i = m := by omega
    subst him
    rw [e, hm, Nat.add_sub_cancel, deepG_succ, getD_at hi] at h3
    have := maxs_ge (f := fun k => deepG ps i k.toNat) _ _ hk
    simp only [Int.toNat_natCast] at this
    obtain ⟨m2, rfl⟩ : ∃ m2, i = m2 + 1 := ⟨i - 1, by omega⟩
    have := deepG_pos ps m2 (m2 + 1 - 1)
    omega
end Go.Proofs.Ytlinngohbghimaa

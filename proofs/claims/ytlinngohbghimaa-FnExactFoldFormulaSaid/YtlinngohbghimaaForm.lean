/-
  Formulas: what the program and the reference compute of them, in plain Lean.
-/
import Derived.Test.YtlinngohbghimaaRecP
namespace Go.Proofs.Ytlinngohbghimaa
open Go.RowKit

/-- the parts below a part -/
def belowL (p : Prt) : List Int := if p.kd = 8 then [p.pa, p.pb, p.pc] else if 2 ≤ p.kd ∧ p.kd ≤ 7 then [p.pa, p.pb] else []
/-- all that a part does not have is as it should be -/
def aloneB (p : Prt) : Bool :=
  if p.kd = 0 then inB p.nn 0 99 && decide (p.pa = -1) && decide (p.pb = -1) && decide (p.pc = -1)
  else if p.kd = 1 then inB p.nn 0 9 && decide (p.pa = -1) && decide (p.pb = -1) && decide (p.pc = -1)
  else if p.kd = 8 then decide (p.nn = 0)
  else if 2 ≤ p.kd ∧ p.kd ≤ 7 then decide (p.nn = 0) && decide (p.pc = -1)
  else false
/-- a part that can stand at an index -/
def goodB (p : Prt) (i : Int) : Bool := aloneB p && (belowL p).all fun k => inB k 0 (i - 1)
def goodFrom : Int → List Prt → Bool
  | _, [] => true
  | i, p :: r => goodB p i && goodFrom (i + 1) r
theorem goodFrom_snoc (p : Prt) : ∀ (ps : List Prt) (i : Int), goodFrom i (ps ++ [p]) = (goodFrom i ps && goodB p (i + ps.length)) := by
  intro ps
  induction ps with
  | nil => intro i; simp [goodFrom]
  | cons q r ih =>
    intro i
    rw [List.cons_append, goodFrom, ih, goodFrom, Bool.and_assoc, List.length_cons]
    congr 3
    omega
theorem goodFrom_at {ps : List Prt} {i : Int} (h : goodFrom i ps = true) {j : Nat} (hj : j < ps.length) : goodB ps[j] (i + j) = true := by
  induction ps generalizing i j with
  | nil => simp at hj
  | cons q r ih =>
    rw [goodFrom, Bool.and_eq_true] at h
    cases j with
    | zero => simpa using h.1
    | succ j =>
      have := ih h.2 (j := j) (by simpa using hj)
      rw [List.getElem_cons_succ]
      rw [show i + ((j + 1 : Nat) : Int) = i + 1 + (j : Int) by omega]
      exact this
theorem goodFrom_not {ps : List Prt} {j : Nat} (hj : j < ps.length) (h : goodB ps[j] j = false) : goodFrom 0 ps = false := by
  rw [Bool.eq_false_iff]
  intro hg
  have := goodFrom_at hg hj
  rw [Int.zero_add, h] at this
  cases this
theorem goodFrom_take {ps : List Prt} {j : Nat} (hj : j < ps.length) (h : goodFrom 0 (ps.take j) = true) (h' : goodB ps[j] j = true) : goodFrom 0 (ps.take (j + 1)) = true := by
  rw [List.take_succ_eq_append_getElem hj, goodFrom_snoc, h, List.length_take, Nat.min_eq_left (by omega), Int.zero_add, h']
  rfl
/-- how often each index is used -/
def bump (u : List Int) (k : Int) : List Int := u.set k.toNat (u.getD k.toNat 0 + 1)
def usesF (u : List Int) (ps : List Prt) : List Int := (ps.flatMap belowL).foldl bump u
theorem bump_len (u : List Int) (k : Int) : (bump u k).length = u.length := by simp [bump]
theorem bumps_len (ks : List Int) : ∀ u : List Int, (ks.foldl bump u).length = u.length := by
  induction ks with
  | nil => intro u; rfl
  | cons k r ih => intro u; rw [List.foldl_cons, ih, bump_len]
theorem usesF_len (u : List Int) (ps : List Prt) : (usesF u ps).length = u.length := bumps_len _ _
theorem usesF_snoc (u : List Int) (ps : List Prt) (p : Prt) : usesF u (ps ++ [p]) = (belowL p).foldl bump (usesF u ps) := by
  unfold usesF
  rw [List.flatMap_append, List.foldl_append]
  simp
theorem bump_in {u : List Int} {M : Int} (h : ∀ x ∈ u, 0 ≤ x ∧ x ≤ M) (h0 : 0 ≤ M) (k : Int) : ∀ x ∈ bump u k, 0 ≤ x ∧ x ≤ M + 1 := by
  intro x hx
  unfold bump at hx
  rcases List.mem_or_eq_of_mem_set hx with hx | hx
  · have := h x hx; omega
  · subst hx
    rw [List.getD_eq_getElem?_getD]
    cases hg : u[k.toNat]? with
    | none => simp; omega
    | some y => have := h y (List.mem_of_getElem? hg); simp; omega
theorem bumps_in (ks : List Int) : ∀ {u : List Int} {M : Int}, (∀ x ∈ u, 0 ≤ x ∧ x ≤ M) → 0 ≤ M → ∀ x ∈ ks.foldl bump u, 0 ≤ x ∧ x ≤ M + ks.length := by
  induction ks with
  | nil => intro u M h h0 x hx; have := h x hx; simp; omega
  | cons k r ih =>
    intro u M h h0 x hx
    rw [List.foldl_cons] at hx
    have := ih (bump_in h h0 k) (by omega) x hx
    rw [List.length_cons]
    omega
theorem belowL_len (p : Prt) : (belowL p).length ≤ 3 := by
  unfold belowL
  split
  · simp
  · split <;> simp
theorem flat_len (ps : List Prt) : (ps.flatMap belowL).length ≤ 3 * ps.length := by
  induction ps with
  | nil => simp
  | cons p r ih => rw [List.flatMap_cons, List.length_append, List.length_cons]; have := belowL_len p; omega
theorem usesF_in (n : Nat) (ps : List Prt) : ∀ x ∈ usesF (List.replicate n 0) ps, 0 ≤ x ∧ x ≤ 3 * ps.length := by
  intro x hx
  have := bumps_in (ps.flatMap belowL) (u := List.replicate n 0) (M := 0) (fun y hy => by rw [List.mem_replicate] at hy; omega) (Int.le_refl _) x hx
  have := flat_len ps
  omega
def onesB (u : List Int) : Bool := u.dropLast.all fun x => decide (x = 1)
def validF (ps : List Prt) : Bool := inB ps.length 1 12 && goodFrom 0 ps && onesB (usesF (List.replicate ps.length 0) ps)
/-- each part's parts below stand ahead of it -/
def Desc (ps : List Prt) : Prop := ∀ i (h : i < ps.length), ∀ k ∈ belowL ps[i], 0 ≤ k ∧ k < (i : Int)
theorem goodFrom_desc {ps : List Prt} (h : goodFrom 0 ps = true) : Desc ps := by
  intro i hi k hk
  have := goodFrom_at h hi
  unfold goodB at this
  rw [Bool.and_eq_true, List.all_eq_true] at this
  have := inB_iff.1 (this.2 k hk)
  omega
theorem validF_desc {ps : List Prt} (h : validF ps = true) : Desc ps := by
  unfold validF at h
  rw [Bool.and_eq_true, Bool.and_eq_true] at h
  exact goodFrom_desc h.1.2
theorem validF_len {ps : List Prt} (h : validF ps = true) : 1 ≤ ps.length ∧ ps.length ≤ 12 := by
  unfold validF at h
  rw [Bool.and_eq_true, Bool.and_eq_true] at h
  have := inB_iff.1 h.1.1
  omega

/-- how many parts a way down from a part has at most -/
def deepG (ps : List Prt) : Nat → Nat → Int
  | 0, _ => 0
  | m + 1, i => (belowL (ps.getD i zP)).foldl (fun d k => max d (deepG ps m k.toNat)) 0 + 1
def maxs (f : Int → Int) (ks : List Int) : Int := ks.foldl (fun d k => max d (f k)) 0
theorem maxs_snoc (f : Int → Int) (ks : List Int) (k : Int) : maxs f (ks ++ [k]) = max (maxs f ks) (f k) := by unfold maxs; rw [List.foldl_append]; rfl
theorem maxs_in {f : Int → Int} {M : Int} (ks : List Int) (h : ∀ k ∈ ks, f k ≤ M) (h0 : 0 ≤ M) : 0 ≤ maxs f ks ∧ maxs f ks ≤ M := by
  have : ∀ (ks : List Int) (d : Int), 0 ≤ d → d ≤ M → (∀ k ∈ ks, f k ≤ M) → 0 ≤ ks.foldl (fun d k => max d (f k)) d ∧ ks.foldl (fun d k => max d (f k)) d ≤ M := by
    intro ks
    induction ks with
    | nil => intro d h1 h2 _; exact ⟨h1, h2⟩
    | cons k r ih =>
      intro d h1 h2 h3
      rw [List.foldl_cons]
      have := h3 k (by simp)
      exact ih _ (by omega) (by omega) fun k hk => h3 k (by simp [hk])
  exact this ks 0 (Int.le_refl _) h0 h
theorem deepG_succ (ps : List Prt) (m i : Nat) : deepG ps (m + 1) i = maxs (fun k => deepG ps m k.toNat) (belowL (ps.getD i zP)) + 1 := rfl
theorem deepG_in (ps : List Prt) (m : Nat) : ∀ i, 0 ≤ deepG ps m i ∧ deepG ps m i ≤ m := by
  induction m with
  | zero => intro i; simp [deepG]
  | succ m ih =>
    intro i
    rw [deepG_succ]
    have := maxs_in (f := fun k => deepG ps m k.toNat) (M := m) (belowL (ps.getD i zP)) (fun k _ => (ih _).2) (by omega)
    omega
def deepF (ps : List Prt) : Int := if validF ps then deepG ps ps.length (ps.length - 1) else -1

/-- one of the fields A, B, C -/
def putF (p : Prt) (x : Nat) (v : Int) : Prt := match x with
  | 0 => { p with pa := v }
  | 1 => { p with pb := v }
  | _ => { p with pc := v }
def kidsG (f : Int → List Prt → List Prt) : List Int → Nat → List Prt × Prt → List Prt × Prt
  | [], _, s => s
  | k :: ks, x, s => kidsG f ks (x + 1) (f k s.1, putF s.2 x ((f k s.1).length - 1))
theorem kidsG_snoc (f : Int → List Prt → List Prt) (k : Int) : ∀ (ks : List Int) (x : Nat) (s : List Prt × Prt),
    kidsG f (ks ++ [k]) x s = (f k (kidsG f ks x s).1, putF (kidsG f ks x s).2 (x + ks.length) ((f k (kidsG f ks x s).1).length - 1)) := by
  intro ks
  induction ks with
  | nil => intro x s; rfl
  | cons q r ih =>
    intro x s
    rw [List.cons_append, kidsG, ih, kidsG, List.length_cons, show x + 1 + r.length = x + (r.length + 1) by omega]
/-- the parts below a part and it, in order, behind others -/
def postG (ps : List Prt) : Nat → Nat → List Prt → List Prt
  | 0, _, out => out
  | m + 1, i, out => (kidsG (fun k o => postG ps m k.toNat o) (belowL (ps.getD i zP)) 0 (out, ps.getD i zP)).1 ++ [(kidsG (fun k o => postG ps m k.toNat o) (belowL (ps.getD i zP)) 0 (out, ps.getD i zP)).2]
theorem kidsG_len {f : Int → List Prt → List Prt} {M : Nat} (hf : ∀ k o, o.length ≤ (f k o).length ∧ (f k o).length ≤ o.length + M) : ∀ (ks : List Int) (x : Nat) (s : List Prt × Prt),
    s.1.length ≤ (kidsG f ks x s).1.length ∧ (kidsG f ks x s).1.length ≤ s.1.length + ks.length * M := by
  intro ks
  induction ks with
  | nil => intro x s; simp [kidsG]
  | cons q r ih =>
    intro x s
    rw [kidsG, List.length_cons, Nat.succ_mul]
    have h1 := hf q s.1
    have h2 := ih (x + 1) (f q s.1, putF s.2 x ((f q s.1).length - 1))
    simp only at h2
    omega
theorem postG_len (ps : List Prt) (m : Nat) : ∀ (i : Nat) (out : List Prt), out.length ≤ (postG ps m i out).length ∧ (postG ps m i out).length ≤ out.length + 4 ^ m := by
  induction m with
  | zero => intro i out; simp [postG]
  | succ m ih =>
    intro i out
    have h := kidsG_len (f := fun k o => postG ps m k.toNat o) (M := 4 ^ m) (fun k o => ih _ _) (belowL (ps.getD i zP)) 0 (out, ps.getD i zP)
    have h3 : (belowL (ps.getD i zP)).length * 4 ^ m ≤ 3 * 4 ^ m := Nat.mul_le_mul_right _ (belowL_len _)
    have h4 : 0 < 4 ^ m := Nat.pow_pos (by decide)
    rw [postG, List.length_append, Nat.pow_succ]
    simp only [List.length_cons, List.length_nil] at h ⊢
    omega
theorem postG_pos (ps : List Prt) (m i : Nat) (out : List Prt) : 0 < (postG ps (m + 1) i out).length := by rw [postG, List.length_append]; simp
def orderF (ps : List Prt) : List Prt := if validF ps then postG ps ps.length (ps.length - 1) [] else []
theorem pow12 {n : Nat} (h : n ≤ 12) : 4 ^ n ≤ 16777216 := Nat.le_trans (Nat.pow_le_pow_right (by decide) h) (by decide)
theorem orderF_len (ps : List Prt) : (orderF ps).length ≤ 16777216 := by
  unfold orderF
  split
  · next h => have := (postG_len ps ps.length (ps.length - 1) []).2; have := pow12 (validF_len h).2; simp at *; omega
  · simp
end Go.Proofs.Ytlinngohbghimaa

/-
  What clearing an owner does: the plain function, and what it keeps.
-/
import Derived.Test.YtnlbmiangbahgaaOwnE
namespace Go.Proofs.Ytnlbmiangbahgaa
open Go.RowKit

def shut (os : List Own) (k : Int) : List Own := match os[k.toNat]? with | some x => os.set k.toNat ⟨x.p, false, x.cl, x.cx⟩ | none => os
def wipe (os : List Own) (o : Int) : List Own := match os[o.toNat]? with | some x => os.set o.toNat ⟨x.p, x.op, [], x.cx⟩ | none => os
def clAt (os : List Own) (o : Int) : List Int := match os[o.toNat]? with | some x => x.cl | none => []
theorem shut_eq {os : List Own} {P : Nat} (h : P < os.length) : shut os (P : Int) = os.set P ⟨os[P].p, false, os[P].cl, os[P].cx⟩ := by simp [shut, h]
theorem wipe_eq {os : List Own} {P : Nat} (h : P < os.length) : wipe os (P : Int) = os.set P ⟨os[P].p, os[P].op, [], os[P].cx⟩ := by simp [wipe, h]
theorem clAt_eq {os : List Own} {P : Nat} (h : P < os.length) : clAt os (P : Int) = os[P].cl := by simp [clAt, h]
def stepG (f : List Own → Int → List Own × List Int) (acc : List Own × List Int) (k : Int) : List Own × List Int := (shut (f acc.1 k).1 k, acc.2 ++ (f acc.1 k).2)
def clearG : Nat → List Own → Int → List Own × List Int
  | 0, os, _ => (os, [])
  | m + 1, os, o => (wipe ((kidsF os o).reverse.foldl (stepG (clearG m)) (os, [])).1 o, ((kidsF os o).reverse.foldl (stepG (clearG m)) (os, [])).2 ++ (clAt ((kidsF os o).reverse.foldl (stepG (clearG m)) (os, [])).1 o).reverse)
/-- parents and contexts are as they were, no one has been opened -/
def Keep (os os' : List Own) : Prop := os'.length = os.length ∧ ∀ (i : Nat) (x : Own), os[i]? = some x → ∃ x', os'[i]? = some x' ∧ x'.p = x.p ∧ x'.cx = x.cx ∧ (x'.op = true → x.op = true)
theorem Keep.refl (os : List Own) : Keep os os := ⟨rfl, fun _ x h => ⟨x, h, rfl, rfl, fun h => h⟩⟩
theorem Keep.trans {a b c : List Own} (h : Keep a b) (k : Keep b c) : Keep a c := ⟨k.1.trans h.1, fun i x hx => by
  obtain ⟨y, hy, h1, h2, h3⟩ := h.2 i x hx
  obtain ⟨z, hz, k1, k2, k3⟩ := k.2 i y hy
  exact ⟨z, hz, k1.trans h1, k2.trans h2, fun e => h3 (k3 e)⟩⟩
theorem keep_set {os : List Own} {k : Nat} {x y : Own} (h : os[k]? = some x) (h1 : y.p = x.p) (h2 : y.cx = x.cx) (h3 : y.op = true → x.op = true) : Keep os (os.set k y) := ⟨by simp, fun i z hz => by
  by_cases e : i = k
  · subst e
    rw [h] at hz
    injection hz with hz
    subst hz
    exact ⟨y, get_set_self h, h1, h2, h3⟩
  · exact ⟨z, by rw [List.getElem?_set_ne (Ne.symm e)]; exact hz, rfl, rfl, fun h => h⟩⟩
theorem keep_shut (os : List Own) (k : Int) : Keep os (shut os k) := by
  unfold shut; split
  · next x hx => exact keep_set hx rfl rfl (fun h => by cases h)
  · exact Keep.refl _
theorem keep_wipe (os : List Own) (k : Int) : Keep os (wipe os k) := by
  unfold wipe; split
  · next x hx => exact keep_set hx rfl rfl (fun h => h)
  · exact Keep.refl _
theorem keep_fold (f : List Own → Int → List Own × List Int) (hf : ∀ os k, Keep os (f os k).1) (ks : List Int) (acc : List Own × List Int) : Keep acc.1 (ks.foldl (stepG f) acc).1 := by
  induction ks generalizing acc with
  | nil => exact Keep.refl _
  | cons k r ih => exact ((hf _ _).trans (keep_shut _ _)).trans (ih _)
theorem keep_clearG (m : Nat) (os : List Own) (o : Int) : Keep os (clearG m os o).1 := by
  induction m generalizing os o with
  | zero => exact Keep.refl _
  | succ m ih => exact (keep_fold (clearG m) ih _ (os, [])).trans (keep_wipe _ _)
theorem Keep.ahead {os os' : List Own} (h : Keep os os') (ha : Ahead os) : Ahead os' := fun i x hx => by
  have hi : i < os.length := by rw [← h.1]; exact (List.getElem?_eq_some_iff.1 hx).1
  obtain ⟨y, hy, h1, _⟩ := h.2 i _ (List.getElem?_eq_getElem hi)
  rw [hx] at hy
  injection hy with hy
  subst hy
  rw [h1]; exact ha i _ (List.getElem?_eq_getElem hi)
def clTot (os : List Own) : Nat := (os.map fun o => o.cl.length).sum
theorem clTot_set {os : List Own} {k : Nat} {x y : Own} (h : os[k]? = some x) : clTot (os.set k y) + x.cl.length = clTot os + y.cl.length := by
  induction os generalizing k with
  | nil => simp at h
  | cons z r ih =>
    cases k with
    | zero => simp at h; subst h; simp [clTot]; omega
    | succ k => have := ih (k := k) (by simpa using h); simp [clTot] at this ⊢; omega
theorem clTot_shut (os : List Own) (k : Int) : clTot (shut os k) = clTot os := by
  unfold shut; split
  · next x hx => have := clTot_set (y := ⟨x.p, false, x.cl, x.cx⟩) hx; simp at this; omega
  · rfl
theorem clTot_wipe (os : List Own) (o : Int) : clTot (wipe os o) + (clAt os o).length = clTot os := by
  unfold wipe clAt
  split
  · next x hx => have := clTot_set (y := ⟨x.p, x.op, [], x.cx⟩) hx; simp at this; exact this
  · rfl
theorem clTot_fold (f : List Own → Int → List Own × List Int) (hf : ∀ os k, clTot (f os k).1 + (f os k).2.length = clTot os) (ks : List Int) (acc : List Own × List Int) :
    clTot (ks.foldl (stepG f) acc).1 + (ks.foldl (stepG f) acc).2.length = clTot acc.1 + acc.2.length := by
  induction ks generalizing acc with
  | nil => rfl
  | cons k r ih =>
    have h1 := ih (stepG f acc k)
    have h2 := hf acc.1 k
    simp only [List.foldl_cons]
    rw [h1]
    simp only [stepG, clTot_shut, List.length_append]
    omega
theorem clTot_clearG (m : Nat) (os : List Own) (o : Int) : clTot (clearG m os o).1 + (clearG m os o).2.length = clTot os := by
  induction m generalizing os o with
  | zero => simp [clearG]
  | succ m ih =>
    have h1 := clTot_fold (clearG m) ih (kidsF os o).reverse (os, [])
    have h2 := clTot_wipe ((kidsF os o).reverse.foldl (stepG (clearG m)) (os, [])).1 o
    simp only [clearG, List.length_append, List.length_reverse]
    simp only [List.length_nil, Nat.add_zero] at h1
    omega
theorem clTot_le (os : List Own) : clTot os ≤ tot os := by
  induction os with
  | nil => simp [clTot, tot]
  | cons x r ih => simp [clTot, tot] at ih ⊢; omega
theorem tot_keep {os os' : List Own} (h : Keep os os') : tot os' + clTot os = tot os + clTot os' := by
  induction os generalizing os' with
  | nil =>
    have : os' = [] := List.eq_nil_of_length_eq_zero (by simpa using h.1)
    subst this; rfl
  | cons x r ih =>
    cases os' with
    | nil => have := h.1; simp at this
    | cons y s =>
      have hk : Keep r s := ⟨by have := h.1; simpa using this, fun i z hz => by have := h.2 (i + 1) z (by simpa using hz); simpa using this⟩
      have h1 := ih hk
      obtain ⟨z, hz, _, h3, _⟩ := h.2 0 x rfl
      simp at hz
      subst hz
      simp [tot, clTot, h3] at h1 ⊢
      omega
theorem kids_in {os : List Own} {o : Int} {k : Int} (h : k ∈ kidsF os o) : ∃ i : Nat, k = i ∧ i < os.length ∧ (∃ x, os[i]? = some x ∧ x.p = o ∧ x.op = true) := by
  obtain ⟨i, h1, h2, h3⟩ := mem_selF.1 h
  rw [kidB_at h1, Bool.and_eq_true, beq_iff_eq] at h2
  exact ⟨i, h3, h1, _, List.getElem?_eq_getElem h1, h2.2, h2.1⟩
def clearF (os : List Own) (o : Int) : List Own × List Int := clearG os.length os o
def rerunF (os : List Own) (o : Int) : List Own × List Int := if opB os o then clearF os o else ([], [])
def dispF (os : List Own) (o : Int) : List Own × List Int := if opB os o && !(o == 0) then (shut (clearF os o).1 o, (clearF os o).2) else ([], [])
/-- a list of owners and a list of ints, both new, each in blocks of its own -/
def RetOI (p : List Own × List Int) (w : World) (e : Ending) (w' : World) : Prop :=
  ∃ A c A2 c2 mid, (w.heap.size ≤ mid ∧ mid ≤ w'.heap.size) ∧ e = .returned (.tuple #[.slice A p.1.length c, .slice A2 p.2.length c2]) ∧ SlO w' w.heap.size mid A c p.1 ∧ SlI w' mid w'.heap.size A2 c2 p.2 ∧ Below w.heap.size w w'
theorem RetOI.bad {p : List Own × List Int} {w w' : World} (h : p = ([], [])) (b : Below w.heap.size w w') : RetOI p w (.returned (.tuple #[.slice none 0 0, .slice none 0 0])) w' := by
  subst h; exact ⟨none, 0, none, 0, w.heap.size, ⟨Nat.le_refl _, b.size⟩, rfl, SlO.nil, SlI.nil, b⟩
end Go.Proofs.Ytnlbmiangbahgaa

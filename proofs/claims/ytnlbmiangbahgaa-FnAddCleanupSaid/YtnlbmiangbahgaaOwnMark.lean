/-
  laws.markOwnerS, heldOwnerS: each cell of a list of owners gets a number of its own, and keeps it; laws.eqOwnerS.
-/
import Derived.Test.YtnlbmiangbahgaaOwnSz
import Derived.Test.YtnlbmiangbahgaaLists
import Derived.Deep.RegionHeld3
namespace Go.Proofs.Ytnlbmiangbahgaa
open Go.RowKit

section
variable {w w' : World} {lo hi c a b : Nat} {A : Option Addr} {ps : List (Own × Hd)}
theorem SlP.innerCl (h : SlP w lo hi A c ps) {k : Nat} {x : Own × Hd} (hk : ps[k]? = some x) (xs : List Int) (hl : xs.length = x.1.cl.length) (ht : Turn a b w w')
    (hab : ∀ m, a ≤ m → m < b → m ∈ live x.2.clA x.2.clC) (hs : SlI w' a b x.2.clA x.2.clC xs) : SlP w' lo hi A c (ps.set k (⟨x.1.p, x.1.op, xs, x.1.cx⟩, x.2)) :=
  h.inner hk (by simp [ocells, hl]) ht
    (Sl.range hs fun m hm => by have := (h.cl k x hk).live_in m hm; exact ⟨this.1, this.2.1⟩)
    (Sl.apart (h.cx k x hk) ht fun m hm => by
      have : ¬ (a ≤ m ∧ m < b) := fun h2 => h.d2 k x hk m (hab m h2.1 h2.2) hm
      omega)
    (fun m h1 h2 => List.mem_append_left _ (hab m h1 h2))
theorem SlP.innerCx (h : SlP w lo hi A c ps) {k : Nat} {x : Own × Hd} (hk : ps[k]? = some x) (xs : List Int) (hl : xs.length = x.1.cx.length) (ht : Turn a b w w')
    (hab : ∀ m, a ≤ m → m < b → m ∈ live x.2.cxA x.2.cxC) (hs : SlI w' a b x.2.cxA x.2.cxC xs) : SlP w' lo hi A c (ps.set k (⟨x.1.p, x.1.op, x.1.cl, xs⟩, x.2)) :=
  h.inner hk (by simp [ocells, hl]) ht
    (Sl.apart (h.cl k x hk) ht fun m hm => by
      have : ¬ (a ≤ m ∧ m < b) := fun h2 => h.d2 k x hk m hm (hab m h2.1 h2.2)
      omega)
    (Sl.range hs fun m hm => by have := (h.cx k x hk).live_in m hm; exact ⟨this.1, this.2.1⟩)
    (fun m h1 h2 => List.mem_append_right _ (hab m h1 h2))
end

def markO (k : Int) (o : Own) : Own := ⟨k, (k + 1) % 3 == 0, marks (k + 1 + 1) o.cl.length, marks (k + 1 + 1 + o.cl.length) o.cx.length⟩
def marksO (k : Int) : List Own → List Own
  | [] => []
  | o :: r => markO k o :: marksO (k + 2 + (o.cl.length + o.cx.length : Nat)) r
theorem marksO_len (k : Int) (os : List Own) : (marksO k os).length = os.length := by
  induction os generalizing k with
  | nil => rfl
  | cons o r ih => rw [marksO, List.length_cons, List.length_cons, ih]
/-- the number behind the marks of a list -/
def endO (k : Int) (os : List Own) : Int := k + 2 * os.length + tot os
theorem endO_cons (k : Int) (o : Own) (r : List Own) : endO (k + 2 + (o.cl.length + o.cx.length : Nat)) r = endO k (o :: r) := by
  simp only [endO, tot, List.map_cons, List.sum_cons, List.length_cons]; omega
theorem marksO_snoc (k : Int) (os : List Own) (o : Own) : marksO k (os ++ [o]) = marksO k os ++ [markO (endO k os) o] := by
  induction os generalizing k with
  | nil => simp [marksO, endO, tot]
  | cons x r ih => rw [List.cons_append, marksO, ih, endO_cons, marksO, List.cons_append]
theorem endO_snoc (k : Int) (os : List Own) (o : Own) : endO k (os ++ [o]) = endO k os + 1 + 1 + o.cl.length + o.cx.length := by
  simp only [endO, tot_snoc, List.length_append, List.length_cons, List.length_nil]; omega
theorem endO_take (k : Int) (os : List Own) (j : Nat) (hj : j ≤ os.length) : k ≤ endO k (os.take j) ∧ endO k (os.take j) ≤ endO k os := by
  have := tot_take_le os j
  simp only [endO, List.length_take]
  constructor <;> omega
theorem marksO_at (k : Int) (os : List Own) (j : Nat) (hj : j < os.length) : (marksO k os)[j]'(by rw [marksO_len]; exact hj) = markO (endO k (os.take j)) os[j] := by
  induction os generalizing k j with
  | nil => simp at hj
  | cons x r ih =>
    cases j with
    | zero => simp [marksO, endO, tot]
    | succ j => simp only [marksO, List.getElem_cons_succ, List.take_succ_cons, ← endO_cons]; exact ih _ _ _
theorem tot_marks (k : Int) (os : List Own) : tot (marksO k os) = tot os := by
  induction os generalizing k with
  | nil => rfl
  | cons o r ih =>
    have := ih (k + 2 + (o.cl.length + o.cx.length : Nat))
    simp only [tot, marksO, List.map_cons, List.sum_cons] at this ⊢
    rw [this]
    simp [markO, marks_len]




end Go.Proofs.Ytnlbmiangbahgaa

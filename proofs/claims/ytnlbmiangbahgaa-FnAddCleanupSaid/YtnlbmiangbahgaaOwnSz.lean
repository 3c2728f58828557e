/-
  laws.szIntS, szOwner, szOwnerS: how much is left of a bound; laws.eqOwner, eqOwnerS: two lists of owners are compared.
-/
import Derived.Test.YtnlbmiangbahgaaOwnTo
import Derived.Test.YtnlbmiangbahgaaEqI
namespace Go.Proofs.Ytnlbmiangbahgaa
open Go.RowKit

/-- what is left of l behind m: -1 where it is too little -/
def Sz (l m v : Int) : Prop := (0 ≤ v ∧ v = l - m) ∨ (v = -1 ∧ l < m)


def SzB (l m : Int) (w : World) (e : Ending) (w' : World) : Prop := ∃ v : Int, e = .returned (.int .i64 v) ∧ Sz l m v ∧ Below w.heap.size w w'

/-- how many numbers lie in the inner lists -/
def tot (os : List Own) : Nat := (os.map fun o => o.cl.length + o.cx.length).sum
theorem tot_snoc (os : List Own) (o : Own) : tot (os ++ [o]) = tot os + (o.cl.length + o.cx.length) := by simp [tot]
theorem tot_take_le (os : List Own) (k : Nat) : tot (os.take k) ≤ tot os := by
  conv => rhs; rw [← List.take_append_drop k os]
  simp only [tot, List.map_append, List.sum_append]
  omega
theorem mem_tot {os : List Own} {o : Own} (h : o ∈ os) : o.cl.length + o.cx.length ≤ tot os := by
  obtain ⟨a, b, rfl⟩ := List.append_of_mem h
  simp only [tot, List.map_append, List.map_cons, List.sum_append, List.sum_cons]
  omega


end Go.Proofs.Ytnlbmiangbahgaa

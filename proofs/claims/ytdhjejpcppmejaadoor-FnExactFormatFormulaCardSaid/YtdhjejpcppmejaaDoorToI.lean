/-
  laws.toIntS: a copy of a slice of ints, in a block of its own.
-/
import Derived.Test.YtdhjejpcppmejaaDoorInts
import Derived.Test.YtdhjejpcppmejaaDoorRows
namespace Go.Proofs.YtdhjejpcppmejaaDoor
open Go.RowKit

def zeroI (n : Nat) : List Value := List.replicate n (.int .i64 0)
theorem zeroI_len (xs : List Int) : (zeroI xs.length).length = (ints xs).length := by simp [zeroI]
theorem made_zeroI (n : Nat) : madeCells #[.int .i64 0] n = (zeroI n).toArray := by
  apply Array.ext'; rw [toList_madeCells_one]; rfl

end Go.Proofs.YtdhjejpcppmejaaDoor

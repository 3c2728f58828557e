/-
  The walk of laws.FnExactConstants: all constants are as they should be.
-/
import Derived.Test.YthfkmlpnefpipaaRows
import Derived.WalkKit
namespace Go.Proofs.Ythfkmlpnefpipaa
open Go.RowKit
theorem walkFnExactConstants (w : World) : Calls Try.prog 3 #[] w fun e w' => e = .returned (.bool true) ∧ Below w.heap.size w w' := by
  go_enter Try.func3, Try.ntmps3
  go_wp2
  go_ret
  exact ⟨rfl, Below.refl _ _⟩
end Go.Proofs.Ythfkmlpnefpipaa

/-
  laws.eqIntS, laws.equalInts: two slices of ints are compared.
-/
import Derived.Test.YtdhjejpcppmejaaDoorMem
import Derived.Test.YtdhjejpcppmejaaDoorRows
namespace Go.Proofs.YtdhjejpcppmejaaDoor
open Go.RowKit

theorem take_eq_succ {α : Type} {xs ys : List α} {k : Nat} (h : xs.take k = ys.take k) (hx : k < xs.length) (hy : k < ys.length) (e : xs[k] = ys[k]) : xs.take (k + 1) = ys.take (k + 1) := by
  rw [List.take_succ_eq_append_getElem hx, List.take_succ_eq_append_getElem hy, h, e]
theorem ne_of_at {α : Type} {xs ys : List α} {k : Nat} (hx : k < xs.length) (hy : k < ys.length) (e : xs[k] ≠ ys[k]) : xs ≠ ys := by
  rintro rfl; exact e rfl

def QuietBool (w : World) (b : Bool) (e : Ending) (w' : World) : Prop := ∃ d, e = .returned (.bool b) ∧ w' = w.drewN d
theorem qb {P : Program} {f : FuncId} {args : Array Value} {w : World} {b : Bool} (h : Calls P f args w (QuietBool w b)) : Calls P f args w fun e w' => e = .returned (.bool b) ∧ Below w.heap.size w w' :=
  h.mono fun _ _ ⟨d, he, hw⟩ => ⟨he, hw ▸ below_drewN (Below.refl _ _) d⟩





end Go.Proofs.YtdhjejpcppmejaaDoor

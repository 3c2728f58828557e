/-
  What came in, opened to the words for memory: a formula.
-/
import Derived.Test.YtlinngohbghimaaOpenP
namespace Go.Proofs.Ytlinngohbghimaa
open Go.ChangeShapes Go.WideShapes Go.ChangeAt Go.RowKit

section
variable {H : Type} {enc : TypeId × Value → H} {W : World} {base : Nat} {v : Value} {d : DataW H} {p : List MemPlace}
set_option maxRecDepth 100000 in
theorem openP (hv : Value.okWide Try.prog W .any base 24 v) (h : DataW.Trod enc Try.prog W 0 (fun _ => true) true 24 v d p) :
    ∃ (A : Option Addr) (c : Nat) (xs : List Prt), v = .agg #[.slice A xs.length c] ∧ RdP W W.heap.size A xs ∧ xs.length ≤ 9223372036854775807 := by
  obtain ⟨cs, rfl, hcs⟩ := okWide_struct Try.underlying24 hv
  have hC : Try.prog.cellsOf 24 = 1 := by kernel_rfl
  have hS : Try.prog.cellsOf 22 = 1 := by kernel_rfl
  rw [hC] at hcs
  obtain ⟨v0, rfl⟩ : ∃ v0, cs = #[v0] := by
    cases cs with
    | mk l =>
      match l, hcs with
      | [v0], _ => exact ⟨v0, rfl⟩
  obtain ⟨fuel, hf⟩ := h
  obtain ⟨y0, n, _, _, h0⟩ := trod_struct1 Try.underlying24 hf
  have h1 : DataW.trod enc Try.prog W 0 (fun _ => true) true n 22 [v0] = some y0 := by simpa [Value.cells, hS] using h0
  obtain ⟨A, c, xs, e, h2, _, h3⟩ := trodP h1
  subst e
  exact ⟨A, c, xs, rfl, h2, h3⟩
end
end Go.Proofs.Ytlinngohbghimaa

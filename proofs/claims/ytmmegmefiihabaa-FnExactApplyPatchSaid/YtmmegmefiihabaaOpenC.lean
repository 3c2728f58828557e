/-
  What came in, opened to the words for memory: a slice of records (Change).
-/
import Derived.Test.YtmmegmefiihabaaRecC
import Derived.Test.YtmmegmefiihabaaOpen
import Derived.Deep.Slices
import Derived.ChangeArms
namespace Go.Proofs.Ytmmegmefiihabaa
open Go.ChangeShapes Go.WideShapes Go.ChangeAt Go.RowKit

section
variable {H : Type} {enc : TypeId × Value → H} {W : World} {base : Nat} {v : Value} {d : DataW H} {p : List MemPlace}
theorem rowsC_at (xs : List Chg) (i j : Nat) (x : Chg) (h : xs[i]? = some x) (hj : j < 3) : (ints (rows cC xs))[i * 3 + j]? = (ints (cC x))[j]? := by
  rw [List.getElem?_map, rows_get kC xs i j x h hj, List.getElem?_map]
theorem trodC {fuel : Nat} {y : DataW H × List MemPlace} (h : DataW.trod enc Try.prog W 0 (fun _ => true) true fuel 36 [v] = some y) :
    ∃ (A : Option Addr) (c : Nat) (xs : List Chg), v = .slice A xs.length c ∧ RdC W W.heap.size A xs ∧ xs.length ≤ c ∧ xs.length ≤ 9223372036854775807 := by
  rcases Go.Deep.open_slice Try.underlying36 h with ⟨hcs, _⟩ | ⟨a, len', cap', m, n, D, Pl, hcs, _, hl, hm, hmm, _, hi⟩
  · simp only [List.cons.injEq, and_true] at hcs
    exact ⟨none, 0, [], hcs, RdR.nil, by simp, by simp⟩
  · simp only [List.cons.injEq, and_true] at hcs
    subst hcs
    have hmc : m = cap' := by simpa using hmm
    have hC : Try.prog.cellsOf 71 = 3 := by kernel_rfl
    have ci : Try.prog.cellsOf 3 = 1 := by kernel_rfl
    have each : ∀ i : Fin len', ∃ x : Chg, ∀ j u, (ints (cC x))[j]? = some u → W.cell? (a.add (i.1 * 3 + j)) = some u := by
      intro i
      obtain ⟨cs', hc, ht⟩ := hi i.1 (by have := i.2; omega)
      rw [hC] at hc
      obtain ⟨ys, n', _, _, hlen, hyl, hfl⟩ := DataW.trod_struct Try.underlying71 ht
      rw [hC] at hlen
      obtain ⟨_, hcl, hat⟩ := World.cells?_some hc
      match cs', hlen, hcl with
      | [v0, v1, v2], _, _ =>
        have hys : ys.length = 3 := hyl
        match ys, hys with
        | [y0, y1, y2], _ =>
          obtain ⟨x0, e0, _, _⟩ := DataW.trod_int (k := .i64) Try.underlying3 ((by have := hfl 0 _ rfl; simpa [ci] using this) : DataW.trod enc Try.prog W 0 (fun _ => true) true n' 3 [v0] = some y0)
          obtain ⟨x1, e1, _, _⟩ := DataW.trod_int (k := .i64) Try.underlying3 ((by have := hfl 1 _ rfl; simpa [ci] using this) : DataW.trod enc Try.prog W 0 (fun _ => true) true n' 3 [v1] = some y1)
          obtain ⟨x2, e2, _, _⟩ := DataW.trod_int (k := .i64) Try.underlying3 ((by have := hfl 2 _ rfl; simpa [ci] using this) : DataW.trod enc Try.prog W 0 (fun _ => true) true n' 3 [v2] = some y2)
          simp only [List.cons.injEq, and_true] at e0 e1 e2
          refine ⟨⟨x0, x1, x2⟩, fun j u hu => ?_⟩
          have hj : j < 3 := (List.getElem?_eq_some_iff.1 hu).1
          have := hat j hj
          rw [add_of_add] at this
          rw [this, ← hu, e0, e1, e2]
          rfl
    obtain ⟨F, hF⟩ := Classical.axiomOfChoice each
    unfold maxLen at hm
    refine ⟨some a, cap', List.ofFn F, by simp, fun hne => ⟨a, rfl, ?_, fun j u hu => ?_⟩, by simp; omega, by simp; omega⟩
    · have hpos : 0 < len' := by
        rcases Nat.eq_zero_or_pos len' with h0 | h0
        · subst h0; simp [rows] at hne
        · exact h0
      have := hF ⟨0, hpos⟩ 0 _ rfl
      exact World.block_lt_of_cell? W a (by simpa [Addr.add] using this)
    · have hj : j < (ints (rows cC (List.ofFn F))).length := (List.getElem?_eq_some_iff.1 hu).1
      rw [List.length_map, rows_len kC, List.length_ofFn] at hj
      have hd : j / 3 < len' := by omega
      have hx : (List.ofFn F)[j / 3]? = some (F ⟨j / 3, hd⟩) := by rw [List.getElem?_ofFn, dif_pos hd]
      have e := rowsC_at (List.ofFn F) (j / 3) (j % 3) _ hx (by omega)
      rw [show j / 3 * 3 + j % 3 = j by omega, hu] at e
      have := hF ⟨j / 3, hd⟩ (j % 3) u e.symm
      rwa [show j / 3 * 3 + j % 3 = j by omega] at this
theorem openC (hv : Value.okWide Try.prog W .any base 36 v) (h : DataW.Trod enc Try.prog W 0 (fun _ => true) true 36 v d p) :
    ∃ (A : Option Addr) (c : Nat) (xs : List Chg), v = .slice A xs.length c ∧ RdC W W.heap.size A xs ∧ xs.length ≤ 9223372036854775807 := by
  obtain ⟨A, len, cap, rfl⟩ := okWide_slice Try.underlying36 hv
  obtain ⟨fuel, hf⟩ := h
  obtain ⟨A', c, xs, e, h1, _, h2⟩ := trodC (by simpa [Value.cells] using hf)
  exact ⟨A', c, xs, e, h1, h2⟩
end
end Go.Proofs.Ytmmegmefiihabaa

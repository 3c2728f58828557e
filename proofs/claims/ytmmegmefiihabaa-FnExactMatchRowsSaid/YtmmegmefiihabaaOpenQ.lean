/-
  What came in, opened to the words for memory: a slice of records (Row).
-/
import Derived.Test.YtmmegmefiihabaaRecQ
import Derived.Test.YtmmegmefiihabaaOpen
import Derived.Deep.Slices
import Derived.ChangeArms
namespace Go.Proofs.Ytmmegmefiihabaa
open Go.ChangeShapes Go.WideShapes Go.ChangeAt Go.RowKit

section
variable {H : Type} {enc : TypeId × Value → H} {W : World} {base : Nat} {v : Value} {d : DataW H} {p : List MemPlace}
theorem rowsQ_at (xs : List Rwx) (i j : Nat) (x : Rwx) (h : xs[i]? = some x) (hj : j < 2) : (ints (rows cQ xs))[i * 2 + j]? = (ints (cQ x))[j]? := by
  rw [List.getElem?_map, rows_get kQ xs i j x h hj, List.getElem?_map]
theorem trodQ {fuel : Nat} {y : DataW H × List MemPlace} (h : DataW.trod enc Try.prog W 0 (fun _ => true) true fuel 48 [v] = some y) :
    ∃ (A : Option Addr) (c : Nat) (xs : List Rwx), v = .slice A xs.length c ∧ RdQ W W.heap.size A xs ∧ xs.length ≤ c ∧ xs.length ≤ 9223372036854775807 := by
  rcases Go.Deep.open_slice Try.underlying48 h with ⟨hcs, _⟩ | ⟨a, len', cap', m, n, D, Pl, hcs, _, hl, hm, hmm, _, hi⟩
  · simp only [List.cons.injEq, and_true] at hcs
    exact ⟨none, 0, [], hcs, RdR.nil, by simp, by simp⟩
  · simp only [List.cons.injEq, and_true] at hcs
    subst hcs
    have hmc : m = cap' := by simpa using hmm
    have hC : Try.prog.cellsOf 81 = 2 := by kernel_rfl
    have ci : Try.prog.cellsOf 3 = 1 := by kernel_rfl
    have each : ∀ i : Fin len', ∃ x : Rwx, ∀ j u, (ints (cQ x))[j]? = some u → W.cell? (a.add (i.1 * 2 + j)) = some u := by
      intro i
      obtain ⟨cs', hc, ht⟩ := hi i.1 (by have := i.2; omega)
      rw [hC] at hc
      obtain ⟨ys, n', _, _, hlen, hyl, hfl⟩ := DataW.trod_struct Try.underlying81 ht
      rw [hC] at hlen
      obtain ⟨_, hcl, hat⟩ := World.cells?_some hc
      match cs', hlen, hcl with
      | [v0, v1], _, _ =>
        have hys : ys.length = 2 := hyl
        match ys, hys with
        | [y0, y1], _ =>
          obtain ⟨x0, e0, _, _⟩ := DataW.trod_int (k := .i64) Try.underlying3 ((by have := hfl 0 _ rfl; simpa [ci] using this) : DataW.trod enc Try.prog W 0 (fun _ => true) true n' 3 [v0] = some y0)
          obtain ⟨x1, e1, _, _⟩ := DataW.trod_int (k := .i64) Try.underlying3 ((by have := hfl 1 _ rfl; simpa [ci] using this) : DataW.trod enc Try.prog W 0 (fun _ => true) true n' 3 [v1] = some y1)
          simp only [List.cons.injEq, and_true] at e0 e1
          refine ⟨⟨x0, x1⟩, fun j u hu => ?_⟩
          have hj : j < 2 := (List.getElem?_eq_some_iff.1 hu).1
          have := hat j hj
          rw [add_of_add] at this
          rw [this, ← hu, e0, e1]
          rfl
    obtain ⟨F, hF⟩ := Classical.axiomOfChoice each
    unfold maxLen at hm
    refine ⟨some a, cap', List.ofFn F, by simp, fun hne => ⟨a, rfl, ?_, fun j u hu => ?_⟩, by simp; omega, by simp; omega⟩
    · have hpos : 0 < len' := by
        rcases Nat.eq_zero_or_pos len' with h0 | h0
        · subst h0; simp [rows] at hne
        · exact h0
      have := hF ⟨0, hpos⟩ 0 _ rfl
      exact World.block_lt_of_cell? W a (by simpa [Addr.add] using this)
    · have hj : j < (ints (rows cQ (List.ofFn F))).length := (List.getElem?_eq_some_iff.1 hu).1
      rw [List.length_map, rows_len kQ, List.length_ofFn] at hj
      have hd : j / 2 < len' := by omega
      have hx : (List.ofFn F)[j / 2]? = some (F ⟨j / 2, hd⟩) := by rw [List.getElem?_ofFn, dif_pos hd]
      have e := rowsQ_at (List.ofFn F) (j / 2) (j % 2) _ hx (by omega)
      rw [show j / 2 * 2 + j % 2 = j by omega, hu] at e
      have := hF ⟨j / 2, hd⟩ (j % 2) u e.symm
      rwa [show j / 2 * 2 + j % 2 = j by omega] at this
theorem openQ (hv : Value.okWide Try.prog W .any base 48 v) (h : DataW.Trod enc Try.prog W 0 (fun _ => true) true 48 v d p) :
    ∃ (A : Option Addr) (c : Nat) (xs : List Rwx), v = .slice A xs.length c ∧ RdQ W W.heap.size A xs ∧ xs.length ≤ 9223372036854775807 := by
  obtain ⟨A, len, cap, rfl⟩ := okWide_slice Try.underlying48 hv
  obtain ⟨fuel, hf⟩ := h
  obtain ⟨A', c, xs, e, h1, _, h2⟩ := trodQ (by simpa [Value.cells] using hf)
  exact ⟨A', c, xs, e, h1, h2⟩
end
end Go.Proofs.Ytmmegmefiihabaa

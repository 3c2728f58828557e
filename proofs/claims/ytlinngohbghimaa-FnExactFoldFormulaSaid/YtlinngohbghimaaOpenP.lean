/-
  What came in, opened to the words for memory: a slice of records (Part).
-/
import Derived.Test.YtlinngohbghimaaRecP
import Derived.Test.YtlinngohbghimaaOpen
import Derived.Deep.Slices
import Derived.ChangeArms
namespace Go.Proofs.Ytlinngohbghimaa
open Go.ChangeShapes Go.WideShapes Go.ChangeAt Go.RowKit

section
variable {H : Type} {enc : TypeId × Value → H} {W : World} {base : Nat} {v : Value} {d : DataW H} {p : List MemPlace}
theorem rowsP_at (xs : List Prt) (i j : Nat) (x : Prt) (h : xs[i]? = some x) (hj : j < 5) : (ints (rows cP xs))[i * 5 + j]? = (ints (cP x))[j]? := by
  rw [List.getElem?_map, rows_get kP xs i j x h hj, List.getElem?_map]
set_option maxRecDepth 100000 in
theorem trodP {fuel : Nat} {y : DataW H × List MemPlace} (h : DataW.trod enc Try.prog W 0 (fun _ => true) true fuel 22 [v] = some y) :
    ∃ (A : Option Addr) (c : Nat) (xs : List Prt), v = .slice A xs.length c ∧ RdP W W.heap.size A xs ∧ xs.length ≤ c ∧ xs.length ≤ 9223372036854775807 := by
  rcases Go.Deep.open_slice Try.underlying22 h with ⟨hcs, _⟩ | ⟨a, len', cap', m, n, D, Pl, hcs, _, hl, hm, hmm, _, hi⟩
  · simp only [List.cons.injEq, and_true] at hcs
    exact ⟨none, 0, [], hcs, RdR.nil, by simp, by simp⟩
  · simp only [List.cons.injEq, and_true] at hcs
    subst hcs
    have hmc : m = cap' := by simpa using hmm
    have hC : Try.prog.cellsOf 71 = 5 := by kernel_rfl
    have ci : Try.prog.cellsOf 3 = 1 := by kernel_rfl
    have each : ∀ i : Fin len', ∃ x : Prt, ∀ j u, (ints (cP x))[j]? = some u → W.cell? (a.add (i.1 * 5 + j)) = some u := by
      intro i
      obtain ⟨cs', hc, ht⟩ := hi i.1 (by have := i.2; omega)
      rw [hC] at hc
      obtain ⟨ys, n', _, _, hlen, hyl, hfl⟩ := DataW.trod_struct Try.underlying71 ht
      rw [hC] at hlen
      obtain ⟨_, hcl, hat⟩ := World.cells?_some hc
      match cs', hlen, hcl with
      | [v0, v1, v2, v3, v4], _, _ =>
        have hys : ys.length = 5 := hyl
        match ys, hys with
        | [y0, y1, y2, y3, y4], _ =>
          obtain ⟨x0, e0, _, _⟩ := DataW.trod_int (k := .i64) Try.underlying3 ((by have := hfl 0 _ rfl; simpa [ci] using this) : DataW.trod enc Try.prog W 0 (fun _ => true) true n' 3 [v0] = some y0)
          obtain ⟨x1, e1, _, _⟩ := DataW.trod_int (k := .i64) Try.underlying3 ((by have := hfl 1 _ rfl; simpa [ci] using this) : DataW.trod enc Try.prog W 0 (fun _ => true) true n' 3 [v1] = some y1)
          obtain ⟨x2, e2, _, _⟩ := DataW.trod_int (k := .i64) Try.underlying3 ((by have := hfl 2 _ rfl; simpa [ci] using this) : DataW.trod enc Try.prog W 0 (fun _ => true) true n' 3 [v2] = some y2)
          obtain ⟨x3, e3, _, _⟩ := DataW.trod_int (k := .i64) Try.underlying3 ((by have := hfl 3 _ rfl; simpa [ci] using this) : DataW.trod enc Try.prog W 0 (fun _ => true) true n' 3 [v3] = some y3)
          obtain ⟨x4, e4, _, _⟩ := DataW.trod_int (k := .i64) Try.underlying3 ((by have := hfl 4 _ rfl; simpa [ci] using this) : DataW.trod enc Try.prog W 0 (fun _ => true) true n' 3 [v4] = some y4)
          simp only [List.cons.injEq, and_true] at e0 e1 e2 e3 e4
          refine ⟨⟨x0, x1, x2, x3, x4⟩, fun j u hu => ?_⟩
          have hj : j < 5 := (List.getElem?_eq_some_iff.1 hu).1
          have := hat j hj
          rw [add_of_add] at this
          rw [this, ← hu, e0, e1, e2, e3, e4]
          rfl
    obtain ⟨F, hF⟩ := Classical.axiomOfChoice each
    unfold maxLen at hm
    refine ⟨some a, cap', List.ofFn F, by simp, fun hne => ⟨a, rfl, ?_, fun j u hu => ?_⟩, by simp; omega, by simp; omega⟩
    · have hpos : 0 < len' := by
        rcases Nat.eq_zero_or_pos len' with h0 | h0
        · subst h0; simp [rows] at hne
        · exact h0
      have := hF ⟨0, hpos⟩ 0 _ rfl
      exact World.block_lt_of_cell? W a (by simpa [Addr.add] using this)
    · have hj : j < (ints (rows cP (List.ofFn F))).length := (List.getElem?_eq_some_iff.1 hu).1
      rw [List.length_map, rows_len kP, List.length_ofFn] at hj
      have hd : j / 5 < len' := by omega
      have hx : (List.ofFn F)[j / 5]? = some (F ⟨j / 5, hd⟩) := by rw [List.getElem?_ofFn, dif_pos hd]
      have e := rowsP_at (List.ofFn F) (j / 5) (j % 5) _ hx (by omega)
      rw [show j / 5 * 5 + j % 5 = j by omega, hu] at e
      have := hF ⟨j / 5, hd⟩ (j % 5) u e.symm
      rwa [show j / 5 * 5 + j % 5 = j by omega] at this
end
end Go.Proofs.Ytlinngohbghimaa

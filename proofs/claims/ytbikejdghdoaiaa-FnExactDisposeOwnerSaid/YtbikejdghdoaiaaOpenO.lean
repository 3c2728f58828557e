/-
  What came in, opened to the words for memory: a slice of owners.
-/
import Derived.Test.YtbikejdghdoaiaaOwn
import Derived.Test.YtbikejdghdoaiaaOpen
import Derived.Deep.Slices
import Derived.ChangeArms
namespace Go.Proofs.Ytbikejdghdoaiaa
open Go.ChangeShapes Go.WideShapes Go.ChangeAt Go.RowKit

section
variable {H : Type} {enc : TypeId × Value → H} {W : World} {base : Nat} {v : Value} {d : DataW H} {p : List MemPlace}
/-- a slice of ints in a field -/
theorem open_inner {fuel : Nat} {y : DataW H × List MemPlace} (h : DataW.trod enc Try.prog W 0 (fun _ => true) true fuel 38 [v] = some y) :
    ∃ (A : Option Addr) (c : Nat) (xs : List Int), v = .slice A xs.length c ∧ RdI W W.heap.size A xs ∧ xs.length ≤ c ∧ xs.length ≤ 9223372036854775807 := by
  have hlt := DataW.trod_lt _ _ _ _ h
  rcases open_ints Try.underlying38 Try.underlying3 (by kernel_rfl) h with ⟨hcs, _⟩ | ⟨x, l, c, zs, hcs, _, hl, hm, hz, hx, hcell, _⟩
  · simp only [List.cons.injEq, and_true] at hcs
    exact ⟨none, 0, [], hcs, RdI.nil, by simp, by simp⟩
  · simp only [List.cons.injEq, and_true] at hcs
    have hzl : zs.length = c := by simpa using hz
    have hlen : (zs.take l).length = l := by simp; omega
    unfold maxLen at hm
    refine ⟨some x, c, zs.take l, by rw [hcs, hlen], fun hn => ⟨x, rfl, ?_, fun j u hu => ?_⟩, by omega, by omega⟩
    · have hpos : 0 < l := by
        rcases Nat.eq_zero_or_pos l with h0 | h0
        · subst h0; simp at hn
        · exact h0
      have := hcell 0 (by omega)
      exact World.block_lt_of_cell? W x (by simpa [Addr.add] using this)
    · have hj : j < (ints (zs.take l)).length := (List.getElem?_eq_some_iff.1 hu).1
      simp only [List.length_map, hlen] at hj
      rw [hcell j (by omega), ← hu, List.getElem?_map, List.getElem?_take, if_pos hj, List.getD_eq_getElem?_getD, List.getElem?_eq_getElem (by omega : j < zs.length)]
      rfl

theorem openO (hv : Value.okWide Try.prog W .any base 22 v) (h : DataW.Trod enc Try.prog W 0 (fun _ => true) true 22 v d p) :
    ∃ (A : Option Addr) (c : Nat) (os : List Own), v = .slice A os.length c ∧ RdO W W.heap.size A os ∧ os.length ≤ 9223372036854775807 ∧ ∀ o ∈ os, o.cl.length ≤ 9223372036854775807 ∧ o.cx.length ≤ 9223372036854775807 := by
  obtain ⟨A, len, cap, rfl⟩ := okWide_slice Try.underlying22 hv
  obtain ⟨fuel, hf⟩ := h
  rcases Go.Deep.open_slice Try.underlying22 hf with ⟨hcs, _⟩ | ⟨a, len', cap', m, n, D, Pl, hcs, _, hl, hm, hmm, _, hi⟩
  · simp [Value.cells] at hcs
    obtain ⟨rfl, rfl, rfl⟩ := hcs
    exact ⟨none, 0, [], rfl, ⟨[], rfl, Rd.nil, by simp⟩, by simp, by simp⟩
  · simp [Value.cells] at hcs
    obtain ⟨rfl, rfl, rfl⟩ := hcs
    have hmc : m = cap := by simpa using hmm
    have hC : Try.prog.cellsOf 53 = 4 := by kernel_rfl
    have ci : Try.prog.cellsOf 3 = 1 := by kernel_rfl
    have cb : Try.prog.cellsOf 4 = 1 := by kernel_rfl
    have cs : Try.prog.cellsOf 38 = 1 := by kernel_rfl
    have each : ∀ i : Fin len, ∃ x : Own × Hd, (∀ j u, (ocells x)[j]? = some u → W.cell? (a.add (i.1 * 4 + j)) = some u) ∧ RdI W W.heap.size x.2.clA x.1.cl ∧ RdI W W.heap.size x.2.cxA x.1.cx ∧ x.1.cl.length ≤ x.2.clC ∧ x.1.cx.length ≤ x.2.cxC ∧ x.1.cl.length ≤ 9223372036854775807 ∧ x.1.cx.length ≤ 9223372036854775807 := by
      intro i
      obtain ⟨cs', hc, ht⟩ := hi i.1 (by have := i.2; omega)
      rw [hC] at hc
      obtain ⟨ys, n', _, _, hlen, hyl, hfl⟩ := DataW.trod_struct Try.underlying53 ht
      rw [hC] at hlen
      obtain ⟨_, hcl, hat⟩ := World.cells?_some hc
      match cs', hlen, hcl with
      | [v0, v1, v2, v3], _, _ =>
        have hys : ys.length = 4 := hyl
        match ys, hys with
        | [y0, y1, y2, y3], _ =>
          obtain ⟨x0, e0, _, _⟩ := DataW.trod_int (k := .i64) Try.underlying3 ((by have := hfl 0 _ rfl; simpa [ci] using this) : DataW.trod enc Try.prog W 0 (fun _ => true) true n' 3 [v0] = some y0)
          obtain ⟨x1, e1, _⟩ := DataW.trod_bool Try.underlying4 ((by have := hfl 1 _ rfl; simpa [cb] using this) : DataW.trod enc Try.prog W 0 (fun _ => true) true n' 4 [v1] = some y1)
          obtain ⟨A2, c2, x2, e2, r2, l2, m2⟩ := open_inner ((by have := hfl 2 _ rfl; simpa [cs] using this) : DataW.trod enc Try.prog W 0 (fun _ => true) true n' 38 [v2] = some y2)
          obtain ⟨A3, c3, x3, e3, r3, l3, m3⟩ := open_inner ((by have := hfl 3 _ rfl; simpa [cs] using this) : DataW.trod enc Try.prog W 0 (fun _ => true) true n' 38 [v3] = some y3)
          simp only [List.cons.injEq, and_true] at e0 e1
          refine ⟨(⟨x0, x1, x2, x3⟩, ⟨A2, c2, A3, c3⟩), fun j u hu => ?_, r2, r3, l2, l3, m2, m3⟩
          have hj : j < 4 := by rw [← ocells_len ((⟨x0, x1, x2, x3⟩, ⟨A2, c2, A3, c3⟩) : Own × Hd)]; exact (List.getElem?_eq_some_iff.1 hu).1
          have := hat j hj
          rw [add_of_add] at this
          rw [this, ← hu, e0, e1, e2, e3]
          rfl
    obtain ⟨F, hF⟩ := Classical.axiomOfChoice each
    have hget : ∀ (i : Nat) (x : Own × Hd), (List.ofFn F)[i]? = some x → ∃ h : i < len, x = F ⟨i, h⟩ := fun i x hx => by
      rw [List.getElem?_ofFn] at hx
      split at hx
      · next h => exact ⟨h, by injection hx with hx; exact hx.symm⟩
      · cases hx
    unfold maxLen at hm
    refine ⟨some a, cap, (List.ofFn F).map Prod.fst, by simp, ⟨List.ofFn F, rfl, fun hne => ⟨a, rfl, ?_, fun j u hu => ?_⟩, fun i x hx => ?_⟩, by simp; omega, fun o ho => ?_⟩
    · have hpos : 0 < len := by
        rcases Nat.eq_zero_or_pos len with h0 | h0
        · subst h0; simp [orow] at hne
        · exact h0
      have := (hF ⟨0, hpos⟩).1 0 _ rfl
      exact World.block_lt_of_cell? W a (by simpa [Addr.add] using this)
    · have hj : j < (orow (List.ofFn F)).length := (List.getElem?_eq_some_iff.1 hu).1
      rw [orow_len, List.length_ofFn] at hj
      have hd : j / 4 < len := by omega
      have hx : (List.ofFn F)[j / 4]? = some (F ⟨j / 4, hd⟩) := by rw [List.getElem?_ofFn, dif_pos hd]
      have e := orow_get (List.ofFn F) (j / 4) (j % 4) _ hx (by omega)
      rw [show j / 4 * 4 + j % 4 = j by omega, hu] at e
      have := (hF ⟨j / 4, hd⟩).1 (j % 4) u e.symm
      rwa [show j / 4 * 4 + j % 4 = j by omega] at this
    · obtain ⟨hlt, rfl⟩ := hget i x hx
      obtain ⟨_, h2, h3, h4, h5, _⟩ := hF ⟨i, hlt⟩
      exact ⟨h2, h3, h4, h5⟩
    · obtain ⟨x, hx, rfl⟩ := List.mem_map.1 ho
      obtain ⟨i, hi, rfl⟩ := List.getElem_of_mem hx
      obtain ⟨hlt, e⟩ := hget i _ (List.getElem?_eq_getElem hi)
      rw [e]
      exact ⟨(hF ⟨i, hlt⟩).2.2.2.2.2.1, (hF ⟨i, hlt⟩).2.2.2.2.2.2⟩
end
end Go.Proofs.Ytbikejdghdoaiaa

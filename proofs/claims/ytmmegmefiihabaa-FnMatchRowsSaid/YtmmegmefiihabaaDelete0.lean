/-
  The builtin clear on the end of a slice of the call's own.
-/
import Derived.Test.YtmmegmefiihabaaLists
namespace Go.Proofs.Ytmmegmefiihabaa
open Go.RowKit

theorem zeroCells_int (n : Nat) : (Builtin.zeroCells #[Value.int .i64 0] n).toList = ints (List.replicate n 0) := by
  simp only [Builtin.zeroCells, ints, List.map_replicate]
  rw [Array.toList_map, Array.toList_range]
  apply List.ext_getElem (by simp)
  intro i h1 h2
  simp [Nat.mod_one]

theorem run_clear {A' : Option Addr} {ty : TypeId} {lo hi c c' m i : Nat} {A : Option Addr} {w : World} (zs : List Int) (h : SlI w lo hi A c zs) (hi' : i ≤ zs.length) (hm : m = zs.length - i) (hA : 0 < m → A' = A.map (·.add i)) :
    ∃ w', (Builtin.clear_ #[23] ty #[.slice A' m c']).run Try.prog w = .ok (.tuple #[]) w' ∧ SlI w' lo hi A c (zs.take i ++ List.replicate m 0) ∧ Turn lo hi w w' ∧ w'.heap.size = w.heap.size := by
  rcases Nat.eq_zero_or_pos m with h0 | hpos
  · refine ⟨w, ?_, ?_, Turn.refl _ _ _, rfl⟩
    · subst h0
      have hu := run_underlying (P := Try.prog) (w := w) Try.underlying23
      cases A' <;> simp [Builtin.clear_, hu]
    · subst h0
      have hl : zs.length ≤ i := by omega
      rw [List.take_of_length_le hl]
      simpa using h
  · obtain ⟨g, o, cur, rfl, h6, h7, h8, h9, h10⟩ := Sl.block h (by have := h.le; omega)
    have hA' := hA hpos
    rw [Option.map_some, add_lit] at hA'
    subst hA'
    have hc := h.le
    have hst := run_storeCells_cells (P := Try.prog) g (o + i) (ints (List.replicate m 0)) 0 w (fun j hj => by
        simp at hj
        rw [h8.cell, Array.getElem?_eq_getElem (by omega)]; rfl) (fun j hj => h8.frozen _) (ints_oneCell _ _)
    have hz : (zeroValue 3).run Try.prog w = .ok (.int .i64 0) w := by kernel_rfl
    refine ⟨w.setCells g (o + i) (ints (List.replicate m 0)), ?_, ?_, Turn.grown (grownBy_setCells w g _ _) (fun k e => by cases e; exact h6) (fun k e => by cases e; exact h7), ?_⟩
    · have hu := run_underlying (P := Try.prog) (w := w) Try.underlying23
      have hmm : m ≠ 0 := by omega
      have hzc := zeroCells_int m
      simp only [Nat.add_zero] at hst
      obtain ⟨m', rfl⟩ : ∃ m', m = m' + 1 := ⟨m - 1, by omega⟩
      have er : ints (List.replicate (m' + 1) 0) = List.replicate (m' + 1) (Value.int .i64 0) := by simp [ints]
      rw [er] at hst hzc ⊢
      simp [Builtin.clear_, hu, hz, Value.cells, hzc, hst]
    · have hb := blk_setCells (ints (List.replicate m 0)) (o + i) cur h8 (by simp; omega)
      have hlen : (zs.take i ++ List.replicate m (0 : Int)).length = zs.length := by simp; omega
      unfold SlI
      rw [hlen]
      refine ⟨by simp; omega, hc, .inr ⟨g, o, _, rfl, h6, h7, hb, by simp; omega, ?_⟩⟩
      have e1 : (cur.toList.drop o).take i = ints (zs.take i) := by
        rw [ints, List.map_take, ← show _ = List.map (Value.int .i64) zs from h10, List.take_take]
        congr 1; omega
      have e2 : (cur.toList.take (o + i) ++ ints (List.replicate m 0) ++ cur.toList.drop (o + i + (ints (List.replicate m 0)).length)).drop o = ints (zs.take i) ++ (ints (List.replicate m 0) ++ cur.toList.drop (o + i + (ints (List.replicate m 0)).length)) := by
        rw [List.append_assoc, List.drop_append_of_le_length (by simp; omega), List.drop_take, Nat.add_sub_cancel_left, e1]
      rw [List.toList_toArray, e2, ← List.append_assoc, ints, ints, ← List.map_append]
      exact List.take_left' (by simp; omega)
    · have : ∀ (vs : List Value) (o : Nat) (w : World), (w.setCells g o vs).heap.size = w.heap.size := by
        intro vs
        induction vs with
        | nil => intro o w; rfl
        | cons v r ih => intro o w; rw [World.setCells, ih]; simp [World.setCell]
      exact this _ _ _

section
variable {w : World} {ops : Array Oper} {rest : List Oper} {o : Oper} {a : Act} {Q : Exit → Act → World → Prop}
/-- clear(s[i:]) -/
theorem wpList_clearI (x : Operand) (hgd : o.guard = none) (ho : o.op = .call { callee := .builtin .clear, args := #[x], argTypes := #[23] })
    {lo hi c c' m i : Nat} {A A' : Option Addr} (zs : List Int) (hx : a.eval x = .slice A' m c') (h : SlI w lo hi A c zs) (hi' : i ≤ zs.length) (hm : m = zs.length - i) (hA : 0 < m → A' = A.map (·.add i))
    (hk : ∀ w', SlI w' lo hi A c (zs.take i ++ List.replicate m 0) → Turn lo hi w w' → w'.heap.size = w.heap.size → wpList Try.prog ops Q rest (a.put o.dst (.tuple #[])) w') : wpList Try.prog ops Q (o :: rest) a w := by
  refine wpList_plain hgd fun K hK => ?_
  obtain ⟨w', hrun, h2, h3, h4⟩ := run_clear (ty := o.type) (c' := c') zs h hi' hm hA
  unfold Oper.wp execOp
  simp only [ho, resolve, invoke, builtin, Sem.run_bind, Sem.run_pure, Result.andThen_ok, List.map_toArray, List.map_cons, List.map_nil, hx, hrun]
  exact hK _ _ (hk w' h2 h3 h4)
end
end Go.Proofs.Ytmmegmefiihabaa

/-
  slices.Sort and slices.Compact at a slice of ints of the call's own.
-/
import Derived.Test.YtlinngohbghimaaShelfSort
namespace Go.Proofs.Ytlinngohbghimaa
open Go.RowKit Go.Shelf Go.Sort

theorem blk_mapB {w : World} {b : Nat} {t : TypeId} {cs : Array Value} (f : Array Value → Array Value) (h : Blk w b t cs) : Blk (mapBlock w b f) b t (f cs) := by
  unfold Blk at h ⊢
  unfold mapBlock
  simp only [Array.getElem?_modify]
  rw [if_pos trivial, h]
  rfl
theorem turn_mapB (w : World) (b : Nat) (f : Array Value → Array Value) : Turn b (b + 1) w (mapBlock w b f) :=
  ⟨rfl, rfl, rfl, by simp [mapBlock], fun k _ ho => by
    unfold mapBlock
    simp only [Array.getElem?_modify]
    rw [if_neg (by omega)]⟩
theorem turn_grow {lo hi : Nat} {w w' : World} (h : Turn lo hi w w') (os : Array Obj) : Turn lo hi w (grow w' os) :=
  ⟨h.os, h.tape, h.output, by rw [size_grow]; have := h.size; omega, fun k hk ho => (heap_grow_old w' os (by have := h.size; omega)).trans (h.block k hk ho)⟩
theorem turn_ahead {lo hi q : Nat} {w w' : World} (h : Turn lo hi (Go.Sort.ahead w q) w') : Turn lo hi w w' := ⟨h.os, h.tape, h.output, h.size, h.block⟩
theorem blk_grow {w : World} {b : Nat} {t : TypeId} {cs : Array Value} (h : Blk w b t cs) (os : Array Obj) : Blk (grow w os) b t cs := (heap_grow_old w os h.lt).trans h
theorem putC_row (o : Nat) (ys : List Int) (cur : Array Value) (h : o + ys.length ≤ cur.size) (m : Nat) (hm : m ≤ ys.length) :
    ((putCells (Value.int .i64) o ys.toArray cur).toList.drop o).take m = ints (ys.take m) := by
  apply List.ext_getElem?
  intro j
  rw [List.getElem?_take]
  by_cases hj : j < m
  · rw [if_pos hj, List.getElem?_drop, Array.getElem?_toList]
    unfold putCells
    rw [Array.getElem?_mapIdx, Array.getElem?_eq_getElem (by omega), List.getElem?_map, List.getElem?_take, if_pos hj, List.getElem?_eq_getElem (by omega)]
    simp only [Option.map_some]
    rw [if_pos ⟨by omega, by simp; omega⟩, Nat.add_sub_cancel_left]
    simp [show j < ys.length by omega]
  · rw [if_neg hj, List.getElem?_eq_none (by simp; omega)]
theorem SlI.hold {w : World} {lo hi c g o : Nat} {xs : List Int} (h : SlI w lo hi (some ⟨g, o, none⟩) c xs) (hf : ∀ j, w.frozen? ⟨g, o + j, none⟩ = false) : Holds (Value.int .i64) w g o xs.toArray := fun j hj => by
  have hj' : j < xs.length := by simpa using hj
  refine ⟨?_, hf _⟩
  obtain ⟨ad, e, _, hc⟩ := h.rd.at_ hj'
  injection e with e
  subst e
  have := hc j hj'
  rw [add_lit] at this
  rw [this]
  simp [hj']
/-- a row of ints put into the cells of a slice of the call's own -/
theorem SlI.row {w w1 : World} {lo hi c g o : Nat} {xs ys : List Int} {cur : Array Value} (h1 : lo ≤ g) (h2 : g < hi) (h3 : Blk w1 g 3 cur) (h4 : o + c * 1 ≤ cur.size) (hxc : xs.length ≤ c) (hw : Turn lo hi w w1) (zs : List Int) (hz : zs.length = xs.length) (hys : ys = zs.take ys.length) (hyl : ys.length ≤ zs.length) (os : Array Obj) :
    SlI (grow (putRow (Value.int .i64) w1 g o zs.toArray) os) lo hi (some ⟨g, o, none⟩) c ys ∧ Turn lo hi w (grow (putRow (Value.int .i64) w1 g o zs.toArray) os) := by
  have hb : Blk (putRow (Value.int .i64) w1 g o zs.toArray) g 3 (putCells (Value.int .i64) o zs.toArray cur) := blk_mapB _ h3
  refine ⟨⟨by simp, by omega, .inr ⟨g, o, _, rfl, h1, h2, blk_grow hb os, by simp only [putCells, Array.size_mapIdx]; omega, ?_⟩⟩, turn_grow (hw.trans ((turn_mapB w1 g _).mono h1 (by omega))) os⟩
  rw [Nat.mul_one, putC_row o zs cur (by omega) _ hyl, ← hys]

theorem slicesSort {A : Option Addr} {c n lo hi : Nat} {w : World} (xs : List Int) (ln : xs.length = n) (hn : n < 4611686018427387904) (h : SlI w lo hi A c xs) :
    Calls Try.prog 66 #[.slice A n c] w fun e w' => e = .returned (.tuple #[]) ∧ SlI w' lo hi A c (xs.mergeSort fun x y => decide (x ≤ y)) ∧ Turn lo hi w w' := by
  subst ln
  by_cases hx : xs = []
  · subst hx
    refine Calls.mono (show Calls Try.prog 66 _ _ _ from Any.slices_Sort_int_none laysSort A c w) ?_
    rintro e w' ⟨rfl, rfl⟩
    exact ⟨rfl, by simpa using h, Turn.refl _ _ _⟩
  · have hp : 0 < xs.length := List.length_pos_iff.2 hx
    have hle := h.le
    have hh := h
    obtain ⟨g, o, cur, rfl, h1, h2, h3, h4, h5⟩ := Sl.block h (by omega)
    have hc := Any.slices_Sort_int laysSort g o c xs w (hh.hold fun j => h3.frozen _) h3.lt hn
    refine Calls.mono (show Calls Try.prog 66 _ _ _ from hc) ?_
    rintro e w' ⟨rfl, q, os, rfl⟩
    have hl := List.length_mergeSort (le := fun x y : Int => decide (x ≤ y)) xs
    obtain ⟨a, b⟩ := SlI.row (w := w) (w1 := Go.Sort.ahead w q) (xs := xs) h1 h2 (show Blk (Go.Sort.ahead w q) g _ cur from h3) h4 hle (show Turn lo hi w (Go.Sort.ahead w q) from ⟨rfl, rfl, rfl, Nat.le_refl _, fun _ _ _ => rfl⟩) (xs.mergeSort fun x y => decide (x ≤ y)) hl (by rw [List.take_length]) (Nat.le_refl _) os
    exact ⟨rfl, a, b⟩

theorem compact_len (xs : List Int) : (Lib.compact xs).length ≤ xs.length := by
  unfold Lib.compact Lib.compactUpTo
  rw [List.length_map]
  have := List.length_filter_le (Lib.keeps xs.toArray) (List.range xs.length)
  rwa [List.length_range] at this
theorem slicesCompact {A : Option Addr} {c n lo hi : Nat} {w : World} (xs : List Int) (ln : xs.length = n) (hn : n ≤ 9223372036854775807) (h : SlI w lo hi A c xs) :
    Calls Try.prog 68 #[.slice A n c] w fun e w' => e = .returned (.slice A (Lib.compact xs).length c) ∧ SlI w' lo hi A c (Lib.compact xs) ∧ Turn lo hi w w' := by
  subst ln
  by_cases hx : xs = []
  · subst hx
    refine Calls.mono (show Calls Try.prog 68 _ _ _ from Any.slices_Compact_int_empty laysCom A c w) ?_
    rintro e w' ⟨rfl, rfl⟩
    exact ⟨rfl, h, Turn.refl _ _ _⟩
  · have hp : 0 < xs.length := List.length_pos_iff.2 hx
    have hle := h.le
    have hh := h
    obtain ⟨g, o, cur, rfl, h1, h2, h3, h4, h5⟩ := Sl.block h (by omega)
    have hc := Any.slices_Compact_int laysCom g o c xs w (hh.hold fun j => h3.frozen _) hn hle
    refine Calls.mono (show Calls Try.prog 68 _ _ _ from hc) ?_
    rintro e w' ⟨rfl, q, rfl⟩
    have hl := compact_len xs
    obtain ⟨a, b⟩ := SlI.row (w := w) (w1 := Go.Sort.ahead w q) (xs := xs) h1 h2 (show Blk (Go.Sort.ahead w q) g _ cur from h3) h4 hle (show Turn lo hi w (Go.Sort.ahead w q) from ⟨rfl, rfl, rfl, Nat.le_refl _, fun _ _ _ => rfl⟩) (Lib.compact xs ++ List.replicate (xs.length - (Lib.compact xs).length) 0) (by simp; omega) (ys := Lib.compact xs) (by rw [List.take_left' rfl]) (by simp) #[]
    rw [grow_empty] at a b
    exact ⟨rfl, a, b⟩
end Go.Proofs.Ytlinngohbghimaa

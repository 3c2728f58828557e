/-
  slices.Delete of one, slices.Insert of one, at a slice of ints of the call's own.
-/
import Derived.Test.YtmmegmefiihabaaShelfIns
namespace Go.Proofs.Ytmmegmefiihabaa
open Go.RowKit Go.Shelf Go.Sort

theorem blk_mapBlock {w : World} {b : Nat} {t : TypeId} {cs : Array Value} (f : Array Value → Array Value) (h : Blk w b t cs) : Blk (mapBlock w b f) b t (f cs) := by
  unfold Blk at h ⊢
  unfold mapBlock
  simp only [Array.getElem?_modify]
  rw [if_pos trivial, h]
  rfl
theorem turn_mapBlock (w : World) (b : Nat) (f : Array Value → Array Value) : Turn b (b + 1) w (mapBlock w b f) :=
  ⟨rfl, rfl, rfl, by simp [mapBlock], fun k _ ho => by
    unfold mapBlock
    simp only [Array.getElem?_modify]
    rw [if_neg (by omega)]⟩
theorem Turn.undrew {lo hi : Nat} {w w' : World} (h : Turn lo hi w.drew w') : Turn lo hi w w' := ⟨h.os, h.tape, h.output, h.size, h.block⟩
theorem Turn.unahead {lo hi q : Nat} {w w' : World} (h : Turn lo hi (Go.Sort.ahead w q) w') : Turn lo hi w w' := ⟨h.os, h.tape, h.output, h.size, h.block⟩
theorem putCells_row (o : Nat) (ys : List Int) (cur : Array Value) (h : o + ys.length ≤ cur.size) (m : Nat) (hm : m ≤ ys.length) :
    ((putCells (Value.int .i64) o ys.toArray cur).toList.drop o).take m = ints (ys.take m) := by
  apply List.ext_getElem?
  intro j
  rw [List.getElem?_take]
  by_cases hj : j < m
  · rw [if_pos hj, List.getElem?_drop, Array.getElem?_toList]
    unfold putCells
    rw [Array.getElem?_mapIdx, Array.getElem?_eq_getElem (by omega), List.getElem?_map, List.getElem?_take, if_pos hj, List.getElem?_eq_getElem (by omega)]
    simp only [Option.map_some]
    rw [if_pos ⟨by omega, by simp; omega⟩, Nat.add_sub_cancel_left]
    simp [show j < ys.length by omega]
  · rw [if_neg hj, List.getElem?_eq_none (by simp; omega)]
theorem SlI.holds {w : World} {lo hi c g o : Nat} {xs : List Int} (h : SlI w lo hi (some ⟨g, o, none⟩) c xs) (hf : ∀ j, w.frozen? ⟨g, o + j, none⟩ = false) : Holds (Value.int .i64) w g o xs.toArray := fun j hj => by
  have hj' : j < xs.length := by simpa using hj
  refine ⟨?_, hf _⟩
  obtain ⟨ad, e, _, hc⟩ := h.rd.at_ hj'
  injection e with e
  subst e
  have := hc j hj'
  rw [add_lit] at this
  rw [this]
  simp [hj']

theorem slicesDelete {A : Option Addr} {c n lo hi k : Nat} {w : World} (xs : List Int) (ln : xs.length = n) (h : SlI w lo hi A c xs) (hcm : c ≤ 9223372036854775807) (hk : k < n) :
    Calls Try.prog 55 #[.slice A n c, .int .i64 (k : Int), .int .i64 ((k : Int) + 1)] w fun e w' => e = .returned (.slice A (n - 1) c) ∧ SlI w' lo hi A c (xs.take k ++ xs.drop (k + 1)) ∧ Turn lo hi w w' ∧ w'.heap.size = w.heap.size := by
  subst ln
  have hle := h.le
  have hh := h
  obtain ⟨g, o, cur, rfl, h1, h2, h3, h4, h5⟩ := Sl.block h (by omega)
  have hc := Any.slices_Delete_int laysDel g o c k (k + 1) xs w (hh.holds fun j => h3.frozen _) hle hcm (by omega) (by omega)
  rw [show ((k + 1 : Nat) : Int) = (k : Int) + 1 from rfl, show k + 1 - k = 1 by omega] at hc
  refine Calls.mono (show Calls Try.prog 55 _ _ _ from hc) ?_
  rintro e w' ⟨rfl, q, rfl⟩
  have hl : (xs.take k ++ xs.drop (k + 1)).length = xs.length - 1 := by rw [List.length_append, List.length_take, List.length_drop]; omega
  refine ⟨rfl, ?_, (Turn.unahead (turn_mapBlock (Go.Sort.ahead w q) g _)).mono h1 (by omega), by simp [putRow, mapBlock, Go.Sort.ahead]⟩
  have hb : Blk (putRow (Value.int .i64) (Go.Sort.ahead w q) g o (xs.take k ++ xs.drop (k + 1) ++ List.replicate 1 0).toArray) g 3 (putCells (Value.int .i64) o (xs.take k ++ xs.drop (k + 1) ++ List.replicate 1 0).toArray cur) := blk_mapBlock _ (show Blk (Go.Sort.ahead w q) g _ cur from h3)
  refine ⟨by simp, by omega, .inr ⟨g, o, _, rfl, h1, h2, hb, by simp only [putCells, Array.size_mapIdx]; omega, ?_⟩⟩
  rw [hl, Nat.mul_one]
  have hl2 : (xs.take k ++ xs.drop (k + 1) ++ List.replicate 1 0).length = xs.length := by rw [List.length_append, hl]; simp; omega
  rw [putCells_row o _ cur (by rw [hl2]; omega) _ (by rw [hl2]; omega), ← hl, List.take_left' rfl]

theorem split_row {o n : Nat} {cur : Array Value} {X : List Value} (hX : X.length = n) (h : (cur.toList.drop o).take (n * 1) = X) (hs : o + n ≤ cur.size) : ∃ P R : List Value, cur.toList = P ++ (X ++ R) ∧ P.length = o ∧ R.length = cur.size - (o + n) := by
  refine ⟨cur.toList.take o, (cur.toList.drop o).drop n, ?_, by rw [List.length_take, Array.length_toList]; omega, by rw [List.length_drop, List.length_drop, Array.length_toList]; omega⟩
  rw [← h, Nat.mul_one, List.take_append_drop, List.take_append_drop]
theorem ins_row (P X R : List Value) (x : Value) (k : Nat) (hk : k ≤ X.length) (hR : 0 < R.length) :
    let M := (P ++ (X ++ R)).take (P.length + (k + 1)) ++ X.drop k ++ (P ++ (X ++ R)).drop (P.length + (k + 1) + (X.length - k))
    ((M.take (P.length + k) ++ [x] ++ M.drop (P.length + k + 1)).drop P.length).take (X.length + 1) = X.take k ++ x :: X.drop k := by
  intro M
  have hM : M = P ++ ((X ++ R).take (k + 1) ++ (X.drop k ++ (X ++ R).drop (X.length + 1))) := by
    show (P ++ (X ++ R)).take (P.length + (k + 1)) ++ X.drop k ++ (P ++ (X ++ R)).drop (P.length + (k + 1) + (X.length - k)) = _
    rw [List.take_length_add_append, show P.length + (k + 1) + (X.length - k) = P.length + (X.length + 1) by omega, List.drop_length_add_append]
    simp only [List.append_assoc]
  have h1 : M.take (P.length + k) = P ++ X.take k := by
    rw [hM, List.take_length_add_append, List.take_append_of_le_length (by rw [List.length_take, List.length_append]; omega), List.take_take, Nat.min_eq_left (by omega), List.take_append_of_le_length hk]
  have h2 : M.drop (P.length + k + 1) = X.drop k ++ (X ++ R).drop (X.length + 1) := by
    rw [hM, Nat.add_assoc, List.drop_length_add_append, List.drop_left' (by rw [List.length_take, List.length_append]; omega)]
  rw [h1, h2, List.append_assoc, List.append_assoc, List.drop_left' rfl, ← List.append_assoc, ← List.append_assoc]
  rw [List.take_left' (by simp; omega)]
  simp

theorem grown_le (w : World) (n c : Nat) (e : TypeId) (h : n ≤ 1099511627776) : grownCap w n c e ≤ 9223372036854775807 := by
  have := grownCap_le_maxLen w n c e (by unfold maxLen; omega)
  unfold maxLen at this
  omega
set_option maxHeartbeats 800000 in
theorem slicesInsert {A : Option Addr} {c n lo hi k vb : Nat} {w : World} (xs : List Int) (x : Int) (ln : xs.length = n) (hn : n ≤ 1048576) (h : SlI w lo hi A c xs) (hcm : c ≤ 9223372036854775807) (hk : k ≤ n) (hv : Blk w vb 3 #[.int .i64 x]) (hvb : hi ≤ vb) (hlo : lo ≤ w.heap.size) :
    Calls Try.prog 56 #[.slice A n c, .int .i64 (k : Int), .slice (some ⟨vb, 0, none⟩) 1 1] w fun e w' => ∃ A'' c'', e = .returned (.slice A'' (n + 1) c'') ∧ c'' ≤ 9223372036854775807 ∧ SlI w' lo (max hi w'.heap.size) A'' c'' (xs.take k ++ x :: xs.drop k) ∧ Turn lo hi w w' := by
  subst ln
  have hle := h.le
  have hvl : ∀ j v, ([Value.int .i64 x] : List Value)[j]? = some v → w.cell? ⟨vb, 0 + j, none⟩ = some v := fun j v hj => by
    rw [hv.cell, Nat.zero_add]
    have : j = 0 := by have := (List.getElem?_eq_some_iff.1 hj).1; simpa using this
    subst this
    simpa using hj
  have h1v : ∀ v ∈ ([Value.int .i64 x] : List Value), v.oneCell' = true := by intro v hm; simp at hm; subst hm; rfl
  have h1c : ∀ v ∈ ints xs, v.oneCell' = true := ints_oneCell _ _
  have hXl : (ints xs).length = xs.length := by simp
  have hres : ints (xs.take k ++ x :: xs.drop k) = (ints xs).take k ++ Value.int .i64 x :: (ints xs).drop k := by simp [ints, List.map_take, List.map_drop]
  have hrl : (xs.take k ++ x :: xs.drop k).length = xs.length + 1 := by simp; omega
  by_cases hroom : xs.length + 1 ≤ c
  · obtain ⟨g, o, cur, rfl, h1, h2, h3, h4, h5⟩ := Sl.block h (by omega)
    have hcells : ∀ j v, (ints xs)[j]? = some v → w.cell? ⟨g, o + j, none⟩ = some v := fun j v hj => by
      obtain ⟨hjl, e⟩ := List.getElem?_eq_some_iff.1 hj
      rw [hXl] at hjl
      rw [h.get (List.getElem?_eq_getElem hjl), ← e]; simp
    obtain ⟨P, R, e1, e2, e3⟩ := split_row hXl h5 (by omega)
    have hsp : ∀ j, j < xs.length + 1 → (w.cell? ⟨g, o + j, none⟩).isSome = true := fun j hj => by rw [h3.cell, Array.getElem?_eq_getElem (by omega)]; rfl
    by_cases hkn : k < xs.length
    · have hc := Any2.slices_Insert_int_shift laysIns g o xs.length c k vb 0 1 1 (ints xs) [.int .i64 x] w hkn (by decide) hroom hcm (by omega) hXl rfl hcells hsp (fun j _ => h3.frozen _) hvl h1c h1v
        3 3 1 cur.size (by unfold Blk at hv; simp [World.shape?, hv]) (by unfold Blk at h3; simp [World.shape?, h3]) (by omega) (hv.frozen _) (hv.frozen _)
      refine Calls.mono (show Calls Try.prog 56 _ _ _ from hc) ?_
      rintro e w' ⟨rfl, rfl⟩
      have b1 := blk_setCells ((ints xs).drop k) (o + (k + 1)) cur (show Blk w.drew g _ cur from h3) (by rw [List.length_drop, hXl]; omega)
      have b2 := blk_setCells [Value.int .i64 x] (o + k) _ b1 (by simp; omega)
      refine ⟨_, c, rfl, hcm, ?_, ?_⟩
      · unfold SlI
        rw [hrl, hres]
        refine ⟨by simp; omega, hroom, .inr ⟨g, o, _, rfl, h1, by omega, b2, by simp; omega, ?_⟩⟩
        rw [Nat.mul_one, List.toList_toArray, List.toList_toArray, e1]
        have := ins_row P (ints xs) R (.int .i64 x) k (by omega) (by omega)
        rw [e2, hXl] at this
        simpa [Nat.add_assoc] using this
      · exact Turn.undrew ((Turn.grown (grownBy_setCells w.drew g _ _) (fun k e => by cases e; exact h1) (fun k e => by cases e; exact h2)).trans (Turn.grown (grownBy_setCells _ g _ _) (fun k e => by cases e; exact h1) (fun k e => by cases e; exact h2)))
    · obtain rfl : k = xs.length := by omega
      have hc := Any2.slices_Insert_int_end_room laysIns g o xs.length c vb 0 1 1 [.int .i64 x] w (by decide) hroom hcm rfl (fun j hj => by rw [Nat.add_assoc]; exact hsp _ (by omega)) (fun j hj => by rw [Nat.add_assoc]; exact h3.frozen _) hvl h1v
      refine Calls.mono (show Calls Try.prog 56 _ _ _ from hc) ?_
      rintro e w' ⟨rfl, rfl⟩
      have b2 := blk_setCells [Value.int .i64 x] (o + xs.length) _ h3 (by simp; omega)
      refine ⟨_, c, rfl, hcm, ?_, ?_⟩
      · unfold SlI
        rw [hrl, hres]
        refine ⟨by simp, hroom, .inr ⟨g, o, _, rfl, h1, by omega, b2, by simp; omega, ?_⟩⟩
        rw [Nat.mul_one, List.toList_toArray, e1, ← e2, ← hXl, List.take_length_add_append, List.take_left' rfl, List.take_of_length_le (Nat.le_refl _), List.drop_of_length_le (Nat.le_refl _), List.append_assoc, List.append_assoc, List.drop_left' rfl, ← List.append_assoc, List.take_left' (by simp)]
      · exact Turn.grown (grownBy_setCells w g _ _) (fun k e => by cases e; exact h1) (fun k e => by cases e; exact h2)
  · have hzl : ∀ m, (Builtin.zeroCells (Value.int .i64 0).cells m).size = m := fun m => by rw [size_zeroCells]; exact Nat.mul_one m
    have hgc := grownCap_ge w (xs.length + 1) c 3
    have hgm := grown_le w (xs.length + 1) c 3 (by omega)
    by_cases hkn : k < xs.length
    · obtain ⟨g, o, cur, rfl, h1, h2, h3, h4, h5⟩ := Sl.block h (by omega)
      have hcells : ∀ j v, (ints xs)[j]? = some v → w.cell? ⟨g, o + j, none⟩ = some v := fun j v hj => by
        obtain ⟨hjl, e⟩ := List.getElem?_eq_some_iff.1 hj
        rw [hXl] at hjl
        rw [h.get (List.getElem?_eq_getElem hjl), ← e]; simp
      have hc := Any2.slices_Insert_int_grow laysIns g o xs.length c k vb 0 1 1 (ints xs) [.int .i64 x] w hkn (by decide) hle (by omega) (by omega) hXl rfl hcells hvl h1c h1v
      rw [show renIns.t 3 = 3 from rfl] at hc
      refine Calls.mono (show Calls Try.prog 56 _ _ _ from hc) ?_
      rintro e w' ⟨rfl, rfl⟩
      refine ⟨_, _, rfl, hgm, ?_, ?_⟩
      · have b0 := Blk.new w 3 (((ints xs).take k).toArray ++ Builtin.zeroCells (Value.int .i64 0).cells (xs.length + 1 - k) ++ Builtin.zeroCells (Value.int .i64 0).cells (grownCap w (xs.length + 1) c 3 - (xs.length + 1)))
        have hs0 : (((ints xs).take k).toArray ++ Builtin.zeroCells (Value.int .i64 0).cells (xs.length + 1 - k) ++ Builtin.zeroCells (Value.int .i64 0).cells (grownCap w (xs.length + 1) c 3 - (xs.length + 1))).size = grownCap w (xs.length + 1) c 3 := by simp only [Array.size_append, hzl]; simp; omega
        have ht0 : (((ints xs).take k).toArray ++ Builtin.zeroCells (Value.int .i64 0).cells (xs.length + 1 - k) ++ Builtin.zeroCells (Value.int .i64 0).cells (grownCap w (xs.length + 1) c 3 - (xs.length + 1))).toList.take k = (ints xs).take k := by
          simp only [Array.toList_append, List.append_assoc]; rw [List.take_left' (by simp; omega)]
        generalize (((ints xs).take k).toArray ++ Builtin.zeroCells (Value.int .i64 0).cells (xs.length + 1 - k) ++ Builtin.zeroCells (Value.int .i64 0).cells (grownCap w (xs.length + 1) c 3 - (xs.length + 1))) = Z at b0 hs0 ht0 ⊢
        have b1 := blk_setCells [Value.int .i64 x] k Z (show Blk (w.alloc (.cells Z 3)).drew w.heap.size _ Z from b0) (by simp; omega)
        have b2 := blk_setCells ((ints xs).drop k) (k + 1) _ (show Blk ((w.alloc (.cells Z 3)).drew.setCells w.heap.size k [Value.int .i64 x]).drew w.heap.size _ _ from b1) (by simp; omega)
        unfold SlI
        rw [hrl, hres]
        refine ⟨by simp; omega, hgc, .inr ⟨w.heap.size, 0, _, rfl, hlo, ?_, b2, by simp; omega, ?_⟩⟩
        · have := b2.lt; omega
        · rw [Nat.mul_one, List.drop_zero, List.toList_toArray, List.toList_toArray, ht0]
          have e5 : ((ints xs).take k ++ [Value.int .i64 x] ++ Z.toList.drop (k + [Value.int .i64 x].length)).take (k + 1) = (ints xs).take k ++ [Value.int .i64 x] := List.take_left' (by simp; omega)
          rw [e5, List.take_left' (by simp; omega)]
          simp
      · have t0 : Turn lo hi w (w.alloc (.cells (((ints xs).take k).toArray ++ Builtin.zeroCells (Value.int .i64 0).cells (xs.length + 1 - k) ++ Builtin.zeroCells (Value.int .i64 0).cells (grownCap w (xs.length + 1) c 3 - (xs.length + 1))) 3)) := (Turn.refl lo hi w).alloc _
        exact (t0.new (lo' := w.heap.size) (hi' := w.heap.size + 1) (Turn.undrew (Turn.grown (grownBy_setCells _ w.heap.size _ _) (fun k e => by cases e; exact Nat.le_refl _) (fun k e => by cases e; exact Nat.lt_succ_self _))) (Nat.le_refl _)).new (lo' := w.heap.size) (hi' := w.heap.size + 1) (Turn.undrew (Turn.grown (grownBy_setCells _ w.heap.size _ _) (fun k e => by cases e; exact Nat.le_refl _) (fun k e => by cases e; exact Nat.lt_succ_self _))) (Nat.le_refl _)
    · obtain rfl : k = xs.length := by omega
      have hc := Any2.slices_Insert_int_end_grow laysIns A xs.length c vb 0 1 1 (ints xs) [.int .i64 x] w (by decide) hle (by omega) (by omega) hXl rfl (fun hA => by have := Sl.noAddr h hA; omega)
        (fun a ha j v hj => by
          obtain ⟨hjl, e⟩ := List.getElem?_eq_some_iff.1 hj
          obtain ⟨ad, e2, _, hcc⟩ := h.rd.at_ (k := j) (by simpa using hjl)
          rw [ha] at e2; injection e2 with e2; subst e2
          rw [hcc j (by simpa using hjl), ← e]; simp) hvl h1v
      rw [show renIns.t 3 = 3 from rfl] at hc
      refine Calls.mono (show Calls Try.prog 56 _ _ _ from hc) ?_
      rintro e w' ⟨rfl, rfl⟩
      refine ⟨_, _, rfl, hgm, ?_, ?_⟩
      · have b0 := Blk.new w.drew 3 ((ints xs ++ [Value.int .i64 x]).toArray ++ Builtin.zeroCells (Value.int .i64 0).cells (grownCap w (xs.length + 1) c 3 - (xs.length + 1)))
        unfold SlI
        rw [hrl, hres]
        refine ⟨by simp, hgc, .inr ⟨w.heap.size, 0, _, rfl, hlo, ?_, b0, ?_, ?_⟩⟩
        · have := b0.lt; have : w.heap.size < (w.drew.alloc (.cells ((ints xs ++ [Value.int .i64 x]).toArray ++ Builtin.zeroCells (Value.int .i64 0).cells (grownCap w (xs.length + 1) c 3 - (xs.length + 1))) 3)).heap.size := this
          omega
        · simp only [Array.size_append, hzl]; simp; omega
        · rw [Nat.mul_one, List.drop_zero, Array.toList_append, List.take_left' (by simp), List.take_of_length_le (by simp), List.drop_of_length_le (by simp)]
      · exact ((Turn.refl lo hi w).drewN 1).alloc _
end Go.Proofs.Ytmmegmefiihabaa

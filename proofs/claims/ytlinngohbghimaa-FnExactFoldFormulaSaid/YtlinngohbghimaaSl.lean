/-
  A slice of the call's own, wherever it begins in its block: what it holds, cuts of it, a store into it, append onto it.
-/
import Derived.Test.YtlinngohbghimaaMem
import Derived.Maps.AppendAt
import Derived.ArgAppend
import Derived.RegionTactic
import Derived.OwnWalk
namespace Go.Proofs.Ytlinngohbghimaa
open Go.RowKit

/-- the slice value '.slice A n c' of elements of type e (size cells each) holds the cells xs, in a block from lo up to hi, none of it frozen -/
def Sl (w : World) (lo hi : Nat) (e : TypeId) (size : Nat) (A : Option Addr) (n c : Nat) (xs : List Value) : Prop :=
  xs.length = n * size ∧ n ≤ c ∧ (c = 0 ∨ ∃ g o cur, A = some ⟨g, o, none⟩ ∧ lo ≤ g ∧ g < hi ∧ Blk w g e cur ∧ o + c * size ≤ cur.size ∧ (cur.toList.drop o).take (n * size) = xs)

theorem add_lit (g o j : Nat) : (⟨g, o, none⟩ : Addr).add j = ⟨g, o + j, none⟩ := by unfold Addr.add; split <;> simp_all

section
variable {w w' : World} {lo hi lo' hi' B : Nat} {e : TypeId} {size n c : Nat} {A : Option Addr} {xs : List Value}
theorem Sl.le (h : Sl w lo hi e size A n c xs) : n ≤ c := h.2.1
theorem Sl.len (h : Sl w lo hi e size A n c xs) : xs.length = n * size := h.1
theorem Sl.nil (w : World) (lo hi : Nat) (e : TypeId) (size : Nat) (A : Option Addr) : Sl w lo hi e size A 0 0 [] := ⟨by simp, Nat.le_refl _, .inl rfl⟩
theorem Sl.mono (h : Sl w lo hi e size A n c xs) (h1 : lo' ≤ lo) (h2 : hi ≤ hi') : Sl w lo' hi' e size A n c xs := by
  obtain ⟨h3, h4, h5⟩ := h
  refine ⟨h3, h4, ?_⟩
  rcases h5 with h5 | ⟨g, o, cur, h6, h7, h8, h9⟩
  · exact .inl h5
  · exact .inr ⟨g, o, cur, h6, by omega, by omega, h9⟩
theorem Sl.turn (h : Sl w lo hi e size A n c xs) (ht : Turn lo' hi' w w') (hd : hi ≤ lo' ∨ hi' ≤ lo) : Sl w' lo hi e size A n c xs := by
  obtain ⟨h3, h4, h5⟩ := h
  refine ⟨h3, h4, ?_⟩
  rcases h5 with h5 | ⟨g, o, cur, h6, h7, h8, h9, h10⟩
  · exact .inl h5
  · exact .inr ⟨g, o, cur, h6, h7, h8, ht.blk h9 (by omega), h10⟩
theorem Sl.below (h : Sl w lo hi e size A n c xs) (hb : Below B w w') (hB : hi ≤ B) : Sl w' lo hi e size A n c xs := by
  obtain ⟨h3, h4, h5⟩ := h
  refine ⟨h3, h4, ?_⟩
  rcases h5 with h5 | ⟨g, o, cur, h6, h7, h8, h9, h10⟩
  · exact .inl h5
  · exact .inr ⟨g, o, cur, h6, h7, h8, h9.below hb (by omega), h10⟩
theorem Sl.alloc (h : Sl w lo hi e size A n c xs) (o : Obj) : Sl (w.alloc o) lo hi e size A n c xs := by
  obtain ⟨h3, h4, h5⟩ := h
  refine ⟨h3, h4, ?_⟩
  rcases h5 with h5 | ⟨g, o, cur, h6, h7, h8, h9, h10⟩
  · exact .inl h5
  · exact .inr ⟨g, o, cur, h6, h7, h8, h9.alloc _, h10⟩
theorem Sl.drewN (h : Sl w lo hi e size A n c xs) (k : Nat) : Sl (w.drewN k) lo hi e size A n c xs := h
theorem Sl.rd (h : Sl w lo hi e size A n c xs) : Rd w hi A xs := fun hn => by
  obtain ⟨h3, h4, h5⟩ := h
  rcases h5 with h5 | ⟨g, o, cur, rfl, h7, h8, h9, h10, h11⟩
  · exact absurd (List.eq_nil_of_length_eq_zero (by rw [h3, show n = 0 by omega, Nat.zero_mul])) hn
  · refine ⟨_, rfl, h8, fun j u hu => ?_⟩
    have hj : j < n * size := by have := (List.getElem?_eq_some_iff.1 hu).1; omega
    rw [add_lit, h9.cell, ← hu, ← h11, List.getElem?_take, if_pos hj, List.getElem?_drop]
    simp
theorem Sl.noAddr (h : Sl w lo hi e size A n c xs) (hA : A = none) : c = 0 := by
  rcases h.2.2 with h4 | ⟨g, o, cur, h4, _⟩
  · exact h4
  · rw [hA] at h4; cases h4
theorem Sl.block (h : Sl w lo hi e size A n c xs) (hpos : 0 < c) : ∃ g o cur, A = some ⟨g, o, none⟩ ∧ lo ≤ g ∧ g < hi ∧ Blk w g e cur ∧ o + c * size ≤ cur.size ∧ (cur.toList.drop o).take (n * size) = xs := by
  rcases h.2.2 with h5 | h5
  · omega
  · exact h5
/-- a new block -/
theorem Sl.new (w : World) (cs : List Value) (n : Nat) (hl : cs.length = n * size) (h : lo ≤ w.heap.size) : Sl (w.alloc (.cells cs.toArray e)) lo (w.heap.size + 1) e size (some ⟨w.heap.size, 0, none⟩) n n cs :=
  ⟨hl, Nat.le_refl _, .inr ⟨w.heap.size, 0, cs.toArray, rfl, h, Nat.lt_succ_self _, Blk.new _ _ _, by simp [hl], by simp [← hl]⟩⟩
theorem Sl.of_blk {g : Nat} {cs : List Value} (h : Blk w g e cs.toArray) (hl : cs.length = n * size) (h1 : lo ≤ g) (h2 : g < hi) : Sl w lo hi e size (some ⟨g, 0, none⟩) n n cs :=
  ⟨hl, Nat.le_refl _, .inr ⟨g, 0, cs.toArray, rfl, h1, h2, h, by simp [hl], by simp [← hl]⟩⟩
theorem Sl.of_own {base : Nat} {v : Value} (h : w.ownsRow base e size v n xs) (hl : lo ≤ base) (hh : w.heap.size ≤ hi) : ∃ A c, v = .slice A n c ∧ Sl w lo hi e size A n c xs := by
  obtain ⟨h1, h2⟩ := h
  rcases h2 with ⟨rfl, rfl⟩ | ⟨g, cap, cur, rfl, hg, hh', hn, _, hs, ht⟩
  · have : xs = [] := List.eq_nil_of_length_eq_zero (by simpa using h1)
    subst this
    exact ⟨none, 0, rfl, Sl.nil _ _ _ _ _ _⟩
  · have hb : Blk w g e cur := hh'
    have := hb.lt
    exact ⟨_, cap, rfl, h1, hn, .inr ⟨g, 0, cur, rfl, by omega, by omega, hb, by omega, by simpa using ht⟩⟩
/-- s[l:h:m] -/
theorem Sl.cut (hs : Sl w lo hi e size A n c xs) {l h m : Nat} (h1 : l ≤ h) (h2 : h ≤ n) (h3 : h ≤ m) (h4 : m ≤ c) :
    Sl w lo hi e size (if m = l then A else A.map (·.add (l * size))) (h - l) (m - l) ((xs.drop (l * size)).take ((h - l) * size)) := by
  have hle : h * size ≤ n * size := Nat.mul_le_mul_right _ h2
  have hlh : l * size ≤ h * size := Nat.mul_le_mul_right _ h1
  refine ⟨by rw [List.length_take, List.length_drop, hs.1, Nat.sub_mul]; omega, by omega, ?_⟩
  by_cases hm : m = l
  · exact .inl (by omega)
  · obtain ⟨g, o, cur, rfl, h6, h7, h8, h9, h10⟩ := hs.block (by omega)
    refine .inr ⟨g, o + l * size, cur, by rw [if_neg hm, Option.map_some, add_lit], h6, h7, h8, ?_, ?_⟩
    · have : m * size ≤ c * size := Nat.mul_le_mul_right _ h4
      have h11 : l * size ≤ m * size := Nat.mul_le_mul_right _ (by omega)
      rw [Nat.sub_mul]; omega
    · rw [← h10, List.drop_take, List.take_take, List.drop_drop]
      congr 1
      rw [Nat.sub_mul]; omega
end

/-! ### a store into it -/
section
variable {w : World} {lo hi : Nat} {e : TypeId} {size n c : Nat} {xs : List Value}
theorem Sl.at_ {A : Option Addr} (h : Sl w lo hi e size A n c xs) (hn : 0 < n) : ∃ g o, A = some ⟨g, o, none⟩ ∧ lo ≤ g ∧ g < hi ∧ (∀ j (hj : j < xs.length), w.cell? ⟨g, o + j, none⟩ = some xs[j]) ∧ (∀ j, w.frozen? ⟨g, o + j, none⟩ = false) ∧
    ∀ j u, j < xs.length → Sl (w.setCell ⟨g, o + j, none⟩ u) lo hi e size A n c (xs.set j u) ∧ Turn lo hi w (w.setCell ⟨g, o + j, none⟩ u) := by
  have hc := h.le
  have hr := h.rd
  obtain ⟨h3, h4, h5⟩ := h
  rcases h5 with h5 | ⟨g, o, cur, rfl, h7, h8, h9, h10, h11⟩
  · omega
  · refine ⟨g, o, rfl, h7, h8, fun j hj => ?_, fun j => h9.frozen _, fun j u hj => ⟨⟨by simpa using h3, h4, .inr ⟨g, o, cur.setIfInBounds (o + j) u, rfl, h7, h8, h9.set_ _ _, by simpa using h10, ?_⟩⟩, ?_⟩⟩
    · obtain ⟨ad, e1, _, hcc⟩ := hr (by rintro rfl; simp at hj)
      injection e1 with e1
      subst e1
      have := hcc j _ (List.getElem?_eq_getElem hj)
      rwa [add_lit] at this
    · rw [← h11, Array.toList_setIfInBounds]
      rw [List.drop_set, if_neg (by omega), Nat.add_sub_cancel_left, List.take_set]
    · exact (Turn.refl lo hi w).setCell (p := ⟨g, o + j, none⟩) h7 (.inl h8) u
end

/-! ### append -/
theorem blk_setCells {w : World} {g : Nat} {t : TypeId} : ∀ (vs : List Value) (o : Nat) (cur : Array Value), Blk w g t cur → o + vs.length ≤ cur.size →
    Blk (w.setCells g o vs) g t (cur.toList.take o ++ vs ++ cur.toList.drop (o + vs.length)).toArray
  | [], o, cur, h, _ => by
    rw [World.setCells]
    simpa using h
  | v :: r, o, cur, h, hs => by
    rw [World.setCells]
    simp only [List.length_cons] at hs
    have ih := blk_setCells (w := w.setCell ⟨g, o, none⟩ v) r (o + 1) (cur.setIfInBounds o v) (h.set_ o v) (by simp; omega)
    have e1 : (cur.setIfInBounds o v).toList.take (o + 1) = cur.toList.take o ++ [v] := by
      rw [Array.toList_setIfInBounds, List.take_set, List.take_succ_eq_append_getElem (by simp; omega), List.set_append_right _ _ (by simp; omega)]
      have : o - (cur.toList.take o).length = 0 := by simp; omega
      rw [this]; rfl
    have e2 : (cur.setIfInBounds o v).toList.drop (o + 1 + r.length) = cur.toList.drop (o + (r.length + 1)) := by
      rw [Array.toList_setIfInBounds, List.drop_set_of_lt (by omega)]
      congr 1; omega
    rw [e1, e2] at ih
    simpa using ih

theorem grownBy_setCells (w : World) (g : Nat) : ∀ (vs : List Value) (o : Nat), w.grownBy (w.setCells g o vs) (some g) := by
  intro vs
  induction vs generalizing w with
  | nil => intro o; exact World.grownBy.refl w _
  | cons v r ih =>
    intro o
    rw [World.setCells]
    have h := ih (w.setCell ⟨g, o, none⟩ v) (o + 1)
    refine ⟨h.os, h.tape, h.output, Nat.le_trans (by simp [World.setCell]) h.size, fun k hk hne => (h.block k (by simpa [World.setCell] using hk) hne).trans (Below.heap_setCell w _ v k (fun e => hne (by rw [e])))⟩

section
variable {P : Program} (w : World)

theorem run_app_none (t ty e : TypeId) (i : TypeInfo) (ht : P.underlying t = some (.slice e)) (hi : P.info? e = some i) (A A' : Option Addr) (n c c' : Nat) (hn : n ≤ c) :
    (Builtin.append_ #[t, t] ty #[.slice A n c, .slice A' 0 c']).run P w = .ok (.slice A n c) w := by
  have hf : (Builtin.firstCells i.size 0 (.slice A' 0 c')).run P w = .ok #[] w := by
    cases A' with
    | none => rfl
    | some a => simpa using run_firstCells_some (P := P) w i.size 0 a 0 c' [] (by simp) (by simp)
  cases A with
  | none => simp [Builtin.append_, run_underlying ht, sizeOf, typeInfo, hi, Builtin.lenOf, hn, hf]
  | some a => simp [Builtin.append_, run_underlying ht, sizeOf, typeInfo, hi, Builtin.lenOf, hn, hf, storeCells]

theorem run_app (lo hi : Nat) (t ty e : TypeId) (i : TypeInfo) (z : Value) (size bytes : Nat) (ht : P.underlying t = some (.slice e)) (hI : P.info? e = some i) (hz : i.zero = some z)
    (hsize : i.size = size) (hby : i.bytes = bytes) (hzs : z.cells.size = size) (hsz : 0 < size)
    (A : Option Addr) (n c : Nat) (xs : List Value) (hs : Sl w lo hi e size A n c xs)
    (B : Nat) (A' : Option Addr) (m c' : Nat) (news : List Value) (hl : news.length = m * size) (hr : Rd w B A' news) (h1 : ∀ u ∈ news, u.oneCell' = true)
    (h63 : n + m ≤ maxLen) (hbytes : (n + m) * bytes ≤ 140737488355328) (hlo : lo ≤ w.heap.size) :
    ∃ A'' c'' w', (Builtin.append_ #[t, t] ty #[.slice A n c, .slice A' m c']).run P w = .ok (.slice A'' (n + m) c'') w' ∧ Sl w' lo (max hi w'.heap.size) e size A'' (n + m) c'' (xs ++ news) ∧ Turn lo hi w w' ∧
      w.grownBy w' (A.map Addr.block) ∧ (c < n + m → w.grownBy w' none) := by
  have hnone : A = none → c = 0 := fun hA => hs.noAddr hA
  rcases Nat.eq_zero_or_pos m with h0 | hm
  · subst h0
    have hn : news = [] := List.eq_nil_of_length_eq_zero (by simpa using hl)
    subst hn
    exact ⟨A, c, w, run_app_none w t ty e i ht hI A A' n c c' hs.le, by simpa using hs.mono (Nat.le_refl _) (Nat.le_max_left _ _), Turn.refl _ _ _, World.grownBy.refl _ _, fun _ => World.grownBy.refl _ _⟩
  · have hne : news ≠ [] := by
      rintro rfl
      have := Nat.mul_pos hm hsz
      simp at hl; omega
    obtain ⟨a, rfl, _, hcells⟩ := hr hne
    by_cases hroom : n + m ≤ c
    · obtain ⟨g, o, cur, rfl, h6, h7, h8, h9, h10⟩ := hs.block (by omega)
      have hcs : (n + m) * size ≤ c * size := Nat.mul_le_mul_right _ hroom
      rw [Nat.add_mul] at hcs
      have hrun := run_append_room_cells (P := P) w t ty e i ht hI g o n c a m c' news (by rw [hsize]; exact hl) hcells h1 hroom
        (fun j hj => by rw [h8.cell, hsize, Array.getElem?_eq_getElem (by omega)]; rfl) (fun j hj => h8.frozen _)
      rw [hsize] at hrun
      refine ⟨_, c, _, hrun, ⟨by rw [List.length_append, hs.1, hl, Nat.add_mul], by omega, .inr ⟨g, o, _, rfl, h6, by omega, blk_setCells news _ cur h8 (by omega), ?_, ?_⟩⟩, Turn.grown (grownBy_setCells w g news _) (fun k e => by cases e; exact h6) (fun k e => by cases e; exact h7), grownBy_setCells w g news _, fun h => absurd hroom (by omega)⟩
      · simp; omega
      · have e1 : (cur.toList.take (o + n * size) ++ news ++ cur.toList.drop (o + n * size + news.length)).drop o = xs ++ (news ++ cur.toList.drop (o + n * size + news.length)) := by
          rw [List.append_assoc, List.drop_append_of_le_length (by simp; omega), List.drop_take, Nat.add_sub_cancel_left, h10]
        rw [List.toList_toArray, e1, ← List.append_assoc]
        exact List.take_left' (by rw [List.length_append, hs.1, hl, Nat.add_mul])
    · cases A with
      | some b =>
        obtain ⟨v', w', hrun, r1, r2⟩ := run_append_arg_grows (P := P) w t ty e i z size bytes ht hI hz hsize hby hzs hsz b n c xs hs.1
          (fun j u hu => by
            obtain ⟨ad, e1, _, hcc⟩ := hs.rd (by rintro rfl; simp at hu)
            injection e1 with e1
            subst e1
            exact hcc j u hu) a m c' news hl hcells (by omega) h63 hbytes
        obtain ⟨A'', c'', rfl, h2⟩ := Sl.of_own (lo := lo) (hi := max hi w'.heap.size) r1 hlo (Nat.le_max_right _ _)
        exact ⟨A'', c'', w', hrun, h2, Turn.grown r2 (fun k e => by cases e) (fun k e => by cases e), ⟨r2.os, r2.tape, r2.output, r2.size, fun k hk _ => r2.block k hk (by simp)⟩, fun _ => r2⟩
      | none =>
        have hc0 := hnone rfl
        have hn0 : n = 0 := by have := hs.le; omega
        subst hc0 hn0
        have hx : xs = [] := List.eq_nil_of_length_eq_zero (by simpa using hs.1)
        subst hx
        obtain ⟨v', w', hrun, r1, r2, _⟩ := run_append_own (P := P) w w.heap.size t ty e i z size bytes ht hI hz hsize hby hzs hsz (.slice none 0 0) 0 [] (World.ownsRow_nil w _ e size) a m c' news hl hcells h1 h63 hbytes (Nat.le_refl _)
        obtain ⟨A'', c'', rfl, h2⟩ := Sl.of_own (lo := lo) (hi := max hi w'.heap.size) r1 hlo (Nat.le_max_right _ _)
        exact ⟨A'', c'', w', hrun, h2, Turn.grown r2 (fun k e => by cases e) (fun k e => by cases e), r2, fun _ => r2⟩

theorem wp_app {o : Oper} {a : Act} {K : Act → World → Prop} {Q : Exit → Act → World → Prop} (s x : Operand) (t : TypeId)
    (ho : o.op = .call { callee := .builtin .append, args := #[s, x], argTypes := #[t, t] })
    (lo hi : Nat) (e : TypeId) (i : TypeInfo) (z : Value) (size bytes : Nat) (ht : P.underlying t = some (.slice e)) (hI : P.info? e = some i) (hz : i.zero = some z)
    (hsize : i.size = size) (hby : i.bytes = bytes) (hzs : z.cells.size = size) (hsz : 0 < size)
    (A : Option Addr) (n c : Nat) (xs : List Value) (hv : a.eval s = .slice A n c) (hs : Sl w lo hi e size A n c xs)
    (B : Nat) (A' : Option Addr) (m c' : Nat) (news : List Value) (hx : a.eval x = .slice A' m c') (hl : news.length = m * size) (hr : Rd w B A' news) (h1 : ∀ u ∈ news, u.oneCell' = true)
    (h63 : n + m ≤ maxLen) (hbytes : (n + m) * bytes ≤ 140737488355328) (hlo : lo ≤ w.heap.size)
    (h : ∀ A'' c'' w', Sl w' lo (max hi w'.heap.size) e size A'' (n + m) c'' (xs ++ news) → Turn lo hi w w' → w.grownBy w' (A.map Addr.block) → (c < n + m → w.grownBy w' none) → K (a.put o.dst (.slice A'' (n + m) c'')) w') : o.wp P a w K Q := by
  obtain ⟨A'', c'', w', hrun, h2, h3, h4, h5⟩ := run_app (P := P) w lo hi t o.type e i z size bytes ht hI hz hsize hby hzs hsz A n c xs hs B A' m c' news hl hr h1 h63 hbytes hlo
  unfold Oper.wp execOp
  simp only [ho, resolve, invoke, builtin, Sem.run_bind, Sem.run_pure, Result.andThen_ok, List.map_toArray, List.map_cons, List.map_nil, hv, hx, hrun]
  exact h A'' c'' w' h2 h3 h4 h5

theorem wpList_app {ops : Array Oper} {rest : List Oper} {o : Oper} {a : Act} {Q : Exit → Act → World → Prop} (hgd : o.guard = none) (s x : Operand) (t : TypeId)
    (ho : o.op = .call { callee := .builtin .append, args := #[s, x], argTypes := #[t, t] })
    (lo hi : Nat) (e : TypeId) (i : TypeInfo) (z : Value) (size bytes : Nat) (ht : P.underlying t = some (.slice e)) (hI : P.info? e = some i) (hz : i.zero = some z)
    (hsize : i.size = size) (hby : i.bytes = bytes) (hzs : z.cells.size = size) (hsz : 0 < size)
    (A : Option Addr) (n c : Nat) (xs : List Value) (hv : a.eval s = .slice A n c) (hs : Sl w lo hi e size A n c xs)
    (B : Nat) (A' : Option Addr) (m c' : Nat) (news : List Value) (hx : a.eval x = .slice A' m c') (hl : news.length = m * size) (hr : Rd w B A' news) (h1 : ∀ u ∈ news, u.oneCell' = true)
    (h63 : n + m ≤ maxLen) (hbytes : (n + m) * bytes ≤ 140737488355328) (hlo : lo ≤ w.heap.size)
    (h : ∀ A'' c'' w', Sl w' lo (max hi w'.heap.size) e size A'' (n + m) c'' (xs ++ news) → Turn lo hi w w' → w.grownBy w' (A.map Addr.block) → (c < n + m → w.grownBy w' none) → wpList P ops Q rest (a.put o.dst (.slice A'' (n + m) c'')) w') : wpList P ops Q (o :: rest) a w := by
  refine wpList_plain hgd fun K hK => ?_
  obtain ⟨A'', c'', w', hrun, h2, h3, h4, h5⟩ := run_app (P := P) w lo hi t o.type e i z size bytes ht hI hz hsize hby hzs hsz A n c xs hs B A' m c' news hl hr h1 h63 hbytes hlo
  unfold Oper.wp execOp
  simp only [ho, resolve, invoke, builtin, Sem.run_bind, Sem.run_pure, Result.andThen_ok, List.map_toArray, List.map_cons, List.map_nil, hv, hx, hrun]
  exact hK _ _ (h A'' c'' w' h2 h3 h4 h5)
end
end Go.Proofs.Ytlinngohbghimaa

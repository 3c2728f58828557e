/-
  Append, told so far as to say where the new slice lies: where the old one lay, or in a new block; at records and at ints.
-/
import Derived.Test.YtlinngohbghimaaFlat
namespace Go.Proofs.Ytlinngohbghimaa
open Go.RowKit

section
variable {P : Program} (w : World)
/-- append, told so far as to say where the new slice lies: where the old one lay, or in a new block -/
theorem run_appS (lo hi : Nat) (t ty e : TypeId) (i : TypeInfo) (z : Value) (size bytes : Nat) (ht : P.underlying t = some (.slice e)) (hI : P.info? e = some i) (hz : i.zero = some z)
    (hsize : i.size = size) (hby : i.bytes = bytes) (hzs : z.cells.size = size) (hsz : 0 < size)
    (A : Option Addr) (n c : Nat) (xs : List Value) (hs : Sl w lo hi e size A n c xs)
    (B : Nat) (A' : Option Addr) (m c' : Nat) (news : List Value) (hl : news.length = m * size) (hr : Rd w B A' news) (h1 : ∀ u ∈ news, u.oneCell' = true)
    (h63 : n + m ≤ maxLen) (hbytes : (n + m) * bytes ≤ 140737488355328) :
    ∃ A'' c'' w', (Builtin.append_ #[t, t] ty #[.slice A n c, .slice A' m c']).run P w = .ok (.slice A'' (n + m) c'') w' ∧ Turn lo hi w w' ∧
      ((A'' = A ∧ c'' = c ∧ Sl w' lo hi e size A'' (n + m) c'' (xs ++ news)) ∨ (Sl w' w.heap.size w'.heap.size e size A'' (n + m) c'' (xs ++ news) ∧ Turn 0 0 w w')) := by
  have hnone : A = none → c = 0 := fun hA => hs.noAddr hA
  rcases Nat.eq_zero_or_pos m with h0 | hm
  · subst h0
    have hn : news = [] := List.eq_nil_of_length_eq_zero (by simpa using hl)
    subst hn
    exact ⟨A, c, w, run_app_none w t ty e i ht hI A A' n c c' hs.le, Turn.refl _ _ _, .inl ⟨rfl, rfl, by simpa using hs⟩⟩
  · have hne : news ≠ [] := by
      rintro rfl
      have := Nat.mul_pos hm hsz
      simp at hl; omega
    obtain ⟨a, rfl, _, hcells⟩ := hr hne
    by_cases hroom : n + m ≤ c
    · obtain ⟨g, o, cur, rfl, h6, h7, h8, h9, h10⟩ := hs.block (by omega)
      have hcs : (n + m) * size ≤ c * size := Nat.mul_le_mul_right _ hroom
      rw [Nat.add_mul] at hcs
      have hrun := run_append_room_cells (P := P) w t ty e i ht hI g o n c a m c' news (by rw [hsize]; exact hl) hcells h1 hroom
        (fun j hj => by rw [h8.cell, hsize, Array.getElem?_eq_getElem (by omega)]; rfl) (fun j hj => h8.frozen _)
      rw [hsize] at hrun
      refine ⟨_, c, _, hrun, Turn.grown (grownBy_setCells w g news _) (fun k e => by cases e; exact h6) (fun k e => by cases e; exact h7), .inl ⟨rfl, rfl, by rw [List.length_append, hs.1, hl, Nat.add_mul], by omega, .inr ⟨g, o, _, rfl, h6, h7, blk_setCells news _ cur h8 (by omega), ?_, ?_⟩⟩⟩
      · simp; omega
      · have e1 : (cur.toList.take (o + n * size) ++ news ++ cur.toList.drop (o + n * size + news.length)).drop o = xs ++ (news ++ cur.toList.drop (o + n * size + news.length)) := by
          rw [List.append_assoc, List.drop_append_of_le_length (by simp; omega), List.drop_take, Nat.add_sub_cancel_left, h10]
        rw [List.toList_toArray, e1, ← List.append_assoc]
        exact List.take_left' (by rw [List.length_append, hs.1, hl, Nat.add_mul])
    · cases A with
      | some b =>
        obtain ⟨v', w', hrun, r1, r2⟩ := run_append_arg_grows (P := P) w t ty e i z size bytes ht hI hz hsize hby hzs hsz b n c xs hs.1
          (fun j u hu => by
            obtain ⟨ad, e1, _, hcc⟩ := hs.rd (by rintro rfl; simp at hu)
            injection e1 with e1
            subst e1
            exact hcc j u hu) a m c' news hl hcells (by omega) h63 hbytes
        obtain ⟨A'', c'', rfl, h2⟩ := Sl.of_own (lo := w.heap.size) (hi := w'.heap.size) r1 (Nat.le_refl _) (Nat.le_refl _)
        exact ⟨A'', c'', w', hrun, Turn.grown r2 (fun k e => by cases e) (fun k e => by cases e), .inr ⟨h2, Turn.grown r2 (fun k e => by cases e) (fun k e => by cases e)⟩⟩
      | none =>
        have hc0 := hnone rfl
        have hn0 : n = 0 := by have := hs.le; omega
        subst hc0 hn0
        have hx : xs = [] := List.eq_nil_of_length_eq_zero (by simpa using hs.1)
        subst hx
        obtain ⟨v', w', hrun, r1, r2, _⟩ := run_append_own (P := P) w w.heap.size t ty e i z size bytes ht hI hz hsize hby hzs hsz (.slice none 0 0) 0 [] (World.ownsRow_nil w _ e size) a m c' news hl hcells h1 h63 hbytes (Nat.le_refl _)
        obtain ⟨A'', c'', rfl, h2⟩ := Sl.of_own (lo := w.heap.size) (hi := w'.heap.size) r1 (Nat.le_refl _) (Nat.le_refl _)
        exact ⟨A'', c'', w', hrun, Turn.grown r2 (fun k e => by cases e) (fun k e => by cases e), .inr ⟨h2, Turn.grown r2 (fun k e => by cases e) (fun k e => by cases e)⟩⟩
end

section
variable {P : Program} {w : World} {ops : Array Oper} {rest : List Oper} {o : Oper} {a : Act} {Q : Exit → Act → World → Prop}
theorem Turn.none {lo hi : Nat} {w w' : World} (h : Turn 0 0 w w') : Turn lo hi w w' := ⟨h.os, h.tape, h.output, h.size, fun k hk _ => h.block k hk (.inr (Nat.zero_le _))⟩
theorem wpList_appS (s x : Operand) (t : TypeId) (hgd : o.guard = none)
    (ho : o.op = .call { callee := .builtin .append, args := #[s, x], argTypes := #[t, t] })
    (e : TypeId) (i : TypeInfo) (z : Value) (size bytes : Nat) (ht : P.underlying t = some (.slice e)) (hI : P.info? e = some i) (hz : i.zero = some z)
    (hsize : i.size = size) (hby : i.bytes = bytes) (hzs : z.cells.size = size) (hsz : 0 < size)
    {lo hi n c m c' B : Nat} {A A' : Option Addr} (xs news : List Value) (hs : a.eval s = .slice A n c) (hsl : Sl w lo hi e size A n c xs) (hx : a.eval x = .slice A' m c') (hl : news.length = m * size) (hr : Rd w B A' news) (h1 : ∀ u ∈ news, u.oneCell' = true)
    (h63 : n + m ≤ maxLen) (hbytes : (n + m) * bytes ≤ 140737488355328)
    (h : ∀ A'' c'' lo' hi' w', Sl w' lo' hi' e size A'' (n + m) c'' (xs ++ news) → ((lo' = lo ∧ hi' = hi) ∨ (lo' = w.heap.size ∧ hi' = w'.heap.size)) → Turn lo hi w w' → wpList P ops Q rest (a.put o.dst (.slice A'' (n + m) c'')) w') : wpList P ops Q (o :: rest) a w := by
  obtain ⟨A'', c'', w', hrun, ht2, hfin⟩ := run_appS (P := P) w lo hi t o.type e i z size bytes ht hI hz hsize hby hzs hsz A n c xs hsl B A' m c' news hl hr h1 h63 hbytes
  refine wpList_plain hgd fun K hK => ?_
  unfold Oper.wp execOp
  simp only [ho, resolve, invoke, builtin, Sem.run_bind, Sem.run_pure, Result.andThen_ok, List.map_toArray, List.map_cons, List.map_nil, hs, hx, hrun]
  rcases hfin with ⟨rfl, rfl, hfin⟩ | ⟨hfin, _⟩
  · exact hK _ _ (h _ _ lo hi w' hfin (.inl ⟨rfl, rfl⟩) ht2)
  · exact hK _ _ (h _ _ w.heap.size w'.heap.size w' hfin (.inr ⟨rfl, rfl⟩) ht2)
theorem wpList_appRS {α : Type} {cs : α → List Int} {K : Nat} (hK : ∀ x, (cs x).length = K) (hp : 0 < K) (s x : Operand) (T t : TypeId) (i : TypeInfo) (z : Value) (bytes : Nat)
    (hT : P.underlying T = some (.slice t)) (hI : P.info? t = some i) (hz : i.zero = some z) (hsize : i.size = K) (hby : i.bytes = bytes) (hzs : z.cells.size = K) (hbl : bytes ≤ 64) (hgd : o.guard = none)
    (ho : o.op = .call { callee := .builtin .append, args := #[s, x], argTypes := #[T, T] })
    {lo hi n c gx : Nat} {A : Option Addr} (xs : List α) (y : α) (hs : a.eval s = .slice A n c) (hn : xs.length = n) (hsl : SlR cs t K w lo hi A c xs) (hx : a.eval x = .slice (some ⟨gx, 0, Option.none⟩) 1 1)
    (hgx : Blk w gx t (ints (cs y)).toArray) (hb : n ≤ 1099511627776)
    (h : ∀ A'' c'' lo' hi' w', SlR cs t K w' lo' hi' A'' c'' (xs ++ [y]) → ((lo' = lo ∧ hi' = hi) ∨ (lo' = w.heap.size ∧ hi' = w'.heap.size)) → Turn lo hi w w' → wpList P ops Q rest (a.put o.dst (.slice A'' (n + 1) c'')) w') : wpList P ops Q (o :: rest) a w := by
  subst hn
  refine wpList_appS s x T hgd ho t i z K bytes hT hI hz hsize hby hzs hp (ints (rows cs xs)) (ints (cs y)) hs hsl hx (by simp [hK])
    (fun _ => ⟨_, rfl, Nat.lt_succ_self _, fun j u hu => by rw [add_lit, hgx.cell, Nat.zero_add, List.getElem?_toArray]; exact hu⟩) (ints_oneCell _ _) (by unfold maxLen; omega) ?_ ?_
  · have : (xs.length + 1) * bytes ≤ (xs.length + 1) * 64 := Nat.mul_le_mul_left _ hbl
    omega
  · intro A'' c'' lo' hi' w' h2 h3 h4
    refine h A'' c'' lo' hi' w' ?_ h3 h4
    unfold SlR
    rw [List.length_append, rows_append, rows_one]
    simpa [ints] using h2
end
section
variable {w : World} {ops : Array Oper} {rest : List Oper} {o : Oper} {a : Act} {Q : Exit → Act → World → Prop}
theorem wpList_appIS (s x : Operand) (hgd : o.guard = none)
    (ho : o.op = .call { callee := .builtin .append, args := #[s, x], argTypes := #[38, 38] })
    {lo hi n c c' B m : Nat} {A A' : Option Addr} (xs : List Int) (ys : List Int) (hs : a.eval s = .slice A n c) (hn : xs.length = n) (hown : SlI w lo hi A c xs) (hx : a.eval x = .slice A' m c') (hl : ys.length = m) (hr : RdI w B A' ys)
    (hb : n + m ≤ 17592186044416)
    (h : ∀ A'' c'' lo' hi' w', SlI w' lo' hi' A'' c'' (xs ++ ys) → ((lo' = lo ∧ hi' = hi) ∨ (lo' = w.heap.size ∧ hi' = w'.heap.size)) → Turn lo hi w w' → wpList Try.prog ops Q rest (a.put o.dst (.slice A'' (n + m) c'')) w') : wpList Try.prog ops Q (o :: rest) a w := by
  subst hn hl
  obtain ⟨i0, hi0, hz0, hz1, hz2⟩ := info_parts Try.infoInt
  refine wpList_appS s x 38 hgd ho 3 i0 (.int .i64 0) 1 8 Try.underlying38 hi0 hz0 hz1 hz2 rfl (by decide) (ints xs) (ints ys) hs hown hx (by simp) hr (ints_oneCell _ _) (by unfold maxLen; omega) (by omega) ?_
  intro A'' c'' lo' hi' w' h2 h3 h4
  refine h A'' c'' lo' hi' w' ?_ h3 h4
  unfold SlI
  rw [List.length_append]
  simpa [ints] using h2
end
end Go.Proofs.Ytlinngohbghimaa

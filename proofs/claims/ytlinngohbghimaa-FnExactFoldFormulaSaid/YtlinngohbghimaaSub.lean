/-
  Slices of formulas of the call's own: the headers lie in one block, each formula's parts in a block of its own.
-/
import Derived.Test.YtlinngohbghimaaFormRec
import Derived.Deep.RegionHeldLaw
namespace Go.Proofs.Ytlinngohbghimaa
open Go.RowKit

theorem Try.infoF : (Try.prog.info? 29).map (fun i => (i.zero, i.size, i.bytes)) = some (some (.agg #[.slice none 0 0]), 1, 24) := by kernel_rfl
/-- where the parts of a formula lie -/
structure Hs where
  A : Option Addr
  c : Nat
  lo : Nat
  hi : Nat
def valS (q : List Prt × Hs) : Value := .slice q.2.A q.1.length q.2.c
def SubI (b : Nat) (w : World) (los his : Nat) (A : Option Addr) (c : Nat) (qs : List (List Prt × Hs)) : Prop :=
  Sl w los his 29 1 A qs.length c (qs.map valS) ∧ (∀ q ∈ qs, SlP w q.2.lo q.2.hi q.2.A q.2.c q.1 ∧ b ≤ q.2.lo ∧ q.2.hi ≤ w.heap.size ∧ (q.2.hi ≤ los ∨ his ≤ q.2.lo)) ∧ b ≤ los ∧ his ≤ w.heap.size ∧ los ≤ w.heap.size
section
variable {b los his c : Nat} {w w' : World} {A : Option Addr} {qs : List (List Prt × Hs)}
theorem SubI.nil (h1 : b ≤ los) (h2 : his ≤ w.heap.size) (h3 : los ≤ w.heap.size) : SubI b w los his A 0 [] := ⟨Sl.nil _ _ _ _ _ _, fun q hq => by simp at hq, h1, h2, h3⟩
theorem SubI.below (h : SubI b w los his A c qs) (hb : Below w.heap.size w w') : SubI b w' los his A c qs := by
  obtain ⟨h1, h2, h3, h4, h5⟩ := h
  have hz := hb.size
  exact ⟨h1.below hb h4, fun q hq => by obtain ⟨a1, a2, a3, a4⟩ := h2 q hq; exact ⟨a1.below hb a3, a2, by omega, a4⟩, h3, by omega, by omega⟩
theorem SubI.alloc (h : SubI b w los his A c qs) (o : Obj) : SubI b (w.alloc o) los his A c qs := h.below ((Below.refl _ _).alloc (Nat.le_refl _) o)
theorem SubI.drew (h : SubI b w los his A c qs) : SubI b w.drew los his A c qs := h.below (Below.refl _ _).drew
theorem SubI.low (h : SubI b w los his A c qs) {lo hi : Nat} (t : Turn lo hi w w') (hh : hi ≤ b) : SubI b w' los his A c qs := by
  obtain ⟨h1, h2, h3, h4, h5⟩ := h
  have hz := t.size
  exact ⟨h1.turn t (.inr (by omega)), fun q hq => by obtain ⟨a1, a2, a3, a4⟩ := h2 q hq; exact ⟨a1.turn t (.inr (by omega)), a2, by omega, a4⟩, h3, by omega, by omega⟩
/-- header i: where it lies, and what its parts are -/
theorem SubI.hdr (h : SubI b w los his A c qs) {i : Nat} {q : List Prt × Hs} (hq : qs[i]? = some q) : ∃ g o, A = some ⟨g, o, none⟩ ∧ los ≤ g ∧ w.cell? ⟨g, o + i, none⟩ = some (.slice q.2.A q.1.length q.2.c) ∧ SlP w q.2.lo q.2.hi q.2.A q.2.c q.1 ∧ b ≤ q.2.lo ∧ q.2.hi ≤ w.heap.size := by
  obtain ⟨h1, h2, h3, h4, h5⟩ := h
  have hi : i < qs.length := (List.getElem?_eq_some_iff.1 hq).1
  have hle := h1.le
  have hr := Sl.rd h1
  obtain ⟨g, o, cur, rfl, g1, g2, g3, g4, g5⟩ := Sl.block h1 (by omega)
  obtain ⟨a1, a2, a3, _⟩ := h2 q (List.mem_of_getElem? hq)
  obtain ⟨ad, e, _, hc⟩ := hr (by intro e; have := congrArg List.length e; rw [List.length_map, List.length_nil] at this; omega)
  injection e with e
  subst e
  have := hc i (valS q) (by rw [List.getElem?_map, hq]; rfl)
  rw [add_lit] at this
  exact ⟨g, o, rfl, g1, this, a1, a2, a3⟩
/-- a formula that was made behind it, put to it -/
theorem SubI.push (h : SubI b w los his A c qs) {x : List Prt} {hd : Hs} (hx : SlP w hd.lo hd.hi hd.A hd.c x) (h1 : his ≤ hd.lo) (h2 : b ≤ hd.lo) (h3 : hd.hi ≤ w.heap.size) {W w9 : World} {o : Obj} (hW : W = w.alloc o) {lo9 hi9 c9 : Nat} {A9 : Option Addr}
    (s9 : Sl w9 lo9 hi9 29 1 A9 (qs.length + 1) c9 (qs.map valS ++ [valS (x, hd)])) (d9 : (lo9 = los ∧ hi9 = his) ∨ (lo9 = W.heap.size ∧ hi9 = w9.heap.size)) (t9 : Turn los his W w9) : SubI b w9 lo9 hi9 A9 c9 (qs ++ [(x, hd)]) := by
  subst hW
  obtain ⟨a1, a2, a3, a4, a5⟩ := h.alloc o
  have hz := t9.size
  rw [World.size_alloc] at hz a4 a5 d9
  refine ⟨by simpa using s9, fun q hq => ?_, by have := h.2.2.1; omega, by omega, by omega⟩
  rcases List.mem_append.1 hq with hq | hq
  · obtain ⟨e1, e2, e3, e4⟩ := a2 q hq
    obtain ⟨_, _, f3, _⟩ := h.2.1 q hq
    exact ⟨e1.turn t9 (by omega), e2, by omega, by omega⟩
  · rw [List.mem_singleton] at hq
    subst hq
    exact ⟨(hx.alloc o).turn t9 (.inr h1), h2, by simp only; omega, by simp only; omega⟩
end

section
variable {w : World} {ops : Array Oper} {rest : List Oper} {o : Oper} {a : Act} {Q : Exit → Act → World → Prop}
theorem rd_one {w : World} {g : Nat} {t : TypeId} {v : Value} (h : Blk w g t #[v]) : Rd w (g + 1) (some ⟨g, 0, none⟩) [v] := fun _ => ⟨_, rfl, Nat.lt_succ_self _, fun j u hu => by
  rw [add_lit, h.cell, Nat.zero_add, ← hu]
  simp⟩
/-- append(out, f) at formulas -/
theorem wpList_appF (s x : Operand) (hgd : o.guard = none)
    (ho : o.op = .call { callee := .builtin .append, args := #[s, x], argTypes := #[83, 83] })
    {lo hi n c gx : Nat} {A A0 : Option Addr} {n0 c0 : Nat} (xs : List Value) (hs : a.eval s = .slice A n c) (hsl : Sl w lo hi 29 1 A n c xs) (hx : a.eval x = .slice (some ⟨gx, 0, none⟩) 1 1)
    (hgx : Blk w gx 29 #[.slice A0 n0 c0]) (hb : n ≤ 1099511627776)
    (h : ∀ A'' c'' lo' hi' w', Sl w' lo' hi' 29 1 A'' (n + 1) c'' (xs ++ [.slice A0 n0 c0]) → ((lo' = lo ∧ hi' = hi) ∨ (lo' = w.heap.size ∧ hi' = w'.heap.size)) → Turn lo hi w w' → wpList Try.prog ops Q rest (a.put o.dst (.slice A'' (n + 1) c'')) w') : wpList Try.prog ops Q (o :: rest) a w := by
  obtain ⟨i0, hi0, hz0, hz1, hz2⟩ := info_parts Try.infoF
  exact wpList_appS s x 83 hgd ho 29 i0 _ 1 24 Try.underlying83 hi0 hz0 hz1 hz2 rfl (by decide) xs [.slice A0 n0 c0] hs hsl hx rfl (rd_one hgx) (fun u hu => by rw [List.mem_singleton] at hu; subst hu; rfl) (by unfold maxLen; omega) (by omega) h
/-- .. in a region that draws -/
theorem step_appF {K : Act → World → Prop} {E : Prop} (s x : Operand) (hgd : o.guard = none)
    (ho : o.op = .call { callee := .builtin .append, args := #[s, x], argTypes := #[83, 83] })
    {lo hi n c gx : Nat} {A A0 : Option Addr} {n0 c0 : Nat} (xs : List Value) (hs : a.eval s = .slice A n c) (hsl : Sl w lo hi 29 1 A n c xs) (hx : a.eval x = .slice (some ⟨gx, 0, none⟩) 1 1)
    (hgx : Blk w gx 29 #[.slice A0 n0 c0]) (hb : n ≤ 1099511627776)
    (h : ∀ A'' c'' lo' hi' w', Sl w' lo' hi' 29 1 A'' (n + 1) c'' (xs ++ [.slice A0 n0 c0]) → ((lo' = lo ∧ hi' = hi) ∨ (lo' = w.heap.size ∧ hi' = w'.heap.size)) → Turn lo hi w w' → K (a.put o.dst (.slice A'' (n + 1) c'')) w') :
    if Region.wanted o (yielded ops a.tmps) = true then Oper.wp Try.prog o a w K Q else E := by
  have hw : Region.wanted o (yielded ops a.tmps) = true := by simp [Region.wanted, hgd]
  rw [if_pos hw]
  obtain ⟨i0, hi0, hz0, hz1, hz2⟩ := info_parts Try.infoF
  obtain ⟨A'', c'', w', hrun, ht2, hfin⟩ := run_appS (P := Try.prog) w lo hi 83 o.type 29 i0 _ 1 24 Try.underlying83 hi0 hz0 hz1 hz2 rfl (by decide) A n c xs hsl
    (gx + 1) (some ⟨gx, 0, none⟩) 1 1 [.slice A0 n0 c0] rfl (rd_one hgx) (fun u hu => by rw [List.mem_singleton] at hu; subst hu; rfl) (by unfold maxLen; omega) (by omega)
  unfold Oper.wp
  simp only [execOp, ho, resolve, invoke, builtin, Sem.run_bind, Sem.run_pure, Result.andThen_ok, List.map_toArray, List.map_cons, List.map_nil, hs, hx, hrun]
  rcases hfin with ⟨rfl, rfl, hfin⟩ | ⟨hfin, _⟩
  · exact h _ _ lo hi w' hfin (.inl ⟨rfl, rfl⟩) ht2
  · exact h _ _ w.heap.size w'.heap.size w' hfin (.inr ⟨rfl, rfl⟩) ht2
end
end Go.Proofs.Ytlinngohbghimaa

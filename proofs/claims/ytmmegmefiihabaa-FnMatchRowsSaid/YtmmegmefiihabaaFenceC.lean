/-
  Append inside a fence, at records (Change).
-/
import Derived.Test.YtmmegmefiihabaaRecC
import Derived.Test.YtmmegmefiihabaaFence
namespace Go.Proofs.Ytmmegmefiihabaa
open Go.RowKit Go.Shelf
attribute [local go_sem] Oper.semAt_some

section
variable {W W' w : World} {row : Option Nat} {B lo hi : Nat}
theorem SlC.own {c : Nat} {A : Option Addr} {xs : List Chg} (h : SlC W lo hi A c xs) (hg : W.grownBy W' row) (hr : ∀ r, row = some r → B ≤ r ∧ ∃ o : Obj, W.heap[r]? = some o ∧ o.isCells = false) : SlC W' lo hi A c xs := Sl.own h hg hr
theorem SlC.ownTop {c : Nat} {A : Option Addr} {xs : List Chg} (h : SlC W lo W.heap.size A c xs) (hg : W.grownBy W' row) (hr : ∀ r, row = some r → B ≤ r ∧ ∃ o : Obj, W.heap[r]? = some o ∧ o.isCells = false) : SlC W' lo W'.heap.size A c xs := (h.own hg hr).mono (Nat.le_refl _) hg.size
end
/-- append, all that is said of it at records -/
theorem run_appC {w : World} {lo hi n c gx : Nat} {A : Option Addr} (xs : List Chg) (y : Chg) (ty : TypeId) (hn : xs.length = n) (hown : SlC w lo hi A c xs)
    (hgx : Blk w gx 32 (ints (cC y)).toArray) (hb : n ≤ 1099511627776) (hlo : lo ≤ w.heap.size) :
    ∃ A'' c'' w', (Builtin.append_ #[24, 24] ty #[.slice A n c, .slice (some ⟨gx, 0, none⟩) 1 1]).run Try.prog w = .ok (.slice A'' (n + 1) c'') w' ∧ SlC w' lo (max hi w'.heap.size) A'' c'' (xs ++ [y]) ∧ Turn lo hi w w' ∧ TurnIn (live A c) w w' := by
  subst hn
  obtain ⟨i0, hi0, hz0, hz1, hz2⟩ := info_parts Try.infoC
  obtain ⟨a, b, hs, hlv, ha, _⟩ := Sl.narrow hown
  have hr : Rd w (gx + 1) (some ⟨gx, 0, none⟩) (ints (cC y)) := fun _ => ⟨_, rfl, Nat.lt_succ_self _, fun j u hu => by rw [add_lit, hgx.cell, Nat.zero_add, List.getElem?_toArray]; exact hu⟩
  obtain ⟨A1, c1, w1, e1, s1, t1, _, _⟩ := run_app (P := Try.prog) w lo hi 24 ty 32 i0 _ 3 24 Try.underlying24 hi0 hz0 hz1 hz2 rfl (by decide) A xs.length c (ints (rows cC xs)) hown (gx + 1) (some ⟨gx, 0, none⟩) 1 1 (ints (cC y)) rfl hr (ints_oneCell _ _)
    (by unfold maxLen; omega) (by omega) hlo
  obtain ⟨A2, c2, w2, e2, _, t2, _, _⟩ := run_app (P := Try.prog) w a b 24 ty 32 i0 _ 3 24 Try.underlying24 hi0 hz0 hz1 hz2 rfl (by decide) A xs.length c (ints (rows cC xs)) hs (gx + 1) (some ⟨gx, 0, none⟩) 1 1 (ints (cC y)) rfl hr (ints_oneCell _ _)
    (by unfold maxLen; omega) (by omega) (by rcases ha with rfl | ha <;> omega)
  rw [e1] at e2
  injection e2 with _ e2
  subst e2
  refine ⟨A1, c1, w1, e1, ?_, t1, t1.size, fun k hk hl => t2.block k hk ?_⟩
  · unfold SlC SlR
    rw [List.length_append, rows_append, rows_one]
    simpa [ints] using s1
  · by_cases h1 : k < a
    · exact .inl h1
    · by_cases h2 : b ≤ k
      · exact .inr h2
      · exact absurd (hlv k (by omega) (by omega)) hl
/-- .. told so far as to say where the new slice lies -/
theorem run_appCS {w : World} {lo hi n c gx : Nat} {A : Option Addr} (xs : List Chg) (y : Chg) (ty : TypeId) (hn : xs.length = n) (hown : SlC w lo hi A c xs)
    (hgx : Blk w gx 32 (ints (cC y)).toArray) (hb : n ≤ 1099511627776) (hlo : lo ≤ w.heap.size) :
    ∃ A'' c'' lo' hi' w', (Builtin.append_ #[24, 24] ty #[.slice A n c, .slice (some ⟨gx, 0, none⟩) 1 1]).run Try.prog w = .ok (.slice A'' (n + 1) c'') w' ∧ SlC w' lo' hi' A'' c'' (xs ++ [y]) ∧ ((lo' = lo ∧ hi' = hi) ∨ (lo' = w.heap.size ∧ hi' = w'.heap.size)) ∧ Turn lo hi w w' ∧ KeepsOthers w w' := by
  subst hn
  obtain ⟨i0, hi0, hz0, hz1, hz2⟩ := info_parts Try.infoC
  have hr : Rd w (gx + 1) (some ⟨gx, 0, none⟩) (ints (cC y)) := fun _ => ⟨_, rfl, Nat.lt_succ_self _, fun j u hu => by rw [add_lit, hgx.cell, Nat.zero_add, List.getElem?_toArray]; exact hu⟩
  obtain ⟨A1, c1, w1, e1, _, _, t1⟩ := run_appC xs y ty rfl hown hgx hb hlo
  obtain ⟨A2, c2, w2, e2, t2, hfin⟩ := run_appS (P := Try.prog) w lo hi 24 ty 32 i0 _ 3 24 Try.underlying24 hi0 hz0 hz1 hz2 rfl (by decide) A xs.length c (ints (rows cC xs)) hown (gx + 1) (some ⟨gx, 0, none⟩) 1 1 (ints (cC y)) rfl hr (ints_oneCell _ _)
    (by unfold maxLen; omega) (by omega)
  rw [e1] at e2
  injection e2 with ev e2
  subst e2
  have K := t1.others hown
  have conv : ∀ (A : Option Addr) (c lo hi : Nat), Sl w1 lo hi 32 3 A (xs.length + 1) c (ints (rows cC xs) ++ ints (cC y)) → SlC w1 lo hi A c (xs ++ [y]) := fun A c lo hi h => by
    unfold SlC SlR
    rw [List.length_append, rows_append, rows_one]
    simpa [ints] using h
  injection ev with h1 _ h3
  subst h1 h3
  rcases hfin with ⟨rfl, rfl, hfin⟩ | ⟨hfin, _⟩
  · exact ⟨_, _, lo, hi, w1, e1, conv _ _ _ _ hfin, .inl ⟨rfl, rfl⟩, t2, K⟩
  · exact ⟨_, _, w.heap.size, w1.heap.size, w1, e1, conv _ _ _ _ hfin, .inr ⟨rfl, rfl⟩, t2, K⟩
section
variable {F : Fence} {f : Nat} {w : World} {ops : Array Oper} {rest : List Oper} {o : Oper} {a : Act} {Q : Exit → Act → World → Prop}
theorem wpListIn_appC (s x : Operand) (hgd : o.guard = none)
    (ho : o.op = .call { callee := .builtin .append, args := #[s, x], argTypes := #[24, 24] })
    {lo hi n c gx : Nat} {A : Option Addr} (xs : List Chg) (y : Chg) (hs : a.eval s = .slice A n c) (hn : xs.length = n) (hown : SlC w lo hi A c xs) (hx : a.eval x = .slice (some ⟨gx, 0, none⟩) 1 1)
    (hgx : Blk w gx 32 (ints (cC y)).toArray) (hb : n ≤ 1099511627776) (hlo : lo ≤ w.heap.size)
    (h : ∀ A'' c'' w', SlC w' lo (max hi w'.heap.size) A'' c'' (xs ++ [y]) → Turn lo hi w w' → TurnIn (live A c) w w' → wpListIn F f Try.prog ops Q rest (a.put o.dst (.slice A'' (n + 1) c'')) w') : wpListIn F f Try.prog ops Q (o :: rest) a w := by
  refine wpListIn_plain hgd fun K hK' => ?_
  obtain ⟨A'', c'', w', hrun, r1, r2, r3⟩ := run_appC xs y o.type hn hown hgx hb hlo
  unfold Oper.wpIn
  refine ⟨?_, ?_⟩
  · simp [Oper.about, ho, resolve, Target.leads, Sem.run_pure]
  · rw [Oper.semAt_plain F _ _ (by rw [ho]; intro c hc'; cases hc')]
    simp [execOp, ho, resolve, invoke, builtin, hs, hx, hrun, Result.andThen]
    exact hK' _ _ (h A'' c'' w' r1 r2 r3)
theorem wpListIn_appCS (s x : Operand) (hgd : o.guard = none)
    (ho : o.op = .call { callee := .builtin .append, args := #[s, x], argTypes := #[24, 24] })
    {lo hi n c gx : Nat} {A : Option Addr} (xs : List Chg) (y : Chg) (hs : a.eval s = .slice A n c) (hn : xs.length = n) (hown : SlC w lo hi A c xs) (hx : a.eval x = .slice (some ⟨gx, 0, none⟩) 1 1)
    (hgx : Blk w gx 32 (ints (cC y)).toArray) (hb : n ≤ 1099511627776) (hlo : lo ≤ w.heap.size)
    (h : ∀ A'' c'' lo' hi' w', SlC w' lo' hi' A'' c'' (xs ++ [y]) → ((lo' = lo ∧ hi' = hi) ∨ (lo' = w.heap.size ∧ hi' = w'.heap.size)) → Turn lo hi w w' → KeepsOthers w w' → wpListIn F f Try.prog ops Q rest (a.put o.dst (.slice A'' (n + 1) c'')) w') : wpListIn F f Try.prog ops Q (o :: rest) a w := by
  refine wpListIn_plain hgd fun K hK' => ?_
  obtain ⟨A'', c'', lo', hi', w', hrun, r1, r2, r3, r4⟩ := run_appCS xs y o.type hn hown hgx hb hlo
  unfold Oper.wpIn
  refine ⟨?_, ?_⟩
  · simp [Oper.about, ho, resolve, Target.leads, Sem.run_pure]
  · rw [Oper.semAt_plain F _ _ (by rw [ho]; intro c hc'; cases hc')]
    simp [execOp, ho, resolve, invoke, builtin, hs, hx, hrun, Result.andThen]
    exact hK' _ _ (h A'' c'' lo' hi' w' r1 r2 r3 r4)
end
end Go.Proofs.Ytmmegmefiihabaa

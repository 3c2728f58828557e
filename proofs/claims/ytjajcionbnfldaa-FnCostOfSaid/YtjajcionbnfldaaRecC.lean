/-
  Records of type Change: words for memory; the laws' own functions on them.
-/
import Derived.Test.YtjajcionbnfldaaApp
import Derived.Test.YtjajcionbnfldaaLists
import Derived.Test.YtjajcionbnfldaaEqI
import Derived.Deep.RegionHeld3
namespace Go.Proofs.Ytjajcionbnfldaa
open Go.RowKit

structure Chg where
  kd : Int
  ky : Int
  aa : Int
  deriving DecidableEq
def cC (x : Chg) : List Int := [x.kd, x.ky, x.aa]
theorem kC (x : Chg) : (cC x).length = 3 := rfl
def vC (x : Chg) : Value := .agg #[.int .i64 x.kd, .int .i64 x.ky, .int .i64 x.aa]
def zC : Chg := ⟨0, 0, 0⟩
abbrev RdC (w : World) (B : Nat) (A : Option Addr) (xs : List Chg) : Prop := RdR cC w B A xs
abbrev SlC (w : World) (lo hi : Nat) (A : Option Addr) (c : Nat) (xs : List Chg) : Prop := SlR cC 41 3 w lo hi A c xs
theorem RdC_at {w : World} {B : Nat} {A : Option Addr} {xs : List Chg} (h : RdC w B A xs) {k : Nat} (hk : k < xs.length) :
    ∃ g o, A = some ⟨g, o, none⟩ ∧ g < B ∧ (w.cell? ⟨g, o + k * 3, none⟩ = some (.int .i64 xs[k].kd) ∧ w.cell? ⟨g, o + k * 3 + 1, none⟩ = some (.int .i64 xs[k].ky) ∧ w.cell? ⟨g, o + k * 3 + 2, none⟩ = some (.int .i64 xs[k].aa)) := by
  obtain ⟨g, o, hA, hg, hc⟩ := RdR.at_ kC (by decide) h hk
  exact ⟨g, o, hA, hg, hc 0 _ rfl, hc 1 _ rfl, hc 2 _ rfl⟩
/-- the cells of one record, and what a store of a whole record does -/
theorem SlC_at {w : World} {lo hi c : Nat} {A : Option Addr} {xs : List Chg} (h : SlC w lo hi A c xs) {k : Nat} (hk : k < xs.length) :
    ∃ g o, A = some ⟨g, o, none⟩ ∧ lo ≤ g ∧ g < hi ∧ g < w.heap.size ∧ (w.cell? ⟨g, o + k * 3, none⟩ = some (.int .i64 xs[k].kd) ∧ w.cell? ⟨g, o + k * 3 + 1, none⟩ = some (.int .i64 xs[k].ky) ∧ w.cell? ⟨g, o + k * 3 + 2, none⟩ = some (.int .i64 xs[k].aa)) ∧ (w.frozen? ⟨g, o + k * 3, none⟩ = false ∧ w.frozen? ⟨g, o + k * 3 + 1, none⟩ = false ∧ w.frozen? ⟨g, o + k * 3 + 2, none⟩ = false) ∧ ∀ y : Chg, SlC (((w.setCell ⟨g, o + k * 3, none⟩ (.int .i64 y.kd)).setCell ⟨g, o + k * 3 + 1, none⟩ (.int .i64 y.ky)).setCell ⟨g, o + k * 3 + 2, none⟩ (.int .i64 y.aa)) lo hi A c (xs.set k y) ∧ Turn g (g + 1) w (((w.setCell ⟨g, o + k * 3, none⟩ (.int .i64 y.kd)).setCell ⟨g, o + k * 3 + 1, none⟩ (.int .i64 y.ky)).setCell ⟨g, o + k * 3 + 2, none⟩ (.int .i64 y.aa)) := by
  obtain ⟨g, o, hA, h1, h2, h3, h4, h5, _, h7⟩ := SlR.at_ kC h hk
  have c := h4 k xs[k] (List.getElem?_eq_getElem hk)
  refine ⟨g, o, hA, h1, h2, h3, ⟨by simpa only [Nat.add_assoc, Nat.add_zero] using c 0 _ rfl, by simpa only [Nat.add_assoc, Nat.add_zero] using c 1 _ rfl, by simpa only [Nat.add_assoc, Nat.add_zero] using c 2 _ rfl⟩, ⟨h5 (k * 3), by simpa only [Nat.add_assoc] using h5 (k * 3 + 1), by simpa only [Nat.add_assoc] using h5 (k * 3 + 2)⟩, fun y => ?_⟩
  have := h7 y
  simpa only [cC, ints, List.map_cons, List.map_nil, World.setCells, Nat.add_assoc, Nat.reduceAdd] using this
theorem Try.infoC : (Try.prog.info? 41).map (fun i => (i.zero, i.size, i.bytes)) = some (some (.agg #[.int .i64 0, .int .i64 0, .int .i64 0]), 3, 24) := by kernel_rfl
theorem madeC (n : Nat) : madeCells #[.int .i64 0, .int .i64 0, .int .i64 0] (n * 3) = (ints (rows cC (List.replicate n zC))).toArray := by
  rw [rows_replicate zC n 0 (K := 3) rfl]
  apply Array.ext'
  apply List.ext_getElem?
  intro i
  simp only [madeCells, Array.toList_map, Array.toList_range, List.getElem?_map, ints, List.map_replicate]
  rcases Nat.lt_or_ge i (n * 3) with h | h
  · rw [List.getElem?_range h, List.getElem?_replicate, if_pos h, Option.map_some]
    have h4 : i % 3 = 0 ∨ i % 3 = 1 ∨ i % 3 = 2 := by omega
    rcases h4 with h4 | h4 | h4 <;> · show some (_[i % 3]!) = _; rw [h4]; rfl
  · rw [List.getElem?_eq_none (by simpa using h), List.getElem?_eq_none (by simpa using h), Option.map_none]
theorem run_makeC (n : Nat) (hn : n ≤ 1099511627776) (w : World) : (Instr.makeSlice 29 (.int .i64 (n : Int)) (.int .i64 (n : Int))).run Try.prog w = .ok (.slice (some ⟨w.heap.size, 0, none⟩) n n) (w.alloc (.cells (ints (rows cC (List.replicate n zC))).toArray 41)) := by
  obtain ⟨i0, hi, hz0, hz1, hz2⟩ := info_parts Try.infoC
  have hr := run_make (P := Try.prog) w 29 41 i0 _ Try.underlying29 hi hz0 .i64 .i64 n n (by omega) (by omega) (by rw [hz2]; omega) (by omega)
  rw [hr, hz1]
  simp only [Int.toNat_natCast]
  rw [← madeC]
  rfl
/-- a list of records that is new -/
def MadeC (w : World) (xs : List Chg) (e : Ending) (w' : World) : Prop :=
  ∃ A c, e = .returned (.slice A xs.length c) ∧ SlC w' w.heap.size w'.heap.size A c xs ∧ Below w.heap.size w w'
section
variable {w : World} {ops : Array Oper} {rest : List Oper} {o : Oper} {a : Act} {Q : Exit → Act → World → Prop}
/-- append(out, y) at records -/
theorem wpList_appC (s x : Operand) (hgd : o.guard = none)
    (ho : o.op = .call { callee := .builtin .append, args := #[s, x], argTypes := #[29, 29] })
    {lo hi n c gx : Nat} {A : Option Addr} (xs : List Chg) (y : Chg) (hs : a.eval s = .slice A n c) (hn : xs.length = n) (hsl : SlC w lo hi A c xs) (hx : a.eval x = .slice (some ⟨gx, 0, none⟩) 1 1)
    (hgx : Blk w gx 41 (ints (cC y)).toArray) (hb : n ≤ 1099511627776) (hlo : lo ≤ w.heap.size)
    (h : ∀ A'' c'' w', SlC w' lo (max hi w'.heap.size) A'' c'' (xs ++ [y]) → Turn lo hi w w' → (c < n + 1 → w.grownBy w' Option.none) → wpList Try.prog ops Q rest (a.put o.dst (.slice A'' (n + 1) c'')) w') : wpList Try.prog ops Q (o :: rest) a w := by
  obtain ⟨i0, hi0, hz0, hz1, hz2⟩ := info_parts Try.infoC
  exact wpList_appR kC (by decide) s x 29 41 i0 _ 24 Try.underlying29 hi0 hz0 hz1 hz2 rfl (by decide) hgd ho xs y hs hn hsl hx hgx hb hlo h
/-- .. told so far as to say where the new slice lies -/
theorem wpList_appCS (s x : Operand) (hgd : o.guard = none)
    (ho : o.op = .call { callee := .builtin .append, args := #[s, x], argTypes := #[29, 29] })
    {lo hi n c gx : Nat} {A : Option Addr} (xs : List Chg) (y : Chg) (hs : a.eval s = .slice A n c) (hn : xs.length = n) (hsl : SlC w lo hi A c xs) (hx : a.eval x = .slice (some ⟨gx, 0, none⟩) 1 1)
    (hgx : Blk w gx 41 (ints (cC y)).toArray) (hb : n ≤ 1099511627776)
    (h : ∀ A'' c'' lo' hi' w', SlC w' lo' hi' A'' c'' (xs ++ [y]) → ((lo' = lo ∧ hi' = hi) ∨ (lo' = w.heap.size ∧ hi' = w'.heap.size)) → Turn lo hi w w' → wpList Try.prog ops Q rest (a.put o.dst (.slice A'' (n + 1) c'')) w') : wpList Try.prog ops Q (o :: rest) a w := by
  obtain ⟨i0, hi0, hz0, hz1, hz2⟩ := info_parts Try.infoC
  exact wpList_appRS kC (by decide) s x 29 41 i0 _ 24 Try.underlying29 hi0 hz0 hz1 hz2 rfl (by decide) hgd ho xs y hs hn hsl hx hgx hb h
/-- a grown slice lies in what is there -/
theorem SlC_all {w w' : World} {lo hi c : Nat} {A : Option Addr} {xs : List Chg} (h : SlC w' lo (max hi w'.heap.size) A c xs) (ht : Turn lo hi w w') (hh : hi ≤ w.heap.size) : SlC w' lo w'.heap.size A c xs := by
  have := ht.size
  rwa [Nat.max_eq_right (by omega)] at h
end
theorem MadeC.nil0 (w : World) : MadeC w [] (.returned (.slice none 0 0)) w := ⟨none, 0, rfl, SlR.nil, Below.refl _ _⟩
theorem MadeC.below {w w' w'' : World} {xs : List Chg} {e : Ending} (h : MadeC w' xs e w'') (hb : Below w.heap.size w w') : MadeC w xs e w'' := by
  obtain ⟨A, c, h1, h2, h3⟩ := h
  exact ⟨A, c, h1, h2.mono hb.size (Nat.le_refl _), hb.trans (h3.mono hb.size)⟩
theorem bel1C (w : World) (a : Obj) : Below w.heap.size w (w.alloc a) := (Below.refl _ _).alloc (Nat.le_refl _) _
theorem bel2C (w : World) (a b : Obj) : Below w.heap.size w ((w.alloc a).alloc b) := (bel1C w a).alloc (by simp) _
def mkC (k : Int) : Chg := ⟨k, k + 1, k + 1 + 1⟩
def marksC (k : Int) (n : Nat) : List Chg := (List.range n).map fun i : Nat => mkC (k + (i : Int) * 3)
theorem marksC_len (k : Int) (n : Nat) : (marksC k n).length = n := by simp [marksC]
theorem marksC_at (k : Int) (n j : Nat) (h : j < (marksC k n).length) : (marksC k n)[j] = mkC (k + (j : Int) * 3) := by simp [marksC]
theorem marksC_succ (k : Int) (n : Nat) : marksC k (n + 1) = marksC k n ++ [mkC (k + (n : Int) * 3)] := by simp [marksC, List.range_succ]
theorem slicesClipC {A : Option Addr} {c n lo hi : Nat} {w : World} (xs : List Chg) (ln : xs.length = n) (h : SlC w lo hi A c xs) :
    Calls Try.prog 20 #[.slice A n c] w fun e w' => e = .returned (.slice A n n) ∧ SlC w lo hi A n xs ∧ w = w' := by
  subst ln
  have hle := h.le
  have H := Lib.hid (h.clip kC)
  cases A with
  | none =>
    have hc : c = 0 := Sl.noAddr h rfl
    have hx : xs = [] := List.eq_nil_of_length_eq_zero (by omega)
    subst hc hx
    clear h hle
    go_enter Try.func20, Try.ntmps20
    go_wp2
    go_ret
    exact ⟨rfl, H.out, rfl⟩
  | some ad =>
    clear h
    by_cases hx : xs = []
    · subst hx
      go_enter Try.func20, Try.ntmps20
      go_wp2
      go_ret
      exact ⟨rfl, H.out, rfl⟩
    · have hp : xs.length ≠ 0 := fun e => hx (List.eq_nil_of_length_eq_zero e)
      go_enter Try.func20, Try.ntmps20
      go_wp2
      go_ret
      exact ⟨rfl, H.out, rfl⟩
end Go.Proofs.Ytjajcionbnfldaa

/-
  laws.toOwner, laws.toOwnerS: a copy of owners, each inner list in a block of its own.
-/
import Derived.Test.YtnlbmiangbahgaaOwn
import Derived.Test.YtnlbmiangbahgaaToI
namespace Go.Proofs.Ytnlbmiangbahgaa
open Go.RowKit

def oval (x : Own × Hd) : Value := .agg #[.int .i64 x.1.p, .bool x.1.op, .slice x.2.clA x.1.cl.length x.2.clC, .slice x.2.cxA x.1.cx.length x.2.cxC]
/-- an owner handed back by value, its inner lists new -/
def MadeO1 (w : World) (o : Own) (e : Ending) (w' : World) : Prop :=
  ∃ h : Hd, e = .returned (oval (o, h)) ∧ SlI w' w.heap.size w'.heap.size h.clA h.clC o.cl ∧ SlI w' w.heap.size w'.heap.size h.cxA h.cxC o.cx ∧ (∀ b ∈ live h.clA h.clC, b ∉ live h.cxA h.cxC) ∧ Below w.heap.size w w'

theorem Blk.newAt (w : World) (t : TypeId) (cs : Array Value) (g : Nat) (hg : w.heap.size = g) : Blk (w.alloc (.cells cs t)) g t cs := by subst hg; exact Blk.new w t cs
theorem Blk.four {w : World} {g : Nat} {t : TypeId} {a b c d : Value} (h : Blk w g t #[a, b, c, d]) : (w.cell? ⟨g, 0, none⟩ = some a ∧ w.cell? ⟨g, 1, none⟩ = some b ∧ w.cell? ⟨g, 2, none⟩ = some c ∧ w.cell? ⟨g, 3, none⟩ = some d) ∧
    w.frozen? ⟨g, 0, none⟩ = false ∧ w.frozen? ⟨g, 1, none⟩ = false ∧ w.frozen? ⟨g, 2, none⟩ = false ∧ w.frozen? ⟨g, 3, none⟩ = false :=
  ⟨⟨by rw [h.cell]; rfl, by rw [h.cell]; rfl, by rw [h.cell]; rfl, by rw [h.cell]; rfl⟩, h.frozen _, h.frozen _, h.frozen _, h.frozen _⟩
theorem below1 (w : World) (a : Obj) : Below w.heap.size w (w.alloc a) ∧ (w.alloc a).heap.size = w.heap.size + 1 := ⟨(Below.refl _ _).alloc (Nat.le_refl _) _, by simp⟩
theorem below2 (w : World) (a b : Obj) : Below w.heap.size w ((w.alloc a).alloc b) ∧ ((w.alloc a).alloc b).heap.size = w.heap.size + 2 := ⟨(below1 w a).1.alloc (by simp) _, by simp⟩
theorem below3 (w : World) (a b c : Obj) : Below w.heap.size w (((w.alloc a).alloc b).alloc c) ∧ (((w.alloc a).alloc b).alloc c).heap.size = w.heap.size + 3 := ⟨(below2 w a b).1.alloc (by simp; omega) _, by simp⟩
theorem bcell {W w1 : World} {B : Nat} (hb : Below B W w1) : (∀ b o, b < B → w1.cell? ⟨b, o, none⟩ = W.cell? ⟨b, o, none⟩) ∧ (∀ b o, b < B → w1.frozen? ⟨b, o, none⟩ = W.frozen? ⟨b, o, none⟩) :=
  ⟨fun b o h => hb.cell (p := ⟨b, o, none⟩) h, fun b o h => hb.frozen (p := ⟨b, o, none⟩) h⟩


def zeroO : Own × Hd := (⟨0, false, [], []⟩, ⟨none, 0, none, 0⟩)
theorem madeO (n : Nat) : madeCells #[.int .i64 0, .bool false, .slice none 0 0, .slice none 0 0] (n * 4) = (orow (List.replicate n zeroO)).toArray := by
  apply Array.ext'
  show _ = orow (List.replicate n zeroO)
  apply List.ext_getElem?
  intro i
  have hl : (orow (List.replicate n zeroO)).length = n * 4 := by rw [orow_len, List.length_replicate]
  rcases Nat.lt_or_ge i (n * 4) with h | h
  · have e := orow_get (List.replicate n zeroO) (i / 4) (i % 4) zeroO (by rw [List.getElem?_replicate, if_pos (by omega)]) (by omega)
    rw [show i / 4 * 4 + i % 4 = i by omega] at e
    rw [e]
    have h4 : i % 4 = 0 ∨ i % 4 = 1 ∨ i % 4 = 2 ∨ i % 4 = 3 := by omega
    simp only [madeCells, Array.toList_map, Array.toList_range, List.getElem?_map, List.getElem?_range h, Option.map_some]
    rcases h4 with h4 | h4 | h4 | h4 <;> · show some (_[i % 4]!) = _; rw [h4]; rfl
  · rw [List.getElem?_eq_none (by rw [Array.length_toList, size_madeCells]; omega), List.getElem?_eq_none (by omega)]
theorem SlP.made {w : World} {g lo hi n : Nat} (h : Blk w g 32 (orow (List.replicate n zeroO)).toArray) (h1 : lo ≤ g) (h2 : g < hi) : SlP w lo hi (some ⟨g, 0, none⟩) n (List.replicate n zeroO) := by
  have hz : ∀ (i : Nat) (x : Own × Hd), (List.replicate n zeroO)[i]? = some x → x = zeroO := fun i x hx => by
    rw [List.getElem?_replicate] at hx
    split at hx
    · injection hx with hx; exact hx.symm
    · cases hx
  refine ⟨?_, fun i x hx => ?_, fun i x hx => ?_, fun i x hx b hb => ?_, fun i x hx b hb => ?_, fun i j x y hx _ _ b hb => ?_⟩
  · rw [List.length_replicate]; exact Sl.of_blk h (by rw [orow_len, List.length_replicate]) h1 h2
  · rw [hz i x hx]; exact SlI.nil
  · rw [hz i x hx]; exact SlI.nil
  · rw [hz i x hx] at hb; cases hb
  · rw [hz i x hx] at hb; cases hb
  · rw [hz i x hx] at hb; cases hb
theorem Try.infoO : (Try.prog.info? 32).map (fun i => (i.zero, i.size, i.bytes)) = some (some (.agg #[.int .i64 0, .bool false, .slice none 0 0, .slice none 0 0]), 4, 64) := by kernel_rfl
theorem run_makeO (n : Nat) (hn : n ≤ 1099511627776) (w : World) : (Instr.makeSlice 23 (.int .i64 (n : Int)) (.int .i64 (n : Int))).run Try.prog w = .ok (.slice (some ⟨w.heap.size, 0, none⟩) n n) (w.alloc (.cells (orow (List.replicate n zeroO)).toArray 32)) := by
  obtain ⟨i0, hi, hz0, hz1, hz2⟩ := info_parts Try.infoO
  have hr := run_make (P := Try.prog) w 23 32 i0 _ Try.underlying23 hi hz0 .i64 .i64 n n (by omega) (by omega) (by rw [hz2]; omega) (by omega)
  rw [hr, hz1]
  simp only [Int.toNat_natCast]
  rw [← madeO]
  rfl
/-- a list of owners that is new -/
def MadeO (w : World) (os : List Own) (e : Ending) (w' : World) : Prop :=
  ∃ A c, e = .returned (.slice A os.length c) ∧ SlO w' w.heap.size w'.heap.size A c os ∧ Below w.heap.size w w'

end Go.Proofs.Ytnlbmiangbahgaa

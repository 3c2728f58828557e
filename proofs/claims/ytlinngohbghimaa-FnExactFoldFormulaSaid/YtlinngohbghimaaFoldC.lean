/-
  Pieces of a function's code: a block by its number, what follows from a region on. Words for the glue of spec.folded and impl.fold.
-/
import Derived.Test.YtlinngohbghimaaFold2
import Derived.Test.YtlinngohbghimaaMatchStep
namespace Go.Proofs.Ytlinngohbghimaa
open Go.RowKit

/-- the block of a number -/
def blockOf (n : Nat) : Code → Option Code
  | .block id c => if id = n then some (.block id c) else blockOf n c
  | .seq a b => match blockOf n a with
    | some c => some c
    | none => blockOf n b
  | .loop c => blockOf n c
  | .scope c => blockOf n c
  | .cond _ a b => match blockOf n a with
    | some c => some c
    | none => blockOf n b
  | _ => none
def headIs (n : Nat) : Code → Bool
  | .region id _ _ => decide (id = n)
  | .seq a _ => headIs n a
  | _ => false
/-- what follows from the region of a number on, it included -/
def restOf (n : Nat) : Code → Option Code
  | .seq a b => if headIs n a then some (.seq a b) else match restOf n a with
    | some c => some c
    | none => restOf n b
  | .block _ c => restOf n c
  | .loop c => restOf n c
  | .scope c => restOf n c
  | .cond _ a b => match restOf n a with
    | some c => some c
    | none => restOf n b
  | _ => none
noncomputable def sBlock (n : Nat) : Code := (Try.f55.body.bind (blockOf n)).getD .skip
noncomputable def sRest (n : Nat) : Code := (Try.f55.body.bind (restOf n)).getD .skip
noncomputable def iBlock (n : Nat) : Code := (Try.f56.body.bind (blockOf n)).getD .skip
noncomputable def iRest (n : Nat) : Code := (Try.f56.body.bind (restOf n)).getD .skip

theorem leaf_kd {p : Prt} (h : (belowL p).length = 0) : ¬ p.kd = 8 ∧ ¬ (2 ≤ p.kd ∧ p.kd ≤ 7) := by
  obtain ⟨b1, b2, _⟩ := belowL_kd (p := p)
  exact ⟨fun e => by have := b1 e; omega, fun e => by have := b2 e; omega⟩
theorem kids_kd {p : Prt} (h : (belowL p).length ≠ 0) : (p.kd = 8 ∧ (belowL p).length = 3) ∨ (¬ p.kd = 8 ∧ (2 ≤ p.kd ∧ p.kd ≤ 7) ∧ (belowL p).length = 2) := by
  obtain ⟨b1, b2, b3⟩ := belowL_kd (p := p)
  by_cases e : p.kd = 8
  · exact .inl ⟨e, b1 e⟩
  · by_cases e2 : 2 ≤ p.kd ∧ p.kd ≤ 7
    · exact .inr ⟨e, e2, b2 e2⟩
    · exact absurd (by rw [b3 e e2]; rfl) h

theorem foldD_if {p : Prt} {y0 y1 : List Prt} {r : List (List Prt)} (h : p.kd = 8) : foldD p (y0 :: y1 :: r) = if (lastP y0).kd = 0 then (if (lastP y0).nn = 0 then (y0 :: y1 :: r).getD 2 [] else y1) else gluedP p (y0 :: y1 :: r) := by
  unfold foldD
  rw [if_pos h]
  rfl
theorem foldD_two {p : Prt} {y0 y1 : List Prt} {r : List (List Prt)} (h8 : ¬ p.kd = 8) (h : 2 ≤ p.kd ∧ p.kd ≤ 7) : foldD p (y0 :: y1 :: r) = if (lastP y0).kd = 0 ∧ (lastP y1).kd = 0 ∧ joinF p.kd (lastP y0).nn (lastP y1).nn ≤ 99 then [numP (joinF p.kd (lastP y0).nn (lastP y1).nn)] else gluedP p (y0 :: y1 :: r) := by
  unfold foldD
  rw [if_neg h8, if_pos h]
  rfl
theorem cell_far {lo hi : Nat} {w w' : World} (t : Turn lo hi w w') {p : Addr} (h : p.block < w.heap.size) (ho : p.block < lo ∨ hi ≤ p.block) : w'.cell? p = w.cell? p := by
  simp only [World.cell?, t.block _ h ho]
/-- what lies behind the other, and the places, each in its own region of what is new since Wg -/
def GV (Wg wr : World) (loo hio : Nat) (Ao : Option Addr) (co : Nat) (out : List Prt) (loa hia : Nat) (Aa : Option Addr) (ca : Nat) (at_ : List Int) : Prop :=
  SlP wr loo hio Ao co out ∧ SlI wr loa hia Aa ca at_ ∧ Wg.heap.size ≤ loo ∧ Wg.heap.size ≤ loa ∧ loo ≤ wr.heap.size ∧ loa ≤ wr.heap.size ∧ hio ≤ wr.heap.size ∧ hia ≤ wr.heap.size ∧ (hio ≤ loa ∨ hia ≤ loo) ∧ Below Wg.heap.size Wg wr
section
variable {Wg wr w' : World} {loo hio co loa hia ca lo' hi' c' : Nat} {Ao Aa A' : Option Addr} {out out' : List Prt} {at_ at' : List Int}
theorem GV.below (h : GV Wg wr loo hio Ao co out loa hia Aa ca at_) (hb : Below wr.heap.size wr w') : GV Wg w' loo hio Ao co out loa hia Aa ca at_ := by
  obtain ⟨h1, h2, h3, h4, h5, h6, h7, h8, h9, h10⟩ := h
  have hz := hb.size
  have hg := h10.size
  exact ⟨h1.below hb h7, h2.below hb h8, h3, h4, by omega, by omega, by omega, by omega, h9, h10.trans (hb.mono hg)⟩
theorem GV.alloc (h : GV Wg wr loo hio Ao co out loa hia Aa ca at_) (o : Obj) : GV Wg (wr.alloc o) loo hio Ao co out loa hia Aa ca at_ := h.below ((Below.refl _ _).alloc (Nat.le_refl _) o)
theorem GV.app (h : GV Wg wr loo hio Ao co out loa hia Aa ca at_) (s : SlP w' lo' hi' A' c' out') (d : (lo' = loo ∧ hi' = hio) ∨ (lo' = wr.heap.size ∧ hi' = w'.heap.size)) (t : Turn loo hio wr w') : GV Wg w' lo' hi' A' c' out' loa hia Aa ca at_ := by
  obtain ⟨h1, h2, h3, h4, h5, h6, h7, h8, h9, h10⟩ := h
  have hz := t.size
  have hg := h10.size
  exact ⟨s, h2.turn t (by omega), by omega, h4, by omega, by omega, by omega, by omega, by omega, h10.trans ((t.below h5).mono h3)⟩
theorem GV.appA (h : GV Wg wr loo hio Ao co out loa hia Aa ca at_) (s : SlI w' lo' hi' A' c' at') (d : (lo' = loa ∧ hi' = hia) ∨ (lo' = wr.heap.size ∧ hi' = w'.heap.size)) (t : Turn loa hia wr w') : GV Wg w' loo hio Ao co out lo' hi' A' c' at' := by
  obtain ⟨h1, h2, h3, h4, h5, h6, h7, h8, h9, h10⟩ := h
  have hz := t.size
  have hg := h10.size
  exact ⟨h1.turn t (by omega), s, h3, by omega, by omega, by omega, by omega, by omega, by omega, h10.trans ((t.below h6).mono h4)⟩
end
def rootsG (p : Prt) (subs : List (List Prt)) (q : Nat) : List Int := (List.range q).map fun i => ((glueG (subs.take (i + 1)) 0 ([], p)).1.length : Int) - 1
theorem rootsG_succ (p : Prt) (subs : List (List Prt)) (q : Nat) : rootsG p subs (q + 1) = rootsG p subs q ++ [((glueG (subs.take (q + 1)) 0 ([], p)).1.length : Int) - 1] := by unfold rootsG; rw [List.range_succ, List.map_append]; rfl
theorem rootsG_len (p : Prt) (subs : List (List Prt)) (q : Nat) : (rootsG p subs q).length = q := by simp [rootsG]
theorem glue_take {p : Prt} {subs : List (List Prt)} {q : Nat} (hq : q < subs.length) : (glueG (subs.take (q + 1)) 0 ([], p)).1 = (glueG (subs.take q) 0 ([], p)).1 ++ subs[q].map (movedP (glueG (subs.take q) 0 ([], p)).1.length) := by
  rw [List.take_succ_eq_append_getElem hq, glueG_snoc]

end Go.Proofs.Ytlinngohbghimaa

/-
  slices.IndexFunc, slices.DeleteFunc at the program's closures.
-/
import Derived.Test.YtjajcionbnfldaaDelete0
namespace Go.Proofs.Ytjajcionbnfldaa
open Go.RowKit

/-- the slice that the closure has captured -/
def Cap (w : World) (B : Nat) (b : Nat) (ys : List Int) : Prop := b < B ∧ ∃ (A : Option Addr) (c : Nat), Blk w b 22 #[.slice A ys.length c] ∧ RdI w B A ys
theorem Cap.below {w w' : World} {B B' b : Nat} {ys : List Int} (h : Cap w B b ys) (hb : Below B' w w') (hB : B ≤ B') : Cap w' B b ys := by
  obtain ⟨h1, A, c, h2, h3⟩ := h
  exact ⟨h1, A, c, h2.below hb (by omega), h3.belowLe hb hB⟩
def fIdx (p : Int → Bool) (xs : List Int) : Int := if xs.any p then (xs.findIdx p : Int) else -1
theorem findIdx_take {p : Int → Bool} {xs : List Int} {k : Nat} (hk : k < xs.length) (h : ∀ j, j < k → ∀ (hl : j < xs.length), p xs[j] = false) (h1 : p xs[k] = true) : xs.findIdx p = k := by
  rw [List.findIdx_eq hk]
  exact ⟨h1, fun j hj => by simpa using h j hj (by omega)⟩
theorem filt_take {p : Int → Bool} {xs : List Int} {k : Nat} (h : ∀ j, j < k → ∀ (hl : j < xs.length), p xs[j] = false) : (xs.take k).filter (fun x => !p x) = xs.take k := by
  rw [List.filter_eq_self]
  intro x hx
  obtain ⟨j, hj, rfl⟩ := List.getElem_of_mem hx
  rw [List.length_take] at hj
  rw [List.getElem_take, h j (by omega) (by omega)]
  rfl
theorem filt_snoc (p : Int → Bool) {xs : List Int} {j : Nat} (hj : j < xs.length) : (xs.take (j + 1)).filter (fun x => !p x) = (xs.take j).filter (fun x => !p x) ++ if p xs[j] then [] else [xs[j]] := by
  rw [List.take_succ_eq_append_getElem hj, List.filter_append]
  cases h : p xs[j] <;> simp [h]
theorem filt_le (p : Int → Bool) (xs : List Int) (j : Nat) : ((xs.take j).filter (fun x => !p x)).length ≤ j := Nat.le_trans (List.length_filter_le _ _) (by rw [List.length_take]; omega)
theorem set_step {zs xs ys : List Int} {j : Nat} {x : Int} (hz : zs.length = xs.length) (hj : j < xs.length) (h1 : zs.take ys.length = ys) (h2 : zs.drop j = xs.drop j) (hy : ys.length ≤ j) :
    (zs.set ys.length x).take (ys.length + 1) = ys ++ [x] ∧ (zs.set ys.length x).drop (j + 1) = xs.drop (j + 1) := by
  constructor
  · rw [List.take_set, List.take_succ_eq_append_getElem (by omega), List.set_append_right _ _ (by rw [h1]; exact Nat.le_refl _), h1, Nat.sub_self]
    rfl
  · rw [List.drop_set_of_lt (by omega)]
    have : zs.drop (j + 1) = (zs.drop j).drop 1 := by rw [List.drop_drop]
    rw [this, h2, List.drop_drop]
theorem at_of_drop {zs xs : List Int} {j : Nat} (hz : zs.length = xs.length) (hj : j < xs.length) (h2 : zs.drop j = xs.drop j) : zs[j]'(by omega) = xs[j] := by
  rw [List.drop_eq_getElem_cons (by omega : j < zs.length), List.drop_eq_getElem_cons hj] at h2
  injection h2





end Go.Proofs.Ytjajcionbnfldaa

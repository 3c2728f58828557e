/-
  The block of a slice that has room; slices of the call's own, by their blocks.
-/
import Derived.Test.YtmmegmefiihabaaInts
namespace Go.Proofs.Ytmmegmefiihabaa
open Go.RowKit

/-- the block of a slice that has room -/
def live (A : Option Addr) (c : Nat) : List Nat := if c = 0 then [] else (A.map Addr.block).toList
theorem live_nil (A : Option Addr) : live A 0 = [] := by simp [live]
theorem live_none (c : Nat) : live none c = [] := by unfold live; split <;> rfl
theorem mem_live {g o : Nat} {c : Nat} (hc : 0 < c) : g ∈ live (some ⟨g, o, none⟩) c := by unfold live; rw [if_neg (by omega)]; simp
theorem of_live {b g o c : Nat} (h : b ∈ live (some ⟨g, o, none⟩) c) : b = g := by
  unfold live at h; split at h
  · simp at h
  · simpa using h

section
variable {w w' : World} {lo hi lo' hi' B : Nat} {e : TypeId} {size n c : Nat} {A : Option Addr} {xs : List Value}
theorem Sl.live_in (h : Sl w lo hi e size A n c xs) : ∀ b ∈ live A c, lo ≤ b ∧ b < hi ∧ b < w.heap.size := fun b hb => by
  rcases h.2.2 with h5 | ⟨g, o, cur, rfl, h7, h8, h9, _⟩
  · rw [h5, live_nil] at hb; cases hb
  · rw [of_live hb]; exact ⟨h7, h8, h9.lt⟩
theorem Sl.apart (h : Sl w lo hi e size A n c xs) (ht : Turn lo' hi' w w') (hd : ∀ b ∈ live A c, b < lo' ∨ hi' ≤ b) : Sl w' lo hi e size A n c xs := by
  obtain ⟨h3, h4, h5⟩ := h
  refine ⟨h3, h4, ?_⟩
  by_cases hc : c = 0
  · exact .inl hc
  · rcases h5 with h5 | ⟨g, o, cur, rfl, h7, h8, h9, h10⟩
    · exact .inl h5
    · exact .inr ⟨g, o, cur, rfl, h7, h8, ht.blk h9 (hd g (mem_live (by omega))), h10⟩
theorem Sl.narrow (h : Sl w lo hi e size A n c xs) : ∃ a b, Sl w a b e size A n c xs ∧ (∀ m, a ≤ m → m < b → m ∈ live A c) ∧ (a = lo ∨ a < w.heap.size) ∧ ∀ w1 w2 : World, Turn a b w1 w2 → Turn lo hi w1 w2 := by
  obtain ⟨h3, h4, h5⟩ := h
  by_cases hc : c = 0
  · exact ⟨lo, lo, ⟨h3, h4, .inl hc⟩, fun m h1 h2 => by omega, .inl rfl, fun w1 w2 ht => ⟨ht.os, ht.tape, ht.output, ht.size, fun k hk _ => ht.block k hk (by omega)⟩⟩
  · rcases h5 with h5 | ⟨g, o, cur, rfl, h7, h8, h9, h10⟩
    · exact absurd h5 hc
    · exact ⟨g, g + 1, ⟨h3, h4, .inr ⟨g, o, cur, rfl, Nat.le_refl _, by omega, h9, h10⟩⟩, fun m h1 h2 => by
        have : m = g := by omega
        subst this; exact mem_live (by omega), .inr h9.lt, fun w1 w2 ht => ht.mono h7 (by omega)⟩
theorem Sl.top (h : Sl w lo hi e size A n c xs) : Sl w lo (min hi w.heap.size) e size A n c xs := by
  obtain ⟨h3, h4, h5⟩ := h
  refine ⟨h3, h4, ?_⟩
  rcases h5 with h5 | ⟨g, o, cur, h6, h7, h8, h9, h10⟩
  · exact .inl h5
  · exact .inr ⟨g, o, cur, h6, h7, by have := h9.lt; omega, h9, h10⟩
theorem Sl.range (h : Sl w lo hi e size A n c xs) (hd : ∀ b ∈ live A c, lo' ≤ b ∧ b < hi') : Sl w lo' hi' e size A n c xs := by
  obtain ⟨h3, h4, h5⟩ := h
  refine ⟨h3, h4, ?_⟩
  by_cases hc : c = 0
  · exact .inl hc
  · rcases h5 with h5 | ⟨g, o, cur, rfl, h7, h8, h9, h10⟩
    · exact .inl h5
    · have := hd g (mem_live (by omega)); exact .inr ⟨g, o, cur, rfl, this.1, this.2, h9, h10⟩
end
end Go.Proofs.Ytmmegmefiihabaa

/-
  append at ints in a region that draws, told so far as to say where the new slice lies.
-/
import Derived.Test.YtlinngohbghimaaApp
import Derived.Deep.RegionHeldLaw
namespace Go.Proofs.Ytlinngohbghimaa
open Go.RowKit

section
variable {w : World} {ops : Array Oper} {o : Oper} {a : Act} {Q : Exit → Act → World → Prop}
theorem step_appIS {K : Act → World → Prop} {E : Prop} (s x : Operand) (hgd : o.guard = none)
    (ho : o.op = .call { callee := .builtin .append, args := #[s, x], argTypes := #[38, 38] })
    {lo hi n c gx : Nat} {A : Option Addr} (xs : List Int) (y : Int) (hs : a.eval s = .slice A n c) (hn : xs.length = n) (hown : SlI w lo hi A c xs) (hx : a.eval x = .slice (some ⟨gx, 0, none⟩) 1 1) (hr : Blk w gx 3 #[.int .i64 y])
    (hb : n ≤ 1099511627776)
    (h : ∀ A'' c'' lo' hi' w', SlI w' lo' hi' A'' c'' (xs ++ [y]) → ((lo' = lo ∧ hi' = hi) ∨ (lo' = w.heap.size ∧ hi' = w'.heap.size)) → Turn lo hi w w' → K (a.put o.dst (.slice A'' (n + 1) c'')) w') :
    if Region.wanted o (yielded ops a.tmps) = true then Oper.wp Try.prog o a w K Q else E := by
  have hw : Region.wanted o (yielded ops a.tmps) = true := by simp [Region.wanted, hgd]
  rw [if_pos hw]
  subst hn
  obtain ⟨i0, hi0, hz0, hz1, hz2⟩ := info_parts Try.infoInt
  obtain ⟨A'', c'', w', hrun, ht2, hfin⟩ := run_appS (P := Try.prog) w lo hi 38 o.type 3 i0 (.int .i64 0) 1 8 Try.underlying38 hi0 hz0 hz1 hz2 rfl (by decide) A xs.length c (ints xs) hown
    (gx + 1) (some ⟨gx, 0, none⟩) 1 1 (ints [y]) (by simp [ints]) (fun _ => ⟨_, rfl, Nat.lt_succ_self _, fun j u hu => by rw [add_lit, hr.cell, Nat.zero_add, ← hu]; simp [ints]⟩) (ints_oneCell _ _) (by unfold maxLen; omega) (by omega)
  unfold Oper.wp
  simp only [execOp, ho, resolve, invoke, builtin, Sem.run_bind, Sem.run_pure, Result.andThen_ok, List.map_toArray, List.map_cons, List.map_nil, hs, hx, hrun]
  have e : ints xs ++ ints [y] = ints (xs ++ [y]) := by simp [ints]
  rcases hfin with ⟨rfl, rfl, hfin⟩ | ⟨hfin, _⟩
  · exact h _ _ lo hi w' (by unfold SlI; rw [List.length_append, ← e]; exact hfin) (.inl ⟨rfl, rfl⟩) ht2
  · exact h _ _ w.heap.size w'.heap.size w' (by unfold SlI; rw [List.length_append, ← e]; exact hfin) (.inr ⟨rfl, rfl⟩) ht2
end
end Go.Proofs.Ytlinngohbghimaa

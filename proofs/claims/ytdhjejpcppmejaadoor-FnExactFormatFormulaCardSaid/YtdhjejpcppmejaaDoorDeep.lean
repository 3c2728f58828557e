/-
  impl.DeepOf, spec.DeepOf: a recursion over the parts below.
-/
import Derived.Test.YtdhjejpcppmejaaDoorValid
import Derived.Deep.RegionHeld3
import Derived.Deep.DeepFit
namespace Go.Proofs.YtdhjejpcppmejaaDoor
open Go.RowKit

theorem getD_at {ps : List Prt} {i : Nat} (h : i < ps.length) : ps.getD i zP = ps[i] := by rw [List.getD_eq_getElem?_getD, List.getElem?_eq_getElem h]; rfl
theorem maxs_take {f : Int → Int} {ks : List Int} {q : Nat} (hq : q < ks.length) : maxs f (ks.take (q + 1)) = max (maxs f (ks.take q)) (f ks[q]) := by
  rw [List.take_succ_eq_append_getElem hq, maxs_snoc]


theorem partLast {A : Option Addr} {c n : Nat} {w : World} (hn : 1 ≤ n) (hn2 : n ≤ 1099511627776) :
    Calls Tryd.prog 26 #[.agg #[.slice A n c]] w fun e w' => e = .returned (.int .i64 ((n - 1 : Nat) : Int)) ∧ Below w.heap.size w w' := by
  obtain ⟨k, rfl⟩ : ∃ k, n = k + 1 := ⟨n - 1, by omega⟩
  have B1 := Lib.hid (bel1P w (.cells #[.slice A (k + 1) c] 29))
  have hw : IntKind.i64.wrap (((k + 1 : Nat) : Int) - 1) = (k : Int) := by rw [show ((k + 1 : Nat) : Int) - 1 = (k : Int) by omega]; exact IntWalk.i64_in _ (by omega)
  obtain ⟨n, hn⟩ : ∃ n, k + 1 = n := ⟨_, rfl⟩
  rw [hn] at hw B1 ⊢
  have HN := Lib.hid hn
  clear hn
  go_enter Tryd.func26, Tryd.ntmps26
  go_wp2_with fail
  go_ret
  exact ⟨ret_int (by rw [← HN.out, Nat.add_sub_cancel]), B1.out⟩



end Go.Proofs.YtdhjejpcppmejaaDoor

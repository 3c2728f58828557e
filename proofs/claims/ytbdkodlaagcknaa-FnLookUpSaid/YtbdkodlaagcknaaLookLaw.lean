/-
  The plain law of LookUp: the nearest value wins.
-/
import Derived.Test.YtbdkodlaagcknaaAboveLaw
namespace Go.Proofs.Ytbdkodlaagcknaa
open Go.RowKit

def firstL (os : List Own) (key : Int) : List Int → Int × Bool
  | [] => (0, false)
  | a :: r => if 0 ≤ ctxAt os a key then (ctxAt os a key, true) else firstL os key r
theorem lookG_first (os : List Own) (key : Int) : ∀ (m : Nat) (o : Int), lookG os key m o = firstL os key (aboveG os m o)
  | 0, _ => rfl
  | m + 1, o => by
    rw [lookG, aboveG]
    by_cases h : o < 0
    · rw [if_pos h, if_pos h]; rfl
    · rw [if_neg h, if_neg h, firstL, lookG_first os key m]
theorem look_way {os : List Own} {P K : Nat} (hv : voB os = true) (hP : P < os.length) (hK : K < 3) : aboveOfF os (P : Int) ≠ [] ∧ lookF os (P : Int) (K : Int) = firstL os (K : Int) (aboveOfF os (P : Int)) := by
  have hof : ofB os (P : Int) = true := ofB_iff.2 ⟨hv, by omega, by omega⟩
  have e : aboveOfF os (P : Int) = aboveG os (os.length + 1) (P : Int) := by unfold aboveOfF; rw [if_pos hof]; rfl
  obtain ⟨l, h, _⟩ := aboveG_way hv (os.length + 1) P hP (by omega)
  refine ⟨by rw [e, h]; simp, ?_⟩
  rw [lookF_eq hv hP hK, e, lookG_first]
end Go.Proofs.Ytbdkodlaagcknaa

/-
  StaysOf, MovesOf: the reference's and the program's.
-/
import Derived.Test.YtjajcionbnfldaaImplStays
namespace Go.Proofs.Ytjajcionbnfldaa
open Go.RowKit

def IntB (w : World) (v : Int) (e : Ending) (w' : World) : Prop := e = .returned (.int .i64 v) ∧ Below w.heap.size w w'
def staysOfF (a b : List Int) : List Int := if vkB a && vkB b then staysF a b else []
def movesOfF (a b : List Int) : Int := if vkB a && vkB b then ((commF b a).length : Int) - (staysF a b).length else -1
theorem commF_sym {a b : List Int} (ha : a.Nodup) (hb : b.Nodup) : (commF a b).length = (commF b a).length := by
  unfold commF
  refine Nat.le_antisymm ?_ ?_
  · refine List.Nodup.length_le_of_subset (ha.filter _) fun x hx => ?_
    obtain ⟨h1, h2⟩ := List.mem_filter.1 hx
    exact List.mem_filter.2 ⟨by simpa [memB] using h2, by simpa [memB] using h1⟩
  · refine List.Nodup.length_le_of_subset (hb.filter _) fun x hx => ?_
    obtain ⟨h1, h2⟩ := List.mem_filter.1 hx
    exact List.mem_filter.2 ⟨by simpa [memB] using h2, by simpa [memB] using h1⟩
theorem staysF_len (a b : List Int) : (staysF a b).length ≤ b.length := selF_len _ _ _ _ _
theorem staysOfF_len (a b : List Int) (hb : b.length ≤ 1048576) : (staysOfF a b).length ≤ 1048576 := by
  unfold staysOfF
  split
  · exact Nat.le_trans (staysF_len a b) hb
  · simp






end Go.Proofs.Ytjajcionbnfldaa

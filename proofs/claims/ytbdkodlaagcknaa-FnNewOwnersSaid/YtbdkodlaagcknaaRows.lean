/-
  No cell of these rows narrows 'for every input' (looked for: loops, veiled, ifaces, maps, wideKeys, modest, calm, conditions, laid).
  DERIVED. THE GIVEN ROWS OF THIS SEAT. 11 by the template 'for every input the law returns true; each argument reads behind the call as it read before'; 0 by the template 'total and deterministic' (their statements: YtbdkodlaagcknaaTotals.lean).
  GIVEN WITH THE SEED: the statements are not yours to turn. If you find one false, say at which input.
  Laid BY PROGRAM, IN A SANDBOX (cutbox-rows.mjs): the forced cells as the released guide's own fill.sh prints them over the translation 8c9d873bd0d85b81… (all of the seat's roots in one cut). By AI agents, Wed Nov 11 2026. No macro, syntax, notation, axiom, sorry.
-/
import Derived.Test.YtbdkodlaagcknaaChecked
import GoSem.Claim
import GoSem.ClaimJoined
import GoSem.ClaimMapViews
import Derived.JoinedTies
import Derived.KernelRfl
namespace Go.Proofs.Ytbdkodlaagcknaa
/- THE CELL 'sum', in the pinned program and in every row, IS THE sha256 OF THE DUMP (.gsa) THAT YtbdkodlaagcknaaProg.lean LOADS. Nothing in Lean hashes anything: it is a label: what it is worth is what the hold of that sum in a sandbox is worth. -/
noncomputable def Try.pinned : Pinned := { name := "ytbdkodlaagcknaa", sum := "8c9d873bd0d85b810553ca9bff7ea15288511280a8c3edd98e25ee2e7fea924a", checked := Try.checked }
namespace Rows
def none {H : Type} : Left H := { results := [], args := [] }

/-- 'laws.FnExactNewOwners': WHATEVER THE INPUT: true; the input reads as it did. -/
def fnExactNewOwnersSpec : ChangeSpec := { name := "fnExactNewOwners", fn := fun _ => fun
  | [d] => { results := [.lit (.bool true)], args := [d] }
  | _ => none }
def fnExactNewOwnersRow : OpenClaim := { program := "ytbdkodlaagcknaa", sum := "8c9d873bd0d85b810553ca9bff7ea15288511280a8c3edd98e25ee2e7fea924a", func := "loop.example/signalgraph/laws.FnExactNewOwners", spec := "fnExactNewOwners", unfollowed := true, recurses := true, apart := false }
def FnExactNewOwnersSaid : Prop := fnExactNewOwnersRow.holds Try.pinned (OpenSpec.ofChange fnExactNewOwnersSpec)

/-- ITS FALSE NEIGHBOUR: 'it returns false'. Refute it at one input. -/
def fnExactNewOwnersWrong : ChangeSpec := { name := "fnExactNewOwners", fn := fun _ => fun
  | [d] => { results := [.lit (.bool false)], args := [d] }
  | _ => none }
def FnExactNewOwnersWrongFalsely : Prop := fnExactNewOwnersRow.holds Try.pinned (OpenSpec.ofChange fnExactNewOwnersWrong)

/-- 'laws.FnNewOwners': WHATEVER THE INPUT: true; the input reads as it did. -/
def fnNewOwnersSpec : ChangeSpec := { name := "fnNewOwners", fn := fun _ => fun
  | [d] => { results := [.lit (.bool true)], args := [d] }
  | _ => none }
def fnNewOwnersRow : OpenClaim := { program := "ytbdkodlaagcknaa", sum := "8c9d873bd0d85b810553ca9bff7ea15288511280a8c3edd98e25ee2e7fea924a", func := "loop.example/signalgraph/laws.FnNewOwners", spec := "fnNewOwners", unfollowed := true, recurses := true, apart := false }
def FnNewOwnersSaid : Prop := fnNewOwnersRow.holds Try.pinned (OpenSpec.ofChange fnNewOwnersSpec)

/-- ITS FALSE NEIGHBOUR: 'it returns false'. Refute it at one input. -/
def fnNewOwnersWrong : ChangeSpec := { name := "fnNewOwners", fn := fun _ => fun
  | [d] => { results := [.lit (.bool false)], args := [d] }
  | _ => none }
def FnNewOwnersWrongFalsely : Prop := fnNewOwnersRow.holds Try.pinned (OpenSpec.ofChange fnNewOwnersWrong)

/-- 'laws.FnExactValidOwners': WHATEVER THE INPUT: true; the input reads as it did. -/
def fnExactValidOwnersSpec : ChangeSpec := { name := "fnExactValidOwners", fn := fun _ => fun
  | [d] => { results := [.lit (.bool true)], args := [d] }
  | _ => none }
def fnExactValidOwnersRow : OpenClaim := { program := "ytbdkodlaagcknaa", sum := "8c9d873bd0d85b810553ca9bff7ea15288511280a8c3edd98e25ee2e7fea924a", func := "loop.example/signalgraph/laws.FnExactValidOwners", spec := "fnExactValidOwners", unfollowed := true, recurses := true, apart := false }
def FnExactValidOwnersSaid : Prop := fnExactValidOwnersRow.holds Try.pinned (OpenSpec.ofChange fnExactValidOwnersSpec)

/-- ITS FALSE NEIGHBOUR: 'it returns false'. Refute it at one input. -/
def fnExactValidOwnersWrong : ChangeSpec := { name := "fnExactValidOwners", fn := fun _ => fun
  | [d] => { results := [.lit (.bool false)], args := [d] }
  | _ => none }
def FnExactValidOwnersWrongFalsely : Prop := fnExactValidOwnersRow.holds Try.pinned (OpenSpec.ofChange fnExactValidOwnersWrong)

/-- 'laws.FnExactLookUp': WHATEVER THE INPUT: true; the input reads as it did. -/
def fnExactLookUpSpec : ChangeSpec := { name := "fnExactLookUp", fn := fun _ => fun
  | [d1, d2, d3] => { results := [.lit (.bool true)], args := [d1, d2, d3] }
  | _ => none }
def fnExactLookUpRow : OpenClaim := { program := "ytbdkodlaagcknaa", sum := "8c9d873bd0d85b810553ca9bff7ea15288511280a8c3edd98e25ee2e7fea924a", func := "loop.example/signalgraph/laws.FnExactLookUp", spec := "fnExactLookUp", unfollowed := true, recurses := true, apart := false }
def FnExactLookUpSaid : Prop := fnExactLookUpRow.holds Try.pinned (OpenSpec.ofChange fnExactLookUpSpec)

/-- ITS FALSE NEIGHBOUR: 'it returns false'. Refute it at one input. -/
def fnExactLookUpWrong : ChangeSpec := { name := "fnExactLookUp", fn := fun _ => fun
  | [d1, d2, d3] => { results := [.lit (.bool false)], args := [d1, d2, d3] }
  | _ => none }
def FnExactLookUpWrongFalsely : Prop := fnExactLookUpRow.holds Try.pinned (OpenSpec.ofChange fnExactLookUpWrong)

/-- 'laws.FnLookUp': WHATEVER THE INPUT: true; the input reads as it did. -/
def fnLookUpSpec : ChangeSpec := { name := "fnLookUp", fn := fun _ => fun
  | [d] => { results := [.lit (.bool true)], args := [d] }
  | _ => none }
def fnLookUpRow : OpenClaim := { program := "ytbdkodlaagcknaa", sum := "8c9d873bd0d85b810553ca9bff7ea15288511280a8c3edd98e25ee2e7fea924a", func := "loop.example/signalgraph/laws.FnLookUp", spec := "fnLookUp", unfollowed := true, recurses := true, apart := false }
def FnLookUpSaid : Prop := fnLookUpRow.holds Try.pinned (OpenSpec.ofChange fnLookUpSpec)

/-- ITS FALSE NEIGHBOUR: 'it returns false'. Refute it at one input. -/
def fnLookUpWrong : ChangeSpec := { name := "fnLookUp", fn := fun _ => fun
  | [d] => { results := [.lit (.bool false)], args := [d] }
  | _ => none }
def FnLookUpWrongFalsely : Prop := fnLookUpRow.holds Try.pinned (OpenSpec.ofChange fnLookUpWrong)

/-- 'laws.FnExactAboveOf': WHATEVER THE INPUT: true; the input reads as it did. -/
def fnExactAboveOfSpec : ChangeSpec := { name := "fnExactAboveOf", fn := fun _ => fun
  | [d1, d2] => { results := [.lit (.bool true)], args := [d1, d2] }
  | _ => none }
def fnExactAboveOfRow : OpenClaim := { program := "ytbdkodlaagcknaa", sum := "8c9d873bd0d85b810553ca9bff7ea15288511280a8c3edd98e25ee2e7fea924a", func := "loop.example/signalgraph/laws.FnExactAboveOf", spec := "fnExactAboveOf", unfollowed := true, recurses := true, apart := false }
def FnExactAboveOfSaid : Prop := fnExactAboveOfRow.holds Try.pinned (OpenSpec.ofChange fnExactAboveOfSpec)

/-- ITS FALSE NEIGHBOUR: 'it returns false'. Refute it at one input. -/
def fnExactAboveOfWrong : ChangeSpec := { name := "fnExactAboveOf", fn := fun _ => fun
  | [d1, d2] => { results := [.lit (.bool false)], args := [d1, d2] }
  | _ => none }
def FnExactAboveOfWrongFalsely : Prop := fnExactAboveOfRow.holds Try.pinned (OpenSpec.ofChange fnExactAboveOfWrong)

/-- 'laws.FnAboveOf': WHATEVER THE INPUT: true; the input reads as it did. -/
def fnAboveOfSpec : ChangeSpec := { name := "fnAboveOf", fn := fun _ => fun
  | [d] => { results := [.lit (.bool true)], args := [d] }
  | _ => none }
def fnAboveOfRow : OpenClaim := { program := "ytbdkodlaagcknaa", sum := "8c9d873bd0d85b810553ca9bff7ea15288511280a8c3edd98e25ee2e7fea924a", func := "loop.example/signalgraph/laws.FnAboveOf", spec := "fnAboveOf", unfollowed := true, recurses := true, apart := false }
def FnAboveOfSaid : Prop := fnAboveOfRow.holds Try.pinned (OpenSpec.ofChange fnAboveOfSpec)

/-- ITS FALSE NEIGHBOUR: 'it returns false'. Refute it at one input. -/
def fnAboveOfWrong : ChangeSpec := { name := "fnAboveOf", fn := fun _ => fun
  | [d] => { results := [.lit (.bool false)], args := [d] }
  | _ => none }
def FnAboveOfWrongFalsely : Prop := fnAboveOfRow.holds Try.pinned (OpenSpec.ofChange fnAboveOfWrong)

/-- 'laws.FnExactLiveOf': WHATEVER THE INPUT: true; the input reads as it did. -/
def fnExactLiveOfSpec : ChangeSpec := { name := "fnExactLiveOf", fn := fun _ => fun
  | [d] => { results := [.lit (.bool true)], args := [d] }
  | _ => none }
def fnExactLiveOfRow : OpenClaim := { program := "ytbdkodlaagcknaa", sum := "8c9d873bd0d85b810553ca9bff7ea15288511280a8c3edd98e25ee2e7fea924a", func := "loop.example/signalgraph/laws.FnExactLiveOf", spec := "fnExactLiveOf", unfollowed := true, recurses := true, apart := false }
def FnExactLiveOfSaid : Prop := fnExactLiveOfRow.holds Try.pinned (OpenSpec.ofChange fnExactLiveOfSpec)

/-- ITS FALSE NEIGHBOUR: 'it returns false'. Refute it at one input. -/
def fnExactLiveOfWrong : ChangeSpec := { name := "fnExactLiveOf", fn := fun _ => fun
  | [d] => { results := [.lit (.bool false)], args := [d] }
  | _ => none }
def FnExactLiveOfWrongFalsely : Prop := fnExactLiveOfRow.holds Try.pinned (OpenSpec.ofChange fnExactLiveOfWrong)

/-- 'laws.FnLiveOf': WHATEVER THE INPUT: true; the input reads as it did. -/
def fnLiveOfSpec : ChangeSpec := { name := "fnLiveOf", fn := fun _ => fun
  | [d] => { results := [.lit (.bool true)], args := [d] }
  | _ => none }
def fnLiveOfRow : OpenClaim := { program := "ytbdkodlaagcknaa", sum := "8c9d873bd0d85b810553ca9bff7ea15288511280a8c3edd98e25ee2e7fea924a", func := "loop.example/signalgraph/laws.FnLiveOf", spec := "fnLiveOf", unfollowed := true, recurses := true, apart := false }
def FnLiveOfSaid : Prop := fnLiveOfRow.holds Try.pinned (OpenSpec.ofChange fnLiveOfSpec)

/-- ITS FALSE NEIGHBOUR: 'it returns false'. Refute it at one input. -/
def fnLiveOfWrong : ChangeSpec := { name := "fnLiveOf", fn := fun _ => fun
  | [d] => { results := [.lit (.bool false)], args := [d] }
  | _ => none }
def FnLiveOfWrongFalsely : Prop := fnLiveOfRow.holds Try.pinned (OpenSpec.ofChange fnLiveOfWrong)

/-- 'laws.FnExactKidsOf': WHATEVER THE INPUT: true; the input reads as it did. -/
def fnExactKidsOfSpec : ChangeSpec := { name := "fnExactKidsOf", fn := fun _ => fun
  | [d1, d2] => { results := [.lit (.bool true)], args := [d1, d2] }
  | _ => none }
def fnExactKidsOfRow : OpenClaim := { program := "ytbdkodlaagcknaa", sum := "8c9d873bd0d85b810553ca9bff7ea15288511280a8c3edd98e25ee2e7fea924a", func := "loop.example/signalgraph/laws.FnExactKidsOf", spec := "fnExactKidsOf", unfollowed := true, recurses := true, apart := false }
def FnExactKidsOfSaid : Prop := fnExactKidsOfRow.holds Try.pinned (OpenSpec.ofChange fnExactKidsOfSpec)

/-- ITS FALSE NEIGHBOUR: 'it returns false'. Refute it at one input. -/
def fnExactKidsOfWrong : ChangeSpec := { name := "fnExactKidsOf", fn := fun _ => fun
  | [d1, d2] => { results := [.lit (.bool false)], args := [d1, d2] }
  | _ => none }
def FnExactKidsOfWrongFalsely : Prop := fnExactKidsOfRow.holds Try.pinned (OpenSpec.ofChange fnExactKidsOfWrong)

/-- 'laws.FnKidsOf': WHATEVER THE INPUT: true; the input reads as it did. -/
def fnKidsOfSpec : ChangeSpec := { name := "fnKidsOf", fn := fun _ => fun
  | [d] => { results := [.lit (.bool true)], args := [d] }
  | _ => none }
def fnKidsOfRow : OpenClaim := { program := "ytbdkodlaagcknaa", sum := "8c9d873bd0d85b810553ca9bff7ea15288511280a8c3edd98e25ee2e7fea924a", func := "loop.example/signalgraph/laws.FnKidsOf", spec := "fnKidsOf", unfollowed := true, recurses := true, apart := false }
def FnKidsOfSaid : Prop := fnKidsOfRow.holds Try.pinned (OpenSpec.ofChange fnKidsOfSpec)

/-- ITS FALSE NEIGHBOUR: 'it returns false'. Refute it at one input. -/
def fnKidsOfWrong : ChangeSpec := { name := "fnKidsOf", fn := fun _ => fun
  | [d] => { results := [.lit (.bool false)], args := [d] }
  | _ => none }
def FnKidsOfWrongFalsely : Prop := fnKidsOfRow.holds Try.pinned (OpenSpec.ofChange fnKidsOfWrong)

/- THE SECOND FORM. 'bulk': how many values and letters a reading holds, each counted each time it is reached (what is shared counts as often as it is met; a slice's spare places count too). A statement '..UptoSaid' is the law's where the arguments, and the package variables that the reading takes, are together of bulk at most 1048576: NARROWER than '..Said'. Prove '..Said' where nothing that the law and all that it calls make is longer than what came in: it says more and counts as full. Else prove '..UptoSaid'. A law counts once. -/
mutual
def uptoBulk {H : Type} : DataW H → Nat
  | .lit (.string bytes) => bytes.length + 1
  | .lit _ => 1
  | .nil => 1
  | .ptr d => uptoBulk d + 1
  | .slice elems spare => uptoBulkAll elems + uptoBulkAll spare + 1
  | .agg parts => uptoBulkAll parts + 1
  | .iface _ d => uptoBulk d + 1
  | .map entries => uptoBulkEntries entries + 1
  | .held _ => 1
def uptoBulkAll {H : Type} : List (DataW H) → Nat
  | [] => 0
  | d :: r => uptoBulk d + uptoBulkAll r
def uptoBulkEntries {H : Type} : List (Lit × DataW H) → Nat
  | [] => 0
  | x :: r => uptoBulkEntry x + uptoBulkEntries r
def uptoBulkEntry {H : Type} : Lit × DataW H → Nat
  | (.string bytes, d) => bytes.length + uptoBulk d + 1
  | (_, d) => uptoBulk d + 1
 end
def uptoSmall : (H : Type) → List (DataW H) → Bool := fun _ ds => decide (uptoBulkAll ds ≤ 1048576)
def OpenSpec.upto (s : _root_.Go.ChangeSpec) : _root_.Go.OpenSpec := { _root_.Go.OpenSpec.ofChange s with cond := some uptoSmall }

/-- 'laws.FnExactNewOwners', WHERE WHAT IT READS IS OF BULK AT MOST 1048576: true; the input reads as it did. -/
def fnExactNewOwnersUptoRow : OpenClaim := { program := "ytbdkodlaagcknaa", sum := "8c9d873bd0d85b810553ca9bff7ea15288511280a8c3edd98e25ee2e7fea924a", func := "loop.example/signalgraph/laws.FnExactNewOwners", spec := "fnExactNewOwners", unfollowed := true, recurses := true, apart := false, narrowed := true }
def FnExactNewOwnersUptoSaid : Prop := fnExactNewOwnersUptoRow.holds Try.pinned (OpenSpec.upto fnExactNewOwnersSpec)

/-- 'laws.FnNewOwners', WHERE WHAT IT READS IS OF BULK AT MOST 1048576: true; the input reads as it did. -/
def fnNewOwnersUptoRow : OpenClaim := { program := "ytbdkodlaagcknaa", sum := "8c9d873bd0d85b810553ca9bff7ea15288511280a8c3edd98e25ee2e7fea924a", func := "loop.example/signalgraph/laws.FnNewOwners", spec := "fnNewOwners", unfollowed := true, recurses := true, apart := false, narrowed := true }
def FnNewOwnersUptoSaid : Prop := fnNewOwnersUptoRow.holds Try.pinned (OpenSpec.upto fnNewOwnersSpec)

/-- 'laws.FnExactValidOwners', WHERE WHAT IT READS IS OF BULK AT MOST 1048576: true; the input reads as it did. -/
def fnExactValidOwnersUptoRow : OpenClaim := { program := "ytbdkodlaagcknaa", sum := "8c9d873bd0d85b810553ca9bff7ea15288511280a8c3edd98e25ee2e7fea924a", func := "loop.example/signalgraph/laws.FnExactValidOwners", spec := "fnExactValidOwners", unfollowed := true, recurses := true, apart := false, narrowed := true }
def FnExactValidOwnersUptoSaid : Prop := fnExactValidOwnersUptoRow.holds Try.pinned (OpenSpec.upto fnExactValidOwnersSpec)

/-- 'laws.FnExactLookUp', WHERE WHAT IT READS IS OF BULK AT MOST 1048576: true; the input reads as it did. -/
def fnExactLookUpUptoRow : OpenClaim := { program := "ytbdkodlaagcknaa", sum := "8c9d873bd0d85b810553ca9bff7ea15288511280a8c3edd98e25ee2e7fea924a", func := "loop.example/signalgraph/laws.FnExactLookUp", spec := "fnExactLookUp", unfollowed := true, recurses := true, apart := false, narrowed := true }
def FnExactLookUpUptoSaid : Prop := fnExactLookUpUptoRow.holds Try.pinned (OpenSpec.upto fnExactLookUpSpec)

/-- 'laws.FnLookUp', WHERE WHAT IT READS IS OF BULK AT MOST 1048576: true; the input reads as it did. -/
def fnLookUpUptoRow : OpenClaim := { program := "ytbdkodlaagcknaa", sum := "8c9d873bd0d85b810553ca9bff7ea15288511280a8c3edd98e25ee2e7fea924a", func := "loop.example/signalgraph/laws.FnLookUp", spec := "fnLookUp", unfollowed := true, recurses := true, apart := false, narrowed := true }
def FnLookUpUptoSaid : Prop := fnLookUpUptoRow.holds Try.pinned (OpenSpec.upto fnLookUpSpec)

/-- 'laws.FnExactAboveOf', WHERE WHAT IT READS IS OF BULK AT MOST 1048576: true; the input reads as it did. -/
def fnExactAboveOfUptoRow : OpenClaim := { program := "ytbdkodlaagcknaa", sum := "8c9d873bd0d85b810553ca9bff7ea15288511280a8c3edd98e25ee2e7fea924a", func := "loop.example/signalgraph/laws.FnExactAboveOf", spec := "fnExactAboveOf", unfollowed := true, recurses := true, apart := false, narrowed := true }
def FnExactAboveOfUptoSaid : Prop := fnExactAboveOfUptoRow.holds Try.pinned (OpenSpec.upto fnExactAboveOfSpec)

/-- 'laws.FnAboveOf', WHERE WHAT IT READS IS OF BULK AT MOST 1048576: true; the input reads as it did. -/
def fnAboveOfUptoRow : OpenClaim := { program := "ytbdkodlaagcknaa", sum := "8c9d873bd0d85b810553ca9bff7ea15288511280a8c3edd98e25ee2e7fea924a", func := "loop.example/signalgraph/laws.FnAboveOf", spec := "fnAboveOf", unfollowed := true, recurses := true, apart := false, narrowed := true }
def FnAboveOfUptoSaid : Prop := fnAboveOfUptoRow.holds Try.pinned (OpenSpec.upto fnAboveOfSpec)

/-- 'laws.FnExactLiveOf', WHERE WHAT IT READS IS OF BULK AT MOST 1048576: true; the input reads as it did. -/
def fnExactLiveOfUptoRow : OpenClaim := { program := "ytbdkodlaagcknaa", sum := "8c9d873bd0d85b810553ca9bff7ea15288511280a8c3edd98e25ee2e7fea924a", func := "loop.example/signalgraph/laws.FnExactLiveOf", spec := "fnExactLiveOf", unfollowed := true, recurses := true, apart := false, narrowed := true }
def FnExactLiveOfUptoSaid : Prop := fnExactLiveOfUptoRow.holds Try.pinned (OpenSpec.upto fnExactLiveOfSpec)

/-- 'laws.FnLiveOf', WHERE WHAT IT READS IS OF BULK AT MOST 1048576: true; the input reads as it did. -/
def fnLiveOfUptoRow : OpenClaim := { program := "ytbdkodlaagcknaa", sum := "8c9d873bd0d85b810553ca9bff7ea15288511280a8c3edd98e25ee2e7fea924a", func := "loop.example/signalgraph/laws.FnLiveOf", spec := "fnLiveOf", unfollowed := true, recurses := true, apart := false, narrowed := true }
def FnLiveOfUptoSaid : Prop := fnLiveOfUptoRow.holds Try.pinned (OpenSpec.upto fnLiveOfSpec)

/-- 'laws.FnExactKidsOf', WHERE WHAT IT READS IS OF BULK AT MOST 1048576: true; the input reads as it did. -/
def fnExactKidsOfUptoRow : OpenClaim := { program := "ytbdkodlaagcknaa", sum := "8c9d873bd0d85b810553ca9bff7ea15288511280a8c3edd98e25ee2e7fea924a", func := "loop.example/signalgraph/laws.FnExactKidsOf", spec := "fnExactKidsOf", unfollowed := true, recurses := true, apart := false, narrowed := true }
def FnExactKidsOfUptoSaid : Prop := fnExactKidsOfUptoRow.holds Try.pinned (OpenSpec.upto fnExactKidsOfSpec)

/-- 'laws.FnKidsOf', WHERE WHAT IT READS IS OF BULK AT MOST 1048576: true; the input reads as it did. -/
def fnKidsOfUptoRow : OpenClaim := { program := "ytbdkodlaagcknaa", sum := "8c9d873bd0d85b810553ca9bff7ea15288511280a8c3edd98e25ee2e7fea924a", func := "loop.example/signalgraph/laws.FnKidsOf", spec := "fnKidsOf", unfollowed := true, recurses := true, apart := false, narrowed := true }
def FnKidsOfUptoSaid : Prop := fnKidsOfUptoRow.holds Try.pinned (OpenSpec.upto fnKidsOfSpec)

end Rows
end Go.Proofs.Ytbdkodlaagcknaa

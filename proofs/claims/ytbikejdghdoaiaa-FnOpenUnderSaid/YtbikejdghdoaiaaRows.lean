/-
  No cell of these rows narrows 'for every input' (looked for: loops, veiled, ifaces, maps, wideKeys, modest, calm, conditions, laid).
  DERIVED. THE GIVEN ROWS OF THIS SEAT. 8 by the template 'for every input the law returns true; each argument reads behind the call as it read before'; 0 by the template 'total and deterministic' (their statements: YtbikejdghdoaiaaTotals.lean).
  GIVEN WITH THE SEED: the statements are not yours to turn. If you find one false, say at which input.
  Laid BY PROGRAM, IN A SANDBOX (cutbox-rows.mjs): the forced cells as the released guide's own fill.sh prints them over the translation fc0880179d1e768c… (all of the seat's roots in one cut). By AI agents, Wed Nov 11 2026. No macro, syntax, notation, axiom, sorry.
-/
import Derived.Test.YtbikejdghdoaiaaChecked
import GoSem.Claim
import GoSem.ClaimJoined
import GoSem.ClaimMapViews
import Derived.JoinedTies
import Derived.KernelRfl
namespace Go.Proofs.Ytbikejdghdoaiaa
/- THE CELL 'sum', in the pinned program and in every row, IS THE sha256 OF THE DUMP (.gsa) THAT YtbikejdghdoaiaaProg.lean LOADS. Nothing in Lean hashes anything: it is a label: what it is worth is what the hold of that sum in a sandbox is worth. -/
noncomputable def Try.pinned : Pinned := { name := "ytbikejdghdoaiaa", sum := "fc0880179d1e768cc03476724acba930d46f02d6d13240dbf630ca21bf2857b2", checked := Try.checked }
namespace Rows
def none {H : Type} : Left H := { results := [], args := [] }

/-- 'laws.FnExactAddCleanup': WHATEVER THE INPUT: true; the input reads as it did. -/
def fnExactAddCleanupSpec : ChangeSpec := { name := "fnExactAddCleanup", fn := fun _ => fun
  | [d1, d2, d3] => { results := [.lit (.bool true)], args := [d1, d2, d3] }
  | _ => none }
def fnExactAddCleanupRow : OpenClaim := { program := "ytbikejdghdoaiaa", sum := "fc0880179d1e768cc03476724acba930d46f02d6d13240dbf630ca21bf2857b2", func := "loop.example/signalgraph/laws.FnExactAddCleanup", spec := "fnExactAddCleanup", unfollowed := true, recurses := true, apart := false }
def FnExactAddCleanupSaid : Prop := fnExactAddCleanupRow.holds Try.pinned (OpenSpec.ofChange fnExactAddCleanupSpec)

/-- ITS FALSE NEIGHBOUR: 'it returns false'. Refute it at one input. -/
def fnExactAddCleanupWrong : ChangeSpec := { name := "fnExactAddCleanup", fn := fun _ => fun
  | [d1, d2, d3] => { results := [.lit (.bool false)], args := [d1, d2, d3] }
  | _ => none }
def FnExactAddCleanupWrongFalsely : Prop := fnExactAddCleanupRow.holds Try.pinned (OpenSpec.ofChange fnExactAddCleanupWrong)

/-- 'laws.FnExactSetContext': WHATEVER THE INPUT: true; the input reads as it did. -/
def fnExactSetContextSpec : ChangeSpec := { name := "fnExactSetContext", fn := fun _ => fun
  | [d1, d2, d3, d4] => { results := [.lit (.bool true)], args := [d1, d2, d3, d4] }
  | _ => none }
def fnExactSetContextRow : OpenClaim := { program := "ytbikejdghdoaiaa", sum := "fc0880179d1e768cc03476724acba930d46f02d6d13240dbf630ca21bf2857b2", func := "loop.example/signalgraph/laws.FnExactSetContext", spec := "fnExactSetContext", unfollowed := true, recurses := true, apart := false }
def FnExactSetContextSaid : Prop := fnExactSetContextRow.holds Try.pinned (OpenSpec.ofChange fnExactSetContextSpec)

/-- ITS FALSE NEIGHBOUR: 'it returns false'. Refute it at one input. -/
def fnExactSetContextWrong : ChangeSpec := { name := "fnExactSetContext", fn := fun _ => fun
  | [d1, d2, d3, d4] => { results := [.lit (.bool false)], args := [d1, d2, d3, d4] }
  | _ => none }
def FnExactSetContextWrongFalsely : Prop := fnExactSetContextRow.holds Try.pinned (OpenSpec.ofChange fnExactSetContextWrong)

/-- 'laws.FnExactOpenUnder': WHATEVER THE INPUT: true; the input reads as it did. -/
def fnExactOpenUnderSpec : ChangeSpec := { name := "fnExactOpenUnder", fn := fun _ => fun
  | [d1, d2] => { results := [.lit (.bool true)], args := [d1, d2] }
  | _ => none }
def fnExactOpenUnderRow : OpenClaim := { program := "ytbikejdghdoaiaa", sum := "fc0880179d1e768cc03476724acba930d46f02d6d13240dbf630ca21bf2857b2", func := "loop.example/signalgraph/laws.FnExactOpenUnder", spec := "fnExactOpenUnder", unfollowed := true, recurses := true, apart := false }
def FnExactOpenUnderSaid : Prop := fnExactOpenUnderRow.holds Try.pinned (OpenSpec.ofChange fnExactOpenUnderSpec)

/-- ITS FALSE NEIGHBOUR: 'it returns false'. Refute it at one input. -/
def fnExactOpenUnderWrong : ChangeSpec := { name := "fnExactOpenUnder", fn := fun _ => fun
  | [d1, d2] => { results := [.lit (.bool false)], args := [d1, d2] }
  | _ => none }
def FnExactOpenUnderWrongFalsely : Prop := fnExactOpenUnderRow.holds Try.pinned (OpenSpec.ofChange fnExactOpenUnderWrong)

/-- 'laws.FnSetContext': WHATEVER THE INPUT: true; the input reads as it did. -/
def fnSetContextSpec : ChangeSpec := { name := "fnSetContext", fn := fun _ => fun
  | [d] => { results := [.lit (.bool true)], args := [d] }
  | _ => none }
def fnSetContextRow : OpenClaim := { program := "ytbikejdghdoaiaa", sum := "fc0880179d1e768cc03476724acba930d46f02d6d13240dbf630ca21bf2857b2", func := "loop.example/signalgraph/laws.FnSetContext", spec := "fnSetContext", unfollowed := true, recurses := true, apart := false }
def FnSetContextSaid : Prop := fnSetContextRow.holds Try.pinned (OpenSpec.ofChange fnSetContextSpec)

/-- ITS FALSE NEIGHBOUR: 'it returns false'. Refute it at one input. -/
def fnSetContextWrong : ChangeSpec := { name := "fnSetContext", fn := fun _ => fun
  | [d] => { results := [.lit (.bool false)], args := [d] }
  | _ => none }
def FnSetContextWrongFalsely : Prop := fnSetContextRow.holds Try.pinned (OpenSpec.ofChange fnSetContextWrong)

/-- 'laws.FnOpenUnder': WHATEVER THE INPUT: true; the input reads as it did. -/
def fnOpenUnderSpec : ChangeSpec := { name := "fnOpenUnder", fn := fun _ => fun
  | [d] => { results := [.lit (.bool true)], args := [d] }
  | _ => none }
def fnOpenUnderRow : OpenClaim := { program := "ytbikejdghdoaiaa", sum := "fc0880179d1e768cc03476724acba930d46f02d6d13240dbf630ca21bf2857b2", func := "loop.example/signalgraph/laws.FnOpenUnder", spec := "fnOpenUnder", unfollowed := true, recurses := true, apart := false }
def FnOpenUnderSaid : Prop := fnOpenUnderRow.holds Try.pinned (OpenSpec.ofChange fnOpenUnderSpec)

/-- ITS FALSE NEIGHBOUR: 'it returns false'. Refute it at one input. -/
def fnOpenUnderWrong : ChangeSpec := { name := "fnOpenUnder", fn := fun _ => fun
  | [d] => { results := [.lit (.bool false)], args := [d] }
  | _ => none }
def FnOpenUnderWrongFalsely : Prop := fnOpenUnderRow.holds Try.pinned (OpenSpec.ofChange fnOpenUnderWrong)

/-- 'laws.FnExactLabelsOf': WHATEVER THE INPUT: true; the input reads as it did. -/
def fnExactLabelsOfSpec : ChangeSpec := { name := "fnExactLabelsOf", fn := fun _ => fun
  | [d1, d2] => { results := [.lit (.bool true)], args := [d1, d2] }
  | _ => none }
def fnExactLabelsOfRow : OpenClaim := { program := "ytbikejdghdoaiaa", sum := "fc0880179d1e768cc03476724acba930d46f02d6d13240dbf630ca21bf2857b2", func := "loop.example/signalgraph/laws.FnExactLabelsOf", spec := "fnExactLabelsOf", unfollowed := true, recurses := true, apart := false }
def FnExactLabelsOfSaid : Prop := fnExactLabelsOfRow.holds Try.pinned (OpenSpec.ofChange fnExactLabelsOfSpec)

/-- ITS FALSE NEIGHBOUR: 'it returns false'. Refute it at one input. -/
def fnExactLabelsOfWrong : ChangeSpec := { name := "fnExactLabelsOf", fn := fun _ => fun
  | [d1, d2] => { results := [.lit (.bool false)], args := [d1, d2] }
  | _ => none }
def FnExactLabelsOfWrongFalsely : Prop := fnExactLabelsOfRow.holds Try.pinned (OpenSpec.ofChange fnExactLabelsOfWrong)

/-- 'laws.FnExactRerunOwner': WHATEVER THE INPUT: true; the input reads as it did. -/
def fnExactRerunOwnerSpec : ChangeSpec := { name := "fnExactRerunOwner", fn := fun _ => fun
  | [d1, d2] => { results := [.lit (.bool true)], args := [d1, d2] }
  | _ => none }
def fnExactRerunOwnerRow : OpenClaim := { program := "ytbikejdghdoaiaa", sum := "fc0880179d1e768cc03476724acba930d46f02d6d13240dbf630ca21bf2857b2", func := "loop.example/signalgraph/laws.FnExactRerunOwner", spec := "fnExactRerunOwner", unfollowed := true, recurses := true, apart := false }
def FnExactRerunOwnerSaid : Prop := fnExactRerunOwnerRow.holds Try.pinned (OpenSpec.ofChange fnExactRerunOwnerSpec)

/-- ITS FALSE NEIGHBOUR: 'it returns false'. Refute it at one input. -/
def fnExactRerunOwnerWrong : ChangeSpec := { name := "fnExactRerunOwner", fn := fun _ => fun
  | [d1, d2] => { results := [.lit (.bool false)], args := [d1, d2] }
  | _ => none }
def FnExactRerunOwnerWrongFalsely : Prop := fnExactRerunOwnerRow.holds Try.pinned (OpenSpec.ofChange fnExactRerunOwnerWrong)

/-- 'laws.FnExactDisposeOwner': WHATEVER THE INPUT: true; the input reads as it did. -/
def fnExactDisposeOwnerSpec : ChangeSpec := { name := "fnExactDisposeOwner", fn := fun _ => fun
  | [d1, d2] => { results := [.lit (.bool true)], args := [d1, d2] }
  | _ => none }
def fnExactDisposeOwnerRow : OpenClaim := { program := "ytbikejdghdoaiaa", sum := "fc0880179d1e768cc03476724acba930d46f02d6d13240dbf630ca21bf2857b2", func := "loop.example/signalgraph/laws.FnExactDisposeOwner", spec := "fnExactDisposeOwner", unfollowed := true, recurses := true, apart := false }
def FnExactDisposeOwnerSaid : Prop := fnExactDisposeOwnerRow.holds Try.pinned (OpenSpec.ofChange fnExactDisposeOwnerSpec)

/-- ITS FALSE NEIGHBOUR: 'it returns false'. Refute it at one input. -/
def fnExactDisposeOwnerWrong : ChangeSpec := { name := "fnExactDisposeOwner", fn := fun _ => fun
  | [d1, d2] => { results := [.lit (.bool false)], args := [d1, d2] }
  | _ => none }
def FnExactDisposeOwnerWrongFalsely : Prop := fnExactDisposeOwnerRow.holds Try.pinned (OpenSpec.ofChange fnExactDisposeOwnerWrong)

/- THE SECOND FORM. 'bulk': how many values and letters a reading holds, each counted each time it is reached (what is shared counts as often as it is met; a slice's spare places count too). A statement '..UptoSaid' is the law's where the arguments, and the package variables that the reading takes, are together of bulk at most 1048576: NARROWER than '..Said'. Prove '..Said' where nothing that the law and all that it calls make is longer than what came in: it says more and counts as full. Else prove '..UptoSaid'. A law counts once. -/
mutual
def uptoBulk {H : Type} : DataW H → Nat
  | .lit (.string bytes) => bytes.length + 1
  | .lit _ => 1
  | .nil => 1
  | .ptr d => uptoBulk d + 1
  | .slice elems spare => uptoBulkAll elems + uptoBulkAll spare + 1
  | .agg parts => uptoBulkAll parts + 1
  | .iface _ d => uptoBulk d + 1
  | .map entries => uptoBulkEntries entries + 1
  | .held _ => 1
def uptoBulkAll {H : Type} : List (DataW H) → Nat
  | [] => 0
  | d :: r => uptoBulk d + uptoBulkAll r
def uptoBulkEntries {H : Type} : List (Lit × DataW H) → Nat
  | [] => 0
  | x :: r => uptoBulkEntry x + uptoBulkEntries r
def uptoBulkEntry {H : Type} : Lit × DataW H → Nat
  | (.string bytes, d) => bytes.length + uptoBulk d + 1
  | (_, d) => uptoBulk d + 1
 end
def uptoSmall : (H : Type) → List (DataW H) → Bool := fun _ ds => decide (uptoBulkAll ds ≤ 1048576)
def OpenSpec.upto (s : _root_.Go.ChangeSpec) : _root_.Go.OpenSpec := { _root_.Go.OpenSpec.ofChange s with cond := some uptoSmall }

/-- 'laws.FnExactAddCleanup', WHERE WHAT IT READS IS OF BULK AT MOST 1048576: true; the input reads as it did. -/
def fnExactAddCleanupUptoRow : OpenClaim := { program := "ytbikejdghdoaiaa", sum := "fc0880179d1e768cc03476724acba930d46f02d6d13240dbf630ca21bf2857b2", func := "loop.example/signalgraph/laws.FnExactAddCleanup", spec := "fnExactAddCleanup", unfollowed := true, recurses := true, apart := false, narrowed := true }
def FnExactAddCleanupUptoSaid : Prop := fnExactAddCleanupUptoRow.holds Try.pinned (OpenSpec.upto fnExactAddCleanupSpec)

/-- 'laws.FnExactSetContext', WHERE WHAT IT READS IS OF BULK AT MOST 1048576: true; the input reads as it did. -/
def fnExactSetContextUptoRow : OpenClaim := { program := "ytbikejdghdoaiaa", sum := "fc0880179d1e768cc03476724acba930d46f02d6d13240dbf630ca21bf2857b2", func := "loop.example/signalgraph/laws.FnExactSetContext", spec := "fnExactSetContext", unfollowed := true, recurses := true, apart := false, narrowed := true }
def FnExactSetContextUptoSaid : Prop := fnExactSetContextUptoRow.holds Try.pinned (OpenSpec.upto fnExactSetContextSpec)

/-- 'laws.FnExactOpenUnder', WHERE WHAT IT READS IS OF BULK AT MOST 1048576: true; the input reads as it did. -/
def fnExactOpenUnderUptoRow : OpenClaim := { program := "ytbikejdghdoaiaa", sum := "fc0880179d1e768cc03476724acba930d46f02d6d13240dbf630ca21bf2857b2", func := "loop.example/signalgraph/laws.FnExactOpenUnder", spec := "fnExactOpenUnder", unfollowed := true, recurses := true, apart := false, narrowed := true }
def FnExactOpenUnderUptoSaid : Prop := fnExactOpenUnderUptoRow.holds Try.pinned (OpenSpec.upto fnExactOpenUnderSpec)

/-- 'laws.FnSetContext', WHERE WHAT IT READS IS OF BULK AT MOST 1048576: true; the input reads as it did. -/
def fnSetContextUptoRow : OpenClaim := { program := "ytbikejdghdoaiaa", sum := "fc0880179d1e768cc03476724acba930d46f02d6d13240dbf630ca21bf2857b2", func := "loop.example/signalgraph/laws.FnSetContext", spec := "fnSetContext", unfollowed := true, recurses := true, apart := false, narrowed := true }
def FnSetContextUptoSaid : Prop := fnSetContextUptoRow.holds Try.pinned (OpenSpec.upto fnSetContextSpec)

/-- 'laws.FnOpenUnder', WHERE WHAT IT READS IS OF BULK AT MOST 1048576: true; the input reads as it did. -/
def fnOpenUnderUptoRow : OpenClaim := { program := "ytbikejdghdoaiaa", sum := "fc0880179d1e768cc03476724acba930d46f02d6d13240dbf630ca21bf2857b2", func := "loop.example/signalgraph/laws.FnOpenUnder", spec := "fnOpenUnder", unfollowed := true, recurses := true, apart := false, narrowed := true }
def FnOpenUnderUptoSaid : Prop := fnOpenUnderUptoRow.holds Try.pinned (OpenSpec.upto fnOpenUnderSpec)

/-- 'laws.FnExactLabelsOf', WHERE WHAT IT READS IS OF BULK AT MOST 1048576: true; the input reads as it did. -/
def fnExactLabelsOfUptoRow : OpenClaim := { program := "ytbikejdghdoaiaa", sum := "fc0880179d1e768cc03476724acba930d46f02d6d13240dbf630ca21bf2857b2", func := "loop.example/signalgraph/laws.FnExactLabelsOf", spec := "fnExactLabelsOf", unfollowed := true, recurses := true, apart := false, narrowed := true }
def FnExactLabelsOfUptoSaid : Prop := fnExactLabelsOfUptoRow.holds Try.pinned (OpenSpec.upto fnExactLabelsOfSpec)

/-- 'laws.FnExactRerunOwner', WHERE WHAT IT READS IS OF BULK AT MOST 1048576: true; the input reads as it did. -/
def fnExactRerunOwnerUptoRow : OpenClaim := { program := "ytbikejdghdoaiaa", sum := "fc0880179d1e768cc03476724acba930d46f02d6d13240dbf630ca21bf2857b2", func := "loop.example/signalgraph/laws.FnExactRerunOwner", spec := "fnExactRerunOwner", unfollowed := true, recurses := true, apart := false, narrowed := true }
def FnExactRerunOwnerUptoSaid : Prop := fnExactRerunOwnerUptoRow.holds Try.pinned (OpenSpec.upto fnExactRerunOwnerSpec)

/-- 'laws.FnExactDisposeOwner', WHERE WHAT IT READS IS OF BULK AT MOST 1048576: true; the input reads as it did. -/
def fnExactDisposeOwnerUptoRow : OpenClaim := { program := "ytbikejdghdoaiaa", sum := "fc0880179d1e768cc03476724acba930d46f02d6d13240dbf630ca21bf2857b2", func := "loop.example/signalgraph/laws.FnExactDisposeOwner", spec := "fnExactDisposeOwner", unfollowed := true, recurses := true, apart := false, narrowed := true }
def FnExactDisposeOwnerUptoSaid : Prop := fnExactDisposeOwnerUptoRow.holds Try.pinned (OpenSpec.upto fnExactDisposeOwnerSpec)

end Rows
end Go.Proofs.Ytbikejdghdoaiaa

/-
  No cell of these rows narrows 'for every input' (looked for: loops, veiled, ifaces, maps, wideKeys, modest, calm, conditions, laid).
  DERIVED. THE GIVEN ROWS OF THIS SEAT. 6 by the template 'for every input the law returns true; each argument reads behind the call as it read before'; 0 by the template 'total and deterministic' (their statements: YtnlbmiangbahgaaTotals.lean).
  GIVEN WITH THE SEED: the statements are not yours to turn. If you find one false, say at which input.
  Laid BY PROGRAM, IN A SANDBOX (cutbox-rows.mjs): the forced cells as the released guide's own fill.sh prints them over the translation f365e83a47ae7d20… (all of the seat's roots in one cut). By AI agents, Wed Nov 11 2026. No macro, syntax, notation, axiom, sorry.
-/
import Derived.Test.YtnlbmiangbahgaaChecked
import GoSem.Claim
import GoSem.ClaimJoined
import GoSem.ClaimMapViews
import Derived.JoinedTies
import Derived.KernelRfl
namespace Go.Proofs.Ytnlbmiangbahgaa
/- THE CELL 'sum', in the pinned program and in every row, IS THE sha256 OF THE DUMP (.gsa) THAT YtnlbmiangbahgaaProg.lean LOADS. Nothing in Lean hashes anything: it is a label: what it is worth is what the hold of that sum in a sandbox is worth. -/
noncomputable def Try.pinned : Pinned := { name := "ytnlbmiangbahgaa", sum := "f365e83a47ae7d209d426271fe1f3a5bc4be5c04b7fdd4e31b20c48c92f95e8c", checked := Try.checked }
namespace Rows
def none {H : Type} : Left H := { results := [], args := [] }

/-- 'laws.FnAddCleanup': WHATEVER THE INPUT: true; the input reads as it did. -/
def fnAddCleanupSpec : ChangeSpec := { name := "fnAddCleanup", fn := fun _ => fun
  | [d] => { results := [.lit (.bool true)], args := [d] }
  | _ => none }
def fnAddCleanupRow : OpenClaim := { program := "ytnlbmiangbahgaa", sum := "f365e83a47ae7d209d426271fe1f3a5bc4be5c04b7fdd4e31b20c48c92f95e8c", func := "loop.example/signalgraph/laws.FnAddCleanup", spec := "fnAddCleanup", unfollowed := true, recurses := true, apart := false }
def FnAddCleanupSaid : Prop := fnAddCleanupRow.holds Try.pinned (OpenSpec.ofChange fnAddCleanupSpec)

/-- ITS FALSE NEIGHBOUR: 'it returns false'. Refute it at one input. -/
def fnAddCleanupWrong : ChangeSpec := { name := "fnAddCleanup", fn := fun _ => fun
  | [d] => { results := [.lit (.bool false)], args := [d] }
  | _ => none }
def FnAddCleanupWrongFalsely : Prop := fnAddCleanupRow.holds Try.pinned (OpenSpec.ofChange fnAddCleanupWrong)

/-- 'laws.FnLabelsOf': WHATEVER THE INPUT: true; the input reads as it did. -/
def fnLabelsOfSpec : ChangeSpec := { name := "fnLabelsOf", fn := fun _ => fun
  | [d] => { results := [.lit (.bool true)], args := [d] }
  | _ => none }
def fnLabelsOfRow : OpenClaim := { program := "ytnlbmiangbahgaa", sum := "f365e83a47ae7d209d426271fe1f3a5bc4be5c04b7fdd4e31b20c48c92f95e8c", func := "loop.example/signalgraph/laws.FnLabelsOf", spec := "fnLabelsOf", unfollowed := true, recurses := true, apart := false }
def FnLabelsOfSaid : Prop := fnLabelsOfRow.holds Try.pinned (OpenSpec.ofChange fnLabelsOfSpec)

/-- ITS FALSE NEIGHBOUR: 'it returns false'. Refute it at one input. -/
def fnLabelsOfWrong : ChangeSpec := { name := "fnLabelsOf", fn := fun _ => fun
  | [d] => { results := [.lit (.bool false)], args := [d] }
  | _ => none }
def FnLabelsOfWrongFalsely : Prop := fnLabelsOfRow.holds Try.pinned (OpenSpec.ofChange fnLabelsOfWrong)

/-- 'laws.FnRerunOwner': WHATEVER THE INPUT: true; the input reads as it did. -/
def fnRerunOwnerSpec : ChangeSpec := { name := "fnRerunOwner", fn := fun _ => fun
  | [d] => { results := [.lit (.bool true)], args := [d] }
  | _ => none }
def fnRerunOwnerRow : OpenClaim := { program := "ytnlbmiangbahgaa", sum := "f365e83a47ae7d209d426271fe1f3a5bc4be5c04b7fdd4e31b20c48c92f95e8c", func := "loop.example/signalgraph/laws.FnRerunOwner", spec := "fnRerunOwner", unfollowed := true, recurses := true, apart := false }
def FnRerunOwnerSaid : Prop := fnRerunOwnerRow.holds Try.pinned (OpenSpec.ofChange fnRerunOwnerSpec)

/-- ITS FALSE NEIGHBOUR: 'it returns false'. Refute it at one input. -/
def fnRerunOwnerWrong : ChangeSpec := { name := "fnRerunOwner", fn := fun _ => fun
  | [d] => { results := [.lit (.bool false)], args := [d] }
  | _ => none }
def FnRerunOwnerWrongFalsely : Prop := fnRerunOwnerRow.holds Try.pinned (OpenSpec.ofChange fnRerunOwnerWrong)

/-- 'laws.FnRerunOwnerAll': WHATEVER THE INPUT: true; the input reads as it did. -/
def fnRerunOwnerAllSpec : ChangeSpec := { name := "fnRerunOwnerAll", fn := fun _ => fun
  | [d] => { results := [.lit (.bool true)], args := [d] }
  | _ => none }
def fnRerunOwnerAllRow : OpenClaim := { program := "ytnlbmiangbahgaa", sum := "f365e83a47ae7d209d426271fe1f3a5bc4be5c04b7fdd4e31b20c48c92f95e8c", func := "loop.example/signalgraph/laws.FnRerunOwnerAll", spec := "fnRerunOwnerAll", unfollowed := true, recurses := true, apart := false }
def FnRerunOwnerAllSaid : Prop := fnRerunOwnerAllRow.holds Try.pinned (OpenSpec.ofChange fnRerunOwnerAllSpec)

/-- ITS FALSE NEIGHBOUR: 'it returns false'. Refute it at one input. -/
def fnRerunOwnerAllWrong : ChangeSpec := { name := "fnRerunOwnerAll", fn := fun _ => fun
  | [d] => { results := [.lit (.bool false)], args := [d] }
  | _ => none }
def FnRerunOwnerAllWrongFalsely : Prop := fnRerunOwnerAllRow.holds Try.pinned (OpenSpec.ofChange fnRerunOwnerAllWrong)

/-- 'laws.FnDisposeOwner': WHATEVER THE INPUT: true; the input reads as it did. -/
def fnDisposeOwnerSpec : ChangeSpec := { name := "fnDisposeOwner", fn := fun _ => fun
  | [d] => { results := [.lit (.bool true)], args := [d] }
  | _ => none }
def fnDisposeOwnerRow : OpenClaim := { program := "ytnlbmiangbahgaa", sum := "f365e83a47ae7d209d426271fe1f3a5bc4be5c04b7fdd4e31b20c48c92f95e8c", func := "loop.example/signalgraph/laws.FnDisposeOwner", spec := "fnDisposeOwner", unfollowed := true, recurses := true, apart := false }
def FnDisposeOwnerSaid : Prop := fnDisposeOwnerRow.holds Try.pinned (OpenSpec.ofChange fnDisposeOwnerSpec)

/-- ITS FALSE NEIGHBOUR: 'it returns false'. Refute it at one input. -/
def fnDisposeOwnerWrong : ChangeSpec := { name := "fnDisposeOwner", fn := fun _ => fun
  | [d] => { results := [.lit (.bool false)], args := [d] }
  | _ => none }
def FnDisposeOwnerWrongFalsely : Prop := fnDisposeOwnerRow.holds Try.pinned (OpenSpec.ofChange fnDisposeOwnerWrong)

/-- 'laws.FnValidOwners': WHATEVER THE INPUT: true; the input reads as it did. -/
def fnValidOwnersSpec : ChangeSpec := { name := "fnValidOwners", fn := fun _ => fun
  | [d] => { results := [.lit (.bool true)], args := [d] }
  | _ => none }
def fnValidOwnersRow : OpenClaim := { program := "ytnlbmiangbahgaa", sum := "f365e83a47ae7d209d426271fe1f3a5bc4be5c04b7fdd4e31b20c48c92f95e8c", func := "loop.example/signalgraph/laws.FnValidOwners", spec := "fnValidOwners", unfollowed := true, recurses := true, apart := false }
def FnValidOwnersSaid : Prop := fnValidOwnersRow.holds Try.pinned (OpenSpec.ofChange fnValidOwnersSpec)

/-- ITS FALSE NEIGHBOUR: 'it returns false'. Refute it at one input. -/
def fnValidOwnersWrong : ChangeSpec := { name := "fnValidOwners", fn := fun _ => fun
  | [d] => { results := [.lit (.bool false)], args := [d] }
  | _ => none }
def FnValidOwnersWrongFalsely : Prop := fnValidOwnersRow.holds Try.pinned (OpenSpec.ofChange fnValidOwnersWrong)

/- THE SECOND FORM. 'bulk': how many values and letters a reading holds, each counted each time it is reached (what is shared counts as often as it is met; a slice's spare places count too). A statement '..UptoSaid' is the law's where the arguments, and the package variables that the reading takes, are together of bulk at most 1048576: NARROWER than '..Said'. Prove '..Said' where nothing that the law and all that it calls make is longer than what came in: it says more and counts as full. Else prove '..UptoSaid'. A law counts once. -/
mutual
def uptoBulk {H : Type} : DataW H → Nat
  | .lit (.string bytes) => bytes.length + 1
  | .lit _ => 1
  | .nil => 1
  | .ptr d => uptoBulk d + 1
  | .slice elems spare => uptoBulkAll elems + uptoBulkAll spare + 1
  | .agg parts => uptoBulkAll parts + 1
  | .iface _ d => uptoBulk d + 1
  | .map entries => uptoBulkEntries entries + 1
  | .held _ => 1
def uptoBulkAll {H : Type} : List (DataW H) → Nat
  | [] => 0
  | d :: r => uptoBulk d + uptoBulkAll r
def uptoBulkEntries {H : Type} : List (Lit × DataW H) → Nat
  | [] => 0
  | x :: r => uptoBulkEntry x + uptoBulkEntries r
def uptoBulkEntry {H : Type} : Lit × DataW H → Nat
  | (.string bytes, d) => bytes.length + uptoBulk d + 1
  | (_, d) => uptoBulk d + 1
 end
def uptoSmall : (H : Type) → List (DataW H) → Bool := fun _ ds => decide (uptoBulkAll ds ≤ 1048576)
def OpenSpec.upto (s : _root_.Go.ChangeSpec) : _root_.Go.OpenSpec := { _root_.Go.OpenSpec.ofChange s with cond := some uptoSmall }

/-- 'laws.FnAddCleanup', WHERE WHAT IT READS IS OF BULK AT MOST 1048576: true; the input reads as it did. -/
def fnAddCleanupUptoRow : OpenClaim := { program := "ytnlbmiangbahgaa", sum := "f365e83a47ae7d209d426271fe1f3a5bc4be5c04b7fdd4e31b20c48c92f95e8c", func := "loop.example/signalgraph/laws.FnAddCleanup", spec := "fnAddCleanup", unfollowed := true, recurses := true, apart := false, narrowed := true }
def FnAddCleanupUptoSaid : Prop := fnAddCleanupUptoRow.holds Try.pinned (OpenSpec.upto fnAddCleanupSpec)

/-- 'laws.FnLabelsOf', WHERE WHAT IT READS IS OF BULK AT MOST 1048576: true; the input reads as it did. -/
def fnLabelsOfUptoRow : OpenClaim := { program := "ytnlbmiangbahgaa", sum := "f365e83a47ae7d209d426271fe1f3a5bc4be5c04b7fdd4e31b20c48c92f95e8c", func := "loop.example/signalgraph/laws.FnLabelsOf", spec := "fnLabelsOf", unfollowed := true, recurses := true, apart := false, narrowed := true }
def FnLabelsOfUptoSaid : Prop := fnLabelsOfUptoRow.holds Try.pinned (OpenSpec.upto fnLabelsOfSpec)

/-- 'laws.FnRerunOwner', WHERE WHAT IT READS IS OF BULK AT MOST 1048576: true; the input reads as it did. -/
def fnRerunOwnerUptoRow : OpenClaim := { program := "ytnlbmiangbahgaa", sum := "f365e83a47ae7d209d426271fe1f3a5bc4be5c04b7fdd4e31b20c48c92f95e8c", func := "loop.example/signalgraph/laws.FnRerunOwner", spec := "fnRerunOwner", unfollowed := true, recurses := true, apart := false, narrowed := true }
def FnRerunOwnerUptoSaid : Prop := fnRerunOwnerUptoRow.holds Try.pinned (OpenSpec.upto fnRerunOwnerSpec)

/-- 'laws.FnRerunOwnerAll', WHERE WHAT IT READS IS OF BULK AT MOST 1048576: true; the input reads as it did. -/
def fnRerunOwnerAllUptoRow : OpenClaim := { program := "ytnlbmiangbahgaa", sum := "f365e83a47ae7d209d426271fe1f3a5bc4be5c04b7fdd4e31b20c48c92f95e8c", func := "loop.example/signalgraph/laws.FnRerunOwnerAll", spec := "fnRerunOwnerAll", unfollowed := true, recurses := true, apart := false, narrowed := true }
def FnRerunOwnerAllUptoSaid : Prop := fnRerunOwnerAllUptoRow.holds Try.pinned (OpenSpec.upto fnRerunOwnerAllSpec)

/-- 'laws.FnDisposeOwner', WHERE WHAT IT READS IS OF BULK AT MOST 1048576: true; the input reads as it did. -/
def fnDisposeOwnerUptoRow : OpenClaim := { program := "ytnlbmiangbahgaa", sum := "f365e83a47ae7d209d426271fe1f3a5bc4be5c04b7fdd4e31b20c48c92f95e8c", func := "loop.example/signalgraph/laws.FnDisposeOwner", spec := "fnDisposeOwner", unfollowed := true, recurses := true, apart := false, narrowed := true }
def FnDisposeOwnerUptoSaid : Prop := fnDisposeOwnerUptoRow.holds Try.pinned (OpenSpec.upto fnDisposeOwnerSpec)

/-- 'laws.FnValidOwners', WHERE WHAT IT READS IS OF BULK AT MOST 1048576: true; the input reads as it did. -/
def fnValidOwnersUptoRow : OpenClaim := { program := "ytnlbmiangbahgaa", sum := "f365e83a47ae7d209d426271fe1f3a5bc4be5c04b7fdd4e31b20c48c92f95e8c", func := "loop.example/signalgraph/laws.FnValidOwners", spec := "fnValidOwners", unfollowed := true, recurses := true, apart := false, narrowed := true }
def FnValidOwnersUptoSaid : Prop := fnValidOwnersUptoRow.holds Try.pinned (OpenSpec.upto fnValidOwnersSpec)

end Rows
end Go.Proofs.Ytnlbmiangbahgaa

/-
  No cell of these rows narrows 'for every input' (looked for: loops, veiled, ifaces, maps, wideKeys, modest, calm, conditions, laid).
  DERIVED. THE GIVEN ROWS OF THIS SEAT. 11 by the template 'for every input the law returns true; each argument reads behind the call as it read before'; 0 by the template 'total and deterministic' (their statements: YtplgmieiclicoaaTotals.lean).
  GIVEN WITH THE SEED: the statements are not yours to turn. If you find one false, say at which input.
  Laid BY PROGRAM, IN A SANDBOX (cutbox-rows.mjs): the forced cells as the released guide's own fill.sh prints them over the translation 9a2242391855f7df… (all of the seat's roots in one cut). By AI agents, Wed Nov 11 2026. No macro, syntax, notation, axiom, sorry.
-/
import Derived.Test.YtplgmieiclicoaaChecked
import GoSem.Claim
import GoSem.ClaimJoined
import GoSem.ClaimMapViews
import Derived.JoinedTies
import Derived.KernelRfl
namespace Go.Proofs.Ytplgmieiclicoaa
/- THE CELL 'sum', in the pinned program and in every row, IS THE sha256 OF THE DUMP (.gsa) THAT YtplgmieiclicoaaProg.lean LOADS. Nothing in Lean hashes anything: it is a label: what it is worth is what the hold of that sum in a sandbox is worth. -/
noncomputable def Try.pinned : Pinned := { name := "ytplgmieiclicoaa", sum := "9a2242391855f7dff0973099540d54e9849a08850021b6242aadecd87540d5b0", checked := Try.checked }
namespace Rows
def none {H : Type} : Left H := { results := [], args := [] }

/-- 'laws.FnExactValidKeys': WHATEVER THE INPUT: true; the input reads as it did. -/
def fnExactValidKeysSpec : ChangeSpec := { name := "fnExactValidKeys", fn := fun _ => fun
  | [d] => { results := [.lit (.bool true)], args := [d] }
  | _ => none }
def fnExactValidKeysRow : OpenClaim := { program := "ytplgmieiclicoaa", sum := "9a2242391855f7dff0973099540d54e9849a08850021b6242aadecd87540d5b0", func := "loop.example/signalgraph/laws.FnExactValidKeys", spec := "fnExactValidKeys", apart := false }
def FnExactValidKeysSaid : Prop := fnExactValidKeysRow.holds Try.pinned (OpenSpec.ofChange fnExactValidKeysSpec)

/-- ITS FALSE NEIGHBOUR: 'it returns false'. Refute it at one input. -/
def fnExactValidKeysWrong : ChangeSpec := { name := "fnExactValidKeys", fn := fun _ => fun
  | [d] => { results := [.lit (.bool false)], args := [d] }
  | _ => none }
def FnExactValidKeysWrongFalsely : Prop := fnExactValidKeysRow.holds Try.pinned (OpenSpec.ofChange fnExactValidKeysWrong)

/-- 'laws.FnValidKeys': WHATEVER THE INPUT: true; the input reads as it did. -/
def fnValidKeysSpec : ChangeSpec := { name := "fnValidKeys", fn := fun _ => fun
  | [d] => { results := [.lit (.bool true)], args := [d] }
  | _ => none }
def fnValidKeysRow : OpenClaim := { program := "ytplgmieiclicoaa", sum := "9a2242391855f7dff0973099540d54e9849a08850021b6242aadecd87540d5b0", func := "loop.example/signalgraph/laws.FnValidKeys", spec := "fnValidKeys", apart := false }
def FnValidKeysSaid : Prop := fnValidKeysRow.holds Try.pinned (OpenSpec.ofChange fnValidKeysSpec)

/-- ITS FALSE NEIGHBOUR: 'it returns false'. Refute it at one input. -/
def fnValidKeysWrong : ChangeSpec := { name := "fnValidKeys", fn := fun _ => fun
  | [d] => { results := [.lit (.bool false)], args := [d] }
  | _ => none }
def FnValidKeysWrongFalsely : Prop := fnValidKeysRow.holds Try.pinned (OpenSpec.ofChange fnValidKeysWrong)

/-- 'laws.FnExactNewKeys': WHATEVER THE INPUT: true; the input reads as it did. -/
def fnExactNewKeysSpec : ChangeSpec := { name := "fnExactNewKeys", fn := fun _ => fun
  | [d1, d2] => { results := [.lit (.bool true)], args := [d1, d2] }
  | _ => none }
def fnExactNewKeysRow : OpenClaim := { program := "ytplgmieiclicoaa", sum := "9a2242391855f7dff0973099540d54e9849a08850021b6242aadecd87540d5b0", func := "loop.example/signalgraph/laws.FnExactNewKeys", spec := "fnExactNewKeys", unfollowed := true, recurses := true, apart := false }
def FnExactNewKeysSaid : Prop := fnExactNewKeysRow.holds Try.pinned (OpenSpec.ofChange fnExactNewKeysSpec)

/-- ITS FALSE NEIGHBOUR: 'it returns false'. Refute it at one input. -/
def fnExactNewKeysWrong : ChangeSpec := { name := "fnExactNewKeys", fn := fun _ => fun
  | [d1, d2] => { results := [.lit (.bool false)], args := [d1, d2] }
  | _ => none }
def FnExactNewKeysWrongFalsely : Prop := fnExactNewKeysRow.holds Try.pinned (OpenSpec.ofChange fnExactNewKeysWrong)

/-- 'laws.FnNewKeys': WHATEVER THE INPUT: true; the input reads as it did. -/
def fnNewKeysSpec : ChangeSpec := { name := "fnNewKeys", fn := fun _ => fun
  | [d] => { results := [.lit (.bool true)], args := [d] }
  | _ => none }
def fnNewKeysRow : OpenClaim := { program := "ytplgmieiclicoaa", sum := "9a2242391855f7dff0973099540d54e9849a08850021b6242aadecd87540d5b0", func := "loop.example/signalgraph/laws.FnNewKeys", spec := "fnNewKeys", unfollowed := true, recurses := true, apart := false }
def FnNewKeysSaid : Prop := fnNewKeysRow.holds Try.pinned (OpenSpec.ofChange fnNewKeysSpec)

/-- ITS FALSE NEIGHBOUR: 'it returns false'. Refute it at one input. -/
def fnNewKeysWrong : ChangeSpec := { name := "fnNewKeys", fn := fun _ => fun
  | [d] => { results := [.lit (.bool false)], args := [d] }
  | _ => none }
def FnNewKeysWrongFalsely : Prop := fnNewKeysRow.holds Try.pinned (OpenSpec.ofChange fnNewKeysWrong)

/-- 'laws.FnExactStaysOf': WHATEVER THE INPUT: true; the input reads as it did. -/
def fnExactStaysOfSpec : ChangeSpec := { name := "fnExactStaysOf", fn := fun _ => fun
  | [d1, d2] => { results := [.lit (.bool true)], args := [d1, d2] }
  | _ => none }
def fnExactStaysOfRow : OpenClaim := { program := "ytplgmieiclicoaa", sum := "9a2242391855f7dff0973099540d54e9849a08850021b6242aadecd87540d5b0", func := "loop.example/signalgraph/laws.FnExactStaysOf", spec := "fnExactStaysOf", unfollowed := true, recurses := true, apart := false }
def FnExactStaysOfSaid : Prop := fnExactStaysOfRow.holds Try.pinned (OpenSpec.ofChange fnExactStaysOfSpec)

/-- ITS FALSE NEIGHBOUR: 'it returns false'. Refute it at one input. -/
def fnExactStaysOfWrong : ChangeSpec := { name := "fnExactStaysOf", fn := fun _ => fun
  | [d1, d2] => { results := [.lit (.bool false)], args := [d1, d2] }
  | _ => none }
def FnExactStaysOfWrongFalsely : Prop := fnExactStaysOfRow.holds Try.pinned (OpenSpec.ofChange fnExactStaysOfWrong)

/-- 'laws.FnStaysOf': WHATEVER THE INPUT: true; the input reads as it did. -/
def fnStaysOfSpec : ChangeSpec := { name := "fnStaysOf", fn := fun _ => fun
  | [d] => { results := [.lit (.bool true)], args := [d] }
  | _ => none }
def fnStaysOfRow : OpenClaim := { program := "ytplgmieiclicoaa", sum := "9a2242391855f7dff0973099540d54e9849a08850021b6242aadecd87540d5b0", func := "loop.example/signalgraph/laws.FnStaysOf", spec := "fnStaysOf", unfollowed := true, recurses := true, apart := false }
def FnStaysOfSaid : Prop := fnStaysOfRow.holds Try.pinned (OpenSpec.ofChange fnStaysOfSpec)

/-- ITS FALSE NEIGHBOUR: 'it returns false'. Refute it at one input. -/
def fnStaysOfWrong : ChangeSpec := { name := "fnStaysOf", fn := fun _ => fun
  | [d] => { results := [.lit (.bool false)], args := [d] }
  | _ => none }
def FnStaysOfWrongFalsely : Prop := fnStaysOfRow.holds Try.pinned (OpenSpec.ofChange fnStaysOfWrong)

/-- 'laws.FnStaysOfMost': WHATEVER THE INPUT: true; the input reads as it did. -/
def fnStaysOfMostSpec : ChangeSpec := { name := "fnStaysOfMost", fn := fun _ => fun
  | [d] => { results := [.lit (.bool true)], args := [d] }
  | _ => none }
def fnStaysOfMostRow : OpenClaim := { program := "ytplgmieiclicoaa", sum := "9a2242391855f7dff0973099540d54e9849a08850021b6242aadecd87540d5b0", func := "loop.example/signalgraph/laws.FnStaysOfMost", spec := "fnStaysOfMost", unfollowed := true, recurses := true, apart := false }
def FnStaysOfMostSaid : Prop := fnStaysOfMostRow.holds Try.pinned (OpenSpec.ofChange fnStaysOfMostSpec)

/-- ITS FALSE NEIGHBOUR: 'it returns false'. Refute it at one input. -/
def fnStaysOfMostWrong : ChangeSpec := { name := "fnStaysOfMost", fn := fun _ => fun
  | [d] => { results := [.lit (.bool false)], args := [d] }
  | _ => none }
def FnStaysOfMostWrongFalsely : Prop := fnStaysOfMostRow.holds Try.pinned (OpenSpec.ofChange fnStaysOfMostWrong)

/-- 'laws.FnExactMovesOf': WHATEVER THE INPUT: true; the input reads as it did. -/
def fnExactMovesOfSpec : ChangeSpec := { name := "fnExactMovesOf", fn := fun _ => fun
  | [d1, d2] => { results := [.lit (.bool true)], args := [d1, d2] }
  | _ => none }
def fnExactMovesOfRow : OpenClaim := { program := "ytplgmieiclicoaa", sum := "9a2242391855f7dff0973099540d54e9849a08850021b6242aadecd87540d5b0", func := "loop.example/signalgraph/laws.FnExactMovesOf", spec := "fnExactMovesOf", unfollowed := true, recurses := true, apart := false }
def FnExactMovesOfSaid : Prop := fnExactMovesOfRow.holds Try.pinned (OpenSpec.ofChange fnExactMovesOfSpec)

/-- ITS FALSE NEIGHBOUR: 'it returns false'. Refute it at one input. -/
def fnExactMovesOfWrong : ChangeSpec := { name := "fnExactMovesOf", fn := fun _ => fun
  | [d1, d2] => { results := [.lit (.bool false)], args := [d1, d2] }
  | _ => none }
def FnExactMovesOfWrongFalsely : Prop := fnExactMovesOfRow.holds Try.pinned (OpenSpec.ofChange fnExactMovesOfWrong)

/-- 'laws.FnMovesOf': WHATEVER THE INPUT: true; the input reads as it did. -/
def fnMovesOfSpec : ChangeSpec := { name := "fnMovesOf", fn := fun _ => fun
  | [d] => { results := [.lit (.bool true)], args := [d] }
  | _ => none }
def fnMovesOfRow : OpenClaim := { program := "ytplgmieiclicoaa", sum := "9a2242391855f7dff0973099540d54e9849a08850021b6242aadecd87540d5b0", func := "loop.example/signalgraph/laws.FnMovesOf", spec := "fnMovesOf", unfollowed := true, recurses := true, apart := false }
def FnMovesOfSaid : Prop := fnMovesOfRow.holds Try.pinned (OpenSpec.ofChange fnMovesOfSpec)

/-- ITS FALSE NEIGHBOUR: 'it returns false'. Refute it at one input. -/
def fnMovesOfWrong : ChangeSpec := { name := "fnMovesOf", fn := fun _ => fun
  | [d] => { results := [.lit (.bool false)], args := [d] }
  | _ => none }
def FnMovesOfWrongFalsely : Prop := fnMovesOfRow.holds Try.pinned (OpenSpec.ofChange fnMovesOfWrong)

/-- 'laws.FnExactCostOf': WHATEVER THE INPUT: true; the input reads as it did. -/
def fnExactCostOfSpec : ChangeSpec := { name := "fnExactCostOf", fn := fun _ => fun
  | [d1, d2] => { results := [.lit (.bool true)], args := [d1, d2] }
  | _ => none }
def fnExactCostOfRow : OpenClaim := { program := "ytplgmieiclicoaa", sum := "9a2242391855f7dff0973099540d54e9849a08850021b6242aadecd87540d5b0", func := "loop.example/signalgraph/laws.FnExactCostOf", spec := "fnExactCostOf", unfollowed := true, recurses := true, apart := false }
def FnExactCostOfSaid : Prop := fnExactCostOfRow.holds Try.pinned (OpenSpec.ofChange fnExactCostOfSpec)

/-- ITS FALSE NEIGHBOUR: 'it returns false'. Refute it at one input. -/
def fnExactCostOfWrong : ChangeSpec := { name := "fnExactCostOf", fn := fun _ => fun
  | [d1, d2] => { results := [.lit (.bool false)], args := [d1, d2] }
  | _ => none }
def FnExactCostOfWrongFalsely : Prop := fnExactCostOfRow.holds Try.pinned (OpenSpec.ofChange fnExactCostOfWrong)

/-- 'laws.FnCostOf': WHATEVER THE INPUT: true; the input reads as it did. -/
def fnCostOfSpec : ChangeSpec := { name := "fnCostOf", fn := fun _ => fun
  | [d] => { results := [.lit (.bool true)], args := [d] }
  | _ => none }
def fnCostOfRow : OpenClaim := { program := "ytplgmieiclicoaa", sum := "9a2242391855f7dff0973099540d54e9849a08850021b6242aadecd87540d5b0", func := "loop.example/signalgraph/laws.FnCostOf", spec := "fnCostOf", unfollowed := true, recurses := true, apart := false }
def FnCostOfSaid : Prop := fnCostOfRow.holds Try.pinned (OpenSpec.ofChange fnCostOfSpec)

/-- ITS FALSE NEIGHBOUR: 'it returns false'. Refute it at one input. -/
def fnCostOfWrong : ChangeSpec := { name := "fnCostOf", fn := fun _ => fun
  | [d] => { results := [.lit (.bool false)], args := [d] }
  | _ => none }
def FnCostOfWrongFalsely : Prop := fnCostOfRow.holds Try.pinned (OpenSpec.ofChange fnCostOfWrong)

/- THE SECOND FORM. 'bulk': how many values and letters a reading holds, each counted each time it is reached (what is shared counts as often as it is met; a slice's spare places count too). A statement '..UptoSaid' is the law's where the arguments, and the package variables that the reading takes, are together of bulk at most 1048576: NARROWER than '..Said'. Prove '..Said' where nothing that the law and all that it calls make is longer than what came in: it says more and counts as full. Else prove '..UptoSaid'. A law counts once. -/
mutual
def uptoBulk {H : Type} : DataW H → Nat
  | .lit (.string bytes) => bytes.length + 1
  | .lit _ => 1
  | .nil => 1
  | .ptr d => uptoBulk d + 1
  | .slice elems spare => uptoBulkAll elems + uptoBulkAll spare + 1
  | .agg parts => uptoBulkAll parts + 1
  | .iface _ d => uptoBulk d + 1
  | .map entries => uptoBulkEntries entries + 1
  | .held _ => 1
def uptoBulkAll {H : Type} : List (DataW H) → Nat
  | [] => 0
  | d :: r => uptoBulk d + uptoBulkAll r
def uptoBulkEntries {H : Type} : List (Lit × DataW H) → Nat
  | [] => 0
  | x :: r => uptoBulkEntry x + uptoBulkEntries r
def uptoBulkEntry {H : Type} : Lit × DataW H → Nat
  | (.string bytes, d) => bytes.length + uptoBulk d + 1
  | (_, d) => uptoBulk d + 1
 end
def uptoSmall : (H : Type) → List (DataW H) → Bool := fun _ ds => decide (uptoBulkAll ds ≤ 1048576)
def OpenSpec.upto (s : _root_.Go.ChangeSpec) : _root_.Go.OpenSpec := { _root_.Go.OpenSpec.ofChange s with cond := some uptoSmall }

/-- 'laws.FnExactValidKeys', WHERE WHAT IT READS IS OF BULK AT MOST 1048576: true; the input reads as it did. -/
def fnExactValidKeysUptoRow : OpenClaim := { program := "ytplgmieiclicoaa", sum := "9a2242391855f7dff0973099540d54e9849a08850021b6242aadecd87540d5b0", func := "loop.example/signalgraph/laws.FnExactValidKeys", spec := "fnExactValidKeys", apart := false, narrowed := true }
def FnExactValidKeysUptoSaid : Prop := fnExactValidKeysUptoRow.holds Try.pinned (OpenSpec.upto fnExactValidKeysSpec)

/-- 'laws.FnValidKeys', WHERE WHAT IT READS IS OF BULK AT MOST 1048576: true; the input reads as it did. -/
def fnValidKeysUptoRow : OpenClaim := { program := "ytplgmieiclicoaa", sum := "9a2242391855f7dff0973099540d54e9849a08850021b6242aadecd87540d5b0", func := "loop.example/signalgraph/laws.FnValidKeys", spec := "fnValidKeys", apart := false, narrowed := true }
def FnValidKeysUptoSaid : Prop := fnValidKeysUptoRow.holds Try.pinned (OpenSpec.upto fnValidKeysSpec)

/-- 'laws.FnExactNewKeys', WHERE WHAT IT READS IS OF BULK AT MOST 1048576: true; the input reads as it did. -/
def fnExactNewKeysUptoRow : OpenClaim := { program := "ytplgmieiclicoaa", sum := "9a2242391855f7dff0973099540d54e9849a08850021b6242aadecd87540d5b0", func := "loop.example/signalgraph/laws.FnExactNewKeys", spec := "fnExactNewKeys", unfollowed := true, recurses := true, apart := false, narrowed := true }
def FnExactNewKeysUptoSaid : Prop := fnExactNewKeysUptoRow.holds Try.pinned (OpenSpec.upto fnExactNewKeysSpec)

/-- 'laws.FnNewKeys', WHERE WHAT IT READS IS OF BULK AT MOST 1048576: true; the input reads as it did. -/
def fnNewKeysUptoRow : OpenClaim := { program := "ytplgmieiclicoaa", sum := "9a2242391855f7dff0973099540d54e9849a08850021b6242aadecd87540d5b0", func := "loop.example/signalgraph/laws.FnNewKeys", spec := "fnNewKeys", unfollowed := true, recurses := true, apart := false, narrowed := true }
def FnNewKeysUptoSaid : Prop := fnNewKeysUptoRow.holds Try.pinned (OpenSpec.upto fnNewKeysSpec)

/-- 'laws.FnExactStaysOf', WHERE WHAT IT READS IS OF BULK AT MOST 1048576: true; the input reads as it did. -/
def fnExactStaysOfUptoRow : OpenClaim := { program := "ytplgmieiclicoaa", sum := "9a2242391855f7dff0973099540d54e9849a08850021b6242aadecd87540d5b0", func := "loop.example/signalgraph/laws.FnExactStaysOf", spec := "fnExactStaysOf", unfollowed := true, recurses := true, apart := false, narrowed := true }
def FnExactStaysOfUptoSaid : Prop := fnExactStaysOfUptoRow.holds Try.pinned (OpenSpec.upto fnExactStaysOfSpec)

/-- 'laws.FnStaysOf', WHERE WHAT IT READS IS OF BULK AT MOST 1048576: true; the input reads as it did. -/
def fnStaysOfUptoRow : OpenClaim := { program := "ytplgmieiclicoaa", sum := "9a2242391855f7dff0973099540d54e9849a08850021b6242aadecd87540d5b0", func := "loop.example/signalgraph/laws.FnStaysOf", spec := "fnStaysOf", unfollowed := true, recurses := true, apart := false, narrowed := true }
def FnStaysOfUptoSaid : Prop := fnStaysOfUptoRow.holds Try.pinned (OpenSpec.upto fnStaysOfSpec)

/-- 'laws.FnStaysOfMost', WHERE WHAT IT READS IS OF BULK AT MOST 1048576: true; the input reads as it did. -/
def fnStaysOfMostUptoRow : OpenClaim := { program := "ytplgmieiclicoaa", sum := "9a2242391855f7dff0973099540d54e9849a08850021b6242aadecd87540d5b0", func := "loop.example/signalgraph/laws.FnStaysOfMost", spec := "fnStaysOfMost", unfollowed := true, recurses := true, apart := false, narrowed := true }
def FnStaysOfMostUptoSaid : Prop := fnStaysOfMostUptoRow.holds Try.pinned (OpenSpec.upto fnStaysOfMostSpec)

/-- 'laws.FnExactMovesOf', WHERE WHAT IT READS IS OF BULK AT MOST 1048576: true; the input reads as it did. -/
def fnExactMovesOfUptoRow : OpenClaim := { program := "ytplgmieiclicoaa", sum := "9a2242391855f7dff0973099540d54e9849a08850021b6242aadecd87540d5b0", func := "loop.example/signalgraph/laws.FnExactMovesOf", spec := "fnExactMovesOf", unfollowed := true, recurses := true, apart := false, narrowed := true }
def FnExactMovesOfUptoSaid : Prop := fnExactMovesOfUptoRow.holds Try.pinned (OpenSpec.upto fnExactMovesOfSpec)

/-- 'laws.FnMovesOf', WHERE WHAT IT READS IS OF BULK AT MOST 1048576: true; the input reads as it did. -/
def fnMovesOfUptoRow : OpenClaim := { program := "ytplgmieiclicoaa", sum := "9a2242391855f7dff0973099540d54e9849a08850021b6242aadecd87540d5b0", func := "loop.example/signalgraph/laws.FnMovesOf", spec := "fnMovesOf", unfollowed := true, recurses := true, apart := false, narrowed := true }
def FnMovesOfUptoSaid : Prop := fnMovesOfUptoRow.holds Try.pinned (OpenSpec.upto fnMovesOfSpec)

/-- 'laws.FnExactCostOf', WHERE WHAT IT READS IS OF BULK AT MOST 1048576: true; the input reads as it did. -/
def fnExactCostOfUptoRow : OpenClaim := { program := "ytplgmieiclicoaa", sum := "9a2242391855f7dff0973099540d54e9849a08850021b6242aadecd87540d5b0", func := "loop.example/signalgraph/laws.FnExactCostOf", spec := "fnExactCostOf", unfollowed := true, recurses := true, apart := false, narrowed := true }
def FnExactCostOfUptoSaid : Prop := fnExactCostOfUptoRow.holds Try.pinned (OpenSpec.upto fnExactCostOfSpec)

/-- 'laws.FnCostOf', WHERE WHAT IT READS IS OF BULK AT MOST 1048576: true; the input reads as it did. -/
def fnCostOfUptoRow : OpenClaim := { program := "ytplgmieiclicoaa", sum := "9a2242391855f7dff0973099540d54e9849a08850021b6242aadecd87540d5b0", func := "loop.example/signalgraph/laws.FnCostOf", spec := "fnCostOf", unfollowed := true, recurses := true, apart := false, narrowed := true }
def FnCostOfUptoSaid : Prop := fnCostOfUptoRow.holds Try.pinned (OpenSpec.upto fnCostOfSpec)

end Rows
end Go.Proofs.Ytplgmieiclicoaa

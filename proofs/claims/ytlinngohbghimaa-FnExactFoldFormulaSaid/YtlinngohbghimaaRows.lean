/-
  No cell of these rows narrows 'for every input' (looked for: loops, veiled, ifaces, maps, wideKeys, modest, calm, conditions, laid).
  DERIVED. THE GIVEN ROWS OF THIS SEAT. 7 by the template 'for every input the law returns true; each argument reads behind the call as it read before'; 0 by the template 'total and deterministic' (their statements: YtlinngohbghimaaTotals.lean).
  GIVEN WITH THE SEED: the statements are not yours to turn. If you find one false, say at which input.
  Laid BY PROGRAM, IN A SANDBOX (cutbox-rows.mjs): the forced cells as the released guide's own fill.sh prints them over the translation a537d91639db3478… (all of the seat's roots in one cut). By AI agents, Wed Nov 11 2026. No macro, syntax, notation, axiom, sorry.
-/
import Derived.Test.YtlinngohbghimaaChecked
import GoSem.Claim
import GoSem.ClaimJoined
import GoSem.ClaimMapViews
import Derived.JoinedTies
import Derived.KernelRfl
namespace Go.Proofs.Ytlinngohbghimaa
/- THE CELL 'sum', in the pinned program and in every row, IS THE sha256 OF THE DUMP (.gsa) THAT YtlinngohbghimaaProg.lean LOADS. Nothing in Lean hashes anything: it is a label: what it is worth is what the hold of that sum in a sandbox is worth. -/
noncomputable def Try.pinned : Pinned := { name := "ytlinngohbghimaa", sum := "a537d91639db3478c53243b70766476c1d53e15097521c63d08d8ded1036449e", checked := Try.checked }
namespace Rows
def none {H : Type} : Left H := { results := [], args := [] }

/-- 'laws.FnExactValidFormula': WHATEVER THE INPUT: true; the input reads as it did. -/
def fnExactValidFormulaSpec : ChangeSpec := { name := "fnExactValidFormula", fn := fun _ => fun
  | [d] => { results := [.lit (.bool true)], args := [d] }
  | _ => none }
def fnExactValidFormulaRow : OpenClaim := { program := "ytlinngohbghimaa", sum := "a537d91639db3478c53243b70766476c1d53e15097521c63d08d8ded1036449e", func := "loop.example/signalgraph/laws.FnExactValidFormula", spec := "fnExactValidFormula", apart := false }
def FnExactValidFormulaSaid : Prop := fnExactValidFormulaRow.holds Try.pinned (OpenSpec.ofChange fnExactValidFormulaSpec)

/-- ITS FALSE NEIGHBOUR: 'it returns false'. Refute it at one input. -/
def fnExactValidFormulaWrong : ChangeSpec := { name := "fnExactValidFormula", fn := fun _ => fun
  | [d] => { results := [.lit (.bool false)], args := [d] }
  | _ => none }
def FnExactValidFormulaWrongFalsely : Prop := fnExactValidFormulaRow.holds Try.pinned (OpenSpec.ofChange fnExactValidFormulaWrong)

/-- 'laws.FnExactDeepOf': WHATEVER THE INPUT: true; the input reads as it did. -/
def fnExactDeepOfSpec : ChangeSpec := { name := "fnExactDeepOf", fn := fun _ => fun
  | [d] => { results := [.lit (.bool true)], args := [d] }
  | _ => none }
def fnExactDeepOfRow : OpenClaim := { program := "ytlinngohbghimaa", sum := "a537d91639db3478c53243b70766476c1d53e15097521c63d08d8ded1036449e", func := "loop.example/signalgraph/laws.FnExactDeepOf", spec := "fnExactDeepOf", recurses := true, apart := false }
def FnExactDeepOfSaid : Prop := fnExactDeepOfRow.holds Try.pinned (OpenSpec.ofChange fnExactDeepOfSpec)

/-- ITS FALSE NEIGHBOUR: 'it returns false'. Refute it at one input. -/
def fnExactDeepOfWrong : ChangeSpec := { name := "fnExactDeepOf", fn := fun _ => fun
  | [d] => { results := [.lit (.bool false)], args := [d] }
  | _ => none }
def FnExactDeepOfWrongFalsely : Prop := fnExactDeepOfRow.holds Try.pinned (OpenSpec.ofChange fnExactDeepOfWrong)

/-- 'laws.FnDeepOf': WHATEVER THE INPUT: true; the input reads as it did. -/
def fnDeepOfSpec : ChangeSpec := { name := "fnDeepOf", fn := fun _ => fun
  | [d] => { results := [.lit (.bool true)], args := [d] }
  | _ => none }
def fnDeepOfRow : OpenClaim := { program := "ytlinngohbghimaa", sum := "a537d91639db3478c53243b70766476c1d53e15097521c63d08d8ded1036449e", func := "loop.example/signalgraph/laws.FnDeepOf", spec := "fnDeepOf", recurses := true, apart := false }
def FnDeepOfSaid : Prop := fnDeepOfRow.holds Try.pinned (OpenSpec.ofChange fnDeepOfSpec)

/-- ITS FALSE NEIGHBOUR: 'it returns false'. Refute it at one input. -/
def fnDeepOfWrong : ChangeSpec := { name := "fnDeepOf", fn := fun _ => fun
  | [d] => { results := [.lit (.bool false)], args := [d] }
  | _ => none }
def FnDeepOfWrongFalsely : Prop := fnDeepOfRow.holds Try.pinned (OpenSpec.ofChange fnDeepOfWrong)

/-- 'laws.FnExactMayRead': WHATEVER THE INPUT: true; the input reads as it did. -/
def fnExactMayReadSpec : ChangeSpec := { name := "fnExactMayRead", fn := fun _ => fun
  | [d] => { results := [.lit (.bool true)], args := [d] }
  | _ => none }
def fnExactMayReadRow : OpenClaim := { program := "ytlinngohbghimaa", sum := "a537d91639db3478c53243b70766476c1d53e15097521c63d08d8ded1036449e", func := "loop.example/signalgraph/laws.FnExactMayRead", spec := "fnExactMayRead", recurses := true, apart := false }
def FnExactMayReadSaid : Prop := fnExactMayReadRow.holds Try.pinned (OpenSpec.ofChange fnExactMayReadSpec)

/-- ITS FALSE NEIGHBOUR: 'it returns false'. Refute it at one input. -/
def fnExactMayReadWrong : ChangeSpec := { name := "fnExactMayRead", fn := fun _ => fun
  | [d] => { results := [.lit (.bool false)], args := [d] }
  | _ => none }
def FnExactMayReadWrongFalsely : Prop := fnExactMayReadRow.holds Try.pinned (OpenSpec.ofChange fnExactMayReadWrong)

/-- 'laws.FnExactOrderParts': WHATEVER THE INPUT: true; the input reads as it did. -/
def fnExactOrderPartsSpec : ChangeSpec := { name := "fnExactOrderParts", fn := fun _ => fun
  | [d] => { results := [.lit (.bool true)], args := [d] }
  | _ => none }
def fnExactOrderPartsRow : OpenClaim := { program := "ytlinngohbghimaa", sum := "a537d91639db3478c53243b70766476c1d53e15097521c63d08d8ded1036449e", func := "loop.example/signalgraph/laws.FnExactOrderParts", spec := "fnExactOrderParts", recurses := true, apart := false }
def FnExactOrderPartsSaid : Prop := fnExactOrderPartsRow.holds Try.pinned (OpenSpec.ofChange fnExactOrderPartsSpec)

/-- ITS FALSE NEIGHBOUR: 'it returns false'. Refute it at one input. -/
def fnExactOrderPartsWrong : ChangeSpec := { name := "fnExactOrderParts", fn := fun _ => fun
  | [d] => { results := [.lit (.bool false)], args := [d] }
  | _ => none }
def FnExactOrderPartsWrongFalsely : Prop := fnExactOrderPartsRow.holds Try.pinned (OpenSpec.ofChange fnExactOrderPartsWrong)

/-- 'laws.FnExactRenameReads': WHATEVER THE INPUT: true; the input reads as it did. -/
def fnExactRenameReadsSpec : ChangeSpec := { name := "fnExactRenameReads", fn := fun _ => fun
  | [d1, d2] => { results := [.lit (.bool true)], args := [d1, d2] }
  | _ => none }
def fnExactRenameReadsRow : OpenClaim := { program := "ytlinngohbghimaa", sum := "a537d91639db3478c53243b70766476c1d53e15097521c63d08d8ded1036449e", func := "loop.example/signalgraph/laws.FnExactRenameReads", spec := "fnExactRenameReads", unfollowed := true, recurses := true, apart := false }
def FnExactRenameReadsSaid : Prop := fnExactRenameReadsRow.holds Try.pinned (OpenSpec.ofChange fnExactRenameReadsSpec)

/-- ITS FALSE NEIGHBOUR: 'it returns false'. Refute it at one input. -/
def fnExactRenameReadsWrong : ChangeSpec := { name := "fnExactRenameReads", fn := fun _ => fun
  | [d1, d2] => { results := [.lit (.bool false)], args := [d1, d2] }
  | _ => none }
def FnExactRenameReadsWrongFalsely : Prop := fnExactRenameReadsRow.holds Try.pinned (OpenSpec.ofChange fnExactRenameReadsWrong)

/-- 'laws.FnExactFoldFormula': WHATEVER THE INPUT: true; the input reads as it did. -/
def fnExactFoldFormulaSpec : ChangeSpec := { name := "fnExactFoldFormula", fn := fun _ => fun
  | [d] => { results := [.lit (.bool true)], args := [d] }
  | _ => none }
def fnExactFoldFormulaRow : OpenClaim := { program := "ytlinngohbghimaa", sum := "a537d91639db3478c53243b70766476c1d53e15097521c63d08d8ded1036449e", func := "loop.example/signalgraph/laws.FnExactFoldFormula", spec := "fnExactFoldFormula", unfollowed := true, recurses := true, apart := false }
def FnExactFoldFormulaSaid : Prop := fnExactFoldFormulaRow.holds Try.pinned (OpenSpec.ofChange fnExactFoldFormulaSpec)

/-- ITS FALSE NEIGHBOUR: 'it returns false'. Refute it at one input. -/
def fnExactFoldFormulaWrong : ChangeSpec := { name := "fnExactFoldFormula", fn := fun _ => fun
  | [d] => { results := [.lit (.bool false)], args := [d] }
  | _ => none }
def FnExactFoldFormulaWrongFalsely : Prop := fnExactFoldFormulaRow.holds Try.pinned (OpenSpec.ofChange fnExactFoldFormulaWrong)

/- THE SECOND FORM. 'bulk': how many values and letters a reading holds, each counted each time it is reached (what is shared counts as often as it is met; a slice's spare places count too). A statement '..UptoSaid' is the law's where the arguments, and the package variables that the reading takes, are together of bulk at most 1048576: NARROWER than '..Said'. Prove '..Said' where nothing that the law and all that it calls make is longer than what came in: it says more and counts as full. Else prove '..UptoSaid'. A law counts once. -/
mutual
def uptoBulk {H : Type} : DataW H → Nat
  | .lit (.string bytes) => bytes.length + 1
  | .lit _ => 1
  | .nil => 1
  | .ptr d => uptoBulk d + 1
  | .slice elems spare => uptoBulkAll elems + uptoBulkAll spare + 1
  | .agg parts => uptoBulkAll parts + 1
  | .iface _ d => uptoBulk d + 1
  | .map entries => uptoBulkEntries entries + 1
  | .held _ => 1
def uptoBulkAll {H : Type} : List (DataW H) → Nat
  | [] => 0
  | d :: r => uptoBulk d + uptoBulkAll r
def uptoBulkEntries {H : Type} : List (Lit × DataW H) → Nat
  | [] => 0
  | x :: r => uptoBulkEntry x + uptoBulkEntries r
def uptoBulkEntry {H : Type} : Lit × DataW H → Nat
  | (.string bytes, d) => bytes.length + uptoBulk d + 1
  | (_, d) => uptoBulk d + 1
 end
def uptoSmall : (H : Type) → List (DataW H) → Bool := fun _ ds => decide (uptoBulkAll ds ≤ 1048576)
def OpenSpec.upto (s : _root_.Go.ChangeSpec) : _root_.Go.OpenSpec := { _root_.Go.OpenSpec.ofChange s with cond := some uptoSmall }

/-- 'laws.FnExactValidFormula', WHERE WHAT IT READS IS OF BULK AT MOST 1048576: true; the input reads as it did. -/
def fnExactValidFormulaUptoRow : OpenClaim := { program := "ytlinngohbghimaa", sum := "a537d91639db3478c53243b70766476c1d53e15097521c63d08d8ded1036449e", func := "loop.example/signalgraph/laws.FnExactValidFormula", spec := "fnExactValidFormula", apart := false, narrowed := true }
def FnExactValidFormulaUptoSaid : Prop := fnExactValidFormulaUptoRow.holds Try.pinned (OpenSpec.upto fnExactValidFormulaSpec)

/-- 'laws.FnExactDeepOf', WHERE WHAT IT READS IS OF BULK AT MOST 1048576: true; the input reads as it did. -/
def fnExactDeepOfUptoRow : OpenClaim := { program := "ytlinngohbghimaa", sum := "a537d91639db3478c53243b70766476c1d53e15097521c63d08d8ded1036449e", func := "loop.example/signalgraph/laws.FnExactDeepOf", spec := "fnExactDeepOf", recurses := true, apart := false, narrowed := true }
def FnExactDeepOfUptoSaid : Prop := fnExactDeepOfUptoRow.holds Try.pinned (OpenSpec.upto fnExactDeepOfSpec)

/-- 'laws.FnDeepOf', WHERE WHAT IT READS IS OF BULK AT MOST 1048576: true; the input reads as it did. -/
def fnDeepOfUptoRow : OpenClaim := { program := "ytlinngohbghimaa", sum := "a537d91639db3478c53243b70766476c1d53e15097521c63d08d8ded1036449e", func := "loop.example/signalgraph/laws.FnDeepOf", spec := "fnDeepOf", recurses := true, apart := false, narrowed := true }
def FnDeepOfUptoSaid : Prop := fnDeepOfUptoRow.holds Try.pinned (OpenSpec.upto fnDeepOfSpec)

/-- 'laws.FnExactMayRead', WHERE WHAT IT READS IS OF BULK AT MOST 1048576: true; the input reads as it did. -/
def fnExactMayReadUptoRow : OpenClaim := { program := "ytlinngohbghimaa", sum := "a537d91639db3478c53243b70766476c1d53e15097521c63d08d8ded1036449e", func := "loop.example/signalgraph/laws.FnExactMayRead", spec := "fnExactMayRead", recurses := true, apart := false, narrowed := true }
def FnExactMayReadUptoSaid : Prop := fnExactMayReadUptoRow.holds Try.pinned (OpenSpec.upto fnExactMayReadSpec)

/-- 'laws.FnExactOrderParts', WHERE WHAT IT READS IS OF BULK AT MOST 1048576: true; the input reads as it did. -/
def fnExactOrderPartsUptoRow : OpenClaim := { program := "ytlinngohbghimaa", sum := "a537d91639db3478c53243b70766476c1d53e15097521c63d08d8ded1036449e", func := "loop.example/signalgraph/laws.FnExactOrderParts", spec := "fnExactOrderParts", recurses := true, apart := false, narrowed := true }
def FnExactOrderPartsUptoSaid : Prop := fnExactOrderPartsUptoRow.holds Try.pinned (OpenSpec.upto fnExactOrderPartsSpec)

/-- 'laws.FnExactRenameReads', WHERE WHAT IT READS IS OF BULK AT MOST 1048576: true; the input reads as it did. -/
def fnExactRenameReadsUptoRow : OpenClaim := { program := "ytlinngohbghimaa", sum := "a537d91639db3478c53243b70766476c1d53e15097521c63d08d8ded1036449e", func := "loop.example/signalgraph/laws.FnExactRenameReads", spec := "fnExactRenameReads", unfollowed := true, recurses := true, apart := false, narrowed := true }
def FnExactRenameReadsUptoSaid : Prop := fnExactRenameReadsUptoRow.holds Try.pinned (OpenSpec.upto fnExactRenameReadsSpec)

/-- 'laws.FnExactFoldFormula', WHERE WHAT IT READS IS OF BULK AT MOST 1048576: true; the input reads as it did. -/
def fnExactFoldFormulaUptoRow : OpenClaim := { program := "ytlinngohbghimaa", sum := "a537d91639db3478c53243b70766476c1d53e15097521c63d08d8ded1036449e", func := "loop.example/signalgraph/laws.FnExactFoldFormula", spec := "fnExactFoldFormula", unfollowed := true, recurses := true, apart := false, narrowed := true }
def FnExactFoldFormulaUptoSaid : Prop := fnExactFoldFormulaUptoRow.holds Try.pinned (OpenSpec.upto fnExactFoldFormulaSpec)

end Rows
end Go.Proofs.Ytlinngohbghimaa

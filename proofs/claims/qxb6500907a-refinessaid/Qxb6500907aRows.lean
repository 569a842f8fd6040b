/-
  No cell of these rows narrows 'for every input' (looked for: loops, veiled, ifaces, maps, wideKeys, modest, calm, conditions, laid).
  DERIVED. THE GIVEN ROWS OF THIS SEAT. 5 by the template 'for every input the law returns true; each argument reads behind the call as it read before'; 0 by the template 'total and deterministic' (their statements: Qxb6500907aTotals.lean).
  GIVEN WITH THE SEED: the statements are not yours to turn. If you find one false, say at which input.
  Laid BY PROGRAM, IN A SANDBOX (cutbox-rows.mjs): the forced cells as the released guide's own fill.sh prints them over the translation e4d21954e18a1829… (all of the seat's roots in one cut). By AI agents, Wed Nov 11 2026. No macro, syntax, notation, axiom, sorry.
-/
import Derived.Test.Qxb6500907aChecked
import GoSem.Claim
import GoSem.ClaimJoined
import GoSem.ClaimMapViews
import Derived.JoinedTies
import Derived.KernelRfl
namespace Go.Proofs.Qxb6500907a
/- THE CELL 'sum', in the pinned program and in every row, IS THE sha256 OF THE DUMP (.gsa) THAT Qxb6500907aProg.lean LOADS. Nothing in Lean hashes anything: it is a label: what it is worth is what the hold of that sum in a sandbox is worth. -/
noncomputable def Try.pinned : Pinned := { name := "qxb6500907a", sum := "e4d21954e18a182971fad38836d7329a531aa66577476c93408140374e473363", checked := Try.checked }
namespace Rows
def none {H : Type} : Left H := { results := [], args := [] }

/-- 'configlaw.PrintParse': WHATEVER THE INPUT: true; the input reads as it did. -/
def printParseSpec : ChangeSpec := { name := "printParse", fn := fun _ => fun
  | [d] => { results := [.lit (.bool true)], args := [d] }
  | _ => none }
def printParseRow : OpenClaim := { program := "qxb6500907a", sum := "e4d21954e18a182971fad38836d7329a531aa66577476c93408140374e473363", func := "e2e/configlaw.PrintParse", spec := "printParse", unfollowed := true, recurses := true, plainKeys := false, apart := false }
def PrintParseSaid : Prop := printParseRow.holds Try.pinned (OpenSpec.ofChange printParseSpec)

/-- ITS FALSE NEIGHBOUR: 'it returns false'. Refute it at one input. -/
def printParseWrong : ChangeSpec := { name := "printParse", fn := fun _ => fun
  | [d] => { results := [.lit (.bool false)], args := [d] }
  | _ => none }
def PrintParseWrongFalsely : Prop := printParseRow.holds Try.pinned (OpenSpec.ofChange printParseWrong)

/-- 'configlaw.ParserTotal': WHATEVER THE INPUT: true; the input reads as it did. -/
def parserTotalSpec : ChangeSpec := { name := "parserTotal", fn := fun _ => fun
  | [d] => { results := [.lit (.bool true)], args := [d] }
  | _ => none }
def parserTotalRow : OpenClaim := { program := "qxb6500907a", sum := "e4d21954e18a182971fad38836d7329a531aa66577476c93408140374e473363", func := "e2e/configlaw.ParserTotal", spec := "parserTotal", plainKeys := false, apart := false }
def ParserTotalSaid : Prop := parserTotalRow.holds Try.pinned (OpenSpec.ofChange parserTotalSpec)

/-- ITS FALSE NEIGHBOUR: 'it returns false'. Refute it at one input. -/
def parserTotalWrong : ChangeSpec := { name := "parserTotal", fn := fun _ => fun
  | [d] => { results := [.lit (.bool false)], args := [d] }
  | _ => none }
def ParserTotalWrongFalsely : Prop := parserTotalRow.holds Try.pinned (OpenSpec.ofChange parserTotalWrong)

/-- 'configlaw.InverseRestores': WHATEVER THE INPUT: true; the input reads as it did. -/
def inverseRestoresSpec : ChangeSpec := { name := "inverseRestores", fn := fun _ => fun
  | [d] => { results := [.lit (.bool true)], args := [d] }
  | _ => none }
def inverseRestoresRow : OpenClaim := { program := "qxb6500907a", sum := "e4d21954e18a182971fad38836d7329a531aa66577476c93408140374e473363", func := "e2e/configlaw.InverseRestores", spec := "inverseRestores", unfollowed := true, recurses := true, plainKeys := false, apart := false }
def InverseRestoresSaid : Prop := inverseRestoresRow.holds Try.pinned (OpenSpec.ofChange inverseRestoresSpec)

/-- ITS FALSE NEIGHBOUR: 'it returns false'. Refute it at one input. -/
def inverseRestoresWrong : ChangeSpec := { name := "inverseRestores", fn := fun _ => fun
  | [d] => { results := [.lit (.bool false)], args := [d] }
  | _ => none }
def InverseRestoresWrongFalsely : Prop := inverseRestoresRow.holds Try.pinned (OpenSpec.ofChange inverseRestoresWrong)

/-- 'configlaw.LimitRefusesWhole': WHATEVER THE INPUT: true; the input reads as it did. -/
def limitRefusesWholeSpec : ChangeSpec := { name := "limitRefusesWhole", fn := fun _ => fun
  | [d] => { results := [.lit (.bool true)], args := [d] }
  | _ => none }
def limitRefusesWholeRow : OpenClaim := { program := "qxb6500907a", sum := "e4d21954e18a182971fad38836d7329a531aa66577476c93408140374e473363", func := "e2e/configlaw.LimitRefusesWhole", spec := "limitRefusesWhole", unfollowed := true, recurses := true, plainKeys := false, apart := false }
def LimitRefusesWholeSaid : Prop := limitRefusesWholeRow.holds Try.pinned (OpenSpec.ofChange limitRefusesWholeSpec)

/-- ITS FALSE NEIGHBOUR: 'it returns false'. Refute it at one input. -/
def limitRefusesWholeWrong : ChangeSpec := { name := "limitRefusesWhole", fn := fun _ => fun
  | [d] => { results := [.lit (.bool false)], args := [d] }
  | _ => none }
def LimitRefusesWholeWrongFalsely : Prop := limitRefusesWholeRow.holds Try.pinned (OpenSpec.ofChange limitRefusesWholeWrong)

/-- 'configlaw.Refines': WHATEVER THE INPUT: true; the input reads as it did. -/
def refinesSpec : ChangeSpec := { name := "refines", fn := fun _ => fun
  | [d] => { results := [.lit (.bool true)], args := [d] }
  | _ => none }
def refinesRow : OpenClaim := { program := "qxb6500907a", sum := "e4d21954e18a182971fad38836d7329a531aa66577476c93408140374e473363", func := "e2e/configlaw.Refines", spec := "refines", unfollowed := true, recurses := true, plainKeys := false, apart := false }
def RefinesSaid : Prop := refinesRow.holds Try.pinned (OpenSpec.ofChange refinesSpec)

/-- ITS FALSE NEIGHBOUR: 'it returns false'. Refute it at one input. -/
def refinesWrong : ChangeSpec := { name := "refines", fn := fun _ => fun
  | [d] => { results := [.lit (.bool false)], args := [d] }
  | _ => none }
def RefinesWrongFalsely : Prop := refinesRow.holds Try.pinned (OpenSpec.ofChange refinesWrong)

end Rows
end Go.Proofs.Qxb6500907a

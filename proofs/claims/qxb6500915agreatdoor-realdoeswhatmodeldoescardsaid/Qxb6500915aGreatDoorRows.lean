/-
  NARROWER THAN 'FOR EVERY INPUT', by the rows' own cells (each row's printed sentence says how): RealDoesWhatModelDoes: laid.
  DERIVED. THE GIVEN ROWS OF THIS SEAT. 1 by the template 'for every input the law returns true; each argument reads behind the call as it read before'; 0 by the template 'total and deterministic' (their statements: Qxb6500915aGreatDoorTotals.lean).
  GIVEN WITH THE SEED: the statements are not yours to turn. If you find one false, say at which input.
  Laid BY PROGRAM, IN A SANDBOX (cutbox-rows.mjs): the forced cells as the released guide's own fill.sh prints them over the translation 8e7b39b370901930… (all of the seat's roots in one cut). By AI agents, Wed Nov 11 2026. No macro, syntax, notation, axiom, sorry.
-/
import Derived.Test.Qxb6500915aGreatDoorChecked
import GoSem.Claim
import GoSem.ClaimJoined
import GoSem.ClaimMapViews
import Derived.JoinedTies
import Derived.KernelRfl
namespace Go.Proofs.Qxb6500915aGreatDoor
/- THE CELL 'sum', in the pinned program and in every row, IS THE sha256 OF THE DUMP (.gsa) THAT Qxb6500915aGreatDoorProg.lean LOADS. Nothing in Lean hashes anything: it is a label: what it is worth is what the hold of that sum in a sandbox is worth. -/
noncomputable def Tryz.pinned : Pinned := { name := "qxb6500915agreatdoor", sum := "8e7b39b37090193003417cc8c5c0e374aae3b4ce16ccbe3623eb43ee423f78d8", checked := Tryz.checked }
namespace Rows
def none {H : Type} : Left H := { results := [], args := [] }

/- WHAT THE LISTED PACKAGE-LEVEL VARIABLES READ AS WHEN THE CALL BEGINS. Each datum BY PROGRAM (the guide's laid-datum.mjs) off the statement by which the dump's own 'gosem.cut.vars' lays the variable. In a bare row this is a premise. The card (Qxb6500915aGreatDoorCards.lean) ties it to the program's text. -/
def laid_e2e_normlaw_small {H : Type} : DataW H := .agg [.lit (.int .i64 8), .lit (.int .i64 5), .lit (.int .i64 5)]

/-- 'normlaw.RealDoesWhatModelDoes': WHATEVER THE INPUT: true; the input reads as it did. -/
def realDoesWhatModelDoesSpec : ChangeSpec := { name := "realDoesWhatModelDoes", fn := fun _ => fun
  | [d] => { results := [.lit (.bool true)], args := [d] }
  | _ => none }
def realDoesWhatModelDoesRow : OpenClaim := { program := "qxb6500915agreatdoor", sum := "8e7b39b37090193003417cc8c5c0e374aae3b4ce16ccbe3623eb43ee423f78d8", func := "e2e/normlaw.RealDoesWhatModelDoes", spec := "realDoesWhatModelDoes", inPlace := ["internal/bytealg.abigen_runtime_cmpstring", "internal/reflectlite.ValueOf", "internal/reflectlite.Swapper", "(internal/reflectlite.Value).Len"], unfollowed := true, recurses := true, named := ["e2e/normlaw.small"], apart := false, laid := [("e2e/normlaw.small", laid_e2e_normlaw_small)] }
def RealDoesWhatModelDoesSaid : Prop := realDoesWhatModelDoesRow.holds Tryz.pinned (OpenSpec.ofChange realDoesWhatModelDoesSpec)

/-- ITS FALSE NEIGHBOUR: 'it returns false'. Refute it at one input. -/
def realDoesWhatModelDoesWrong : ChangeSpec := { name := "realDoesWhatModelDoes", fn := fun _ => fun
  | [d] => { results := [.lit (.bool false)], args := [d] }
  | _ => none }
def RealDoesWhatModelDoesWrongFalsely : Prop := realDoesWhatModelDoesRow.holds Tryz.pinned (OpenSpec.ofChange realDoesWhatModelDoesWrong)

end Rows
end Go.Proofs.Qxb6500915aGreatDoor

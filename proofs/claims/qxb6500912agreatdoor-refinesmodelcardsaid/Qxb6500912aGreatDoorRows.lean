/-
  NARROWER THAN 'FOR EVERY INPUT', by the rows' own cells (each row's printed sentence says how): RefinesModel: laid.
  DERIVED. THE GIVEN ROWS OF THIS SEAT. 1 by the template 'for every input the law returns true; each argument reads behind the call as it read before'; 0 by the template 'total and deterministic' (their statements: Qxb6500912aGreatDoorTotals.lean).
  GIVEN WITH THE SEED: the statements are not yours to turn. If you find one false, say at which input.
  Laid BY PROGRAM, IN A SANDBOX (cutbox-rows.mjs): the forced cells as the released guide's own fill.sh prints them over the translation b8c6b28425b02edd… (all of the seat's roots in one cut). By AI agents, Wed Nov 11 2026. No macro, syntax, notation, axiom, sorry.
-/
import Derived.Test.Qxb6500912aGreatDoorChecked
import GoSem.Claim
import GoSem.ClaimJoined
import GoSem.ClaimMapViews
import Derived.JoinedTies
import Derived.KernelRfl
namespace Go.Proofs.Qxb6500912aGreatDoor
/- THE CELL 'sum', in the pinned program and in every row, IS THE sha256 OF THE DUMP (.gsa) THAT Qxb6500912aGreatDoorProg.lean LOADS. Nothing in Lean hashes anything: it is a label: what it is worth is what the hold of that sum in a sandbox is worth. -/
noncomputable def Tryz.pinned : Pinned := { name := "qxb6500912agreatdoor", sum := "b8c6b28425b02edd4793b4f7f8555ebb2fea26bf02eca9ce66f327521dbfee26", checked := Tryz.checked }
namespace Rows
def none {H : Type} : Left H := { results := [], args := [] }

/- WHAT THE LISTED PACKAGE-LEVEL VARIABLES READ AS WHEN THE CALL BEGINS. Each datum BY PROGRAM (the guide's laid-datum.mjs) off the statement by which the dump's own 'gosem.cut.vars' lays the variable. In a bare row this is a premise. The card (Qxb6500912aGreatDoorCards.lean) ties it to the program's text. -/
def laid_e2e_api_ErrConfig {H : Type} : DataW H := .iface "*errors.errorString" (.ptr (.agg [.lit (.string [99, 111, 110, 103, 58, 32, 99, 111, 110, 102, 105, 103, 117, 114, 97, 116, 105, 111, 110, 32, 111, 117, 116, 115, 105, 100, 101, 32, 116, 104, 101, 32, 108, 105, 109, 105, 116, 115])]))
def laid_e2e_conglaw_DefaultConfig {H : Type} : DataW H := .agg [.agg [.lit (.int .u32 0), .lit (.int .u32 1048576), .lit (.int .u32 1), .lit (.int .u32 2), .lit (.int .u32 1), .lit (.int .u32 3), .lit (.bool true)], .lit (.int .u32 1000), .lit (.int .u32 0), .lit (.bool false)]

/-- 'conglaw.RefinesModel': WHATEVER THE INPUT: true; the input reads as it did. -/
def refinesModelSpec : ChangeSpec := { name := "refinesModel", fn := fun _ => fun
  | [d] => { results := [.lit (.bool true)], args := [d] }
  | _ => none }
def refinesModelRow : OpenClaim := { program := "qxb6500912agreatdoor", sum := "b8c6b28425b02edd4793b4f7f8555ebb2fea26bf02eca9ce66f327521dbfee26", func := "e2e/conglaw.RefinesModel", spec := "refinesModel", inPlace := ["internal/reflectlite.ValueOf", "internal/reflectlite.Swapper", "(internal/reflectlite.Value).Len"], unfollowed := true, recurses := true, named := ["e2e/conglaw.DefaultConfig", "e2e/api.ErrConfig"], apart := false, laid := [("e2e/api.ErrConfig", laid_e2e_api_ErrConfig), ("e2e/conglaw.DefaultConfig", laid_e2e_conglaw_DefaultConfig)] }
def RefinesModelSaid : Prop := refinesModelRow.holds Tryz.pinned (OpenSpec.ofChange refinesModelSpec)

/-- ITS FALSE NEIGHBOUR: 'it returns false'. Refute it at one input. -/
def refinesModelWrong : ChangeSpec := { name := "refinesModel", fn := fun _ => fun
  | [d] => { results := [.lit (.bool false)], args := [d] }
  | _ => none }
def RefinesModelWrongFalsely : Prop := refinesModelRow.holds Tryz.pinned (OpenSpec.ofChange refinesModelWrong)

end Rows
end Go.Proofs.Qxb6500912aGreatDoor

/-
  NARROWER THAN 'FOR EVERY INPUT', by the rows' own cells (each row's printed sentence says how): WindowsStayInBounds: laid · GrantsOnlyLimit: laid · NeverStalls: laid · GrowthIsBounded: laid · LossBacksOff: laid.
  DERIVED. THE GIVEN ROWS OF THIS SEAT. 5 by the template 'for every input the law returns true; each argument reads behind the call as it read before'; 0 by the template 'total and deterministic' (their statements: Qxb6500912aDoorTotals.lean).
  GIVEN WITH THE SEED: the statements are not yours to turn. If you find one false, say at which input.
  Laid BY PROGRAM, IN A SANDBOX (cutbox-rows.mjs): the forced cells as the released guide's own fill.sh prints them over the translation 533e2aeb94b81e06… (all of the seat's roots in one cut). By AI agents, Wed Nov 11 2026. No macro, syntax, notation, axiom, sorry.
-/
import Derived.Test.Qxb6500912aDoorChecked
import GoSem.Claim
import GoSem.ClaimJoined
import GoSem.ClaimMapViews
import Derived.JoinedTies
import Derived.KernelRfl
namespace Go.Proofs.Qxb6500912aDoor
/- THE CELL 'sum', in the pinned program and in every row, IS THE sha256 OF THE DUMP (.gsa) THAT Qxb6500912aDoorProg.lean LOADS. Nothing in Lean hashes anything: it is a label: what it is worth is what the hold of that sum in a sandbox is worth. -/
noncomputable def Tryd.pinned : Pinned := { name := "qxb6500912adoor", sum := "533e2aeb94b81e06499429b65fb6e7e50d3bdc5b291a4bfa7f4a2c32e5537c54", checked := Tryd.checked }
namespace Rows
def none {H : Type} : Left H := { results := [], args := [] }

/- WHAT THE LISTED PACKAGE-LEVEL VARIABLES READ AS WHEN THE CALL BEGINS. Each datum BY PROGRAM (the guide's laid-datum.mjs) off the statement by which the dump's own 'gosem.cut.vars' lays the variable. In a bare row this is a premise. The card (Qxb6500912aDoorCards.lean) ties it to the program's text. -/
def laid_e2e_api_ErrConfig {H : Type} : DataW H := .iface "*errors.errorString" (.ptr (.agg [.lit (.string [99, 111, 110, 103, 58, 32, 99, 111, 110, 102, 105, 103, 117, 114, 97, 116, 105, 111, 110, 32, 111, 117, 116, 115, 105, 100, 101, 32, 116, 104, 101, 32, 108, 105, 109, 105, 116, 115])]))
def laid_e2e_conglaw_DefaultConfig {H : Type} : DataW H := .agg [.agg [.lit (.int .u32 0), .lit (.int .u32 1048576), .lit (.int .u32 1), .lit (.int .u32 2), .lit (.int .u32 1), .lit (.int .u32 3), .lit (.bool true)], .lit (.int .u32 1000), .lit (.int .u32 0), .lit (.bool false)]

/-- 'conglaw.WindowsStayInBounds': WHATEVER THE INPUT: true; the input reads as it did. -/
def windowsStayInBoundsSpec : ChangeSpec := { name := "windowsStayInBounds", fn := fun _ => fun
  | [d] => { results := [.lit (.bool true)], args := [d] }
  | _ => none }
def windowsStayInBoundsRow : OpenClaim := { program := "qxb6500912adoor", sum := "533e2aeb94b81e06499429b65fb6e7e50d3bdc5b291a4bfa7f4a2c32e5537c54", func := "e2e/conglaw.WindowsStayInBounds", spec := "windowsStayInBounds", inPlace := ["internal/reflectlite.ValueOf", "internal/reflectlite.Swapper", "(internal/reflectlite.Value).Len"], unfollowed := true, recurses := true, named := ["e2e/conglaw.DefaultConfig", "e2e/api.ErrConfig"], apart := false, laid := [("e2e/api.ErrConfig", laid_e2e_api_ErrConfig), ("e2e/conglaw.DefaultConfig", laid_e2e_conglaw_DefaultConfig)] }
def WindowsStayInBoundsSaid : Prop := windowsStayInBoundsRow.holds Tryd.pinned (OpenSpec.ofChange windowsStayInBoundsSpec)

/-- ITS FALSE NEIGHBOUR: 'it returns false'. Refute it at one input. -/
def windowsStayInBoundsWrong : ChangeSpec := { name := "windowsStayInBounds", fn := fun _ => fun
  | [d] => { results := [.lit (.bool false)], args := [d] }
  | _ => none }
def WindowsStayInBoundsWrongFalsely : Prop := windowsStayInBoundsRow.holds Tryd.pinned (OpenSpec.ofChange windowsStayInBoundsWrong)

/-- 'conglaw.GrantsOnlyLimit': WHATEVER THE INPUT: true; the input reads as it did. -/
def grantsOnlyLimitSpec : ChangeSpec := { name := "grantsOnlyLimit", fn := fun _ => fun
  | [d] => { results := [.lit (.bool true)], args := [d] }
  | _ => none }
def grantsOnlyLimitRow : OpenClaim := { program := "qxb6500912adoor", sum := "533e2aeb94b81e06499429b65fb6e7e50d3bdc5b291a4bfa7f4a2c32e5537c54", func := "e2e/conglaw.GrantsOnlyLimit", spec := "grantsOnlyLimit", inPlace := ["internal/reflectlite.ValueOf", "internal/reflectlite.Swapper", "(internal/reflectlite.Value).Len"], unfollowed := true, recurses := true, named := ["e2e/conglaw.DefaultConfig", "e2e/api.ErrConfig"], apart := false, laid := [("e2e/api.ErrConfig", laid_e2e_api_ErrConfig), ("e2e/conglaw.DefaultConfig", laid_e2e_conglaw_DefaultConfig)] }
def GrantsOnlyLimitSaid : Prop := grantsOnlyLimitRow.holds Tryd.pinned (OpenSpec.ofChange grantsOnlyLimitSpec)

/-- ITS FALSE NEIGHBOUR: 'it returns false'. Refute it at one input. -/
def grantsOnlyLimitWrong : ChangeSpec := { name := "grantsOnlyLimit", fn := fun _ => fun
  | [d] => { results := [.lit (.bool false)], args := [d] }
  | _ => none }
def GrantsOnlyLimitWrongFalsely : Prop := grantsOnlyLimitRow.holds Tryd.pinned (OpenSpec.ofChange grantsOnlyLimitWrong)

/-- 'conglaw.NeverStalls': WHATEVER THE INPUT: true; the input reads as it did. -/
def neverStallsSpec : ChangeSpec := { name := "neverStalls", fn := fun _ => fun
  | [d] => { results := [.lit (.bool true)], args := [d] }
  | _ => none }
def neverStallsRow : OpenClaim := { program := "qxb6500912adoor", sum := "533e2aeb94b81e06499429b65fb6e7e50d3bdc5b291a4bfa7f4a2c32e5537c54", func := "e2e/conglaw.NeverStalls", spec := "neverStalls", inPlace := ["internal/reflectlite.ValueOf", "internal/reflectlite.Swapper", "(internal/reflectlite.Value).Len"], unfollowed := true, recurses := true, named := ["e2e/conglaw.DefaultConfig", "e2e/api.ErrConfig"], apart := false, laid := [("e2e/api.ErrConfig", laid_e2e_api_ErrConfig), ("e2e/conglaw.DefaultConfig", laid_e2e_conglaw_DefaultConfig)] }
def NeverStallsSaid : Prop := neverStallsRow.holds Tryd.pinned (OpenSpec.ofChange neverStallsSpec)

/-- ITS FALSE NEIGHBOUR: 'it returns false'. Refute it at one input. -/
def neverStallsWrong : ChangeSpec := { name := "neverStalls", fn := fun _ => fun
  | [d] => { results := [.lit (.bool false)], args := [d] }
  | _ => none }
def NeverStallsWrongFalsely : Prop := neverStallsRow.holds Tryd.pinned (OpenSpec.ofChange neverStallsWrong)

/-- 'conglaw.GrowthIsBounded': WHATEVER THE INPUT: true; the input reads as it did. -/
def growthIsBoundedSpec : ChangeSpec := { name := "growthIsBounded", fn := fun _ => fun
  | [d] => { results := [.lit (.bool true)], args := [d] }
  | _ => none }
def growthIsBoundedRow : OpenClaim := { program := "qxb6500912adoor", sum := "533e2aeb94b81e06499429b65fb6e7e50d3bdc5b291a4bfa7f4a2c32e5537c54", func := "e2e/conglaw.GrowthIsBounded", spec := "growthIsBounded", inPlace := ["internal/reflectlite.ValueOf", "internal/reflectlite.Swapper", "(internal/reflectlite.Value).Len"], unfollowed := true, recurses := true, named := ["e2e/conglaw.DefaultConfig", "e2e/api.ErrConfig"], apart := false, laid := [("e2e/api.ErrConfig", laid_e2e_api_ErrConfig), ("e2e/conglaw.DefaultConfig", laid_e2e_conglaw_DefaultConfig)] }
def GrowthIsBoundedSaid : Prop := growthIsBoundedRow.holds Tryd.pinned (OpenSpec.ofChange growthIsBoundedSpec)

/-- ITS FALSE NEIGHBOUR: 'it returns false'. Refute it at one input. -/
def growthIsBoundedWrong : ChangeSpec := { name := "growthIsBounded", fn := fun _ => fun
  | [d] => { results := [.lit (.bool false)], args := [d] }
  | _ => none }
def GrowthIsBoundedWrongFalsely : Prop := growthIsBoundedRow.holds Tryd.pinned (OpenSpec.ofChange growthIsBoundedWrong)

/-- 'conglaw.LossBacksOff': WHATEVER THE INPUT: true; the input reads as it did. -/
def lossBacksOffSpec : ChangeSpec := { name := "lossBacksOff", fn := fun _ => fun
  | [d] => { results := [.lit (.bool true)], args := [d] }
  | _ => none }
def lossBacksOffRow : OpenClaim := { program := "qxb6500912adoor", sum := "533e2aeb94b81e06499429b65fb6e7e50d3bdc5b291a4bfa7f4a2c32e5537c54", func := "e2e/conglaw.LossBacksOff", spec := "lossBacksOff", inPlace := ["internal/reflectlite.ValueOf", "internal/reflectlite.Swapper", "(internal/reflectlite.Value).Len"], unfollowed := true, recurses := true, named := ["e2e/conglaw.DefaultConfig", "e2e/api.ErrConfig"], apart := false, laid := [("e2e/api.ErrConfig", laid_e2e_api_ErrConfig), ("e2e/conglaw.DefaultConfig", laid_e2e_conglaw_DefaultConfig)] }
def LossBacksOffSaid : Prop := lossBacksOffRow.holds Tryd.pinned (OpenSpec.ofChange lossBacksOffSpec)

/-- ITS FALSE NEIGHBOUR: 'it returns false'. Refute it at one input. -/
def lossBacksOffWrong : ChangeSpec := { name := "lossBacksOff", fn := fun _ => fun
  | [d] => { results := [.lit (.bool false)], args := [d] }
  | _ => none }
def LossBacksOffWrongFalsely : Prop := lossBacksOffRow.holds Tryd.pinned (OpenSpec.ofChange lossBacksOffWrong)

end Rows
end Go.Proofs.Qxb6500912aDoor

/-
  NARROWER THAN 'FOR EVERY INPUT', by the rows' own cells (each row's printed sentence says how): SafetyIsRangeRestriction: laid · StratifierIsExact: laid · NormalFormDecidesVariance: laid · NormalFormKeepsTheRules: laid · VariantProgramsNormaliseAlike: laid.
  DERIVED. THE GIVEN ROWS OF THIS SEAT. 5 by the template 'for every input the law returns true; each argument reads behind the call as it read before'; 0 by the template 'total and deterministic' (their statements: Qxb6500915aDoorTotals.lean).
  GIVEN WITH THE SEED: the statements are not yours to turn. If you find one false, say at which input.
  Laid BY PROGRAM, IN A SANDBOX (cutbox-rows.mjs): the forced cells as the released guide's own fill.sh prints them over the translation 7103b9135cd81cb3… (all of the seat's roots in one cut). By AI agents, Wed Nov 11 2026. No macro, syntax, notation, axiom, sorry.
-/
import Derived.Test.Qxb6500915aDoorChecked
import GoSem.Claim
import GoSem.ClaimJoined
import GoSem.ClaimMapViews
import Derived.JoinedTies
import Derived.KernelRfl
namespace Go.Proofs.Qxb6500915aDoor
/- THE CELL 'sum', in the pinned program and in every row, IS THE sha256 OF THE DUMP (.gsa) THAT Qxb6500915aDoorProg.lean LOADS. Nothing in Lean hashes anything: it is a label: what it is worth is what the hold of that sum in a sandbox is worth. -/
noncomputable def Tryd.pinned : Pinned := { name := "qxb6500915adoor", sum := "7103b9135cd81cb3c99b73cfeaaafde163ea0ad3677dd9168f3ca7d4efbcb519", checked := Tryd.checked }
namespace Rows
def none {H : Type} : Left H := { results := [], args := [] }

/- WHAT THE LISTED PACKAGE-LEVEL VARIABLES READ AS WHEN THE CALL BEGINS. Each datum BY PROGRAM (the guide's laid-datum.mjs) off the statement by which the dump's own 'gosem.cut.vars' lays the variable. In a bare row this is a premise. The card (Qxb6500915aDoorCards.lean) ties it to the program's text. -/
def laid_e2e_normlaw_medium {H : Type} : DataW H := .agg [.lit (.int .i64 40), .lit (.int .i64 8), .lit (.int .i64 12)]
def laid_e2e_normlaw_small {H : Type} : DataW H := .agg [.lit (.int .i64 8), .lit (.int .i64 5), .lit (.int .i64 5)]
def laid_e2e_normlaw_large {H : Type} : DataW H := .agg [.lit (.int .i64 12), .lit (.int .i64 67), .lit (.int .i64 192)]

/-- 'normlaw.SafetyIsRangeRestriction': WHATEVER THE INPUT: true; the input reads as it did. -/
def safetyIsRangeRestrictionSpec : ChangeSpec := { name := "safetyIsRangeRestriction", fn := fun _ => fun
  | [d] => { results := [.lit (.bool true)], args := [d] }
  | _ => none }
def safetyIsRangeRestrictionRow : OpenClaim := { program := "qxb6500915adoor", sum := "7103b9135cd81cb3c99b73cfeaaafde163ea0ad3677dd9168f3ca7d4efbcb519", func := "e2e/normlaw.SafetyIsRangeRestriction", spec := "safetyIsRangeRestriction", inPlace := ["internal/bytealg.abigen_runtime_cmpstring"], unfollowed := true, recurses := true, named := ["e2e/normlaw.medium"], apart := false, laid := [("e2e/normlaw.medium", laid_e2e_normlaw_medium)] }
def SafetyIsRangeRestrictionSaid : Prop := safetyIsRangeRestrictionRow.holds Tryd.pinned (OpenSpec.ofChange safetyIsRangeRestrictionSpec)

/-- ITS FALSE NEIGHBOUR: 'it returns false'. Refute it at one input. -/
def safetyIsRangeRestrictionWrong : ChangeSpec := { name := "safetyIsRangeRestriction", fn := fun _ => fun
  | [d] => { results := [.lit (.bool false)], args := [d] }
  | _ => none }
def SafetyIsRangeRestrictionWrongFalsely : Prop := safetyIsRangeRestrictionRow.holds Tryd.pinned (OpenSpec.ofChange safetyIsRangeRestrictionWrong)

/-- 'normlaw.StratifierIsExact': WHATEVER THE INPUT: true; the input reads as it did. -/
def stratifierIsExactSpec : ChangeSpec := { name := "stratifierIsExact", fn := fun _ => fun
  | [d] => { results := [.lit (.bool true)], args := [d] }
  | _ => none }
def stratifierIsExactRow : OpenClaim := { program := "qxb6500915adoor", sum := "7103b9135cd81cb3c99b73cfeaaafde163ea0ad3677dd9168f3ca7d4efbcb519", func := "e2e/normlaw.StratifierIsExact", spec := "stratifierIsExact", unfollowed := true, recurses := true, named := ["e2e/normlaw.medium"], apart := false, laid := [("e2e/normlaw.medium", laid_e2e_normlaw_medium)] }
def StratifierIsExactSaid : Prop := stratifierIsExactRow.holds Tryd.pinned (OpenSpec.ofChange stratifierIsExactSpec)

/-- ITS FALSE NEIGHBOUR: 'it returns false'. Refute it at one input. -/
def stratifierIsExactWrong : ChangeSpec := { name := "stratifierIsExact", fn := fun _ => fun
  | [d] => { results := [.lit (.bool false)], args := [d] }
  | _ => none }
def StratifierIsExactWrongFalsely : Prop := stratifierIsExactRow.holds Tryd.pinned (OpenSpec.ofChange stratifierIsExactWrong)

/-- 'normlaw.NormalFormDecidesVariance': WHATEVER THE INPUT: true; the input reads as it did. -/
def normalFormDecidesVarianceSpec : ChangeSpec := { name := "normalFormDecidesVariance", fn := fun _ => fun
  | [d] => { results := [.lit (.bool true)], args := [d] }
  | _ => none }
def normalFormDecidesVarianceRow : OpenClaim := { program := "qxb6500915adoor", sum := "7103b9135cd81cb3c99b73cfeaaafde163ea0ad3677dd9168f3ca7d4efbcb519", func := "e2e/normlaw.NormalFormDecidesVariance", spec := "normalFormDecidesVariance", inPlace := ["internal/bytealg.abigen_runtime_cmpstring"], unfollowed := true, recurses := true, named := ["e2e/normlaw.small"], apart := false, laid := [("e2e/normlaw.small", laid_e2e_normlaw_small)] }
def NormalFormDecidesVarianceSaid : Prop := normalFormDecidesVarianceRow.holds Tryd.pinned (OpenSpec.ofChange normalFormDecidesVarianceSpec)

/-- ITS FALSE NEIGHBOUR: 'it returns false'. Refute it at one input. -/
def normalFormDecidesVarianceWrong : ChangeSpec := { name := "normalFormDecidesVariance", fn := fun _ => fun
  | [d] => { results := [.lit (.bool false)], args := [d] }
  | _ => none }
def NormalFormDecidesVarianceWrongFalsely : Prop := normalFormDecidesVarianceRow.holds Tryd.pinned (OpenSpec.ofChange normalFormDecidesVarianceWrong)

/-- 'normlaw.NormalFormKeepsTheRules': WHATEVER THE INPUT: true; the input reads as it did. -/
def normalFormKeepsTheRulesSpec : ChangeSpec := { name := "normalFormKeepsTheRules", fn := fun _ => fun
  | [d] => { results := [.lit (.bool true)], args := [d] }
  | _ => none }
def normalFormKeepsTheRulesRow : OpenClaim := { program := "qxb6500915adoor", sum := "7103b9135cd81cb3c99b73cfeaaafde163ea0ad3677dd9168f3ca7d4efbcb519", func := "e2e/normlaw.NormalFormKeepsTheRules", spec := "normalFormKeepsTheRules", inPlace := ["internal/bytealg.abigen_runtime_cmpstring"], unfollowed := true, recurses := true, named := ["e2e/normlaw.small"], apart := false, laid := [("e2e/normlaw.small", laid_e2e_normlaw_small)] }
def NormalFormKeepsTheRulesSaid : Prop := normalFormKeepsTheRulesRow.holds Tryd.pinned (OpenSpec.ofChange normalFormKeepsTheRulesSpec)

/-- ITS FALSE NEIGHBOUR: 'it returns false'. Refute it at one input. -/
def normalFormKeepsTheRulesWrong : ChangeSpec := { name := "normalFormKeepsTheRules", fn := fun _ => fun
  | [d] => { results := [.lit (.bool false)], args := [d] }
  | _ => none }
def NormalFormKeepsTheRulesWrongFalsely : Prop := normalFormKeepsTheRulesRow.holds Tryd.pinned (OpenSpec.ofChange normalFormKeepsTheRulesWrong)

/-- 'normlaw.VariantProgramsNormaliseAlike': WHATEVER THE INPUT: true; the input reads as it did. -/
def variantProgramsNormaliseAlikeSpec : ChangeSpec := { name := "variantProgramsNormaliseAlike", fn := fun _ => fun
  | [d] => { results := [.lit (.bool true)], args := [d] }
  | _ => none }
def variantProgramsNormaliseAlikeRow : OpenClaim := { program := "qxb6500915adoor", sum := "7103b9135cd81cb3c99b73cfeaaafde163ea0ad3677dd9168f3ca7d4efbcb519", func := "e2e/normlaw.VariantProgramsNormaliseAlike", spec := "variantProgramsNormaliseAlike", inPlace := ["internal/bytealg.abigen_runtime_cmpstring"], unfollowed := true, recurses := true, named := ["e2e/normlaw.large"], apart := false, laid := [("e2e/normlaw.large", laid_e2e_normlaw_large)] }
def VariantProgramsNormaliseAlikeSaid : Prop := variantProgramsNormaliseAlikeRow.holds Tryd.pinned (OpenSpec.ofChange variantProgramsNormaliseAlikeSpec)

/-- ITS FALSE NEIGHBOUR: 'it returns false'. Refute it at one input. -/
def variantProgramsNormaliseAlikeWrong : ChangeSpec := { name := "variantProgramsNormaliseAlike", fn := fun _ => fun
  | [d] => { results := [.lit (.bool false)], args := [d] }
  | _ => none }
def VariantProgramsNormaliseAlikeWrongFalsely : Prop := variantProgramsNormaliseAlikeRow.holds Tryd.pinned (OpenSpec.ofChange variantProgramsNormaliseAlikeWrong)

end Rows
end Go.Proofs.Qxb6500915aDoor

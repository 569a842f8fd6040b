/-
  DERIVED. GIVEN WITH THE SEED: THE CARDS: each row of Qxb6500915aDoorRows.lean that lists a variable, with what it lists TIED to the program's text (the seventh form; the later family's looks); each row that meets fmt, with fmt's text TOLD by the authors' own Lean function (tested against real Go, not proved from fmt's source: count such statements apart). THE CARD IS WHAT COUNTS. Prove the row's statement (the work); the ties are given (Qxb6500915aDoorTie.lean); close each card by the builder's one call (the guide's Derived/Test/ToyasCard.lean, 'card_holds'). Laid BY PROGRAM, IN A SANDBOX (cutbox-door.mjs). By AI agents, Wed Nov 11 2026. No macro, syntax, notation, axiom, sorry.
-/
import Derived.Test.Qxb6500915aDoorRows
import GoSem.ClaimSeven
namespace Go.Proofs.Qxb6500915aDoor
namespace Rows

/-- THE TIED CARD OF 'normlaw.SafetyIsRangeRestriction'. -/
def safetyIsRangeRestrictionCard : Claim7 := { stood := { row := safetyIsRangeRestrictionRow, standIns := [], harness := (true, "3c7858f1f9273359f93dbe042de74f6b90e143a6fbaceed5e3792bd3feadfb43"), looks := false }, kinds := [], alts := [], laidByText := true, laidKinds := [.data], laidTests := true, laidLooks := .later }
def SafetyIsRangeRestrictionCardSaid : Prop := Claim7.holds Tryd.pinned (.plain (OpenSpec.ofChange safetyIsRangeRestrictionSpec)) safetyIsRangeRestrictionCard

/-- THE TIED CARD OF 'normlaw.StratifierIsExact'. -/
def stratifierIsExactCard : Claim7 := { stood := { row := stratifierIsExactRow, standIns := [], harness := (true, "3c7858f1f9273359f93dbe042de74f6b90e143a6fbaceed5e3792bd3feadfb43"), looks := false }, kinds := [], alts := [], laidByText := true, laidKinds := [.data], laidTests := true, laidLooks := .later }
def StratifierIsExactCardSaid : Prop := Claim7.holds Tryd.pinned (.plain (OpenSpec.ofChange stratifierIsExactSpec)) stratifierIsExactCard

/-- THE TIED CARD OF 'normlaw.NormalFormDecidesVariance'. -/
def normalFormDecidesVarianceCard : Claim7 := { stood := { row := normalFormDecidesVarianceRow, standIns := [], harness := (true, "3c7858f1f9273359f93dbe042de74f6b90e143a6fbaceed5e3792bd3feadfb43"), looks := false }, kinds := [], alts := [], laidByText := true, laidKinds := [.data], laidTests := true, laidLooks := .later }
def NormalFormDecidesVarianceCardSaid : Prop := Claim7.holds Tryd.pinned (.plain (OpenSpec.ofChange normalFormDecidesVarianceSpec)) normalFormDecidesVarianceCard

/-- THE TIED CARD OF 'normlaw.NormalFormKeepsTheRules'. -/
def normalFormKeepsTheRulesCard : Claim7 := { stood := { row := normalFormKeepsTheRulesRow, standIns := [], harness := (true, "3c7858f1f9273359f93dbe042de74f6b90e143a6fbaceed5e3792bd3feadfb43"), looks := false }, kinds := [], alts := [], laidByText := true, laidKinds := [.data], laidTests := true, laidLooks := .later }
def NormalFormKeepsTheRulesCardSaid : Prop := Claim7.holds Tryd.pinned (.plain (OpenSpec.ofChange normalFormKeepsTheRulesSpec)) normalFormKeepsTheRulesCard

/-- THE TIED CARD OF 'normlaw.VariantProgramsNormaliseAlike'. -/
def variantProgramsNormaliseAlikeCard : Claim7 := { stood := { row := variantProgramsNormaliseAlikeRow, standIns := [], harness := (true, "3c7858f1f9273359f93dbe042de74f6b90e143a6fbaceed5e3792bd3feadfb43"), looks := false }, kinds := [], alts := [], laidByText := true, laidKinds := [.data], laidTests := true, laidLooks := .later }
def VariantProgramsNormaliseAlikeCardSaid : Prop := Claim7.holds Tryd.pinned (.plain (OpenSpec.ofChange variantProgramsNormaliseAlikeSpec)) variantProgramsNormaliseAlikeCard
end Rows
end Go.Proofs.Qxb6500915aDoor

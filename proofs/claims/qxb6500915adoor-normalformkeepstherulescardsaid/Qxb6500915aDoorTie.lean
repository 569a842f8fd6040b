/-
  DERIVED. GIVEN WITH THE SEED: THE PROGRAM's TIES (one call each: nine closed facts by the kernel) AND EACH ROW's TIE, after the 31st guide's Derived/Test/Toyas{Tie, Card}.lean. No idea stands in it: it is a product of the set-up. Laid BY PROGRAM, IN A SANDBOX (cutbox-door.mjs). By AI agents, Wed Nov 11 2026. No macro, syntax, notation, axiom, sorry.
-/
import Derived.Test.Qxb6500915aDoorRows
import Derived.LaidByTextLater
import Derived.SevenTiedAt
import Derived.LaidSub
import Derived.LaidOnce
namespace Go.Proofs.Qxb6500915aDoor
open Go
set_option maxRecDepth 100000
theorem seatTie1 : Tryd.prog.laidByTextLater [("e2e/normlaw.small", Rows.laid_e2e_normlaw_small), ("e2e/normlaw.medium", Rows.laid_e2e_normlaw_medium), ("e2e/normlaw.large", Rows.laid_e2e_normlaw_large)] [.data, .data, .data] true :=
  Program.laidByTextLater_by_one 24 8 4 (by kernel_rfl) (by kernel_rfl) (by kernel_rfl) (by kernel_rfl) (by kernel_rfl) (by kernel_rfl) (fun _ _ => by kernel_rfl)
theorem noOwnUnsafe : Tryd.pinned.checked.prog.headLifts.contains "ownunsafe" = false := by kernel_rfl
theorem tie : Tryd.prog.laidByTextLater [("e2e/normlaw.medium", Rows.laid_e2e_normlaw_medium)] [.data] true :=
  Program.laidByTextLater.sub seatTie1 ["e2e/normlaw.medium"] (by kernel_rfl) (by kernel_rfl)
theorem safetyIsRangeRestriction_row_tie : Rows.safetyIsRangeRestrictionRow.laidByTextAt .later Tryd.pinned [.data] true :=
  OpenClaim.laidByTextAt_later rfl rfl tie noOwnUnsafe
theorem stratifierIsExact_row_tie : Rows.stratifierIsExactRow.laidByTextAt .later Tryd.pinned [.data] true :=
  OpenClaim.laidByTextAt_later rfl rfl tie noOwnUnsafe
theorem tie2 : Tryd.prog.laidByTextLater [("e2e/normlaw.small", Rows.laid_e2e_normlaw_small)] [.data] true :=
  Program.laidByTextLater.sub seatTie1 ["e2e/normlaw.small"] (by kernel_rfl) (by kernel_rfl)
theorem normalFormDecidesVariance_row_tie : Rows.normalFormDecidesVarianceRow.laidByTextAt .later Tryd.pinned [.data] true :=
  OpenClaim.laidByTextAt_later rfl rfl tie2 noOwnUnsafe
theorem normalFormKeepsTheRules_row_tie : Rows.normalFormKeepsTheRulesRow.laidByTextAt .later Tryd.pinned [.data] true :=
  OpenClaim.laidByTextAt_later rfl rfl tie2 noOwnUnsafe
theorem tie3 : Tryd.prog.laidByTextLater [("e2e/normlaw.large", Rows.laid_e2e_normlaw_large)] [.data] true :=
  Program.laidByTextLater.sub seatTie1 ["e2e/normlaw.large"] (by kernel_rfl) (by kernel_rfl)
theorem variantProgramsNormaliseAlike_row_tie : Rows.variantProgramsNormaliseAlikeRow.laidByTextAt .later Tryd.pinned [.data] true :=
  OpenClaim.laidByTextAt_later rfl rfl tie3 noOwnUnsafe
end Go.Proofs.Qxb6500915aDoor

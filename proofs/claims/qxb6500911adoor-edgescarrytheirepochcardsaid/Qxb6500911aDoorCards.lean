/-
  DERIVED. GIVEN WITH THE SEED: THE CARDS: each row of Qxb6500911aDoorRows.lean that lists a variable, with what it lists TIED to the program's text (the seventh form; the later family's looks); each row that meets fmt, with fmt's text TOLD by the authors' own Lean function (tested against real Go, not proved from fmt's source: count such statements apart). THE CARD IS WHAT COUNTS. Prove the row's statement (the work); the ties are given (Qxb6500911aDoorTie.lean); close each card by the builder's one call (the guide's Derived/Test/ToyasCard.lean, 'card_holds'). Laid BY PROGRAM, IN A SANDBOX (cutbox-door.mjs). By AI agents, Wed Nov 11 2026. No macro, syntax, notation, axiom, sorry.
-/
import Derived.Test.Qxb6500911aDoorRows
import GoSem.ClaimSeven
namespace Go.Proofs.Qxb6500911aDoor
namespace Rows

/-- THE TIED CARD OF 'waitgraphlaw.QuietShardsEqualTheTables'. -/
def quietShardsEqualTheTablesCard : Claim7 := { stood := { row := quietShardsEqualTheTablesRow, standIns := [], harness := (true, "5acf82faa4e853a911db8b33431006df6b1b31e1aac582d1adb00cc0210b3e5b"), looks := false }, kinds := [], alts := [], laidByText := true, laidKinds := [.data], laidTests := true, laidLooks := .later }
def QuietShardsEqualTheTablesCardSaid : Prop := Claim7.holds Tryd.pinned (.plain (OpenSpec.ofChange quietShardsEqualTheTablesSpec)) quietShardsEqualTheTablesCard

/-- THE TIED CARD OF 'waitgraphlaw.EdgesCarryTheirEpoch'. -/
def edgesCarryTheirEpochCard : Claim7 := { stood := { row := edgesCarryTheirEpochRow, standIns := [], harness := (true, "5acf82faa4e853a911db8b33431006df6b1b31e1aac582d1adb00cc0210b3e5b"), looks := false }, kinds := [], alts := [], laidByText := true, laidKinds := [.data], laidTests := true, laidLooks := .later }
def EdgesCarryTheirEpochCardSaid : Prop := Claim7.holds Tryd.pinned (.plain (OpenSpec.ofChange edgesCarryTheirEpochSpec)) edgesCarryTheirEpochCard

/-- THE TIED CARD OF 'waitgraphlaw.OnlyThePresentEpochIsFollowed'. -/
def onlyThePresentEpochIsFollowedCard : Claim7 := { stood := { row := onlyThePresentEpochIsFollowedRow, standIns := [], harness := (true, "5acf82faa4e853a911db8b33431006df6b1b31e1aac582d1adb00cc0210b3e5b"), looks := false }, kinds := [], alts := [], laidByText := true, laidKinds := [.data], laidTests := true, laidLooks := .later }
def OnlyThePresentEpochIsFollowedCardSaid : Prop := Claim7.holds Tryd.pinned (.plain (OpenSpec.ofChange onlyThePresentEpochIsFollowedSpec)) onlyThePresentEpochIsFollowedCard

/-- THE TIED CARD OF 'waitgraphlaw.ArrivalOrderDoesNotMatter'. -/
def arrivalOrderDoesNotMatterCard : Claim7 := { stood := { row := arrivalOrderDoesNotMatterRow, standIns := [], harness := (true, "5acf82faa4e853a911db8b33431006df6b1b31e1aac582d1adb00cc0210b3e5b"), looks := false }, kinds := [], alts := [], laidByText := true, laidKinds := [.data], laidTests := true, laidLooks := .later }
def ArrivalOrderDoesNotMatterCardSaid : Prop := Claim7.holds Tryd.pinned (.plain (OpenSpec.ofChange arrivalOrderDoesNotMatterSpec)) arrivalOrderDoesNotMatterCard

/-- THE TIED CARD OF 'waitgraphlaw.RemovalMayOvertakeInsertion'. -/
def removalMayOvertakeInsertionCard : Claim7 := { stood := { row := removalMayOvertakeInsertionRow, standIns := [], harness := (true, "5acf82faa4e853a911db8b33431006df6b1b31e1aac582d1adb00cc0210b3e5b"), looks := false }, kinds := [], alts := [], laidByText := true, laidKinds := [.data], laidTests := true, laidLooks := .later }
def RemovalMayOvertakeInsertionCardSaid : Prop := Claim7.holds Tryd.pinned (.plain (OpenSpec.ofChange removalMayOvertakeInsertionSpec)) removalMayOvertakeInsertionCard

/-- THE TIED CARD OF 'waitgraphlaw.RefusalsChangeNothing'. -/
def refusalsChangeNothingCard : Claim7 := { stood := { row := refusalsChangeNothingRow, standIns := [], harness := (true, "5acf82faa4e853a911db8b33431006df6b1b31e1aac582d1adb00cc0210b3e5b"), looks := false }, kinds := [], alts := [], laidByText := true, laidKinds := [.data], laidTests := true, laidLooks := .later }
def RefusalsChangeNothingCardSaid : Prop := Claim7.holds Tryd.pinned (.plain (OpenSpec.ofChange refusalsChangeNothingSpec)) refusalsChangeNothingCard

/-- THE TIED CARD OF 'waitgraphlaw.BurstsFit'. -/
def burstsFitCard : Claim7 := { stood := { row := burstsFitRow, standIns := [], harness := (true, "5acf82faa4e853a911db8b33431006df6b1b31e1aac582d1adb00cc0210b3e5b"), looks := false }, kinds := [], alts := [], laidByText := true, laidKinds := [.data], laidTests := true, laidLooks := .later }
def BurstsFitCardSaid : Prop := Claim7.holds Tryd.pinned (.plain (OpenSpec.ofChange burstsFitSpec)) burstsFitCard

/-- THE TIED CARD OF 'waitgraphlaw.StrangeMessagesAreRefused'. -/
def strangeMessagesAreRefusedCard : Claim7 := { stood := { row := strangeMessagesAreRefusedRow, standIns := [], harness := (true, "5acf82faa4e853a911db8b33431006df6b1b31e1aac582d1adb00cc0210b3e5b"), looks := false }, kinds := [], alts := [], laidByText := true, laidKinds := [.data], laidTests := true, laidLooks := .later }
def StrangeMessagesAreRefusedCardSaid : Prop := Claim7.holds Tryd.pinned (.plain (OpenSpec.ofChange strangeMessagesAreRefusedSpec)) strangeMessagesAreRefusedCard
end Rows
end Go.Proofs.Qxb6500911aDoor

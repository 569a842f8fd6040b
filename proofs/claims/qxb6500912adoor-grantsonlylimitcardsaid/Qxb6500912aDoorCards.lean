/-
  DERIVED. GIVEN WITH THE SEED: THE CARDS: each row of Qxb6500912aDoorRows.lean that lists a variable, with what it lists TIED to the program's text (the seventh form; the later family's looks); each row that meets fmt, with fmt's text TOLD by the authors' own Lean function (tested against real Go, not proved from fmt's source: count such statements apart). THE CARD IS WHAT COUNTS. Prove the row's statement (the work); the ties are given (Qxb6500912aDoorTie.lean); close each card by the builder's one call (the guide's Derived/Test/ToyasCard.lean, 'card_holds'). Laid BY PROGRAM, IN A SANDBOX (cutbox-door.mjs). By AI agents, Wed Nov 11 2026. No macro, syntax, notation, axiom, sorry.
-/
import Derived.Test.Qxb6500912aDoorRows
import GoSem.ClaimSeven
namespace Go.Proofs.Qxb6500912aDoor
namespace Rows

/-- THE TIED CARD OF 'conglaw.WindowsStayInBounds'. -/
def windowsStayInBoundsCard : Claim7 := { stood := { row := windowsStayInBoundsRow, standIns := [], harness := (true, "52f230cba8685dde9001f92912f10f278b5e6c2c4afeba4dcce5edc3c1bc7f02"), looks := false }, kinds := [], alts := [], laidByText := true, laidKinds := [.sentinel, .data], laidTests := true, laidLooks := .later }
def WindowsStayInBoundsCardSaid : Prop := Claim7.holds Tryd.pinned (.plain (OpenSpec.ofChange windowsStayInBoundsSpec)) windowsStayInBoundsCard

/-- THE TIED CARD OF 'conglaw.GrantsOnlyLimit'. -/
def grantsOnlyLimitCard : Claim7 := { stood := { row := grantsOnlyLimitRow, standIns := [], harness := (true, "52f230cba8685dde9001f92912f10f278b5e6c2c4afeba4dcce5edc3c1bc7f02"), looks := false }, kinds := [], alts := [], laidByText := true, laidKinds := [.sentinel, .data], laidTests := true, laidLooks := .later }
def GrantsOnlyLimitCardSaid : Prop := Claim7.holds Tryd.pinned (.plain (OpenSpec.ofChange grantsOnlyLimitSpec)) grantsOnlyLimitCard

/-- THE TIED CARD OF 'conglaw.NeverStalls'. -/
def neverStallsCard : Claim7 := { stood := { row := neverStallsRow, standIns := [], harness := (true, "52f230cba8685dde9001f92912f10f278b5e6c2c4afeba4dcce5edc3c1bc7f02"), looks := false }, kinds := [], alts := [], laidByText := true, laidKinds := [.sentinel, .data], laidTests := true, laidLooks := .later }
def NeverStallsCardSaid : Prop := Claim7.holds Tryd.pinned (.plain (OpenSpec.ofChange neverStallsSpec)) neverStallsCard

/-- THE TIED CARD OF 'conglaw.GrowthIsBounded'. -/
def growthIsBoundedCard : Claim7 := { stood := { row := growthIsBoundedRow, standIns := [], harness := (true, "52f230cba8685dde9001f92912f10f278b5e6c2c4afeba4dcce5edc3c1bc7f02"), looks := false }, kinds := [], alts := [], laidByText := true, laidKinds := [.sentinel, .data], laidTests := true, laidLooks := .later }
def GrowthIsBoundedCardSaid : Prop := Claim7.holds Tryd.pinned (.plain (OpenSpec.ofChange growthIsBoundedSpec)) growthIsBoundedCard

/-- THE TIED CARD OF 'conglaw.LossBacksOff'. -/
def lossBacksOffCard : Claim7 := { stood := { row := lossBacksOffRow, standIns := [], harness := (true, "52f230cba8685dde9001f92912f10f278b5e6c2c4afeba4dcce5edc3c1bc7f02"), looks := false }, kinds := [], alts := [], laidByText := true, laidKinds := [.sentinel, .data], laidTests := true, laidLooks := .later }
def LossBacksOffCardSaid : Prop := Claim7.holds Tryd.pinned (.plain (OpenSpec.ofChange lossBacksOffSpec)) lossBacksOffCard
end Rows
end Go.Proofs.Qxb6500912aDoor

/-
  DERIVED. GIVEN WITH THE SEED: THE CARDS: each row of Qxb6500911aGreatDoorRows.lean that lists a variable, with what it lists TIED to the program's text (the seventh form; the later family's looks); each row that meets fmt, with fmt's text TOLD by the authors' own Lean function (tested against real Go, not proved from fmt's source: count such statements apart). THE CARD IS WHAT COUNTS. Prove the row's statement (the work); the ties are given (Qxb6500911aGreatDoorTie.lean); close each card by the builder's one call (the guide's Derived/Test/ToyasCard.lean, 'card_holds'). Laid BY PROGRAM, IN A SANDBOX (cutbox-door.mjs). By AI agents, Wed Nov 11 2026. No macro, syntax, notation, axiom, sorry.
-/
import Derived.Test.Qxb6500911aGreatDoorRows
import GoSem.ClaimSeven
namespace Go.Proofs.Qxb6500911aGreatDoor
namespace Rows

/-- THE TIED CARD OF 'waitgraphlaw.Refines'. -/
def refinesCard : Claim7 := { stood := { row := refinesRow, standIns := [], harness := (true, "405cbe2c9c1fed587498e802d4814581c11c3ada800d4a38f71b1595e89c5550"), looks := false }, kinds := [], alts := [], laidByText := true, laidKinds := [.data], laidTests := true, laidLooks := .later }
def RefinesCardSaid : Prop := Claim7.holds Tryz.pinned (.plain (OpenSpec.ofChange refinesSpec)) refinesCard
end Rows
end Go.Proofs.Qxb6500911aGreatDoor

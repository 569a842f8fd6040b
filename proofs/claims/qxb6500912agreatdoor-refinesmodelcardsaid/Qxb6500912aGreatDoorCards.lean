/-
  DERIVED. GIVEN WITH THE SEED: THE CARDS: each row of Qxb6500912aGreatDoorRows.lean that lists a variable, with what it lists TIED to the program's text (the seventh form; the later family's looks); each row that meets fmt, with fmt's text TOLD by the authors' own Lean function (tested against real Go, not proved from fmt's source: count such statements apart). THE CARD IS WHAT COUNTS. Prove the row's statement (the work); the ties are given (Qxb6500912aGreatDoorTie.lean); close each card by the builder's one call (the guide's Derived/Test/ToyasCard.lean, 'card_holds'). Laid BY PROGRAM, IN A SANDBOX (cutbox-door.mjs). By AI agents, Wed Nov 11 2026. No macro, syntax, notation, axiom, sorry.
-/
import Derived.Test.Qxb6500912aGreatDoorRows
import GoSem.ClaimSeven
namespace Go.Proofs.Qxb6500912aGreatDoor
namespace Rows

/-- THE TIED CARD OF 'conglaw.RefinesModel'. -/
def refinesModelCard : Claim7 := { stood := { row := refinesModelRow, standIns := [], harness := (true, "a784a22a9bd92eb17ae5cf47b22d07d3f1f3ba8600b949d9475ced086e109c40"), looks := true }, kinds := [], alts := [], laidByText := true, laidKinds := [.sentinel, .data], laidTests := true, laidLooks := .later }
def RefinesModelCardSaid : Prop := Claim7.holds Tryz.pinned (.plain (OpenSpec.ofChange refinesModelSpec)) refinesModelCard
end Rows
end Go.Proofs.Qxb6500912aGreatDoor

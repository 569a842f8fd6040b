/-
  DERIVED. GIVEN WITH THE SEED: THE CARDS: each row of Qxb6500915aGreatDoorRows.lean that lists a variable, with what it lists TIED to the program's text (the seventh form; the later family's looks); each row that meets fmt, with fmt's text TOLD by the authors' own Lean function (tested against real Go, not proved from fmt's source: count such statements apart). THE CARD IS WHAT COUNTS. Prove the row's statement (the work); the ties are given (Qxb6500915aGreatDoorTie.lean); close each card by the builder's one call (the guide's Derived/Test/ToyasCard.lean, 'card_holds'). Laid BY PROGRAM, IN A SANDBOX (cutbox-door.mjs). By AI agents, Wed Nov 11 2026. No macro, syntax, notation, axiom, sorry.
-/
import Derived.Test.Qxb6500915aGreatDoorRows
import GoSem.ClaimSeven
namespace Go.Proofs.Qxb6500915aGreatDoor
namespace Rows

/-- THE TIED CARD OF 'normlaw.RealDoesWhatModelDoes'. -/
def realDoesWhatModelDoesCard : Claim7 := { stood := { row := realDoesWhatModelDoesRow, standIns := [], harness := (true, "08cb36bf33dc31fdba36ccfcdd66a166a459cb93dab3512796daac792f6f12dd"), looks := false }, kinds := [], alts := [], laidByText := true, laidKinds := [.data], laidTests := true, laidLooks := .later }
def RealDoesWhatModelDoesCardSaid : Prop := Claim7.holds Tryz.pinned (.plain (OpenSpec.ofChange realDoesWhatModelDoesSpec)) realDoesWhatModelDoesCard
end Rows
end Go.Proofs.Qxb6500915aGreatDoor

/-
  DERIVED. GIVEN WITH THE SEED: THE CARDS: each row of Qxb6500914aFmtRows.lean that lists a variable, with what it lists TIED to the program's text (the seventh form; the later family's looks); each row that meets fmt, with fmt's text TOLD by the authors' own Lean function (tested against real Go, not proved from fmt's source: count such statements apart). THE CARD IS WHAT COUNTS. Prove the row's statement (the work); the ties are given (Qxb6500914aFmtTie.lean); close each card by the builder's one call (the guide's Derived/Test/ToyasCard.lean, 'card_holds'). Laid BY PROGRAM, IN A SANDBOX (cutbox-door.mjs). By AI agents, Wed Nov 11 2026. No macro, syntax, notation, axiom, sorry.
-/
import Derived.Test.Qxb6500914aFmtRows
import GoSem.ClaimSeven
namespace Go.Proofs.Qxb6500914aFmt
namespace Rows

/-- THE TOLD CARD OF 'orderedlaw.LastElementGoesToOne'. -/
def lastElementGoesToOneCard : Claim7 := { stood := { row := lastElementGoesToOneRow, standIns := [], harness := (true, "d79f9f82bdcd0a45b6e180f2eb4781203deed0d68e553ac10a92509f95a9718b"), looks := false }, told := true, goes := false }
def LastElementGoesToOneToldSaid : Prop := Claim7.holds Tryf.pinned (.plain (OpenSpec.ofChange lastElementGoesToOneSpec)) lastElementGoesToOneCard
/-- ITS FALSE NEIGHBOUR. Refute it at one input. -/
def LastElementGoesToOneToldWrongFalsely : Prop := Claim7.holds Tryf.pinned (.plain (OpenSpec.ofChange lastElementGoesToOneWrong)) lastElementGoesToOneCard

/-- THE TOLD CARD OF 'orderedlaw.NothingLostNothingDoubled'. -/
def nothingLostNothingDoubledCard : Claim7 := { stood := { row := nothingLostNothingDoubledRow, standIns := [], harness := (true, "d79f9f82bdcd0a45b6e180f2eb4781203deed0d68e553ac10a92509f95a9718b"), looks := false }, told := true, goes := false }
def NothingLostNothingDoubledToldSaid : Prop := Claim7.holds Tryf.pinned (.plain (OpenSpec.ofChange nothingLostNothingDoubledSpec)) nothingLostNothingDoubledCard
/-- ITS FALSE NEIGHBOUR. Refute it at one input. -/
def NothingLostNothingDoubledToldWrongFalsely : Prop := Claim7.holds Tryf.pinned (.plain (OpenSpec.ofChange nothingLostNothingDoubledWrong)) nothingLostNothingDoubledCard

/-- THE TOLD CARD OF 'orderedlaw.SkeletonIsFixed'. -/
def skeletonIsFixedCard : Claim7 := { stood := { row := skeletonIsFixedRow, standIns := [], harness := (true, "d79f9f82bdcd0a45b6e180f2eb4781203deed0d68e553ac10a92509f95a9718b"), looks := false }, told := true, goes := false }
def SkeletonIsFixedToldSaid : Prop := Claim7.holds Tryf.pinned (.plain (OpenSpec.ofChange skeletonIsFixedSpec)) skeletonIsFixedCard
/-- ITS FALSE NEIGHBOUR. Refute it at one input. -/
def SkeletonIsFixedToldWrongFalsely : Prop := Claim7.holds Tryf.pinned (.plain (OpenSpec.ofChange skeletonIsFixedWrong)) skeletonIsFixedCard
end Rows
end Go.Proofs.Qxb6500914aFmt

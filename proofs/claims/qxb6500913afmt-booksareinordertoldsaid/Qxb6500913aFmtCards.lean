/-
  DERIVED. GIVEN WITH THE SEED: THE CARDS: each row of Qxb6500913aFmtRows.lean that lists a variable, with what it lists TIED to the program's text (the seventh form; the later family's looks); each row that meets fmt, with fmt's text TOLD by the authors' own Lean function (tested against real Go, not proved from fmt's source: count such statements apart). THE CARD IS WHAT COUNTS. Prove the row's statement (the work); the ties are given (Qxb6500913aFmtTie.lean); close each card by the builder's one call (the guide's Derived/Test/ToyasCard.lean, 'card_holds'). Laid BY PROGRAM, IN A SANDBOX (cutbox-door.mjs). By AI agents, Wed Nov 11 2026. No macro, syntax, notation, axiom, sorry.
-/
import Derived.Test.Qxb6500913aFmtRows
import GoSem.ClaimSeven
namespace Go.Proofs.Qxb6500913aFmt
namespace Rows

/-- THE TOLD CARD OF 'memlaw.BooksAreInOrder'. -/
def booksAreInOrderCard : Claim7 := { stood := { row := booksAreInOrderRow, standIns := [], harness := (true, "b5a778efbffd96e057e94c1c6c92753eb8a41b31a228e3939b029b2b49ce7671"), looks := false }, told := true, goes := false }
def BooksAreInOrderToldSaid : Prop := Claim7.holds Tryf.pinned (.plain (OpenSpec.ofChange booksAreInOrderSpec)) booksAreInOrderCard
/-- ITS FALSE NEIGHBOUR. Refute it at one input. -/
def BooksAreInOrderToldWrongFalsely : Prop := Claim7.holds Tryf.pinned (.plain (OpenSpec.ofChange booksAreInOrderWrong)) booksAreInOrderCard
end Rows
end Go.Proofs.Qxb6500913aFmt

/-
  No cell of these rows narrows 'for every input' (looked for: loops, veiled, ifaces, maps, wideKeys, modest, calm, conditions, laid).
  DERIVED. THE GIVEN ROWS OF THIS SEAT. 1 by the template 'for every input the law returns true; each argument reads behind the call as it read before'; 0 by the template 'total and deterministic' (their statements: Qxb6500913aFmtTotals.lean).
  GIVEN WITH THE SEED: the statements are not yours to turn. If you find one false, say at which input.
  Laid BY PROGRAM, IN A SANDBOX (cutbox-rows.mjs): the forced cells as the released guide's own fill.sh prints them over the translation 5984c5292c2baf88… (all of the seat's roots in one cut). By AI agents, Wed Nov 11 2026. No macro, syntax, notation, axiom, sorry.
-/
import Derived.Test.Qxb6500913aFmtChecked
import GoSem.Claim
import GoSem.ClaimJoined
import GoSem.ClaimMapViews
import Derived.JoinedTies
import Derived.KernelRfl
namespace Go.Proofs.Qxb6500913aFmt
/- THE CELL 'sum', in the pinned program and in every row, IS THE sha256 OF THE DUMP (.gsa) THAT Qxb6500913aFmtProg.lean LOADS. Nothing in Lean hashes anything: it is a label: what it is worth is what the hold of that sum in a sandbox is worth. -/
noncomputable def Tryf.pinned : Pinned := { name := "qxb6500913afmt", sum := "5984c5292c2baf88792afa6b275d3a60b81c7c7fa2dd5e28b3f5014e675ff957", checked := Tryf.checked }
namespace Rows
def none {H : Type} : Left H := { results := [], args := [] }

/-- 'memlaw.BooksAreInOrder': WHATEVER THE INPUT: true; the input reads as it did. -/
def booksAreInOrderSpec : ChangeSpec := { name := "booksAreInOrder", fn := fun _ => fun
  | [d] => { results := [.lit (.bool true)], args := [d] }
  | _ => none }
def booksAreInOrderRow : OpenClaim := { program := "qxb6500913afmt", sum := "5984c5292c2baf88792afa6b275d3a60b81c7c7fa2dd5e28b3f5014e675ff957", func := "e2e/memlaw.BooksAreInOrder", spec := "booksAreInOrder", stops := ["fmt.errorf"], inPlace := ["fmt.errorf"], apart := false }
/-- NO THEOREM (fmt's text is open here; it may be false): for the released tool's asking of the row's closed facts alone. THE STATEMENT IS 'BooksAreInOrderToldSaid' (Qxb6500913aFmtCards.lean). -/
def BooksAreInOrderFormAsk : Prop := booksAreInOrderRow.holds Tryf.pinned (OpenSpec.ofChange booksAreInOrderSpec)

/-- ITS FALSE NEIGHBOUR: 'it returns false'. Refute it at one input. -/
def booksAreInOrderWrong : ChangeSpec := { name := "booksAreInOrder", fn := fun _ => fun
  | [d] => { results := [.lit (.bool false)], args := [d] }
  | _ => none }
def BooksAreInOrderWrongFormAsk : Prop := booksAreInOrderRow.holds Tryf.pinned (OpenSpec.ofChange booksAreInOrderWrong)

end Rows
end Go.Proofs.Qxb6500913aFmt

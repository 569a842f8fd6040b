/-
  No cell of these rows narrows 'for every input' (looked for: loops, veiled, ifaces, maps, wideKeys, modest, calm, conditions, laid).
  DERIVED. THE GIVEN ROWS OF THIS SEAT. 3 by the template 'for every input the law returns true; each argument reads behind the call as it read before'; 0 by the template 'total and deterministic' (their statements: Qxb6500914aFmtTotals.lean).
  GIVEN WITH THE SEED: the statements are not yours to turn. If you find one false, say at which input.
  Laid BY PROGRAM, IN A SANDBOX (cutbox-rows.mjs): the forced cells as the released guide's own fill.sh prints them over the translation 8fbd0e3c6c496fdd… (all of the seat's roots in one cut). By AI agents, Wed Nov 11 2026. No macro, syntax, notation, axiom, sorry.
-/
import Derived.Test.Qxb6500914aFmtChecked
import GoSem.Claim
import GoSem.ClaimJoined
import GoSem.ClaimMapViews
import Derived.JoinedTies
import Derived.KernelRfl
namespace Go.Proofs.Qxb6500914aFmt
/- THE CELL 'sum', in the pinned program and in every row, IS THE sha256 OF THE DUMP (.gsa) THAT Qxb6500914aFmtProg.lean LOADS. Nothing in Lean hashes anything: it is a label: what it is worth is what the hold of that sum in a sandbox is worth. -/
noncomputable def Tryf.pinned : Pinned := { name := "qxb6500914afmt", sum := "8fbd0e3c6c496fdd87434880155b4f1a9febfd7e9926bfa5564771be777b43f1", checked := Tryf.checked }
namespace Rows
def none {H : Type} : Left H := { results := [], args := [] }

/-- 'orderedlaw.LastElementGoesToOne': WHATEVER THE INPUT: true; the input reads as it did. -/
def lastElementGoesToOneSpec : ChangeSpec := { name := "lastElementGoesToOne", fn := fun _ => fun
  | [d] => { results := [.lit (.bool true)], args := [d] }
  | _ => none }
def lastElementGoesToOneRow : OpenClaim := { program := "qxb6500914afmt", sum := "8fbd0e3c6c496fdd87434880155b4f1a9febfd7e9926bfa5564771be777b43f1", func := "e2e/orderedlaw.LastElementGoesToOne", spec := "lastElementGoesToOne", stops := ["fmt.Sprintf", "fmt.errorf"], inPlace := ["fmt.errorf"], unfollowed := true, recurses := true, plainKeys := false, apart := false }
/-- NO THEOREM (fmt's text is open here; it may be false): for the released tool's asking of the row's closed facts alone. THE STATEMENT IS 'LastElementGoesToOneToldSaid' (Qxb6500914aFmtCards.lean). -/
def LastElementGoesToOneFormAsk : Prop := lastElementGoesToOneRow.holds Tryf.pinned (OpenSpec.ofChange lastElementGoesToOneSpec)

/-- ITS FALSE NEIGHBOUR: 'it returns false'. Refute it at one input. -/
def lastElementGoesToOneWrong : ChangeSpec := { name := "lastElementGoesToOne", fn := fun _ => fun
  | [d] => { results := [.lit (.bool false)], args := [d] }
  | _ => none }
def LastElementGoesToOneWrongFormAsk : Prop := lastElementGoesToOneRow.holds Tryf.pinned (OpenSpec.ofChange lastElementGoesToOneWrong)

/-- 'orderedlaw.NothingLostNothingDoubled': WHATEVER THE INPUT: true; the input reads as it did. -/
def nothingLostNothingDoubledSpec : ChangeSpec := { name := "nothingLostNothingDoubled", fn := fun _ => fun
  | [d] => { results := [.lit (.bool true)], args := [d] }
  | _ => none }
def nothingLostNothingDoubledRow : OpenClaim := { program := "qxb6500914afmt", sum := "8fbd0e3c6c496fdd87434880155b4f1a9febfd7e9926bfa5564771be777b43f1", func := "e2e/orderedlaw.NothingLostNothingDoubled", spec := "nothingLostNothingDoubled", stops := ["fmt.Sprintf", "fmt.errorf"], inPlace := ["fmt.errorf", "fmt.Sprintf"], unfollowed := true, recurses := true, plainKeys := false, apart := false }
/-- NO THEOREM (fmt's text is open here; it may be false): for the released tool's asking of the row's closed facts alone. THE STATEMENT IS 'NothingLostNothingDoubledToldSaid' (Qxb6500914aFmtCards.lean). -/
def NothingLostNothingDoubledFormAsk : Prop := nothingLostNothingDoubledRow.holds Tryf.pinned (OpenSpec.ofChange nothingLostNothingDoubledSpec)

/-- ITS FALSE NEIGHBOUR: 'it returns false'. Refute it at one input. -/
def nothingLostNothingDoubledWrong : ChangeSpec := { name := "nothingLostNothingDoubled", fn := fun _ => fun
  | [d] => { results := [.lit (.bool false)], args := [d] }
  | _ => none }
def NothingLostNothingDoubledWrongFormAsk : Prop := nothingLostNothingDoubledRow.holds Tryf.pinned (OpenSpec.ofChange nothingLostNothingDoubledWrong)

/-- 'orderedlaw.SkeletonIsFixed': WHATEVER THE INPUT: true; the input reads as it did. -/
def skeletonIsFixedSpec : ChangeSpec := { name := "skeletonIsFixed", fn := fun _ => fun
  | [d] => { results := [.lit (.bool true)], args := [d] }
  | _ => none }
def skeletonIsFixedRow : OpenClaim := { program := "qxb6500914afmt", sum := "8fbd0e3c6c496fdd87434880155b4f1a9febfd7e9926bfa5564771be777b43f1", func := "e2e/orderedlaw.SkeletonIsFixed", spec := "skeletonIsFixed", stops := ["fmt.Sprintf", "fmt.errorf"], inPlace := ["fmt.errorf"], unfollowed := true, recurses := true, plainKeys := false, apart := false }
/-- NO THEOREM (fmt's text is open here; it may be false): for the released tool's asking of the row's closed facts alone. THE STATEMENT IS 'SkeletonIsFixedToldSaid' (Qxb6500914aFmtCards.lean). -/
def SkeletonIsFixedFormAsk : Prop := skeletonIsFixedRow.holds Tryf.pinned (OpenSpec.ofChange skeletonIsFixedSpec)

/-- ITS FALSE NEIGHBOUR: 'it returns false'. Refute it at one input. -/
def skeletonIsFixedWrong : ChangeSpec := { name := "skeletonIsFixed", fn := fun _ => fun
  | [d] => { results := [.lit (.bool false)], args := [d] }
  | _ => none }
def SkeletonIsFixedWrongFormAsk : Prop := skeletonIsFixedRow.holds Tryf.pinned (OpenSpec.ofChange skeletonIsFixedWrong)

end Rows
end Go.Proofs.Qxb6500914aFmt

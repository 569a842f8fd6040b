/-
  No cell of these rows narrows 'for every input' (looked for: loops, veiled, ifaces, maps, wideKeys, modest, calm, conditions, laid).
  DERIVED. THE GIVEN ROWS OF THIS SEAT. 1 by the template 'for every input the law returns true; each argument reads behind the call as it read before'; 0 by the template 'total and deterministic' (their statements: Qxb6500915aTotals.lean).
  GIVEN WITH THE SEED: the statements are not yours to turn. If you find one false, say at which input.
  Laid BY PROGRAM, IN A SANDBOX (cutbox-rows.mjs): the forced cells as the released guide's own fill.sh prints them over the translation 43ea118b7b19347f… (all of the seat's roots in one cut). By AI agents, Wed Nov 11 2026. No macro, syntax, notation, axiom, sorry.
-/
import Derived.Test.Qxb6500915aChecked
import GoSem.Claim
import GoSem.ClaimJoined
import GoSem.ClaimMapViews
import Derived.JoinedTies
import Derived.KernelRfl
namespace Go.Proofs.Qxb6500915a
/- THE CELL 'sum', in the pinned program and in every row, IS THE sha256 OF THE DUMP (.gsa) THAT Qxb6500915aProg.lean LOADS. Nothing in Lean hashes anything: it is a label: what it is worth is what the hold of that sum in a sandbox is worth. -/
noncomputable def Try.pinned : Pinned := { name := "qxb6500915a", sum := "43ea118b7b19347f6f13a65b9508e83203aebfc2dcb05e5401dcc25411e1f9dc", checked := Try.checked }
namespace Rows
def none {H : Type} : Left H := { results := [], args := [] }

/-- 'normlaw.BudgetAdmitsFivePathsNotSix': WHATEVER THE INPUT: true; the input reads as it did. -/
def budgetAdmitsFivePathsNotSixSpec : ChangeSpec := { name := "budgetAdmitsFivePathsNotSix", fn := fun _ => fun
  | [] => { results := [.lit (.bool true)], args := [] }
  | _ => none }
def budgetAdmitsFivePathsNotSixRow : OpenClaim := { program := "qxb6500915a", sum := "43ea118b7b19347f6f13a65b9508e83203aebfc2dcb05e5401dcc25411e1f9dc", func := "e2e/normlaw.BudgetAdmitsFivePathsNotSix", spec := "budgetAdmitsFivePathsNotSix", inPlace := ["internal/bytealg.abigen_runtime_cmpstring"], unfollowed := true, recurses := true, apart := false }
def BudgetAdmitsFivePathsNotSixSaid : Prop := budgetAdmitsFivePathsNotSixRow.holds Try.pinned (OpenSpec.ofChange budgetAdmitsFivePathsNotSixSpec)

/-- ITS FALSE NEIGHBOUR: 'it returns false'. Refute it at one input. -/
def budgetAdmitsFivePathsNotSixWrong : ChangeSpec := { name := "budgetAdmitsFivePathsNotSix", fn := fun _ => fun
  | [] => { results := [.lit (.bool false)], args := [] }
  | _ => none }
def BudgetAdmitsFivePathsNotSixWrongFalsely : Prop := budgetAdmitsFivePathsNotSixRow.holds Try.pinned (OpenSpec.ofChange budgetAdmitsFivePathsNotSixWrong)

end Rows
end Go.Proofs.Qxb6500915a

/-
  No cell of these rows narrows 'for every input' (looked for: loops, veiled, ifaces, maps, wideKeys, modest, calm, conditions, laid).
  DERIVED. THE GIVEN ROWS OF THIS SEAT. 9 by the template 'for every input the law returns true; each argument reads behind the call as it read before'; 0 by the template 'total and deterministic' (their statements: Qxb6500913aTotals.lean).
  GIVEN WITH THE SEED: the statements are not yours to turn. If you find one false, say at which input.
  Laid BY PROGRAM, IN A SANDBOX (cutbox-rows.mjs): the forced cells as the released guide's own fill.sh prints them over the translation 12bbb10c56e060ec… (all of the seat's roots in one cut). By AI agents, Wed Nov 11 2026. No macro, syntax, notation, axiom, sorry.
-/
import Derived.Test.Qxb6500913aChecked
import GoSem.Claim
import GoSem.ClaimJoined
import GoSem.ClaimMapViews
import Derived.JoinedTies
import Derived.KernelRfl
namespace Go.Proofs.Qxb6500913a
/- THE CELL 'sum', in the pinned program and in every row, IS THE sha256 OF THE DUMP (.gsa) THAT Qxb6500913aProg.lean LOADS. Nothing in Lean hashes anything: it is a label: what it is worth is what the hold of that sum in a sandbox is worth. -/
noncomputable def Try.pinned : Pinned := { name := "qxb6500913a", sum := "12bbb10c56e060ec6ed3b433b6775535df0f4119c9b708830f06d42f2a055ce6", checked := Try.checked }
namespace Rows
def none {H : Type} : Left H := { results := [], args := [] }

/-- 'memlaw.RefinesModel': WHATEVER THE INPUT: true; the input reads as it did. -/
def refinesModelSpec : ChangeSpec := { name := "refinesModel", fn := fun _ => fun
  | [d] => { results := [.lit (.bool true)], args := [d] }
  | _ => none }
def refinesModelRow : OpenClaim := { program := "qxb6500913a", sum := "12bbb10c56e060ec6ed3b433b6775535df0f4119c9b708830f06d42f2a055ce6", func := "e2e/memlaw.RefinesModel", spec := "refinesModel", apart := false }
def RefinesModelSaid : Prop := refinesModelRow.holds Try.pinned (OpenSpec.ofChange refinesModelSpec)

/-- ITS FALSE NEIGHBOUR: 'it returns false'. Refute it at one input. -/
def refinesModelWrong : ChangeSpec := { name := "refinesModel", fn := fun _ => fun
  | [d] => { results := [.lit (.bool false)], args := [d] }
  | _ => none }
def RefinesModelWrongFalsely : Prop := refinesModelRow.holds Try.pinned (OpenSpec.ofChange refinesModelWrong)

/-- 'memlaw.AnswersOfAPlainFunction': WHATEVER THE INPUT: true; the input reads as it did. -/
def answersOfAPlainFunctionSpec : ChangeSpec := { name := "answersOfAPlainFunction", fn := fun _ => fun
  | [d] => { results := [.lit (.bool true)], args := [d] }
  | _ => none }
def answersOfAPlainFunctionRow : OpenClaim := { program := "qxb6500913a", sum := "12bbb10c56e060ec6ed3b433b6775535df0f4119c9b708830f06d42f2a055ce6", func := "e2e/memlaw.AnswersOfAPlainFunction", spec := "answersOfAPlainFunction", apart := false }
def AnswersOfAPlainFunctionSaid : Prop := answersOfAPlainFunctionRow.holds Try.pinned (OpenSpec.ofChange answersOfAPlainFunctionSpec)

/-- ITS FALSE NEIGHBOUR: 'it returns false'. Refute it at one input. -/
def answersOfAPlainFunctionWrong : ChangeSpec := { name := "answersOfAPlainFunction", fn := fun _ => fun
  | [d] => { results := [.lit (.bool false)], args := [d] }
  | _ => none }
def AnswersOfAPlainFunctionWrongFalsely : Prop := answersOfAPlainFunctionRow.holds Try.pinned (OpenSpec.ofChange answersOfAPlainFunctionWrong)

/-- 'memlaw.FailedCASChangesNothing': WHATEVER THE INPUT: true; the input reads as it did. -/
def failedCASChangesNothingSpec : ChangeSpec := { name := "failedCASChangesNothing", fn := fun _ => fun
  | [d] => { results := [.lit (.bool true)], args := [d] }
  | _ => none }
def failedCASChangesNothingRow : OpenClaim := { program := "qxb6500913a", sum := "12bbb10c56e060ec6ed3b433b6775535df0f4119c9b708830f06d42f2a055ce6", func := "e2e/memlaw.FailedCASChangesNothing", spec := "failedCASChangesNothing", apart := false }
def FailedCASChangesNothingSaid : Prop := failedCASChangesNothingRow.holds Try.pinned (OpenSpec.ofChange failedCASChangesNothingSpec)

/-- ITS FALSE NEIGHBOUR: 'it returns false'. Refute it at one input. -/
def failedCASChangesNothingWrong : ChangeSpec := { name := "failedCASChangesNothing", fn := fun _ => fun
  | [d] => { results := [.lit (.bool false)], args := [d] }
  | _ => none }
def FailedCASChangesNothingWrongFalsely : Prop := failedCASChangesNothingRow.holds Try.pinned (OpenSpec.ofChange failedCASChangesNothingWrong)

/-- 'memlaw.NeverHandsOutALiveCell': WHATEVER THE INPUT: true; the input reads as it did. -/
def neverHandsOutALiveCellSpec : ChangeSpec := { name := "neverHandsOutALiveCell", fn := fun _ => fun
  | [d] => { results := [.lit (.bool true)], args := [d] }
  | _ => none }
def neverHandsOutALiveCellRow : OpenClaim := { program := "qxb6500913a", sum := "12bbb10c56e060ec6ed3b433b6775535df0f4119c9b708830f06d42f2a055ce6", func := "e2e/memlaw.NeverHandsOutALiveCell", spec := "neverHandsOutALiveCell", apart := false }
def NeverHandsOutALiveCellSaid : Prop := neverHandsOutALiveCellRow.holds Try.pinned (OpenSpec.ofChange neverHandsOutALiveCellSpec)

/-- ITS FALSE NEIGHBOUR: 'it returns false'. Refute it at one input. -/
def neverHandsOutALiveCellWrong : ChangeSpec := { name := "neverHandsOutALiveCell", fn := fun _ => fun
  | [d] => { results := [.lit (.bool false)], args := [d] }
  | _ => none }
def NeverHandsOutALiveCellWrongFalsely : Prop := neverHandsOutALiveCellRow.holds Try.pinned (OpenSpec.ofChange neverHandsOutALiveCellWrong)

/-- 'memlaw.ReuseRaisesTheGeneration': WHATEVER THE INPUT: true; the input reads as it did. -/
def reuseRaisesTheGenerationSpec : ChangeSpec := { name := "reuseRaisesTheGeneration", fn := fun _ => fun
  | [d] => { results := [.lit (.bool true)], args := [d] }
  | _ => none }
def reuseRaisesTheGenerationRow : OpenClaim := { program := "qxb6500913a", sum := "12bbb10c56e060ec6ed3b433b6775535df0f4119c9b708830f06d42f2a055ce6", func := "e2e/memlaw.ReuseRaisesTheGeneration", spec := "reuseRaisesTheGeneration", apart := false }
def ReuseRaisesTheGenerationSaid : Prop := reuseRaisesTheGenerationRow.holds Try.pinned (OpenSpec.ofChange reuseRaisesTheGenerationSpec)

/-- ITS FALSE NEIGHBOUR: 'it returns false'. Refute it at one input. -/
def reuseRaisesTheGenerationWrong : ChangeSpec := { name := "reuseRaisesTheGeneration", fn := fun _ => fun
  | [d] => { results := [.lit (.bool false)], args := [d] }
  | _ => none }
def ReuseRaisesTheGenerationWrongFalsely : Prop := reuseRaisesTheGenerationRow.holds Try.pinned (OpenSpec.ofChange reuseRaisesTheGenerationWrong)

/-- 'memlaw.ExhaustedAllocRefusesAndChangesNothing': WHATEVER THE INPUT: true; the input reads as it did. -/
def exhaustedAllocRefusesAndChangesNothingSpec : ChangeSpec := { name := "exhaustedAllocRefusesAndChangesNothing", fn := fun _ => fun
  | [d] => { results := [.lit (.bool true)], args := [d] }
  | _ => none }
def exhaustedAllocRefusesAndChangesNothingRow : OpenClaim := { program := "qxb6500913a", sum := "12bbb10c56e060ec6ed3b433b6775535df0f4119c9b708830f06d42f2a055ce6", func := "e2e/memlaw.ExhaustedAllocRefusesAndChangesNothing", spec := "exhaustedAllocRefusesAndChangesNothing", apart := false }
def ExhaustedAllocRefusesAndChangesNothingSaid : Prop := exhaustedAllocRefusesAndChangesNothingRow.holds Try.pinned (OpenSpec.ofChange exhaustedAllocRefusesAndChangesNothingSpec)

/-- ITS FALSE NEIGHBOUR: 'it returns false'. Refute it at one input. -/
def exhaustedAllocRefusesAndChangesNothingWrong : ChangeSpec := { name := "exhaustedAllocRefusesAndChangesNothing", fn := fun _ => fun
  | [d] => { results := [.lit (.bool false)], args := [d] }
  | _ => none }
def ExhaustedAllocRefusesAndChangesNothingWrongFalsely : Prop := exhaustedAllocRefusesAndChangesNothingRow.holds Try.pinned (OpenSpec.ofChange exhaustedAllocRefusesAndChangesNothingWrong)

/-- 'memlaw.DoubleFreeIsRefused': WHATEVER THE INPUT: true; the input reads as it did. -/
def doubleFreeIsRefusedSpec : ChangeSpec := { name := "doubleFreeIsRefused", fn := fun _ => fun
  | [d] => { results := [.lit (.bool true)], args := [d] }
  | _ => none }
def doubleFreeIsRefusedRow : OpenClaim := { program := "qxb6500913a", sum := "12bbb10c56e060ec6ed3b433b6775535df0f4119c9b708830f06d42f2a055ce6", func := "e2e/memlaw.DoubleFreeIsRefused", spec := "doubleFreeIsRefused", apart := false }
def DoubleFreeIsRefusedSaid : Prop := doubleFreeIsRefusedRow.holds Try.pinned (OpenSpec.ofChange doubleFreeIsRefusedSpec)

/-- ITS FALSE NEIGHBOUR: 'it returns false'. Refute it at one input. -/
def doubleFreeIsRefusedWrong : ChangeSpec := { name := "doubleFreeIsRefused", fn := fun _ => fun
  | [d] => { results := [.lit (.bool false)], args := [d] }
  | _ => none }
def DoubleFreeIsRefusedWrongFalsely : Prop := doubleFreeIsRefusedRow.holds Try.pinned (OpenSpec.ofChange doubleFreeIsRefusedWrong)

/-- 'memlaw.RefusalsChangeNothing': WHATEVER THE INPUT: true; the input reads as it did. -/
def refusalsChangeNothingSpec : ChangeSpec := { name := "refusalsChangeNothing", fn := fun _ => fun
  | [d] => { results := [.lit (.bool true)], args := [d] }
  | _ => none }
def refusalsChangeNothingRow : OpenClaim := { program := "qxb6500913a", sum := "12bbb10c56e060ec6ed3b433b6775535df0f4119c9b708830f06d42f2a055ce6", func := "e2e/memlaw.RefusalsChangeNothing", spec := "refusalsChangeNothing", apart := false }
def RefusalsChangeNothingSaid : Prop := refusalsChangeNothingRow.holds Try.pinned (OpenSpec.ofChange refusalsChangeNothingSpec)

/-- ITS FALSE NEIGHBOUR: 'it returns false'. Refute it at one input. -/
def refusalsChangeNothingWrong : ChangeSpec := { name := "refusalsChangeNothing", fn := fun _ => fun
  | [d] => { results := [.lit (.bool false)], args := [d] }
  | _ => none }
def RefusalsChangeNothingWrongFalsely : Prop := refusalsChangeNothingRow.holds Try.pinned (OpenSpec.ofChange refusalsChangeNothingWrong)

/-- 'memlaw.Deterministic': WHATEVER THE INPUT: true; the input reads as it did. -/
def deterministicSpec : ChangeSpec := { name := "deterministic", fn := fun _ => fun
  | [d] => { results := [.lit (.bool true)], args := [d] }
  | _ => none }
def deterministicRow : OpenClaim := { program := "qxb6500913a", sum := "12bbb10c56e060ec6ed3b433b6775535df0f4119c9b708830f06d42f2a055ce6", func := "e2e/memlaw.Deterministic", spec := "deterministic", unfollowed := true, recurses := true, apart := false }
def DeterministicSaid : Prop := deterministicRow.holds Try.pinned (OpenSpec.ofChange deterministicSpec)

/-- ITS FALSE NEIGHBOUR: 'it returns false'. Refute it at one input. -/
def deterministicWrong : ChangeSpec := { name := "deterministic", fn := fun _ => fun
  | [d] => { results := [.lit (.bool false)], args := [d] }
  | _ => none }
def DeterministicWrongFalsely : Prop := deterministicRow.holds Try.pinned (OpenSpec.ofChange deterministicWrong)

end Rows
end Go.Proofs.Qxb6500913a

/-
  No cell of these rows narrows 'for every input' (looked for: loops, veiled, ifaces, maps, wideKeys, modest, calm, conditions, laid).
  DERIVED. THE GIVEN ROWS OF THIS SEAT. 5 by the template 'for every input the law returns true; each argument reads behind the call as it read before'; 0 by the template 'total and deterministic' (their statements: Qxb6500908aTotals.lean).
  GIVEN WITH THE SEED: the statements are not yours to turn. If you find one false, say at which input.
  Laid BY PROGRAM, IN A SANDBOX (cutbox-rows.mjs): the forced cells as the released guide's own fill.sh prints them over the translation 29a386123f60d9e8… (all of the seat's roots in one cut). By AI agents, Wed Nov 11 2026. No macro, syntax, notation, axiom, sorry.
-/
import Derived.Test.Qxb6500908aChecked
import GoSem.Claim
import GoSem.ClaimJoined
import GoSem.ClaimMapViews
import Derived.JoinedTies
import Derived.KernelRfl
namespace Go.Proofs.Qxb6500908a
/- THE CELL 'sum', in the pinned program and in every row, IS THE sha256 OF THE DUMP (.gsa) THAT Qxb6500908aProg.lean LOADS. Nothing in Lean hashes anything: it is a label: what it is worth is what the hold of that sum in a sandbox is worth. -/
noncomputable def Try.pinned : Pinned := { name := "qxb6500908a", sum := "29a386123f60d9e88435f00b2c5e9a0f34a7372be06adf795fcb15006325376b", checked := Try.checked }
namespace Rows
def none {H : Type} : Left H := { results := [], args := [] }

/-- 'gatelaw.CommitNeedsVotesAndDecision': WHATEVER THE INPUT: true; the input reads as it did. -/
def commitNeedsVotesAndDecisionSpec : ChangeSpec := { name := "commitNeedsVotesAndDecision", fn := fun _ => fun
  | [d] => { results := [.lit (.bool true)], args := [d] }
  | _ => none }
def commitNeedsVotesAndDecisionRow : OpenClaim := { program := "qxb6500908a", sum := "29a386123f60d9e88435f00b2c5e9a0f34a7372be06adf795fcb15006325376b", func := "e2e/gatelaw.CommitNeedsVotesAndDecision", spec := "commitNeedsVotesAndDecision", unfollowed := true, recurses := true, apart := false }
def CommitNeedsVotesAndDecisionSaid : Prop := commitNeedsVotesAndDecisionRow.holds Try.pinned (OpenSpec.ofChange commitNeedsVotesAndDecisionSpec)

/-- ITS FALSE NEIGHBOUR: 'it returns false'. Refute it at one input. -/
def commitNeedsVotesAndDecisionWrong : ChangeSpec := { name := "commitNeedsVotesAndDecision", fn := fun _ => fun
  | [d] => { results := [.lit (.bool false)], args := [d] }
  | _ => none }
def CommitNeedsVotesAndDecisionWrongFalsely : Prop := commitNeedsVotesAndDecisionRow.holds Try.pinned (OpenSpec.ofChange commitNeedsVotesAndDecisionWrong)

/-- 'gatelaw.RecoveryResendsAndQueries': WHATEVER THE INPUT: true; the input reads as it did. -/
def recoveryResendsAndQueriesSpec : ChangeSpec := { name := "recoveryResendsAndQueries", fn := fun _ => fun
  | [d] => { results := [.lit (.bool true)], args := [d] }
  | _ => none }
def recoveryResendsAndQueriesRow : OpenClaim := { program := "qxb6500908a", sum := "29a386123f60d9e88435f00b2c5e9a0f34a7372be06adf795fcb15006325376b", func := "e2e/gatelaw.RecoveryResendsAndQueries", spec := "recoveryResendsAndQueries", unfollowed := true, recurses := true, apart := false }
def RecoveryResendsAndQueriesSaid : Prop := recoveryResendsAndQueriesRow.holds Try.pinned (OpenSpec.ofChange recoveryResendsAndQueriesSpec)

/-- ITS FALSE NEIGHBOUR: 'it returns false'. Refute it at one input. -/
def recoveryResendsAndQueriesWrong : ChangeSpec := { name := "recoveryResendsAndQueries", fn := fun _ => fun
  | [d] => { results := [.lit (.bool false)], args := [d] }
  | _ => none }
def RecoveryResendsAndQueriesWrongFalsely : Prop := recoveryResendsAndQueriesRow.holds Try.pinned (OpenSpec.ofChange recoveryResendsAndQueriesWrong)

/-- 'gatelaw.DevicesRunOldOrNew': WHATEVER THE INPUT: true; the input reads as it did. -/
def devicesRunOldOrNewSpec : ChangeSpec := { name := "devicesRunOldOrNew", fn := fun _ => fun
  | [d] => { results := [.lit (.bool true)], args := [d] }
  | _ => none }
def devicesRunOldOrNewRow : OpenClaim := { program := "qxb6500908a", sum := "29a386123f60d9e88435f00b2c5e9a0f34a7372be06adf795fcb15006325376b", func := "e2e/gatelaw.DevicesRunOldOrNew", spec := "devicesRunOldOrNew", unfollowed := true, recurses := true, apart := false }
def DevicesRunOldOrNewSaid : Prop := devicesRunOldOrNewRow.holds Try.pinned (OpenSpec.ofChange devicesRunOldOrNewSpec)

/-- ITS FALSE NEIGHBOUR: 'it returns false'. Refute it at one input. -/
def devicesRunOldOrNewWrong : ChangeSpec := { name := "devicesRunOldOrNew", fn := fun _ => fun
  | [d] => { results := [.lit (.bool false)], args := [d] }
  | _ => none }
def DevicesRunOldOrNewWrongFalsely : Prop := devicesRunOldOrNewRow.holds Try.pinned (OpenSpec.ofChange devicesRunOldOrNewWrong)

/-- 'gatelaw.FairSuffixDrains': WHATEVER THE INPUT: true; the input reads as it did. -/
def fairSuffixDrainsSpec : ChangeSpec := { name := "fairSuffixDrains", fn := fun _ => fun
  | [d] => { results := [.lit (.bool true)], args := [d] }
  | _ => none }
def fairSuffixDrainsRow : OpenClaim := { program := "qxb6500908a", sum := "29a386123f60d9e88435f00b2c5e9a0f34a7372be06adf795fcb15006325376b", func := "e2e/gatelaw.FairSuffixDrains", spec := "fairSuffixDrains", unfollowed := true, recurses := true, apart := false }
def FairSuffixDrainsSaid : Prop := fairSuffixDrainsRow.holds Try.pinned (OpenSpec.ofChange fairSuffixDrainsSpec)

/-- ITS FALSE NEIGHBOUR: 'it returns false'. Refute it at one input. -/
def fairSuffixDrainsWrong : ChangeSpec := { name := "fairSuffixDrains", fn := fun _ => fun
  | [d] => { results := [.lit (.bool false)], args := [d] }
  | _ => none }
def FairSuffixDrainsWrongFalsely : Prop := fairSuffixDrainsRow.holds Try.pinned (OpenSpec.ofChange fairSuffixDrainsWrong)

/-- 'gatelaw.WhatWasToldStays': WHATEVER THE INPUT: true; the input reads as it did. -/
def whatWasToldStaysSpec : ChangeSpec := { name := "whatWasToldStays", fn := fun _ => fun
  | [d] => { results := [.lit (.bool true)], args := [d] }
  | _ => none }
def whatWasToldStaysRow : OpenClaim := { program := "qxb6500908a", sum := "29a386123f60d9e88435f00b2c5e9a0f34a7372be06adf795fcb15006325376b", func := "e2e/gatelaw.WhatWasToldStays", spec := "whatWasToldStays", unfollowed := true, recurses := true, apart := false }
def WhatWasToldStaysSaid : Prop := whatWasToldStaysRow.holds Try.pinned (OpenSpec.ofChange whatWasToldStaysSpec)

/-- ITS FALSE NEIGHBOUR: 'it returns false'. Refute it at one input. -/
def whatWasToldStaysWrong : ChangeSpec := { name := "whatWasToldStays", fn := fun _ => fun
  | [d] => { results := [.lit (.bool false)], args := [d] }
  | _ => none }
def WhatWasToldStaysWrongFalsely : Prop := whatWasToldStaysRow.holds Try.pinned (OpenSpec.ofChange whatWasToldStaysWrong)

end Rows
end Go.Proofs.Qxb6500908a

/-
  No cell of these rows narrows 'for every input' (looked for: loops, veiled, ifaces, maps, wideKeys, modest, calm, conditions, laid).
  DERIVED. THE GIVEN ROWS OF THIS SEAT. 8 by the template 'for every input the law returns true; each argument reads behind the call as it read before'; 0 by the template 'total and deterministic' (their statements: Qxb6500914aTotals.lean).
  GIVEN WITH THE SEED: the statements are not yours to turn. If you find one false, say at which input.
  Laid BY PROGRAM, IN A SANDBOX (cutbox-rows.mjs): the forced cells as the released guide's own fill.sh prints them over the translation 89eccb05727de885… (all of the seat's roots in one cut). By AI agents, Wed Nov 11 2026. No macro, syntax, notation, axiom, sorry.
-/
import Derived.Test.Qxb6500914aChecked
import GoSem.Claim
import GoSem.ClaimJoined
import GoSem.ClaimMapViews
import Derived.JoinedTies
import Derived.KernelRfl
namespace Go.Proofs.Qxb6500914a
/- THE CELL 'sum', in the pinned program and in every row, IS THE sha256 OF THE DUMP (.gsa) THAT Qxb6500914aProg.lean LOADS. Nothing in Lean hashes anything: it is a label: what it is worth is what the hold of that sum in a sandbox is worth. -/
noncomputable def Try.pinned : Pinned := { name := "qxb6500914a", sum := "89eccb05727de88511e3b3f3fbd7278348a0e9d13641002c9bc6a1112163500e", checked := Try.checked }
namespace Rows
def none {H : Type} : Left H := { results := [], args := [] }

/-- 'orderedlaw.RefusalsAreHonest': WHATEVER THE INPUT: true; the input reads as it did. -/
def refusalsAreHonestSpec : ChangeSpec := { name := "refusalsAreHonest", fn := fun _ => fun
  | [d] => { results := [.lit (.bool true)], args := [d] }
  | _ => none }
def refusalsAreHonestRow : OpenClaim := { program := "qxb6500914a", sum := "89eccb05727de88511e3b3f3fbd7278348a0e9d13641002c9bc6a1112163500e", func := "e2e/orderedlaw.RefusalsAreHonest", spec := "refusalsAreHonest", unfollowed := true, recurses := true, apart := false }
def RefusalsAreHonestSaid : Prop := refusalsAreHonestRow.holds Try.pinned (OpenSpec.ofChange refusalsAreHonestSpec)

/-- ITS FALSE NEIGHBOUR: 'it returns false'. Refute it at one input. -/
def refusalsAreHonestWrong : ChangeSpec := { name := "refusalsAreHonest", fn := fun _ => fun
  | [d] => { results := [.lit (.bool false)], args := [d] }
  | _ => none }
def RefusalsAreHonestWrongFalsely : Prop := refusalsAreHonestRow.holds Try.pinned (OpenSpec.ofChange refusalsAreHonestWrong)

/-- 'orderedlaw.NothingComesBeforeItIsDue': WHATEVER THE INPUT: true; the input reads as it did. -/
def nothingComesBeforeItIsDueSpec : ChangeSpec := { name := "nothingComesBeforeItIsDue", fn := fun _ => fun
  | [d] => { results := [.lit (.bool true)], args := [d] }
  | _ => none }
def nothingComesBeforeItIsDueRow : OpenClaim := { program := "qxb6500914a", sum := "89eccb05727de88511e3b3f3fbd7278348a0e9d13641002c9bc6a1112163500e", func := "e2e/orderedlaw.NothingComesBeforeItIsDue", spec := "nothingComesBeforeItIsDue", unfollowed := true, recurses := true, apart := false }
def NothingComesBeforeItIsDueSaid : Prop := nothingComesBeforeItIsDueRow.holds Try.pinned (OpenSpec.ofChange nothingComesBeforeItIsDueSpec)

/-- ITS FALSE NEIGHBOUR: 'it returns false'. Refute it at one input. -/
def nothingComesBeforeItIsDueWrong : ChangeSpec := { name := "nothingComesBeforeItIsDue", fn := fun _ => fun
  | [d] => { results := [.lit (.bool false)], args := [d] }
  | _ => none }
def NothingComesBeforeItIsDueWrongFalsely : Prop := nothingComesBeforeItIsDueRow.holds Try.pinned (OpenSpec.ofChange nothingComesBeforeItIsDueWrong)

/-- 'orderedlaw.WritesOnlyItsOwn': WHATEVER THE INPUT: true; the input reads as it did. -/
def writesOnlyItsOwnSpec : ChangeSpec := { name := "writesOnlyItsOwn", fn := fun _ => fun
  | [d] => { results := [.lit (.bool true)], args := [d] }
  | _ => none }
def writesOnlyItsOwnRow : OpenClaim := { program := "qxb6500914a", sum := "89eccb05727de88511e3b3f3fbd7278348a0e9d13641002c9bc6a1112163500e", func := "e2e/orderedlaw.WritesOnlyItsOwn", spec := "writesOnlyItsOwn", unfollowed := true, recurses := true, apart := false }
def WritesOnlyItsOwnSaid : Prop := writesOnlyItsOwnRow.holds Try.pinned (OpenSpec.ofChange writesOnlyItsOwnSpec)

/-- ITS FALSE NEIGHBOUR: 'it returns false'. Refute it at one input. -/
def writesOnlyItsOwnWrong : ChangeSpec := { name := "writesOnlyItsOwn", fn := fun _ => fun
  | [d] => { results := [.lit (.bool false)], args := [d] }
  | _ => none }
def WritesOnlyItsOwnWrongFalsely : Prop := writesOnlyItsOwnRow.holds Try.pinned (OpenSpec.ofChange writesOnlyItsOwnWrong)

/-- 'orderedlaw.StaysInItsSkeleton': WHATEVER THE INPUT: true; the input reads as it did. -/
def staysInItsSkeletonSpec : ChangeSpec := { name := "staysInItsSkeleton", fn := fun _ => fun
  | [d] => { results := [.lit (.bool true)], args := [d] }
  | _ => none }
def staysInItsSkeletonRow : OpenClaim := { program := "qxb6500914a", sum := "89eccb05727de88511e3b3f3fbd7278348a0e9d13641002c9bc6a1112163500e", func := "e2e/orderedlaw.StaysInItsSkeleton", spec := "staysInItsSkeleton", unfollowed := true, recurses := true, apart := false }
def StaysInItsSkeletonSaid : Prop := staysInItsSkeletonRow.holds Try.pinned (OpenSpec.ofChange staysInItsSkeletonSpec)

/-- ITS FALSE NEIGHBOUR: 'it returns false'. Refute it at one input. -/
def staysInItsSkeletonWrong : ChangeSpec := { name := "staysInItsSkeleton", fn := fun _ => fun
  | [d] => { results := [.lit (.bool false)], args := [d] }
  | _ => none }
def StaysInItsSkeletonWrongFalsely : Prop := staysInItsSkeletonRow.holds Try.pinned (OpenSpec.ofChange staysInItsSkeletonWrong)

/-- 'orderedlaw.SoloReturns': WHATEVER THE INPUT: true; the input reads as it did. -/
def soloReturnsSpec : ChangeSpec := { name := "soloReturns", fn := fun _ => fun
  | [d] => { results := [.lit (.bool true)], args := [d] }
  | _ => none }
def soloReturnsRow : OpenClaim := { program := "qxb6500914a", sum := "89eccb05727de88511e3b3f3fbd7278348a0e9d13641002c9bc6a1112163500e", func := "e2e/orderedlaw.SoloReturns", spec := "soloReturns", unfollowed := true, recurses := true, apart := false }
def SoloReturnsSaid : Prop := soloReturnsRow.holds Try.pinned (OpenSpec.ofChange soloReturnsSpec)

/-- ITS FALSE NEIGHBOUR: 'it returns false'. Refute it at one input. -/
def soloReturnsWrong : ChangeSpec := { name := "soloReturns", fn := fun _ => fun
  | [d] => { results := [.lit (.bool false)], args := [d] }
  | _ => none }
def SoloReturnsWrongFalsely : Prop := soloReturnsRow.holds Try.pinned (OpenSpec.ofChange soloReturnsWrong)

/-- 'orderedlaw.SomeoneReturns': WHATEVER THE INPUT: true; the input reads as it did. -/
def someoneReturnsSpec : ChangeSpec := { name := "someoneReturns", fn := fun _ => fun
  | [d] => { results := [.lit (.bool true)], args := [d] }
  | _ => none }
def someoneReturnsRow : OpenClaim := { program := "qxb6500914a", sum := "89eccb05727de88511e3b3f3fbd7278348a0e9d13641002c9bc6a1112163500e", func := "e2e/orderedlaw.SomeoneReturns", spec := "someoneReturns", unfollowed := true, recurses := true, apart := false }
def SomeoneReturnsSaid : Prop := someoneReturnsRow.holds Try.pinned (OpenSpec.ofChange someoneReturnsSpec)

/-- ITS FALSE NEIGHBOUR: 'it returns false'. Refute it at one input. -/
def someoneReturnsWrong : ChangeSpec := { name := "someoneReturns", fn := fun _ => fun
  | [d] => { results := [.lit (.bool false)], args := [d] }
  | _ => none }
def SomeoneReturnsWrongFalsely : Prop := someoneReturnsRow.holds Try.pinned (OpenSpec.ofChange someoneReturnsWrong)

/-- 'orderedlaw.RunOutEnds': WHATEVER THE INPUT: true; the input reads as it did. -/
def runOutEndsSpec : ChangeSpec := { name := "runOutEnds", fn := fun _ => fun
  | [d] => { results := [.lit (.bool true)], args := [d] }
  | _ => none }
def runOutEndsRow : OpenClaim := { program := "qxb6500914a", sum := "89eccb05727de88511e3b3f3fbd7278348a0e9d13641002c9bc6a1112163500e", func := "e2e/orderedlaw.RunOutEnds", spec := "runOutEnds", unfollowed := true, recurses := true, apart := false }
def RunOutEndsSaid : Prop := runOutEndsRow.holds Try.pinned (OpenSpec.ofChange runOutEndsSpec)

/-- ITS FALSE NEIGHBOUR: 'it returns false'. Refute it at one input. -/
def runOutEndsWrong : ChangeSpec := { name := "runOutEnds", fn := fun _ => fun
  | [d] => { results := [.lit (.bool false)], args := [d] }
  | _ => none }
def RunOutEndsWrongFalsely : Prop := runOutEndsRow.holds Try.pinned (OpenSpec.ofChange runOutEndsWrong)

/-- 'orderedlaw.ClonesRunAlike': WHATEVER THE INPUT: true; the input reads as it did. -/
def clonesRunAlikeSpec : ChangeSpec := { name := "clonesRunAlike", fn := fun _ => fun
  | [d] => { results := [.lit (.bool true)], args := [d] }
  | _ => none }
def clonesRunAlikeRow : OpenClaim := { program := "qxb6500914a", sum := "89eccb05727de88511e3b3f3fbd7278348a0e9d13641002c9bc6a1112163500e", func := "e2e/orderedlaw.ClonesRunAlike", spec := "clonesRunAlike", unfollowed := true, recurses := true, apart := false }
def ClonesRunAlikeSaid : Prop := clonesRunAlikeRow.holds Try.pinned (OpenSpec.ofChange clonesRunAlikeSpec)

/-- ITS FALSE NEIGHBOUR: 'it returns false'. Refute it at one input. -/
def clonesRunAlikeWrong : ChangeSpec := { name := "clonesRunAlike", fn := fun _ => fun
  | [d] => { results := [.lit (.bool false)], args := [d] }
  | _ => none }
def ClonesRunAlikeWrongFalsely : Prop := clonesRunAlikeRow.holds Try.pinned (OpenSpec.ofChange clonesRunAlikeWrong)

end Rows
end Go.Proofs.Qxb6500914a

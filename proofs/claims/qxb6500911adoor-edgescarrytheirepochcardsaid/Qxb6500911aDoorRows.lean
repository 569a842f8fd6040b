/-
  NARROWER THAN 'FOR EVERY INPUT', by the rows' own cells (each row's printed sentence says how): QuietShardsEqualTheTables: laid · EdgesCarryTheirEpoch: laid · OnlyThePresentEpochIsFollowed: laid · ArrivalOrderDoesNotMatter: laid · RemovalMayOvertakeInsertion: laid · RefusalsChangeNothing: laid · BurstsFit: laid · StrangeMessagesAreRefused: laid.
  DERIVED. THE GIVEN ROWS OF THIS SEAT. 8 by the template 'for every input the law returns true; each argument reads behind the call as it read before'; 0 by the template 'total and deterministic' (their statements: Qxb6500911aDoorTotals.lean).
  GIVEN WITH THE SEED: the statements are not yours to turn. If you find one false, say at which input.
  Laid BY PROGRAM, IN A SANDBOX (cutbox-rows.mjs): the forced cells as the released guide's own fill.sh prints them over the translation c2fb57ae87cddf23… (all of the seat's roots in one cut). By AI agents, Wed Nov 11 2026. No macro, syntax, notation, axiom, sorry.
-/
import Derived.Test.Qxb6500911aDoorChecked
import GoSem.Claim
import GoSem.ClaimJoined
import GoSem.ClaimMapViews
import Derived.JoinedTies
import Derived.KernelRfl
namespace Go.Proofs.Qxb6500911aDoor
/- THE CELL 'sum', in the pinned program and in every row, IS THE sha256 OF THE DUMP (.gsa) THAT Qxb6500911aDoorProg.lean LOADS. Nothing in Lean hashes anything: it is a label: what it is worth is what the hold of that sum in a sandbox is worth. -/
noncomputable def Tryd.pinned : Pinned := { name := "qxb6500911adoor", sum := "c2fb57ae87cddf230db743397ff659eda22b1f8fd82f3b15cc8141cedcf4329b", checked := Tryd.checked }
namespace Rows
def none {H : Type} : Left H := { results := [], args := [] }

/- WHAT THE LISTED PACKAGE-LEVEL VARIABLES READ AS WHEN THE CALL BEGINS. Each datum BY PROGRAM (the guide's laid-datum.mjs) off the statement by which the dump's own 'gosem.cut.vars' lays the variable. In a bare row this is a premise. The card (Qxb6500911aDoorCards.lean) ties it to the program's text. -/
def laid_math_bits_deBruijn32tab {H : Type} : DataW H := .agg [.lit (.int .u8 0), .lit (.int .u8 1), .lit (.int .u8 28), .lit (.int .u8 2), .lit (.int .u8 29), .lit (.int .u8 14), .lit (.int .u8 24), .lit (.int .u8 3), .lit (.int .u8 30), .lit (.int .u8 22), .lit (.int .u8 20), .lit (.int .u8 15), .lit (.int .u8 25), .lit (.int .u8 17), .lit (.int .u8 4), .lit (.int .u8 8), .lit (.int .u8 31), .lit (.int .u8 27), .lit (.int .u8 13), .lit (.int .u8 23), .lit (.int .u8 21), .lit (.int .u8 19), .lit (.int .u8 16), .lit (.int .u8 7), .lit (.int .u8 26), .lit (.int .u8 12), .lit (.int .u8 18), .lit (.int .u8 6), .lit (.int .u8 11), .lit (.int .u8 5), .lit (.int .u8 10), .lit (.int .u8 9)]

/-- 'waitgraphlaw.QuietShardsEqualTheTables': WHATEVER THE INPUT: true; the input reads as it did. -/
def quietShardsEqualTheTablesSpec : ChangeSpec := { name := "quietShardsEqualTheTables", fn := fun _ => fun
  | [d] => { results := [.lit (.bool true)], args := [d] }
  | _ => none }
def quietShardsEqualTheTablesRow : OpenClaim := { program := "qxb6500911adoor", sum := "c2fb57ae87cddf230db743397ff659eda22b1f8fd82f3b15cc8141cedcf4329b", func := "e2e/waitgraphlaw.QuietShardsEqualTheTables", spec := "quietShardsEqualTheTables", inPlace := ["slices.overlaps[e2e/waitgraph.wait]"], unfollowed := true, recurses := true, named := ["math/bits.deBruijn32tab"], plainKeys := false, apart := false, laid := [("math/bits.deBruijn32tab", laid_math_bits_deBruijn32tab)] }
def QuietShardsEqualTheTablesSaid : Prop := quietShardsEqualTheTablesRow.holds Tryd.pinned (OpenSpec.ofChange quietShardsEqualTheTablesSpec)

/-- ITS FALSE NEIGHBOUR: 'it returns false'. Refute it at one input. -/
def quietShardsEqualTheTablesWrong : ChangeSpec := { name := "quietShardsEqualTheTables", fn := fun _ => fun
  | [d] => { results := [.lit (.bool false)], args := [d] }
  | _ => none }
def QuietShardsEqualTheTablesWrongFalsely : Prop := quietShardsEqualTheTablesRow.holds Tryd.pinned (OpenSpec.ofChange quietShardsEqualTheTablesWrong)

/-- 'waitgraphlaw.EdgesCarryTheirEpoch': WHATEVER THE INPUT: true; the input reads as it did. -/
def edgesCarryTheirEpochSpec : ChangeSpec := { name := "edgesCarryTheirEpoch", fn := fun _ => fun
  | [d] => { results := [.lit (.bool true)], args := [d] }
  | _ => none }
def edgesCarryTheirEpochRow : OpenClaim := { program := "qxb6500911adoor", sum := "c2fb57ae87cddf230db743397ff659eda22b1f8fd82f3b15cc8141cedcf4329b", func := "e2e/waitgraphlaw.EdgesCarryTheirEpoch", spec := "edgesCarryTheirEpoch", inPlace := ["slices.overlaps[e2e/waitgraph.wait]"], unfollowed := true, recurses := true, named := ["math/bits.deBruijn32tab"], plainKeys := false, apart := false, laid := [("math/bits.deBruijn32tab", laid_math_bits_deBruijn32tab)] }
def EdgesCarryTheirEpochSaid : Prop := edgesCarryTheirEpochRow.holds Tryd.pinned (OpenSpec.ofChange edgesCarryTheirEpochSpec)

/-- ITS FALSE NEIGHBOUR: 'it returns false'. Refute it at one input. -/
def edgesCarryTheirEpochWrong : ChangeSpec := { name := "edgesCarryTheirEpoch", fn := fun _ => fun
  | [d] => { results := [.lit (.bool false)], args := [d] }
  | _ => none }
def EdgesCarryTheirEpochWrongFalsely : Prop := edgesCarryTheirEpochRow.holds Tryd.pinned (OpenSpec.ofChange edgesCarryTheirEpochWrong)

/-- 'waitgraphlaw.OnlyThePresentEpochIsFollowed': WHATEVER THE INPUT: true; the input reads as it did. -/
def onlyThePresentEpochIsFollowedSpec : ChangeSpec := { name := "onlyThePresentEpochIsFollowed", fn := fun _ => fun
  | [d] => { results := [.lit (.bool true)], args := [d] }
  | _ => none }
def onlyThePresentEpochIsFollowedRow : OpenClaim := { program := "qxb6500911adoor", sum := "c2fb57ae87cddf230db743397ff659eda22b1f8fd82f3b15cc8141cedcf4329b", func := "e2e/waitgraphlaw.OnlyThePresentEpochIsFollowed", spec := "onlyThePresentEpochIsFollowed", inPlace := ["slices.overlaps[e2e/waitgraph.wait]"], unfollowed := true, recurses := true, named := ["math/bits.deBruijn32tab"], plainKeys := false, apart := false, laid := [("math/bits.deBruijn32tab", laid_math_bits_deBruijn32tab)] }
def OnlyThePresentEpochIsFollowedSaid : Prop := onlyThePresentEpochIsFollowedRow.holds Tryd.pinned (OpenSpec.ofChange onlyThePresentEpochIsFollowedSpec)

/-- ITS FALSE NEIGHBOUR: 'it returns false'. Refute it at one input. -/
def onlyThePresentEpochIsFollowedWrong : ChangeSpec := { name := "onlyThePresentEpochIsFollowed", fn := fun _ => fun
  | [d] => { results := [.lit (.bool false)], args := [d] }
  | _ => none }
def OnlyThePresentEpochIsFollowedWrongFalsely : Prop := onlyThePresentEpochIsFollowedRow.holds Tryd.pinned (OpenSpec.ofChange onlyThePresentEpochIsFollowedWrong)

/-- 'waitgraphlaw.ArrivalOrderDoesNotMatter': WHATEVER THE INPUT: true; the input reads as it did. -/
def arrivalOrderDoesNotMatterSpec : ChangeSpec := { name := "arrivalOrderDoesNotMatter", fn := fun _ => fun
  | [d] => { results := [.lit (.bool true)], args := [d] }
  | _ => none }
def arrivalOrderDoesNotMatterRow : OpenClaim := { program := "qxb6500911adoor", sum := "c2fb57ae87cddf230db743397ff659eda22b1f8fd82f3b15cc8141cedcf4329b", func := "e2e/waitgraphlaw.ArrivalOrderDoesNotMatter", spec := "arrivalOrderDoesNotMatter", inPlace := ["slices.overlaps[e2e/waitgraph.wait]"], unfollowed := true, recurses := true, named := ["math/bits.deBruijn32tab"], plainKeys := false, apart := false, laid := [("math/bits.deBruijn32tab", laid_math_bits_deBruijn32tab)] }
def ArrivalOrderDoesNotMatterSaid : Prop := arrivalOrderDoesNotMatterRow.holds Tryd.pinned (OpenSpec.ofChange arrivalOrderDoesNotMatterSpec)

/-- ITS FALSE NEIGHBOUR: 'it returns false'. Refute it at one input. -/
def arrivalOrderDoesNotMatterWrong : ChangeSpec := { name := "arrivalOrderDoesNotMatter", fn := fun _ => fun
  | [d] => { results := [.lit (.bool false)], args := [d] }
  | _ => none }
def ArrivalOrderDoesNotMatterWrongFalsely : Prop := arrivalOrderDoesNotMatterRow.holds Tryd.pinned (OpenSpec.ofChange arrivalOrderDoesNotMatterWrong)

/-- 'waitgraphlaw.RemovalMayOvertakeInsertion': WHATEVER THE INPUT: true; the input reads as it did. -/
def removalMayOvertakeInsertionSpec : ChangeSpec := { name := "removalMayOvertakeInsertion", fn := fun _ => fun
  | [d] => { results := [.lit (.bool true)], args := [d] }
  | _ => none }
def removalMayOvertakeInsertionRow : OpenClaim := { program := "qxb6500911adoor", sum := "c2fb57ae87cddf230db743397ff659eda22b1f8fd82f3b15cc8141cedcf4329b", func := "e2e/waitgraphlaw.RemovalMayOvertakeInsertion", spec := "removalMayOvertakeInsertion", inPlace := ["slices.overlaps[e2e/waitgraph.wait]"], unfollowed := true, recurses := true, named := ["math/bits.deBruijn32tab"], plainKeys := false, apart := false, laid := [("math/bits.deBruijn32tab", laid_math_bits_deBruijn32tab)] }
def RemovalMayOvertakeInsertionSaid : Prop := removalMayOvertakeInsertionRow.holds Tryd.pinned (OpenSpec.ofChange removalMayOvertakeInsertionSpec)

/-- ITS FALSE NEIGHBOUR: 'it returns false'. Refute it at one input. -/
def removalMayOvertakeInsertionWrong : ChangeSpec := { name := "removalMayOvertakeInsertion", fn := fun _ => fun
  | [d] => { results := [.lit (.bool false)], args := [d] }
  | _ => none }
def RemovalMayOvertakeInsertionWrongFalsely : Prop := removalMayOvertakeInsertionRow.holds Tryd.pinned (OpenSpec.ofChange removalMayOvertakeInsertionWrong)

/-- 'waitgraphlaw.RefusalsChangeNothing': WHATEVER THE INPUT: true; the input reads as it did. -/
def refusalsChangeNothingSpec : ChangeSpec := { name := "refusalsChangeNothing", fn := fun _ => fun
  | [d] => { results := [.lit (.bool true)], args := [d] }
  | _ => none }
def refusalsChangeNothingRow : OpenClaim := { program := "qxb6500911adoor", sum := "c2fb57ae87cddf230db743397ff659eda22b1f8fd82f3b15cc8141cedcf4329b", func := "e2e/waitgraphlaw.RefusalsChangeNothing", spec := "refusalsChangeNothing", inPlace := ["slices.overlaps[e2e/waitgraph.wait]"], unfollowed := true, recurses := true, named := ["math/bits.deBruijn32tab"], plainKeys := false, apart := false, laid := [("math/bits.deBruijn32tab", laid_math_bits_deBruijn32tab)] }
def RefusalsChangeNothingSaid : Prop := refusalsChangeNothingRow.holds Tryd.pinned (OpenSpec.ofChange refusalsChangeNothingSpec)

/-- ITS FALSE NEIGHBOUR: 'it returns false'. Refute it at one input. -/
def refusalsChangeNothingWrong : ChangeSpec := { name := "refusalsChangeNothing", fn := fun _ => fun
  | [d] => { results := [.lit (.bool false)], args := [d] }
  | _ => none }
def RefusalsChangeNothingWrongFalsely : Prop := refusalsChangeNothingRow.holds Tryd.pinned (OpenSpec.ofChange refusalsChangeNothingWrong)

/-- 'waitgraphlaw.BurstsFit': WHATEVER THE INPUT: true; the input reads as it did. -/
def burstsFitSpec : ChangeSpec := { name := "burstsFit", fn := fun _ => fun
  | [d] => { results := [.lit (.bool true)], args := [d] }
  | _ => none }
def burstsFitRow : OpenClaim := { program := "qxb6500911adoor", sum := "c2fb57ae87cddf230db743397ff659eda22b1f8fd82f3b15cc8141cedcf4329b", func := "e2e/waitgraphlaw.BurstsFit", spec := "burstsFit", inPlace := ["slices.overlaps[e2e/waitgraph.wait]"], unfollowed := true, recurses := true, named := ["math/bits.deBruijn32tab"], plainKeys := false, apart := false, laid := [("math/bits.deBruijn32tab", laid_math_bits_deBruijn32tab)] }
def BurstsFitSaid : Prop := burstsFitRow.holds Tryd.pinned (OpenSpec.ofChange burstsFitSpec)

/-- ITS FALSE NEIGHBOUR: 'it returns false'. Refute it at one input. -/
def burstsFitWrong : ChangeSpec := { name := "burstsFit", fn := fun _ => fun
  | [d] => { results := [.lit (.bool false)], args := [d] }
  | _ => none }
def BurstsFitWrongFalsely : Prop := burstsFitRow.holds Tryd.pinned (OpenSpec.ofChange burstsFitWrong)

/-- 'waitgraphlaw.StrangeMessagesAreRefused': WHATEVER THE INPUT: true; the input reads as it did. -/
def strangeMessagesAreRefusedSpec : ChangeSpec := { name := "strangeMessagesAreRefused", fn := fun _ => fun
  | [d] => { results := [.lit (.bool true)], args := [d] }
  | _ => none }
def strangeMessagesAreRefusedRow : OpenClaim := { program := "qxb6500911adoor", sum := "c2fb57ae87cddf230db743397ff659eda22b1f8fd82f3b15cc8141cedcf4329b", func := "e2e/waitgraphlaw.StrangeMessagesAreRefused", spec := "strangeMessagesAreRefused", inPlace := ["slices.overlaps[e2e/waitgraph.wait]"], unfollowed := true, recurses := true, named := ["math/bits.deBruijn32tab"], plainKeys := false, apart := false, laid := [("math/bits.deBruijn32tab", laid_math_bits_deBruijn32tab)] }
def StrangeMessagesAreRefusedSaid : Prop := strangeMessagesAreRefusedRow.holds Tryd.pinned (OpenSpec.ofChange strangeMessagesAreRefusedSpec)

/-- ITS FALSE NEIGHBOUR: 'it returns false'. Refute it at one input. -/
def strangeMessagesAreRefusedWrong : ChangeSpec := { name := "strangeMessagesAreRefused", fn := fun _ => fun
  | [d] => { results := [.lit (.bool false)], args := [d] }
  | _ => none }
def StrangeMessagesAreRefusedWrongFalsely : Prop := strangeMessagesAreRefusedRow.holds Tryd.pinned (OpenSpec.ofChange strangeMessagesAreRefusedWrong)

end Rows
end Go.Proofs.Qxb6500911aDoor

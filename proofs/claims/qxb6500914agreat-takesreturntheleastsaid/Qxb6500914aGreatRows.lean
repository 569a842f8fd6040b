/-
  No cell of these rows narrows 'for every input' (looked for: loops, veiled, ifaces, maps, wideKeys, modest, calm, conditions, laid).
  DERIVED. THE GIVEN ROWS OF THIS SEAT. 3 by the template 'for every input the law returns true; each argument reads behind the call as it read before'; 0 by the template 'total and deterministic' (their statements: Qxb6500914aGreatTotals.lean).
  GIVEN WITH THE SEED: the statements are not yours to turn. If you find one false, say at which input.
  Laid BY PROGRAM, IN A SANDBOX (cutbox-rows.mjs): the forced cells as the released guide's own fill.sh prints them over the translation 4c23ab14d7c8f232… (all of the seat's roots in one cut). By AI agents, Wed Nov 11 2026. No macro, syntax, notation, axiom, sorry.
-/
import Derived.Test.Qxb6500914aGreatChecked
import GoSem.Claim
import GoSem.ClaimJoined
import GoSem.ClaimMapViews
import Derived.JoinedTies
import Derived.KernelRfl
namespace Go.Proofs.Qxb6500914aGreat
/- THE CELL 'sum', in the pinned program and in every row, IS THE sha256 OF THE DUMP (.gsa) THAT Qxb6500914aGreatProg.lean LOADS. Nothing in Lean hashes anything: it is a label: what it is worth is what the hold of that sum in a sandbox is worth. -/
noncomputable def Tryz.pinned : Pinned := { name := "qxb6500914agreat", sum := "4c23ab14d7c8f232bb4883424debdb3193a74d3d711c4db5c5ce50730134ec64", checked := Tryz.checked }
namespace Rows
def none {H : Type} : Left H := { results := [], args := [] }

/-- 'orderedlaw.RefinesModel': WHATEVER THE INPUT: true; the input reads as it did. -/
def refinesModelSpec : ChangeSpec := { name := "refinesModel", fn := fun _ => fun
  | [d] => { results := [.lit (.bool true)], args := [d] }
  | _ => none }
def refinesModelRow : OpenClaim := { program := "qxb6500914agreat", sum := "4c23ab14d7c8f232bb4883424debdb3193a74d3d711c4db5c5ce50730134ec64", func := "e2e/orderedlaw.RefinesModel", spec := "refinesModel", inPlace := ["internal/reflectlite.ValueOf", "internal/reflectlite.Swapper", "(internal/reflectlite.Value).Len"], unfollowed := true, recurses := true, named := ["encoding/binary.LittleEndian"], apart := false }
def RefinesModelSaid : Prop := refinesModelRow.holds Tryz.pinned (OpenSpec.ofChange refinesModelSpec)

/-- ITS FALSE NEIGHBOUR: 'it returns false'. Refute it at one input. -/
def refinesModelWrong : ChangeSpec := { name := "refinesModel", fn := fun _ => fun
  | [d] => { results := [.lit (.bool false)], args := [d] }
  | _ => none }
def RefinesModelWrongFalsely : Prop := refinesModelRow.holds Tryz.pinned (OpenSpec.ofChange refinesModelWrong)

/-- 'orderedlaw.DequeLinearizes': WHATEVER THE INPUT: true; the input reads as it did. -/
def dequeLinearizesSpec : ChangeSpec := { name := "dequeLinearizes", fn := fun _ => fun
  | [d] => { results := [.lit (.bool true)], args := [d] }
  | _ => none }
def dequeLinearizesRow : OpenClaim := { program := "qxb6500914agreat", sum := "4c23ab14d7c8f232bb4883424debdb3193a74d3d711c4db5c5ce50730134ec64", func := "e2e/orderedlaw.DequeLinearizes", spec := "dequeLinearizes", inPlace := ["internal/reflectlite.ValueOf", "internal/reflectlite.Swapper", "(internal/reflectlite.Value).Len"], unfollowed := true, recurses := true, named := ["encoding/binary.LittleEndian"], apart := false }
def DequeLinearizesSaid : Prop := dequeLinearizesRow.holds Tryz.pinned (OpenSpec.ofChange dequeLinearizesSpec)

/-- ITS FALSE NEIGHBOUR: 'it returns false'. Refute it at one input. -/
def dequeLinearizesWrong : ChangeSpec := { name := "dequeLinearizes", fn := fun _ => fun
  | [d] => { results := [.lit (.bool false)], args := [d] }
  | _ => none }
def DequeLinearizesWrongFalsely : Prop := dequeLinearizesRow.holds Tryz.pinned (OpenSpec.ofChange dequeLinearizesWrong)

/-- 'orderedlaw.TakesReturnTheLeast': WHATEVER THE INPUT: true; the input reads as it did. -/
def takesReturnTheLeastSpec : ChangeSpec := { name := "takesReturnTheLeast", fn := fun _ => fun
  | [d] => { results := [.lit (.bool true)], args := [d] }
  | _ => none }
def takesReturnTheLeastRow : OpenClaim := { program := "qxb6500914agreat", sum := "4c23ab14d7c8f232bb4883424debdb3193a74d3d711c4db5c5ce50730134ec64", func := "e2e/orderedlaw.TakesReturnTheLeast", spec := "takesReturnTheLeast", inPlace := ["internal/reflectlite.ValueOf", "internal/reflectlite.Swapper", "(internal/reflectlite.Value).Len"], unfollowed := true, recurses := true, named := ["encoding/binary.LittleEndian"], apart := false }
def TakesReturnTheLeastSaid : Prop := takesReturnTheLeastRow.holds Tryz.pinned (OpenSpec.ofChange takesReturnTheLeastSpec)

/-- ITS FALSE NEIGHBOUR: 'it returns false'. Refute it at one input. -/
def takesReturnTheLeastWrong : ChangeSpec := { name := "takesReturnTheLeast", fn := fun _ => fun
  | [d] => { results := [.lit (.bool false)], args := [d] }
  | _ => none }
def TakesReturnTheLeastWrongFalsely : Prop := takesReturnTheLeastRow.holds Tryz.pinned (OpenSpec.ofChange takesReturnTheLeastWrong)

end Rows
end Go.Proofs.Qxb6500914aGreat

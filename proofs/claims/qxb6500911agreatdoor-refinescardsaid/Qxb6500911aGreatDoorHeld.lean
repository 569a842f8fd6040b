import Derived.Test.Qxb6500911aGreatDoorOpen
import Derived.Test.Qxb6500911aGreatDoorCards
import Derived.Test.Qxb6500911aGreatDoorTie
import Derived.LaidHandle
import Derived.SevenTiedAt
namespace Go.Proofs.Qxb6500911aGreatDoor
open Go.Eng
open Go.ChangeShapes Go.WideShapes Go.ChangeAt Go.RowKit
set_option linter.unusedVariables false
theorem tabG : Tryz.prog.globalNamed "math/bits.deBruijn32tab" = some 0 := by kernel_rfl
theorem tabT : (Tryz.prog.globals[0]?).map (·.type) = some 189 := by kernel_rfl
/-- what the listed variable holds -/
theorem held {W : World} (h : laidMet Tryz.prog [("math/bits.deBruijn32tab", Rows.laid_math_bits_deBruijn32tab)] W) : ∃ (HT : TypeId) (hf : Nat × Nat), W.heap[0]? = some (.cells ⟨tabL⟩ HT hf) := by
  obtain ⟨ps, ⟨g0, t0, cs0, f0, p0, q0, hg0, ht0, hv0, hd0, _, e0⟩, _, _⟩ := h
  obtain rfl := Option.some.inj (tabG.symm.trans hg0)
  obtain rfl := Option.some.inj (tabT.symm.trans ht0)
  have hcs := tab_open hd0 rfl
  unfold World.var? at hv0
  rw [tabG] at hv0
  simp only [Option.bind_some] at hv0
  split at hv0
  · rename_i cs t fr hc9
    injection hv0 with hv0
    subst hv0
    obtain ⟨l⟩ := cs
    refine ⟨t, fr, ?_⟩
    rw [hc9]
    have : l = tabL := hcs
    rw [this]
  · cases hv0
/-- a world in which the variable lies as its initialiser lays it -/
noncomputable def laidWorld (os : Os) : World :=
  let w0 := World.holding Tryz.prog os ⟨#[], #[], []⟩
  { w0 with heap := w0.heap.modify 0 fun
      | .cells _ t frozen => .cells ⟨tabL⟩ t frozen
      | o => o }
theorem laidWorld_met (os : Os) (args : Array Value) : laidMet Tryz.prog [("math/bits.deBruijn32tab", Rows.laid_math_bits_deBruijn32tab)] ((laidWorld os).forCall (fun _ _ => 0) ⟨#[], args, []⟩).memory :=
  laidMet_of_run (ps := (List.range 32).map (MemPlace.cell 0)) 8 (by kernel_rfl) (by kernel_rfl) (by kernel_rfl)
end Go.Proofs.Qxb6500911aGreatDoor

import Derived.Test.Qxb6500915aGreatDoorOpen
import Derived.Test.Qxb6500915aGreatDoorCards
import Derived.Test.Qxb6500915aGreatDoorTie
import Derived.LaidHandle
import Derived.SevenTiedAt
namespace Go.Proofs.Qxb6500915aGreatDoor
open Go.Eng
open Go.ChangeShapes Go.WideShapes Go.ChangeAt Go.RowKit
set_option linter.unusedVariables false
theorem i64_openD {H : Type} {enc : TypeId × Value → H} {W : World} {sp : Nat → Bool} {hd : Bool} {fuel : Nat} {c : Value} {x : DataW H × List MemPlace} (h : DataW.trod enc Tryz.prog W 0 sp hd fuel 3 [c] = some x) : ∃ m : Int, c = .int .i64 m ∧ x = (.lit (.int .i64 m), []) := by
  obtain ⟨z, hz, hx, hw⟩ := DataW.trod_int Tryz.underlying3 h
  injection hz with hz _
  exact ⟨z, hz, hx⟩
theorem cells29 : Tryz.prog.cellsOf 29 = 3 := by kernel_rfl
/-- caps, read -/
theorem caps_open {H : Type} {enc : TypeId × Value → H} {W : World} {sp : Nat → Bool} {hd : Bool} {fuel : Nat} {cs : List Value} {x : DataW H × List MemPlace} (h : DataW.trod enc Tryz.prog W 0 sp hd fuel 29 cs = some x) : ∃ a b c : Int, cs = [.int .i64 a, .int .i64 b, .int .i64 c] ∧ x.1 = .agg [.lit (.int .i64 a), .lit (.int .i64 b), .lit (.int .i64 c)] := by
  obtain ⟨xs, n, _, hx, hlen, hxl, hf⟩ := DataW.trod_struct Tryz.underlying29 h
  rw [cells29] at hlen
  obtain ⟨c0, c1, c2, rfl⟩ := lst3 hlen
  have h0 : DataW.trod enc Tryz.prog W 0 sp hd n 3 (([c0, c1, c2].drop 0).take (Tryz.prog.cellsOf 3)) = xs[0]? := hf 0 _ rfl
  have h1 : DataW.trod enc Tryz.prog W 0 sp hd n 3 (([c0, c1, c2].drop 1).take (Tryz.prog.cellsOf 3)) = xs[1]? := hf 1 _ rfl
  have h2 : DataW.trod enc Tryz.prog W 0 sp hd n 3 (([c0, c1, c2].drop 2).take (Tryz.prog.cellsOf 3)) = xs[2]? := hf 2 _ rfl
  rw [cells3] at h0 h1 h2
  obtain ⟨y0, y1, y2, rfl⟩ := lst3 (show xs.length = 3 from hxl)
  obtain ⟨a0, rfl, rfl⟩ := i64_openD (show DataW.trod enc Tryz.prog W 0 sp hd n 3 [c0] = some y0 from h0)
  obtain ⟨a1, rfl, rfl⟩ := i64_openD (show DataW.trod enc Tryz.prog W 0 sp hd n 3 [c1] = some y1 from h1)
  obtain ⟨a2, rfl, rfl⟩ := i64_openD (show DataW.trod enc Tryz.prog W 0 sp hd n 3 [c2] = some y2 from h2)
  exact ⟨a0, a1, a2, rfl, by rw [hx]; rfl⟩
theorem smallG : Tryz.prog.globalNamed "e2e/normlaw.small" = some 0 := by kernel_rfl
theorem smallT : (Tryz.prog.globals[0]?).map (·.type) = some 29 := by kernel_rfl
/-- what the listed variable holds -/
theorem held_small {W : World} (h : laidMet Tryz.prog [("e2e/normlaw.small", Rows.laid_e2e_normlaw_small)] W) : ∃ (HT : TypeId) (hf : Nat × Nat), W.heap[0]? = some (.cells ⟨[.int .i64 8, .int .i64 5, .int .i64 5]⟩ HT hf) := by
  obtain ⟨ps, ⟨g0, t0, cs0, f0, p0, q0, hg0, ht0, hv0, hd0, _, e0⟩, _, _⟩ := h
  obtain rfl := Option.some.inj (smallG.symm.trans hg0)
  obtain rfl := Option.some.inj (smallT.symm.trans ht0)
  obtain ⟨a, b, c, hcs, hx⟩ := caps_open hd0
  have hx9 : (DataW.agg [.lit (.int .i64 8), .lit (.int .i64 5), .lit (.int .i64 5)] : DataW Unit) = .agg [.lit (.int .i64 a), .lit (.int .i64 b), .lit (.int .i64 c)] := hx
  simp only [DataW.agg.injEq, List.cons.injEq, DataW.lit.injEq, Lit.int.injEq, true_and, and_true] at hx9
  obtain ⟨rfl, rfl, rfl⟩ := hx9
  unfold World.var? at hv0
  rw [smallG] at hv0
  simp only [Option.bind_some] at hv0
  split at hv0
  · rename_i cs t fr hc9
    injection hv0 with hv0
    subst hv0
    obtain ⟨l⟩ := cs
    refine ⟨t, fr, ?_⟩
    rw [hc9]
    have : l = [.int .i64 8, .int .i64 5, .int .i64 5] := hcs
    rw [this]
  · cases hv0
/-- a world in which the variable lies as its initialiser lays it -/
noncomputable def world_small (os : Os) : World :=
  let w0 := World.holding Tryz.prog os ⟨#[], #[], []⟩
  { w0 with heap := w0.heap.modify 0 fun
      | .cells _ t frozen => .cells #[.int .i64 8, .int .i64 5, .int .i64 5] t frozen
      | o => o }
theorem met_small (os : Os) (args : Array Value) : laidMet Tryz.prog [("e2e/normlaw.small", Rows.laid_e2e_normlaw_small)] ((world_small os).forCall (fun _ _ => 0) ⟨#[], args, []⟩).memory :=
  laidMet_of_run (ps := [.cell 0 0, .cell 0 1, .cell 0 2]) 8 (by kernel_rfl) (by kernel_rfl) (by kernel_rfl)
end Go.Proofs.Qxb6500915aGreatDoor

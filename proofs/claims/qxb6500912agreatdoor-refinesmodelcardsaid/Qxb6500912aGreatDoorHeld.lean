import Derived.Test.Qxb6500912aGreatDoorOpen
import Derived.Test.Qxb6500912aGreatDoorCards
import Derived.Test.Qxb6500912aGreatDoorTie
import Derived.LaidHandle
import Derived.SevenTiedAt
namespace Go.Proofs.Qxb6500912aGreatDoor
open Go.Eng
open Go.ChangeShapes Go.WideShapes Go.ChangeAt Go.RowKit
set_option linter.unusedVariables false
theorem star : "*" ++ "errors.errorString" = "*errors.errorString" := by decide
theorem errG : Tryz.prog.globalNamed "e2e/api.ErrConfig" = some 1 := by kernel_rfl
theorem errT : (Tryz.prog.globals[1]?).map (·.type) = some 26 := by kernel_rfl
theorem cfgG : Tryz.prog.globalNamed "e2e/conglaw.DefaultConfig" = some 0 := by kernel_rfl
theorem cfgT : (Tryz.prog.globals[0]?).map (·.type) = some 33 := by kernel_rfl
theorem cells155 : Tryz.prog.cellsOf 155 = 1 := by kernel_rfl
theorem cells9 : Tryz.prog.cellsOf 9 = 1 := by kernel_rfl
theorem row137 (u : TypeId) (h : Tryz.prog.typeName? 3 u = some "*errors.errorString") : u = 137 :=
  typeName_ptr_named (nm := "errors.errorString") (by rw [star]; kernel_rfl) (by kernel_rfl) (by decide) u (by rw [star]; exact h)
theorem cf_ext {c : CF} {H : Type} (h : (cfD c : DataW H) = cfD cfg0) : c = cfg0 := by
  obtain ⟨a0, a1, a2, a3, a4, a5, a6, a7, a8, a9⟩ := c
  simp only [cfD, cfg0, DataW.agg.injEq, List.cons.injEq, DataW.lit.injEq, Lit.int.injEq, Lit.bool.injEq, true_and, and_true] at h
  obtain ⟨⟨rfl, rfl, rfl, rfl, rfl, rfl, rfl⟩, rfl, rfl, rfl⟩ := h
  rfl
/-- what the listed variables hold -/
theorem held {W : World} (h : laidMet Tryz.prog [("e2e/api.ErrConfig", Rows.laid_e2e_api_ErrConfig), ("e2e/conglaw.DefaultConfig", Rows.laid_e2e_conglaw_DefaultConfig)] W) :
    (∃ (ga : Addr) (GT : TypeId) (gf : Nat × Nat), W.heap[1]? = some (.cells ⟨[.iface 137 (.pointer (some ga))]⟩ GT gf)) ∧ ∃ (HT : TypeId) (hf : Nat × Nat), W.heap[0]? = some (.cells ⟨cfL cfg0⟩ HT hf) := by
  refine ⟨?_, ?_⟩
  · obtain ⟨a, s, hv, _⟩ := laid_sentinel h errG errT Tryz.underlying26 row137 Tryz.underlying137 Tryz.underlying155 rfl rfl Tryz.underlying9 cells155 cells9
    unfold World.var? at hv
    rw [errG] at hv
    simp only [Option.bind_some] at hv
    split at hv
    · rename_i cs t fr hc
      injection hv with hv
      subst hv
      exact ⟨_, t, fr, hc⟩
    · cases hv
  · obtain ⟨ps, ⟨g0, t0, cs0, f0, p0, q0, hg0, ht0, hv0, hd0, _, e0⟩, _, _⟩ := h.tail
    obtain rfl := Option.some.inj (cfgG.symm.trans hg0)
    obtain rfl := Option.some.inj (cfgT.symm.trans ht0)
    obtain ⟨c, hc, hcs, hx⟩ := cfg_open hd0
    have hc0 : c = cfg0 := cf_ext (H := Unit) (hx.symm.trans rfl)
    subst hc0
    unfold World.var? at hv0
    rw [cfgG] at hv0
    simp only [Option.bind_some] at hv0
    split at hv0
    · rename_i cs t fr hc9
      injection hv0 with hv0
      subst hv0
      obtain ⟨l⟩ := cs
      refine ⟨t, fr, ?_⟩
      rw [hc9]
      have : l = cfL cfg0 := hcs
      rw [this]
    · cases hv0
noncomputable def low : Nat := (World.holding Tryz.prog default ⟨#[], #[], []⟩).heap.size
abbrev s0 : ByteArray := { data := #[99, 111, 110, 103, 58, 32, 99, 111, 110, 102, 105, 103, 117, 114, 97, 116, 105, 111, 110, 32, 111, 117, 116, 115, 105, 100, 101, 32, 116, 104, 101, 32, 108, 105, 109, 105, 116, 115] }
/-- a world in which the variables lie as their initialisers lay them -/
noncomputable def laidWorld (os : Os) : World :=
  let w0 := World.holding Tryz.prog os ⟨#[.cells #[.string s0] 155], #[], []⟩
  { w0 with heap := ((w0.heap.modify 1 fun
      | .cells _ t frozen => .cells #[.iface 137 (.pointer (some ⟨low, 0, none⟩))] t frozen
      | o => o).modify 0 fun
      | .cells _ t frozen => .cells #[.int .u32 0, .int .u32 1048576, .int .u32 1, .int .u32 2, .int .u32 1, .int .u32 3, .bool true, .int .u32 1000, .int .u32 0, .bool false] t frozen
      | o => o) }
theorem laidWorld_met (os : Os) (args : Array Value) : laidMet Tryz.prog [("e2e/api.ErrConfig", Rows.laid_e2e_api_ErrConfig), ("e2e/conglaw.DefaultConfig", Rows.laid_e2e_conglaw_DefaultConfig)] ((laidWorld os).forCall (fun _ _ => 0) ⟨#[], args, []⟩).memory :=
  laidMet_of_run (ps := [.cell 1 0, .cell low 0, .cell 0 0, .cell 0 1, .cell 0 2, .cell 0 3, .cell 0 4, .cell 0 5, .cell 0 6, .cell 0 7, .cell 0 8, .cell 0 9]) 8 (by kernel_rfl) (by kernel_rfl) (by kernel_rfl)
end Go.Proofs.Qxb6500912aGreatDoor

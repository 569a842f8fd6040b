import Derived.Test.Qxb6500908aEng
import Derived.Test.Qxb6500908aArr
set_option linter.unusedVariables false
set_option linter.unusedSimpArgs false
namespace Go.Eng
section fva
variable {P : Program} {n : Nat} {L : List (Nat × Value)} {a : Act} {w : World} {T : TypeId} {pos : String} {aft : Array Edge} {g : Option (Nat × Bool)} {dst : Option Nat} {x y : Operand}
/-- a field of a value that is a composite itself -/
theorem r_fieldVA {s f off ft m : Nat} {cs ps : List Value} (hl : Sl n L a) (hx : val L x = some (.agg ⟨cs⟩)) (hf : fieldTOk P s f off ft = true) (ht : aggOk P ft m = true) (hc : (cs.drop off).take m = ps) (hn : ps.length = m) :
    Gives P a ⟨dst, .field s x f, T, pos, aft, g⟩ w (.agg ⟨ps⟩) w := by
  obtain ⟨fs, fl, h1, h2, rfl, rfl⟩ := fieldTOk_spec hf
  simp [Gives, execOp, hl.ev hx, Instr.field, run_underlying h1, h2, asAgg, part, (aggOk_run ht).1, (aggOk_run ht).2, hc]
end fva
end Go.Eng

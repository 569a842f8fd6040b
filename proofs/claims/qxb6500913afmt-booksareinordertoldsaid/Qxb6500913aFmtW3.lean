import Derived.Test.Qxb6500913aFmtW2
namespace Go.Proofs.Qxb6500913aFmt
open Go.Eng
set_option linter.unusedVariables false
set_option linter.unusedSimpArgs false
theorem agg65 : aggOk Tryf.prog 65 20503 = true := by kernel_rfl

def zeroF : Nat → Int := fun _ => 0
set_option maxRecDepth 20000 in
theorem zero65 : zeroOk Tryf.prog 65 (.agg ⟨encL zeroF⟩) := by unfold zeroOk; kernel_rfl
set_option maxRecDepth 20000 in
theorem shp65 : shapeT Tryf.prog 8 65 = some kinds87 := by kernel_rfl
theorem eqf65 : eqOk Tryf.prog 8 65 = true := by kernel_rfl
theorem r_eql87 {n : Nat} {L : List (Nat × Value)} {a : Act} {w : World} {T : TypeId} {pos : String} {aft : Array Edge} {g : Option (Nat × Bool)} {dst : Option Nat} {x y : Operand} {u : TypeId} {f h : Nat → Int} (hl : Sl n L a)
    (hx : val L x = some (.agg ⟨encL f⟩)) (hy : val L y = some (.agg ⟨encL h⟩)) (hf : Wf f) (hg : Wf h) : Gives Tryf.prog a ⟨dst, .binOp .eql 65 x y u, T, pos, aft, g⟩ w (.bool (same f h)) w := by
  have h1 := r_eqlA (P := Tryf.prog) (w := w) (T := T) (pos := pos) (aft := aft) (g := g) (dst := dst) (u := u) (xs := encL f) (ys := encL h) (lx := litsL f) (ly := litsL h) (s := kinds87) (m := 8) (d := 8) (t := 65) hl hx hy eqf65 shp65 (unlit_encL f) (unlit_encL h) (lits_ok f hf) (lits_ok h hg)
  unfold same
  exact h1




end Go.Proofs.Qxb6500913aFmt

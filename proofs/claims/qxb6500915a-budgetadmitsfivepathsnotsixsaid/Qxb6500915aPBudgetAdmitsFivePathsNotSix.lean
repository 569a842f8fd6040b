import Derived.Test.Qxb6500915aRow
import Derived.Test.Qxb6500915aB10
namespace Go.Proofs.Qxb6500915a.budgetAdmitsFivePathsNotSix
open Go.Eng Go.Proofs.Qxb6500915a
open Go.ChangeShapes Go.WideShapes Go.ChangeAt Go.RowKit
set_option linter.unusedVariables false
theorem own : ownKnob Try.prog.godebug = none := by kernel_rfl
theorem laidOut : laidOutB Try.prog = true := by kernel_rfl
set_option maxRecDepth 100000 in
theorem lifted (os : Os) (started : os.Started) (H : Type) (enc : TypeId × Value → H) :
    ReturnsInHanded {} Try.checked os 3 .any (Rows.budgetAdmitsFivePathsNotSixSpec.pre6 enc Try.prog Try.f3 Rows.budgetAdmitsFivePathsNotSixRow.domain false) (Rows.budgetAdmitsFivePathsNotSixSpec.post enc Try.prog Try.f3 false true false false) := by
  refine returnsInHanded_of_change (C := Try.checked) own started (by kernel_rfl) Try.func3
    (ChangeSpec.witness6 (enc := enc) (C := Try.checked) false ⟨#[], #[], []⟩ 8 (by kernel_rfl) (by kernel_rfl) (by kernel_rfl) (by kernel_rfl)) ?_
  intro W base args ds gs before hval0 hW hcnd _
  have hW' := hW
  obtain ⟨p, q, hA0, hV, rfl, hfz, hnd⟩ := hW
  have hA : DataW.TrodAll enc Try.prog W 0 (fun _ => true) true Try.f3.params.toList args.toList ds p := hA0
  rw [Try.params3] at hA
  obtain ⟨rfl, rfl, rfl⟩ := trodAll_none hA
  refine (law3 W trivial (fun b o m => by cases m) List.nodup_nil).mono fun e W' hq => ?_
  cases e with
  | returned v =>
    obtain ⟨F', ⟨rfl, rfl⟩, hh⟩ := hq
    exact ⟨_, rfl, law_post (B := 4) laidOut (fun t ht => by rw [Try.params3] at ht; cases ht) Try.underlying4 rfl rfl rfl hW' hh⟩
  | _ => exact hq.elim

theorem over : Rows.budgetAdmitsFivePathsNotSixRow.holds Try.pinned (OpenSpec.ofChange Rows.budgetAdmitsFivePathsNotSixSpec) :=
  OpenClaim.holds_of_wide 3 Try.f3 rfl rfl rfl rfl rfl rfl rfl ⟨rfl, rfl, rfl, rfl, rfl⟩ rfl rfl rfl rfl rfl (by kernel_rfl) Try.func3 (by kernel_rfl)
    (of_decide_eq_true (by kernel_rfl)) (by unfold Func.isWrapper; first | (rw [if_pos (by decide +kernel)]; kernel_rfl) | (rw [if_neg (by decide +kernel)]; exact ⟨rfl, rfl⟩))
    (fun os started H enc _ => lifted os started H enc)

end Go.Proofs.Qxb6500915a.budgetAdmitsFivePathsNotSix
namespace Go.Proofs.Qxb6500915a
/-- THE STATEMENT -/
theorem budgetAdmitsFivePathsNotSix_proved : Rows.BudgetAdmitsFivePathsNotSixSaid := budgetAdmitsFivePathsNotSix.over
end Go.Proofs.Qxb6500915a

import Derived.Test.Qxb6500908aGreatOpen
import Derived.Test.Qxb6500908aGreatZl
namespace Go.Proofs.Qxb6500908aGreat
open Go.Eng
set_option linter.unusedVariables false
set_option linter.unusedSimpArgs false

open Go.ChangeShapes Go.WideShapes Go.ChangeAt Go.RowKit
namespace refines
set_option maxRecDepth 100000 in
theorem lifted (os : Os) (started : os.Started) (H : Type) (enc : TypeId × Value → H) :
    ReturnsInHanded {} Tryz.checked os 3 .any (Rows.refinesSpec.pre6 enc Tryz.prog Tryz.f3 Rows.refinesRow.domain false) (Rows.refinesSpec.post enc Tryz.prog Tryz.f3 false true false false) := by
  refine returnsInHanded_of_change_sized (C := Tryz.checked) own started (by kernel_rfl) Tryz.func3
    (ChangeSpec.witness6 (enc := enc) (C := Tryz.checked) false ⟨#[], #[.slice none 0 0], []⟩ 8 (by kernel_rfl) (by kernel_rfl) (by kernel_rfl) (by kernel_rfl)) ?_
  intro W base args ds gs before hval0 hW hcnd hsz0 _
  have hsz : (DataW.weightsEach Tryz.prog (Tryz.f3.params.toList ++ Rows.refinesSpec.plain.varTypes Tryz.prog) (ds ++ gs)).all (· ≤ reachBytes) = true := hsz0
  have hval : ∀ (j : Nat) t v, Tryz.f3.params[j]? = some t → args[j]? = some v → Value.okWide Tryz.prog W .any base t v := hval0
  have hW' := hW
  obtain ⟨p, q, hA0, hV, rfl, hfz, hnd⟩ := hW
  have hA : DataW.TrodAll enc Tryz.prog W 0 (fun _ => true) true Tryz.f3.params.toList args.toList ds p := hA0
  rw [Tryz.params3] at hA hval hsz
  obtain ⟨v0, d0, rfl, rfl, h0⟩ := trodAll_one hA
  have hsl := okWide_slice Tryz.underlying22 (hval 0 22 v0 rfl rfl)
  have hw0 : (d0.weights Tryz.prog 22).all (· ≤ reachBytes) = true := List.all_eq_true.2 fun n hn => List.all_eq_true.1 hsz n (DataW.weights_mem_each (j := 0) (t := 22) (d := d0) rfl rfl n hn)
  obtain ⟨Z, p0, n0, cap0, ops, rfl, hS, hZm, hZn⟩ := scr_open hsl h0 hw0
  have hlaw := sp_borrow (R' := fun v F' => v = .bool true) (law3 Z p0 n0 cap0 ops hS) (fun v F' h => by
    obtain ⟨h1, F1, h2⟩ := h
    exact ⟨F1, h2, h1⟩)
  refine (hlaw W ⟨hZm, hZn⟩ (fun b o m => (by cases m)) List.nodup_nil).mono fun e W' hq => ?_
  cases e with
  | returned v =>
    obtain ⟨F', rfl, hh⟩ := hq
    exact ⟨_, rfl, law_post (B := 4) laidOut (fun t ht => by rw [Tryz.params3] at ht; simp only [List.mem_singleton] at ht; subst ht; exact ⟨read22, size22⟩) Tryz.underlying4 rfl rfl rfl hW' (hh.keep keeps_nil)⟩
  | _ => exact hq.elim
theorem over : Rows.refinesRow.holds Tryz.pinned (OpenSpec.ofChange Rows.refinesSpec) :=
  OpenClaim.holds_of_wide 3 Tryz.f3 rfl rfl rfl rfl rfl rfl rfl ⟨rfl, rfl, rfl, rfl, rfl⟩ rfl rfl rfl rfl rfl (by kernel_rfl) Tryz.func3 (by kernel_rfl)
    (of_decide_eq_true (by kernel_rfl)) (by unfold Func.isWrapper; first | (rw [if_pos (by decide +kernel)]; kernel_rfl) | (rw [if_neg (by decide +kernel)]; exact ⟨rfl, rfl⟩))
    (fun os started H enc _ => lifted os started H enc)
end refines
/-- THE STATEMENT -/
theorem refines_proved : Rows.RefinesSaid := refines.over
end Go.Proofs.Qxb6500908aGreat

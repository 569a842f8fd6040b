import Derived.Test.Qxb6500915aGreatDoorHeld
import Derived.Test.Qxb6500915aGreatDoorL3
namespace Go.Proofs.Qxb6500915aGreatDoor.realDoesWhatModelDoes
open Go.Eng Go.Proofs.Qxb6500915aGreatDoor
open Go.ChangeShapes Go.WideShapes Go.ChangeAt Go.RowKit
set_option linter.unusedVariables false
set_option maxRecDepth 100000 in
theorem lifted (os : Os) (started : os.Started) (H : Type) (enc : TypeId × Value → H) :
    ReturnsInHanded {} Tryz.checked os 3 .any (fun w args => (Rows.realDoesWhatModelDoesSpec.pre enc Tryz.prog Tryz.f3 [] false w args ∧ laidMetH Tryz.prog Rows.realDoesWhatModelDoesRow.laid w) ∧ sizedMet enc Tryz.prog Tryz.f3 (OpenSpec.ofChange Rows.realDoesWhatModelDoesSpec) false w args)
      (Rows.realDoesWhatModelDoesSpec.post enc Tryz.prog Tryz.f3 false true false false) := by
  refine returnsInHanded_of_change_and (C := Tryz.checked) (X := fun w _ => laidMetH Tryz.prog Rows.realDoesWhatModelDoesRow.laid w) (fun _ _ _ hh h => h.of_heap hh) own started (by kernel_rfl) Tryz.func3
    (ChangeSpec.witness_at (enc := enc) (C := Tryz.checked) (os := os) (X := fun w _ => laidMetH Tryz.prog Rows.realDoesWhatModelDoesRow.laid w) false (world_small os) #[.slice none 0 0] 8 rfl (by kernel_rfl) (by kernel_rfl) (by kernel_rfl) (by kernel_rfl) (by kernel_rfl) (met_small os _)) ?_
  intro W base args ds gs before hval0 hW _ hsz0 hL _
  have hsz : (DataW.weightsEach Tryz.prog (Tryz.f3.params.toList ++ Rows.realDoesWhatModelDoesSpec.plain.varTypes Tryz.prog) (ds ++ gs)).all (· ≤ reachBytes) = true := hsz0
  have hval : ∀ (j : Nat) t v, Tryz.f3.params[j]? = some t → args[j]? = some v → Value.okWide Tryz.prog W .any base t v := hval0
  have hW' := hW
  obtain ⟨p, q, hA0, hV, rfl, hfz, hnd⟩ := hW
  have hA : DataW.TrodAll enc Tryz.prog W 0 (fun _ => true) true Tryz.f3.params.toList args.toList ds p := hA0
  rw [Tryz.params3] at hA hval hsz
  obtain ⟨v0, d0, rfl, rfl, h0⟩ := trodAll_one hA
  have hsl := okWide_slice Tryz.underlying22 (hval 0 22 v0 rfl rfl)
  have hw0 : (d0.weights Tryz.prog 22).all (· ≤ reachBytes) = true := List.all_eq_true.2 fun n hn => List.all_eq_true.1 hsz n (DataW.weights_mem_each (j := 0) (t := 22) (d := d0) rfl rfl n hn)
  obtain ⟨p0, c0, ops, Z0, rfl, hS, hO, hol, hscr⟩ := ops_open hsl h0 hw0
  obtain ⟨HT, hf, hg⟩ := held_small hL
  refine (law3 p0 c0 ops Z0 hS hO hol HT hf W ⟨hscr, hg⟩ (fun b o m => by cases m) List.nodup_nil).mono fun e W' hq => ?_
  cases e with
  | returned v =>
    obtain ⟨F', ⟨rfl, rfl⟩, hh⟩ := hq
    exact ⟨_, rfl, law_post (B := 4) laidOut (fun t ht => by rw [Tryz.params3] at ht; simp only [List.mem_singleton] at ht; subst ht; exact ⟨read22, size22⟩) Tryz.underlying4 rfl rfl rfl hW' hh⟩
  | _ => exact hq.elim
theorem over : Rows.realDoesWhatModelDoesRow.holds Tryz.pinned (OpenSpec.ofChange Rows.realDoesWhatModelDoesSpec) :=
  OpenClaim.holds_of_wide 3 Tryz.f3 rfl rfl rfl rfl rfl rfl rfl ⟨rfl, rfl, rfl, rfl, rfl⟩ rfl rfl rfl rfl rfl (by kernel_rfl) Tryz.func3 (by kernel_rfl)
    (of_decide_eq_true (by kernel_rfl)) (by unfold Func.isWrapper; first | (rw [if_pos (by decide +kernel)]; kernel_rfl) | (rw [if_neg (by decide +kernel)]; exact ⟨rfl, rfl⟩))
    (fun os started H enc _ => lifted os started H enc)
theorem card : Rows.RealDoesWhatModelDoesCardSaid :=
  Claim7.holds_tied_plain_at .later [] [.data] true (true, "08cb36bf33dc31fdba36ccfcdd66a166a459cb93dab3512796daac792f6f12dd") false
    over (fun _ h => by cases h) (by kernel_rfl) (fun _ h => by cases h) realDoesWhatModelDoes_row_tie rfl ⟨rfl, rfl⟩ (by kernel_rfl) rfl
    (fun f fn hf hfn => by
      obtain rfl : f = 3 := Option.some.inj ((show Tryz.prog.funcNamed "e2e/normlaw.RealDoesWhatModelDoes" = some 3 by kernel_rfl).symm.trans hf) |>.symm
      obtain rfl : fn = Tryz.f3 := (Option.some.inj (Tryz.func3.symm.trans hfn)).symm
      exact ⟨by kernel_rfl, fun j t ht => by
        rw [Tryz.params3] at ht
        have h3 : t = 22 := by
          rcases j with _ | j
          · simpa using ht.symm
          · simp at ht
        subst h3
        exact (show Tryz.prog.wantsStandIn 22 = false by kernel_rfl)⟩)
    (by kernel_rfl)
end Go.Proofs.Qxb6500915aGreatDoor.realDoesWhatModelDoes
namespace Go.Proofs.Qxb6500915aGreatDoor
/-- THE STATEMENT -/
theorem realDoesWhatModelDoes_proved : Rows.RealDoesWhatModelDoesCardSaid := realDoesWhatModelDoes.card
end Go.Proofs.Qxb6500915aGreatDoor

import Derived.Test.Qxb6500911aDoorHeld
import Derived.Test.Qxb6500911aDoorL4
namespace Go.Proofs.Qxb6500911aDoor.edgesCarryTheirEpoch
open Go.Eng Go.Proofs.Qxb6500911aDoor
open Go.ChangeShapes Go.WideShapes Go.ChangeAt Go.RowKit
set_option linter.unusedVariables false
set_option maxRecDepth 100000 in
theorem lifted (os : Os) (started : os.Started) (H : Type) (enc : TypeId × Value → H) :
    ReturnsInHanded {} Tryd.checked os 4 .any (fun w args => (Rows.edgesCarryTheirEpochSpec.pre enc Tryd.prog Tryd.f4 [] false w args ∧ laidMetH Tryd.prog Rows.edgesCarryTheirEpochRow.laid w) ∧ sizedMet enc Tryd.prog Tryd.f4 (OpenSpec.ofChange Rows.edgesCarryTheirEpochSpec) false w args)
      (Rows.edgesCarryTheirEpochSpec.post enc Tryd.prog Tryd.f4 false true false false) := by
  refine returnsInHanded_of_change_and (C := Tryd.checked) (X := fun w _ => laidMetH Tryd.prog Rows.edgesCarryTheirEpochRow.laid w) (fun _ _ _ hh h => h.of_heap hh) own started (by kernel_rfl) Tryd.func4
    (ChangeSpec.witness_at (enc := enc) (C := Tryd.checked) (os := os) (X := fun w _ => laidMetH Tryd.prog Rows.edgesCarryTheirEpochRow.laid w) false (laidWorld os) #[.slice none 0 0] 8 rfl (by kernel_rfl) (by kernel_rfl) (by kernel_rfl) (by kernel_rfl) (by kernel_rfl) (laidWorld_met os _)) ?_
  intro W base args ds gs before hval0 hW _ hsz0 hL _
  have hsz : (DataW.weightsEach Tryd.prog (Tryd.f4.params.toList ++ Rows.edgesCarryTheirEpochSpec.plain.varTypes Tryd.prog) (ds ++ gs)).all (· ≤ reachBytes) = true := hsz0
  have hval : ∀ (j : Nat) t v, Tryd.f4.params[j]? = some t → args[j]? = some v → Value.okWide Tryd.prog W .any base t v := hval0
  have hW' := hW
  obtain ⟨p, q, hA0, hV, rfl, hfz, hnd⟩ := hW
  have hA : DataW.TrodAll enc Tryd.prog W 0 (fun _ => true) true Tryd.f4.params.toList args.toList ds p := hA0
  rw [Tryd.params4] at hA hval hsz
  obtain ⟨v0, d0, rfl, rfl, h0⟩ := trodAll_one hA
  have hsl := okWide_slice Tryd.underlying22 (hval 0 22 v0 rfl rfl)
  obtain ⟨sb, c, T, fr, p0, n0, cap0, ops, rfl, hn, hlen, hO, hin⟩ := ops_open hsl h0
  obtain ⟨HT, hf, hg0⟩ := held hL
  refine (law4 sb c T fr p0 n0 cap0 ops hn hlen hO HT hf W ⟨hin, hg0⟩ (fun b o m => by cases m) List.nodup_nil).mono fun e W' hq => ?_
  cases e with
  | returned v =>
    obtain ⟨F', ⟨rfl, rfl⟩, hh⟩ := hq
    exact ⟨_, rfl, law_post (B := 4) laidOut (fun t ht => by rw [Tryd.params4] at ht; simp only [List.mem_singleton] at ht; subst ht; exact ⟨read22, size22⟩) Tryd.underlying4 rfl rfl rfl hW' hh⟩
  | _ => exact hq.elim
theorem over : Rows.edgesCarryTheirEpochRow.holds Tryd.pinned (OpenSpec.ofChange Rows.edgesCarryTheirEpochSpec) :=
  OpenClaim.holds_of_wide 4 Tryd.f4 rfl rfl rfl rfl rfl rfl rfl ⟨rfl, rfl, rfl, rfl, rfl⟩ rfl rfl rfl rfl rfl (by kernel_rfl) Tryd.func4 (by kernel_rfl)
    (of_decide_eq_true (by kernel_rfl)) (by unfold Func.isWrapper; first | (rw [if_pos (by decide +kernel)]; kernel_rfl) | (rw [if_neg (by decide +kernel)]; exact ⟨rfl, rfl⟩))
    (fun os started H enc _ => lifted os started H enc)
theorem card : Rows.EdgesCarryTheirEpochCardSaid :=
  Claim7.holds_tied_plain_at .later [] [.data] true (true, "5acf82faa4e853a911db8b33431006df6b1b31e1aac582d1adb00cc0210b3e5b") false
    over (fun _ h => by cases h) (by kernel_rfl) (fun _ h => by cases h) edgesCarryTheirEpoch_row_tie rfl ⟨rfl, rfl⟩ (by kernel_rfl) rfl
    (fun f fn hf hfn => by
      obtain rfl : f = 4 := Option.some.inj ((show Tryd.prog.funcNamed "e2e/waitgraphlaw.EdgesCarryTheirEpoch" = some 4 by kernel_rfl).symm.trans hf) |>.symm
      obtain rfl : fn = Tryd.f4 := (Option.some.inj (Tryd.func4.symm.trans hfn)).symm
      exact ⟨by kernel_rfl, fun j t ht => by
        rw [Tryd.params4] at ht
        have h3 : t = 22 := by
          rcases j with _ | j
          · simpa using ht.symm
          · simp at ht
        subst h3
        exact (show Tryd.prog.wantsStandIn 22 = false by kernel_rfl)⟩)
    (by kernel_rfl)
end Go.Proofs.Qxb6500911aDoor.edgesCarryTheirEpoch
namespace Go.Proofs.Qxb6500911aDoor
/-- THE STATEMENT -/
theorem edgesCarryTheirEpoch_proved : Rows.EdgesCarryTheirEpochCardSaid := edgesCarryTheirEpoch.card
end Go.Proofs.Qxb6500911aDoor

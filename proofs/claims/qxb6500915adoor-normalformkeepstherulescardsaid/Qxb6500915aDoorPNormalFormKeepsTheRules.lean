import Derived.Test.Qxb6500915aDoorHeld
import Derived.Test.Qxb6500915aDoorL6
namespace Go.Proofs.Qxb6500915aDoor.normalFormKeepsTheRules
open Go.Eng Go.Proofs.Qxb6500915aDoor
open Go.ChangeShapes Go.WideShapes Go.ChangeAt Go.RowKit
set_option linter.unusedVariables false
set_option maxRecDepth 100000 in
theorem lifted (os : Os) (started : os.Started) (H : Type) (enc : TypeId × Value → H) :
    ReturnsInHanded {} Tryd.checked os 6 .any (fun w args => (Rows.normalFormKeepsTheRulesSpec.pre enc Tryd.prog Tryd.f6 [] false w args ∧ laidMetH Tryd.prog Rows.normalFormKeepsTheRulesRow.laid w) ∧ sizedMet enc Tryd.prog Tryd.f6 (OpenSpec.ofChange Rows.normalFormKeepsTheRulesSpec) false w args)
      (Rows.normalFormKeepsTheRulesSpec.post enc Tryd.prog Tryd.f6 false true false false) := by
  refine returnsInHanded_of_change_and (C := Tryd.checked) (X := fun w _ => laidMetH Tryd.prog Rows.normalFormKeepsTheRulesRow.laid w) (fun _ _ _ hh h => h.of_heap hh) own started (by kernel_rfl) Tryd.func6
    (ChangeSpec.witness_at (enc := enc) (C := Tryd.checked) (os := os) (X := fun w _ => laidMetH Tryd.prog Rows.normalFormKeepsTheRulesRow.laid w) false (world_small os) #[.slice none 0 0] 8 rfl (by kernel_rfl) (by kernel_rfl) (by kernel_rfl) (by kernel_rfl) (by kernel_rfl) (met_small os _)) ?_
  intro W base args ds gs before hval0 hW _ hsz0 hL _
  have hsz : (DataW.weightsEach Tryd.prog (Tryd.f6.params.toList ++ Rows.normalFormKeepsTheRulesSpec.plain.varTypes Tryd.prog) (ds ++ gs)).all (· ≤ reachBytes) = true := hsz0
  have hval : ∀ (j : Nat) t v, Tryd.f6.params[j]? = some t → args[j]? = some v → Value.okWide Tryd.prog W .any base t v := hval0
  have hW' := hW
  obtain ⟨p, q, hA0, hV, rfl, hfz, hnd⟩ := hW
  have hA : DataW.TrodAll enc Tryd.prog W 0 (fun _ => true) true Tryd.f6.params.toList args.toList ds p := hA0
  rw [Tryd.params6] at hA hval hsz
  obtain ⟨v0, d0, rfl, rfl, h0⟩ := trodAll_one hA
  have hsl := okWide_slice Tryd.underlying22 (hval 0 22 v0 rfl rfl)
  have hw0 : (d0.weights Tryd.prog 22).all (· ≤ reachBytes) = true := List.all_eq_true.2 fun n hn => List.all_eq_true.1 hsz n (DataW.weights_mem_each (j := 0) (t := 22) (d := d0) rfl rfl n hn)
  obtain ⟨p0, c0, ops, Z0, rfl, hS, hO, hol, hscr⟩ := ops_open hsl h0 hw0
  obtain ⟨HT, hf, hg⟩ := held_small hL
  refine (law6 p0 c0 ops Z0 hS hO hol HT hf W ⟨hscr, hg⟩ (fun b o m => by cases m) List.nodup_nil).mono fun e W' hq => ?_
  cases e with
  | returned v =>
    obtain ⟨F', ⟨rfl, rfl⟩, hh⟩ := hq
    exact ⟨_, rfl, law_post (B := 4) laidOut (fun t ht => by rw [Tryd.params6] at ht; simp only [List.mem_singleton] at ht; subst ht; exact ⟨read22, size22⟩) Tryd.underlying4 rfl rfl rfl hW' hh⟩
  | _ => exact hq.elim
theorem over : Rows.normalFormKeepsTheRulesRow.holds Tryd.pinned (OpenSpec.ofChange Rows.normalFormKeepsTheRulesSpec) :=
  OpenClaim.holds_of_wide 6 Tryd.f6 rfl rfl rfl rfl rfl rfl rfl ⟨rfl, rfl, rfl, rfl, rfl⟩ rfl rfl rfl rfl rfl (by kernel_rfl) Tryd.func6 (by kernel_rfl)
    (of_decide_eq_true (by kernel_rfl)) (by unfold Func.isWrapper; first | (rw [if_pos (by decide +kernel)]; kernel_rfl) | (rw [if_neg (by decide +kernel)]; exact ⟨rfl, rfl⟩))
    (fun os started H enc _ => lifted os started H enc)
theorem card : Rows.NormalFormKeepsTheRulesCardSaid :=
  Claim7.holds_tied_plain_at .later [] [.data] true (true, "3c7858f1f9273359f93dbe042de74f6b90e143a6fbaceed5e3792bd3feadfb43") false
    over (fun _ h => by cases h) (by kernel_rfl) (fun _ h => by cases h) normalFormKeepsTheRules_row_tie rfl ⟨rfl, rfl⟩ (by kernel_rfl) rfl
    (fun f fn hf hfn => by
      obtain rfl : f = 6 := Option.some.inj ((show Tryd.prog.funcNamed "e2e/normlaw.NormalFormKeepsTheRules" = some 6 by kernel_rfl).symm.trans hf) |>.symm
      obtain rfl : fn = Tryd.f6 := (Option.some.inj (Tryd.func6.symm.trans hfn)).symm
      exact ⟨by kernel_rfl, fun j t ht => by
        rw [Tryd.params6] at ht
        have h3 : t = 22 := by
          rcases j with _ | j
          · simpa using ht.symm
          · simp at ht
        subst h3
        exact (show Tryd.prog.wantsStandIn 22 = false by kernel_rfl)⟩)
    (by kernel_rfl)
end Go.Proofs.Qxb6500915aDoor.normalFormKeepsTheRules
namespace Go.Proofs.Qxb6500915aDoor
/-- THE STATEMENT -/
theorem normalFormKeepsTheRules_proved : Rows.NormalFormKeepsTheRulesCardSaid := normalFormKeepsTheRules.card
end Go.Proofs.Qxb6500915aDoor

import Derived.Test.Qxb6500907aR39
namespace Go.Proofs.Qxb6500907a
open Go.Eng
set_option linter.unusedVariables false
set_option linter.unusedSimpArgs false

/-! ## play, with the model beside the layer -/
structure YM extends YS where
  km : Nat
  N : Nw
theorem YI.startZ (n : Nat) (Zm : List (Nat × Obj)) : YI (fun _ => True) n ⟨0, nilV, nilV, pz, .slice none 0 0, [], [], 0, .slice none 0 0, [], false, Zm⟩ :=
  ⟨Nat.zero_le _, pz_net.mono (fun x hx => by cases hx), pz_ok, trivial, Row.nil _ _, (fun c hc => by cases hc), Nat.zero_le _, ⟨[], Row.nil _ _, fun x hx => by cases hx⟩, (fun c hc => by cases hc), Nat.zero_le _⟩
def CaseE (P P' : Pl) (cs : List Ch) : Prop := (∃ us, chk cs ∧ steps P cs = (P', us, 0)) ∨ (P' = P ∧ ∀ P2 us, chk cs → steps P cs ≠ (P2, us, 0))
theorem case_ok {P P1 P2 : Pl} {cs us : List Ch} (h : CaseE P P1 cs) (hc : chk cs) (hs : steps P cs = (P2, us, 0)) : P1 = P2 := by
  rcases h with ⟨us1, _, h1⟩ | ⟨_, h1⟩
  · exact steps_fun h1 hs
  · exact absurd hs (h1 P2 us hc)
theorem case_bad {P P1 : Pl} {cs : List Ch} {code pos : Int} (h : CaseE P P1 cs) (hb : RunBad P cs code pos) : P1 = P := by
  rcases h with ⟨us1, hc, h1⟩ | ⟨h1, _⟩
  · exact (ok_not_bad hc h1 hb).elim
  · exact h1
theorem nd_one {D : List Nat} {w0 w : World} {F G E : List (Nat × Obj)} {x : Nat × Obj} (h : Has D w0 F w) (hk : Keeps F (x :: E) G) : ∀ z, z ∈ E → z.1 ≠ x.1 := fun z hz e => by
  have h1 := (h.keep hk).nodup
  rw [List.map_cons, List.nodup_cons] at h1
  refine h1.1 ?_
  rw [← e]
  exact List.mem_map.2 ⟨z, hz, rfl⟩
theorem has_ea {D : List Nat} {w0 w : World} {Fc A Em Z : List (Nat × Obj)} {x : Nat × Obj} (h : Has D w0 (x :: (Fc ++ (A ++ (Em ++ Z)))) w) : Has D w0 (x :: (A ++ (Em ++ (Z ++ Fc)))) w :=
  h.perm (List.Perm.cons _ (List.perm_append_comm.trans (by simp [List.append_assoc])))
theorem has_ea0 {D : List Nat} {w0 w : World} {Fc A Z : List (Nat × Obj)} {x : Nat × Obj} (h : Has D w0 (x :: (Fc ++ (A ++ Z))) w) : Has D w0 (x :: (A ++ (Z ++ Fc))) w :=
  h.perm (List.Perm.cons _ (List.perm_append_comm.trans (by simp [List.append_assoc])))

end Go.Proofs.Qxb6500907a

import Derived.Test.Qxb6500908aY8
namespace Go.Proofs.Qxb6500908a
open Go.Eng
set_option linter.unusedVariables false
set_option linter.unusedSimpArgs false

attribute [local irreducible] postP orB sh1 bitIn handP

/-! ## a fair suffix drains: the gate -/
theorem phV_le (p : Int) : phV p ≤ 2 := by unfold phV; split; omega; split <;> omega
theorem ans_heed {g : GtP} {m : Ms} {d : Nat} (hg : GtI g) (hd : d < 16) (h : Ans g.st g.au d m) (hp : ¬ g.st.ph = 0) : Heed g m ∧ ((g.st.ph = 1 ∧ m.k = 4) ∨ (¬ g.st.ph = 1 ∧ CnfW g m)) := by
  obtain ⟨a1, a2, a3, a4⟩ := h
  have hh : Heed g m := ⟨hg.on, hp, by omega, a2, a3⟩
  refine ⟨hh, ?_⟩
  have := hg.s.p
  rcases a4 with a | ⟨a, b, c⟩ | ⟨a, b, c, e, f, i⟩
  · exact .inl a
  · exact .inr ⟨a, hh, .inl ⟨c, a, b⟩⟩
  · refine .inr ⟨a, hh, .inr ?_⟩
    rcases (show g.st.ph = 2 ∨ g.st.ph = 3 by omega) with p | p
    · exact .inl ⟨c, p, b, f p, e⟩
    · exact .inr ⟨c, p, b, i p, e⟩
theorem gin_prog {g : GtP} {l : LdP} {i : InP} {r : GtP × LdP} (hg : GtI g) (hs : g.st = l.d) (hfu : l.fu ≤ 0) (hk : i.k = 7) (hm0 : 0 ≤ i.m.d) (hr : GinR g l i r) :
    r.1.off = false ∧ r.2.fu ≤ 0 ∧ r.1.q = g.q ∧ (phV r.2.d.ph < phV l.d.ph ∨ (r.2.d = l.d ∧ r.1.au = g.au ∧ (∀ d, d < 16 → Bitt l.d g d → Bitt l.d r.1 d) ∧ (∀ d, d < 16 → Ans l.d g.au d i.m → ¬ l.d.ph = 0 → Bitt l.d r.1 d))) := by
  obtain ⟨r1, r2⟩ := r
  rw [← hs]
  rcases hr with ⟨h1, h2⟩ | ⟨s, g1, h1, h2⟩
  · have h1 : r2 = l := h1
    subst h1
    have hon : r1.off = false := (h2.gti hg).1.on
    have h2 : Qt g i r1 := h2
    cases h2 with
    | same h5 h7 =>
      refine ⟨hon, hfu, rfl, .inr ⟨hs.symm, rfl, fun d _ h => h, fun d hd ha hp => ?_⟩⟩
      obtain ⟨hh, h9⟩ := ans_heed hg hd ha hp
      rcases h9 with h9 | h9
      · exact absurd ⟨hh, h9.2, h9.1⟩ (h7 hk).1
      · exact absurd h9.2 (h7 hk).2
    | yes h hh h4 hp1 hy hn =>
      refine ⟨hon, hfu, rfl, .inr ⟨hs.symm, rfl, fun d hd hb => ?_, fun d hd ha hp => ?_⟩⟩
      · rcases hb with hb | hb
        · exact .inl ⟨hb.1, by show bitIn (orB g.ys (sh1 i.m.d)) d = true; rw [bit_nat hm0 hh.2.2.1 hd, hb.2]; rfl⟩
        · exact absurd hp1 hb.1
      · exact .inl ⟨hp1, by show bitIn (orB g.ys (sh1 i.m.d)) d = true; rw [bit_nat hm0 hh.2.2.1 hd, decide_eq_true (show d = i.m.d.toNat by have := ha.1; omega), Bool.or_true]⟩
    | cnf h hc hn =>
      have hh := hc.1
      have h1 : ¬ g.st.ph = 1 := by rcases hc.2 with h9 | h9 | h9 <;> omega
      refine ⟨hon, hfu, rfl, .inr ⟨hs.symm, rfl, fun d hd hb => ?_, fun d hd ha hp => ?_⟩⟩
      · rcases hb with hb | hb
        · exact absurd hb.1 h1
        · exact .inr ⟨h1, by show bitIn (orB g.dn (sh1 i.m.d)) d = true; rw [bit_nat hm0 hh.2.2.1 hd, hb.2]; rfl⟩
      · exact .inr ⟨h1, by show bitIn (orB g.dn (sh1 i.m.d)) d = true; rw [bit_nat hm0 hh.2.2.1 hd, decide_eq_true (show d = i.m.d.toNat by have := ha.1; omega), Bool.or_true]⟩
    | sub b f h => omega
    | ref b q f h => omega
    | wait h => omega
    | rep h => omega
  · rcases h2 with ⟨e1, e2, _, e3⟩ | ⟨_, _, _, _, e⟩
    · have e1 : r1 = g1 := e1
      have e2 : r2.d = s := e2
      have e3 : r2.fu ≤ 0 := by rw [show r2.fu = l.fu from e3 hfu]; exact hfu
      subst e1
      have hon : r1.off = false := (h1.gti hg).on
      refine ⟨hon, e3, ?_, .inl ?_⟩
      · cases h1 with
        | dec c y t h1 hw => rfl
        | cls hk hc hd => rfl
        | start b q n h => omega
        | abq h => omega
        | add h => omega
        | drop h => omega
      · show phV r2.d.ph < phV g.st.ph
        rw [e2]
        cases h1 with
        | dec c y t h1 hw =>
          rw [h1]
          show phV (if c then 2 else 3) < phV 1
          cases c <;> decide
        | cls hk hc hd =>
          have h23 : ¬ g.st.ph = 1 ∧ ¬ g.st.ph = 0 := by
            have := hc.1.2.1
            rcases hc.2 with h9 | h9 | h9 <;> omega
          show phV 0 < phV g.st.ph
          unfold phV
          rw [if_neg h23.1, if_neg h23.2]; decide
        | start b q n h => omega
        | abq h => omega
        | add h => omega
        | drop h => omega
    · have e : 0 < l.fu := e
      omega
theorem gin_tick {g : GtP} {l : LdP} {i : InP} {r : GtP × LdP} (hg : GtI g) (hs : g.st = l.d) (hfu : l.fu ≤ 0) (hk : i.k = 5) (hr : GinR g l i r) :
    r.1.off = false ∧ r.2.fu ≤ 0 ∧ 2 * r.1.q.length + phV r.2.d.ph ≤ 2 * g.q.length + phV l.d.ph ∧ (2 * r.1.q.length + phV r.2.d.ph < 2 * g.q.length + phV l.d.ph ∨ 2 * r.1.q.length + phV r.2.d.ph = 0 ∨ (r.1.out = pushP r.1 ∧ r.1.st = r.2.d ∧ ¬ r.2.d.ph = 0)) := by
  obtain ⟨r1, r2⟩ := r
  rw [← hs]
  rcases hr with ⟨h1, h2⟩ | ⟨s, g1, h1, h2⟩
  · have h1 : r2 = l := h1
    subst h1
    have hon : r1.off = false := (h2.gti hg).1.on
    have h2 : Qt g i r1 := h2
    show r1.off = false ∧ r2.fu ≤ 0 ∧ 2 * r1.q.length + phV r2.d.ph ≤ _ ∧ (2 * r1.q.length + phV r2.d.ph < _ ∨ 2 * r1.q.length + phV r2.d.ph = 0 ∨ (r1.out = pushP r1 ∧ r1.st = r2.d ∧ ¬ r2.d.ph = 0))
    rw [← hs]
    cases h2 with
    | same h5 h7 =>
      refine ⟨hon, hfu, Nat.le_refl _, .inr (.inl ?_)⟩
      rw [(h5 hk).1, (h5 hk).2]; rfl
    | yes h => omega
    | cnf h => omega
    | sub b f h => omega
    | ref b q f h h0 hq =>
      refine ⟨hon, hfu, ?_, .inl ?_⟩
      · show 2 * q.length + _ ≤ 2 * g.q.length + _; rw [hq, List.length_cons]; omega
      · show 2 * q.length + _ < 2 * g.q.length + _; rw [hq, List.length_cons]; omega
    | wait h h1 ht => exact ⟨hon, hfu, Nat.le_refl _, .inr (.inr ⟨rfl, rfl, by omega⟩)⟩
    | rep h h1 => exact ⟨hon, hfu, Nat.le_refl _, .inr (.inr ⟨rfl, rfl, by omega⟩)⟩
  · rcases h2 with ⟨e1, e2, _, e3⟩ | ⟨_, _, _, _, e⟩
    · have e1 : r1 = g1 := e1
      have e2 : r2.d = s := e2
      have fu3 : r2.fu ≤ 0 := by rw [show r2.fu = l.fu from e3 hfu]; exact hfu
      subst e1
      have hon : r1.off = false := (h1.gti hg).on
      show r1.off = false ∧ r2.fu ≤ 0 ∧ 2 * r1.q.length + phV r2.d.ph ≤ _ ∧ (2 * r1.q.length + phV r2.d.ph < _ ∨ 2 * r1.q.length + phV r2.d.ph = 0 ∨ (r1.out = pushP r1 ∧ r1.st = r2.d ∧ ¬ r2.d.ph = 0))
      rw [e2]
      cases h1 with
      | start b q n h h0 hq =>
        refine ⟨hon, fu3, ?_, .inr (.inr ⟨rfl, rfl, by show ¬ (1 : Int) = 0; decide⟩)⟩
        show 2 * q.length + phV 1 ≤ 2 * g.q.length + phV g.st.ph
        rw [hq, h0, List.length_cons]
        show 2 * q.length + 2 ≤ 2 * (q.length + 1) + 0
        omega
      | dec c y t h1 hw =>
        have h9 : phV (setlP g.st c).ph < phV g.st.ph := by
          rw [h1]
          show phV (if c then 2 else 3) < phV 1
          cases c <;> decide
        exact ⟨hon, fu3, by simp only; omega, .inl (by simp only; omega)⟩
      | cls h => omega
      | abq h => omega
      | add h => omega
      | drop h => omega
    · have e : 0 < l.fu := e
      omega
/-- what is pushed stands in the bag -/
theorem push_pnd {g : GtP} (hp : 0 ≤ g.st.ph ∧ g.st.ph ≤ 3) (h0 : ¬ g.st.ph = 0) {d : Nat} (hd : d < 16) (X : List Ms) (dv : List DeP) : Bitt g.st g d ∨ Pnd g.st g.au dv d (X ++ pushP g) := by
  obtain ⟨L1, L2, hL⟩ := List.append_of_mem (List.mem_range.2 hd)
  have hP : pushP g = L1.flatMap (psh1 g) ++ (psh1 g d ++ L2.flatMap (psh1 g)) := by
    unfold pushP
    rw [hL, List.flatMap_append, List.flatMap_cons]
  rw [hP]
  generalize L1.flatMap (psh1 g) = F1
  generalize L2.flatMap (psh1 g) = F2
  by_cases h1 : g.st.ph = 1
  · cases hb : bitIn g.ys d with
    | true => exact .inl (.inl ⟨h1, hb⟩)
    | false =>
      right
      have e : psh1 g d = [mkP g.st g.sl 0 d] := by unfold psh1; rw [if_pos h1, hb]; rfl
      rw [e]
      exact ⟨X ++ F1, mkP g.st g.sl 0 d, F2, by simp, ⟨rfl, rfl, rfl, by rw [if_pos h1]; rfl⟩, fun h => absurd h1 h⟩
  · cases hb : bitIn g.dn d with
    | true => exact .inl (.inr ⟨h1, hb⟩)
    | false =>
      right
      have h23 : g.st.ph = 2 ∨ g.st.ph = 3 := by omega
      have e : psh1 g d = mkP g.st g.sl (if g.st.ph = 2 then 1 else 2) d :: (if g.au then [mkP g.st g.sl 3 d] else []) := by unfold psh1; rw [if_neg h1, if_pos h23, hb]; rfl
      rw [e]
      cases ha : g.au with
      | true =>
        refine ⟨X ++ F1 ++ [mkP g.st g.sl (if g.st.ph = 2 then 1 else 2) d], mkP g.st g.sl 3 d, F2, by simp, ⟨rfl, rfl, rfl, by rw [if_neg h1]; rfl⟩, fun _ _ => .inr ⟨_, List.mem_append_right _ (List.mem_singleton.2 rfl), rfl, rfl, rfl, rfl⟩⟩
      | false =>
        refine ⟨X ++ F1, mkP g.st g.sl (if g.st.ph = 2 then 1 else 2) d, F2, by simp, ⟨rfl, rfl, rfl, by rw [if_neg h1]; rfl⟩, fun _ a => (by cases a)⟩

end Go.Proofs.Qxb6500908a

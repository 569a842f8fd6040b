import Derived.Test.Qxb6500907aR9
namespace Go.Proofs.Qxb6500907a
open Go.Eng
set_option linter.unusedVariables false
set_option linter.unusedSimpArgs false

/-! ## the two checks of a change agree -/
theorem gp00 : gpF 0 0 = true := by kernel_rfl
theorem eq3 (x y z : Int) : eqLits [.int .u8 x, .int .u8 y, .int .u8 z] [.int .u8 0, .int .u8 0, .int .u8 0] = true ↔ x = 0 ∧ y = 0 ∧ z = 0 := by
  simp [eqLits, litBeq]
theorem eq4 (p : Bool) (x y z : Int) : eqLits [.bool p, .int .u8 x, .int .u8 y, .int .u8 z] [.bool false, .int .u8 0, .int .u8 0, .int .u8 0] = true ↔ p = false ∧ x = 0 ∧ y = 0 ∧ z = 0 := by
  simp [eqLits, litBeq]
theorem ck_iff (c : Ch) : ckF c = 0 ↔ ¬ 6 ≤ c.kd ∧ ¬ 16 ≤ c.dv ∧ ¬ (c.kd = 0 ∧ 16 < c.via) ∧ ¬ (c.kd = 0 ∧ c.via = c.dv) ∧ ¬ (c.kd = 2 ∧ 16 < c.cl) ∧ ¬ ((c.kd = 4 ∨ c.kd = 5) ∧ 16 ≤ c.pr) ∧ ¬ ((c.kd = 4 ∨ c.kd = 5) ∧ (c.pr = c.dv ∨ (c.kd = 4 ∧ c.pr < c.dv))) ∧ (gpF c.ra c.rl = true ∧ gpF c.da c.dl = true) ∧ ¬ 64 ≤ c.ix ∧ eqLits c.lits (useF c).lits = true := by
  constructor
  · intro h
    unfold ckF at h
    by_cases h1 : 6 ≤ c.kd
    · rw [if_pos h1] at h; cases h
    rw [if_neg h1] at h
    by_cases h2 : 16 ≤ c.dv
    · rw [if_pos h2] at h; cases h
    rw [if_neg h2] at h
    by_cases h3 : c.kd = 0 ∧ 16 < c.via
    · rw [if_pos h3] at h; cases h
    rw [if_neg h3] at h
    by_cases h4 : c.kd = 0 ∧ c.via = c.dv
    · rw [if_pos h4] at h; cases h
    rw [if_neg h4] at h
    by_cases h5 : c.kd = 2 ∧ 16 < c.cl
    · rw [if_pos h5] at h; cases h
    rw [if_neg h5] at h
    by_cases h6 : (c.kd = 4 ∨ c.kd = 5) ∧ 16 ≤ c.pr
    · rw [if_pos h6] at h; cases h
    rw [if_neg h6] at h
    by_cases h7 : (c.kd = 4 ∨ c.kd = 5) ∧ (c.pr = c.dv ∨ (c.kd = 4 ∧ c.pr < c.dv))
    · rw [if_pos h7] at h; cases h
    rw [if_neg h7] at h
    by_cases h8 : gpF c.ra c.rl = false ∨ gpF c.da c.dl = false
    · rw [if_pos h8] at h; cases h
    rw [if_neg h8] at h
    by_cases h9 : 64 ≤ c.ix
    · rw [if_pos h9] at h; cases h
    rw [if_neg h9] at h
    by_cases h10 : eqLits c.lits (useF c).lits = false
    · rw [if_pos h10] at h; cases h
    rw [if_neg h10] at h
    refine ⟨h1, h2, h3, h4, h5, h6, h7, ?_, h9, by simpa using h10⟩
    constructor
    · cases hq : gpF c.ra c.rl
      · exact absurd (.inl hq) h8
      · rfl
    · cases hq : gpF c.da c.dl
      · exact absurd (.inr hq) h8
      · rfl
  · rintro ⟨h1, h2, h3, h4, h5, h6, h7, ⟨h8, h8'⟩, h9, h10⟩
    unfold ckF
    rw [if_neg h1, if_neg h2, if_neg h3, if_neg h4, if_neg h5, if_neg h6, if_neg h7, if_neg (by rw [h8, h8']; simp), if_neg h9, if_neg (by rw [h10]; simp)]
theorem wf_ck (c : Ch) (h : c.ok) : wfF c = decide (ckF c = 0) := by
  rw [Bool.eq_iff_iff, decide_eq_true_eq, ck_iff]
  obtain ⟨kd, dv, pr, ix, up, ra, rl, via, pm, da, dl, cl⟩ := c
  obtain ⟨h1, h2, h3, h4, h5, h6, h7, h8, h9, h10⟩ := h
  simp only at h1 h2 h3 h4 h5 h6 h7 h8 h9 h10
  by_cases k6 : 6 ≤ kd
  · unfold wfF
    simp only
    rw [if_neg (by omega), if_neg (by omega), if_neg (by omega), if_neg (by omega), if_neg (by omega), if_neg (by omega)]
    constructor
    · intro h; cases h
    · intro h; exact absurd k6 h.1
  have hk : kd = 0 ∨ kd = 1 ∨ kd = 2 ∨ kd = 3 ∨ kd = 4 ∨ kd = 5 := by omega
  have hg := gp00
  rcases hk with rfl | rfl | rfl | rfl | rfl | rfl
  all_goals
    simp only [wfF, useF, Ch.lits, noPr, noRt, noRl, nxV, if_true, if_false, reduceIte, eq3, eq4, Bool.and_eq_true, Bool.or_eq_true, decide_eq_true_eq, Bool.not_eq_true', decide_eq_false_iff_not, eqLits, litBeq, Int.reduceEq, Int.reduceLT, Int.reduceLE, beq_iff_eq, true_and, and_true, false_and, and_false, not_false_eq_true, or_false, false_or, or_true, true_or]
    constructor
    · intro hq
      simp_all
      try omega
    · intro hq
      simp_all
      try omega

end Go.Proofs.Qxb6500907a

import Derived.Test.Qxb6500912aGreatDoorZ16
namespace Go.Proofs.Qxb6500912aGreatDoor
open Go.Eng
set_option linter.unusedVariables false
set_option linter.unusedSimpArgs false

theorem cnt_or {g1 g2 : Nat → Bool} : ∀ (f r : Nat), (∀ j, j < f → ¬ (g1 j = true ∧ g2 j = true)) → cntA (fun j => g1 j || g2 j) f r = cntA g1 f r + cntA g2 f r
  | 0, _, _ => rfl
  | f + 1, r, h => by
    have h0 := h f (Nat.lt_succ_self _)
    unfold cntA
    rw [cnt_or f r (fun j hj => h j (by omega))]
    by_cases hr : r ≤ f
    · cases e1 : g1 f <;> cases e2 : g2 f <;> simp_all <;> omega
    · rw [if_neg (fun c => hr c.1), if_neg (fun c => hr c.1), if_neg (fun c => hr c.1)]; omega
theorem cnt_int (a b : Nat) : ∀ (f r : Nat), cntA (fun j => decide (a ≤ j ∧ j < b)) f r = min b f - max a r
  | 0, r => by show 0 = _; omega
  | f + 1, r => by
    unfold cntA
    rw [cnt_int a b f r]
    by_cases h : r ≤ f ∧ a ≤ f ∧ f < b
    · rw [if_pos ⟨h.1, decide_eq_true ⟨h.2.1, h.2.2⟩⟩]; omega
    · rw [if_neg (fun c => h ⟨c.1, (of_decide_eq_true c.2).1, (of_decide_eq_true c.2).2⟩)]; omega
theorem cnt_zero {g : Nat → Bool} : ∀ (f r : Nat), (∀ j, j < f → g j = false) → cntA g f r = 0
  | 0, _, _ => rfl
  | f + 1, r, h => by
    unfold cntA
    rw [cnt_zero f r (fun j hj => h j (by omega)), if_neg (fun c => by rw [h f (Nat.lt_succ_self _)] at c; cases c.2)]
theorem cnt_one (a : Nat) : ∀ (f r : Nat), a < f → cntA (fun j => decide (j = a)) f r = if r ≤ a then 1 else 0
  | f + 1, r, h => by
    unfold cntA
    by_cases e : a = f
    · subst e
      have h0 : cntA (fun j => decide (j = a)) a r = 0 := cnt_zero a r fun j hj => by simp; omega
      rw [h0]
      by_cases hr : r ≤ a
      · rw [if_pos ⟨hr, by simp⟩, if_pos hr]
      · rw [if_neg (fun c => hr c.1), if_neg hr]
    · have e2 : ¬ (r ≤ f ∧ decide (f = a) = true) := fun c => e (of_decide_eq_true c.2).symm
      rw [cnt_one a f r (by omega), if_neg e2, Nat.add_zero]
theorem cnt_ext {g g' : Nat → Bool} : ∀ (f r : Nat), (∀ j, j < f → g j = g' j) → cntA g f r = cntA g' f r
  | 0, _, _ => rfl
  | f + 1, r, h => by
    unfold cntA
    rw [cnt_ext f r (fun j hj => h j (by omega)), h f (Nat.lt_succ_self _)]
theorem cov_cons (x : Bk) (os : List Bk) : covB (x :: os) = fun j => decide (x.s ≤ j ∧ j < x.e) || covB os j := by funext j; unfold covB; rw [List.any_cons]
theorem cnt_cov {f k : Nat} : ∀ {os : List Bk}, BInv f os → ¬ Cov os k → cntA (covB os) f (k + 1) = abB os k
  | [], _, _ => cnt_zero f (k + 1) fun j _ => rfl
  | x :: os, h, hk => by
    have hx := h.1
    have hk2 : ¬ Cov os k := fun ⟨z, h1, h2⟩ => hk ⟨z, List.mem_cons_of_mem _ h1, h2⟩
    have hk1 : k < x.s ∨ x.e ≤ k := by
      rcases Nat.lt_or_ge k x.s with c | c
      · exact .inl c
      · exact .inr (Nat.le_of_not_lt fun c2 => hk ⟨x, List.mem_cons_self, c, c2⟩)
    rw [cov_cons, cnt_or f (k + 1) fun j _ hj => by
      obtain ⟨z, h1, h2, _⟩ := covB_iff.1 hj.2
      have h3 := of_decide_eq_true hj.1
      have := h.2.1 z h1
      omega, cnt_int, cnt_cov h.2.2 hk2]
    unfold abB
    rw [List.filter_cons]
    have h2 := hx.2; have h1 := hx.1
    rcases hk1 with c | c
    · rw [if_pos (decide_eq_true c), List.foldr_cons]; omega
    · rw [if_neg (by simp; omega)]; omega
theorem binv_gap {f : Nat} : ∀ {os : List Bk}, BInv f os → ∀ {x y : Bk}, x ∈ os → y ∈ os → y.s < x.s → x.s ≤ y.e → False
  | [], _, _, _, hx, _, _, _ => by cases hx
  | z :: os, h, x, y, hx, hy, h1, h2 => by
    rcases List.mem_cons.1 hx with e1 | e1
    · rcases List.mem_cons.1 hy with e2 | e2
      · rw [e1, e2] at h1; omega
      · rw [e1] at h1; have := h.2.1 y e2; have := h.1.1; omega
    · rcases List.mem_cons.1 hy with e2 | e2
      · rw [e2] at h2; have := h.2.1 x e1; omega
      · exact binv_gap h.2.2 e1 e2 h1 h2
theorem run_cov {f : Nat} {os : List Bk} (h : BInv f os) (j : Nat) : runG (covB os) j = os.any fun x => decide (j = x.s) := by
  rw [Bool.eq_iff_iff]
  unfold runG pg
  rw [List.any_eq_true, Bool.and_eq_true, covB_iff]
  constructor
  · rintro ⟨⟨x, h1, h2, h3⟩, h4⟩
    refine ⟨x, h1, decide_eq_true ?_⟩
    by_cases e : j = x.s
    · exact e
    · exfalso
      have : covB os (j - 1) = true := covB_iff.2 ⟨x, h1, by omega, by omega⟩
      rw [this, decide_eq_true (by omega)] at h4
      cases h4
  · rintro ⟨x, h1, h2⟩
    have e := of_decide_eq_true h2
    have hb := h.all x h1
    refine ⟨⟨x, h1, by omega, by have := hb.1; omega⟩, ?_⟩
    by_cases c : 1 ≤ j
    · have : covB os (j - 1) = false := by
        cases hc : covB os (j - 1) with
        | false => rfl
        | true =>
          obtain ⟨y, h5, h6, h7⟩ := covB_iff.1 hc
          exact (binv_gap h h1 h5 (by omega) (by omega)).elim
      rw [this]; simp
    · rw [decide_eq_false c]; rfl
theorem cnt_run {f k : Nat} : ∀ {os : List Bk}, BInv f os → cntA (fun j => os.any fun x => decide (j = x.s)) f (k + 1) = abR os k
  | [], _ => cnt_zero f (k + 1) fun j _ => rfl
  | x :: os, h => by
    have hx := h.1
    have e0 : (fun j => (x :: os).any fun x => decide (j = x.s)) = fun j => decide (j = x.s) || os.any fun x => decide (j = x.s) := by funext j; rw [List.any_cons]
    rw [e0, cnt_or f (k + 1) fun j _ hj => by
      obtain ⟨z, h1, h2⟩ := List.any_eq_true.1 hj.2
      have h3 := of_decide_eq_true hj.1
      have h4 := of_decide_eq_true h2
      have := h.2.1 z h1
      have := hx.1
      omega, cnt_one x.s f (k + 1) (by have := hx.1; have := hx.2; omega), cnt_run h.2.2]
    unfold abR
    rw [List.filter_cons]
    by_cases c : k < x.s
    · rw [if_pos (by omega), if_pos (decide_eq_true c), List.length_cons]; omega
    · rw [if_neg (by omega), if_neg (by simp; omega)]; omega
theorem cnt_runs {f k : Nat} {os : List Bk} (h : BInv f os) : cntA (runG (covB os)) f (k + 1) = abR os k := by
  rw [cnt_ext f (k + 1) fun j _ => run_cov h j]
  exact cnt_run h

end Go.Proofs.Qxb6500912aGreatDoor

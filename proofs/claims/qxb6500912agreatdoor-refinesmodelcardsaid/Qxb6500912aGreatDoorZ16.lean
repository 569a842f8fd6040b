import Derived.Test.Qxb6500912aGreatDoorZ15
namespace Go.Proofs.Qxb6500912aGreatDoor
open Go.Eng
set_option linter.unusedVariables false
set_option linter.unusedSimpArgs false

/-! ## a board is known by what it covers -/
theorem binv_uniq : ∀ {l1 l2 : List Bk} {f : Nat}, BInv f l1 → BInv f l2 → (∀ k, Cov l1 k ↔ Cov l2 k) → l1 = l2
  | [], [], _, _, _, _ => rfl
  | [], y :: l2, _, _, h2, h => by
    obtain ⟨z, hz, _⟩ := (h y.s).2 ⟨y, List.mem_cons_self, Nat.le_refl _, h2.1.1⟩
    cases hz
  | x :: l1, [], _, h1, _, h => by
    obtain ⟨z, hz, _⟩ := (h x.s).1 ⟨x, List.mem_cons_self, Nat.le_refl _, h1.1.1⟩
    cases hz
  | x :: l1, y :: l2, f, h1, h2, h => by
    have hx := h1.1.1
    have hy := h2.1.1
    have hs1 : y.s ≤ x.s := by
      obtain ⟨z, hz, h3, _⟩ := (h x.s).1 ⟨x, List.mem_cons_self, Nat.le_refl _, hx⟩
      rcases List.mem_cons.1 hz with rfl | hz
      · exact h3
      · have := h2.2.1 z hz; omega
    have hs2 : x.s ≤ y.s := by
      obtain ⟨z, hz, h3, _⟩ := (h y.s).2 ⟨y, List.mem_cons_self, Nat.le_refl _, hy⟩
      rcases List.mem_cons.1 hz with rfl | hz
      · exact h3
      · have := h1.2.1 z hz; omega
    have he1 : y.e ≤ x.e := by
      refine Nat.le_of_not_lt fun hlt => ?_
      obtain ⟨z, hz, h3, h4⟩ := (h x.e).2 ⟨y, List.mem_cons_self, by omega, hlt⟩
      rcases List.mem_cons.1 hz with rfl | hz
      · omega
      · have := h1.2.1 z hz; omega
    have he2 : x.e ≤ y.e := by
      refine Nat.le_of_not_lt fun hlt => ?_
      obtain ⟨z, hz, h3, h4⟩ := (h y.e).1 ⟨x, List.mem_cons_self, by omega, hlt⟩
      rcases List.mem_cons.1 hz with rfl | hz
      · omega
      · have := h2.2.1 z hz; omega
    have exy : x = y := by
      obtain ⟨a, b, c⟩ := x
      obtain ⟨a', b', c'⟩ := y
      simp only at hs1 hs2 he1 he2
      obtain rfl : a = a' := by omega
      obtain rfl : b = b' := by omega
      rfl
    subst exy
    congr 1
    refine binv_uniq h1.2.2 h2.2.2 fun k => ⟨?_, ?_⟩
    · rintro ⟨z, hz, h3, h4⟩
      obtain ⟨v, hv, h5, h6⟩ := (h k).1 ⟨z, List.mem_cons_of_mem _ hz, h3, h4⟩
      have := h1.2.1 z hz
      rcases List.mem_cons.1 hv with rfl | hv
      · omega
      · exact ⟨v, hv, h5, h6⟩
    · rintro ⟨z, hz, h3, h4⟩
      obtain ⟨v, hv, h5, h6⟩ := (h k).2 ⟨z, List.mem_cons_of_mem _ hz, h3, h4⟩
      have := h2.2.1 z hz
      rcases List.mem_cons.1 hv with rfl | hv
      · omega
      · exact ⟨v, hv, h5, h6⟩
theorem covB_iff {os : List Bk} {k : Nat} : covB os k = true ↔ Cov os k := by
  unfold covB Cov
  rw [List.any_eq_true]
  constructor
  · rintro ⟨x, h1, h2⟩; exact ⟨x, h1, of_decide_eq_true h2⟩
  · rintro ⟨x, h1, h2⟩; exact ⟨x, h1, decide_eq_true h2⟩
/-- the covered bytes above a byte that no block covers: whole blocks -/
def abB (os : List Bk) (k : Nat) : Nat := (os.filter fun x => decide (k < x.s)).foldr (fun x n => (x.e - x.s) + n) 0
def abR (os : List Bk) (k : Nat) : Nat := (os.filter fun x => decide (k < x.s)).length

end Go.Proofs.Qxb6500912aGreatDoor

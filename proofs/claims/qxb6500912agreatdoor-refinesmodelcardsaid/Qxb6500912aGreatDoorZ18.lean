import Derived.Test.Qxb6500912aGreatDoorZ17
namespace Go.Proofs.Qxb6500912aGreatDoor
open Go.Eng
set_option linter.unusedVariables false
set_option linter.unusedSimpArgs false

theorem abB_le {f k : Nat} {os : List Bk} (h : BInv f os) (hk : ¬ Cov os k) : abB os k ≤ f := by
  rw [← cnt_cov h hk]; exact cnt_le _ _ _
theorem abR_le (os : List Bk) (k : Nat) : abR os k ≤ os.length := List.length_filter_le _ _
set_option maxHeartbeats 1000000 in
theorem loss_fold {u : Int} {f k : Nat} (hf : f ≤ 2147483647) (hkf : k < f) : ∀ (os : List Bk), BInv f os → ¬ Cov os k → ∀ (r0 b0 : Nat), r0 + os.length ≤ 1000 → b0 + f ≤ 4294967295 → b0 + abB os k ≤ 2147483647 →
    (os.map (Bk.ab u)).foldl (lostStep ((u + (k : Int)) % 4294967296)) ((r0 : Int), (b0 : Int)) = (((r0 + abR os k : Nat) : Int), ((b0 + abB os k : Nat) : Int))
  | [], _, _, r0, b0, _, _, _ => rfl
  | x :: os, h, hk, r0, b0, h1, h2, h3 => by
    have hx := h.1.1; have hxe := h.1.2
    have hk2 : ¬ Cov os k := fun ⟨z, h1, h2⟩ => hk ⟨z, List.mem_cons_of_mem _ h1, h2⟩
    rw [List.map_cons, List.foldl_cons]
    have e1 : lessP ((u + (k : Int)) % 4294967296) (x.ab u).1 = decide (k < x.s) := less_b (by omega) x.h
    have e2 : lessP (((u + (k : Int)) % 4294967296 + 1) % 4294967296) (x.ab u).2 = decide (k + 1 < x.e) := by
      have : ((u + (k : Int)) % 4294967296 + 1) % 4294967296 = (u + ((k + 1 : Nat) : Int)) % 4294967296 := by omega
      rw [this]; exact less_b (x := k + 1) (y := x.e) (by omega) (by omega)
    have hlen : (x :: os).length = os.length + 1 := rfl
    rw [hlen] at h1
    by_cases c : k < x.s
    · have e3 : abB (x :: os) k = (x.e - x.s) + abB os k := by unfold abB; rw [List.filter_cons, if_pos (decide_eq_true c), List.foldr_cons]
      have e4 : abR (x :: os) k = abR os k + 1 := by unfold abR; rw [List.filter_cons, if_pos (decide_eq_true c), List.length_cons]
      have e5 : lostStep ((u + (k : Int)) % 4294967296) ((r0 : Int), (b0 : Int)) (x.ab u) = (((r0 + 1 : Nat) : Int), ((b0 + (x.e - x.s) : Nat) : Int)) := by
        unfold lostStep
        rw [e1, if_pos (decide_eq_true c)]
        have e6 : ((x.ab u).2 - (x.ab u).1) % 4294967296 = ((x.e - x.s : Nat) : Int) := by unfold Bk.ab; simp only; omega
        rw [e6]
        congr 1
        · simp only; omega
        · simp only; omega
      rw [e3] at h3
      rw [e5, loss_fold hf hkf os h.2.2 hk2 (r0 + 1) (b0 + (x.e - x.s)) (by omega) (by omega) (by omega), e3, e4]
      congr 1 <;> congr 1 <;> omega
    · have hke : x.e ≤ k := Nat.le_of_not_lt fun c2 => hk ⟨x, List.mem_cons_self, by omega, c2⟩
      have e3 : abB (x :: os) k = abB os k := by unfold abB; rw [List.filter_cons, if_neg (by simp; omega)]
      have e4 : abR (x :: os) k = abR os k := by unfold abR; rw [List.filter_cons, if_neg (by simp; omega)]
      have e5 : lostStep ((u + (k : Int)) % 4294967296) ((r0 : Int), (b0 : Int)) (x.ab u) = ((r0 : Int), (b0 : Int)) := by
        unfold lostStep
        rw [e1, e2, if_neg (by simp; omega), if_neg (by simp; omega)]
      rw [e3] at h3
      rw [e5, loss_fold hf hkf os h.2.2 hk2 r0 b0 (by omega) h2 h3, e3, e4]

end Go.Proofs.Qxb6500912aGreatDoor

import Derived.Test.Qxb6500912aGreatDoorZ20
namespace Go.Proofs.Qxb6500912aGreatDoor
open Go.Eng
set_option linter.unusedVariables false
set_option linter.unusedSimpArgs false

/-! ## the estimate, hole by hole -/
theorem pcn_cov {s : CS} {g l : Nat → Bool} {a : Nat} : ∀ {e : Nat}, a ≤ e → (∀ k, a ≤ k → k < e → g k = true) → pcn s g l e = pcn s g l a
  | 0, h, _ => by obtain rfl : a = 0 := by omega
                  rfl
  | e + 1, h, hk => by
    by_cases c : a = e + 1
    · rw [c]
    · rw [pcn_g (hk e (by omega) (by omega)), pcn_cov (by omega) fun k h1 h2 => hk k h1 (by omega)]
theorem pcn_gap {s : CS} {g l : Nat → Bool} {a hi : Nat} {b : Bool} (hh : s.high - s.una = (hi : Int)) : ∀ {e : Nat}, a ≤ e → (∀ k, a ≤ k → k < e → g k = false ∧ l k = b) → pcn s g l e = pcn s g l a + (if b = true then 0 else e - a) + (min e hi - a)
  | 0, h, _ => by
    obtain rfl : a = 0 := by omega
    split <;> omega
  | e + 1, h, hk => by
    by_cases c : a = e + 1
    · rw [c]; split <;> omega
    · obtain ⟨h1, h2⟩ := hk e (by omega) (by omega)
      have ih := pcn_gap (l := l) hh (e := e) (by omega) fun k h1 h2 => hk k h1 (by omega)
      have eh : (s.una + (e : Int) < s.high) ↔ e < hi := by omega
      have hg : ¬ g e = true := by rw [h1]; decide
      have et : pTerm s g l e = (if b = true then 0 else 1) + (if e < hi then 1 else 0) := by
        unfold pTerm
        rw [if_neg hg, h2]
        by_cases c3 : e < hi
        · rw [if_pos (eh.2 c3), if_pos c3]
        · rw [if_neg (fun q => c3 (eh.1 q)), if_neg c3]
      show pcn s g l e + pTerm s g l e = _
      rw [ih, et]
      cases b <;> simp <;> split <;> omega
theorem pstep_same {s m : CS} {st : Int} (h : RelS s m st) {hi f : Nat} (hh : m.high - m.una = (hi : Int)) (hf : f ≤ 2147483647) (hhf : hi ≤ f) {x : HN} (hx : x.a ≤ x.e ∧ x.e ≤ f) {n : Nat} (hn : n + (x.e - x.a) + (x.e - x.a) < 4294967296) :
    pipeStep s (n : Int) (x.ho s.una) = ((n + (if x.lost = true then 0 else x.e - x.a) + (min x.e hi - x.a) : Nat) : Int) := by
  have eh : s.high = (s.una + (hi : Int)) % 4294967296 := by rw [h.high, h.una, seq_add]; congr 1; omega
  unfold pipeStep HN.ho
  simp only
  rw [eh, less_b (u := s.una) (x := x.a) (y := hi) (by omega) (by omega)]
  have e1 : ((s.una + (x.e : Int)) % 4294967296 - (s.una + (x.a : Int)) % 4294967296) % 4294967296 = ((x.e - x.a : Nat) : Int) := by omega
  rw [e1]
  by_cases c : x.a < hi
  · have e2 : ((s.una + (hi : Int)) % 4294967296 - (s.una + (x.a : Int)) % 4294967296) % 4294967296 = ((hi - x.a : Nat) : Int) := by omega
    rw [if_pos (decide_eq_true c), e2]
    cases x.lost <;> simp <;> omega
  · rw [if_neg (by simp; omega)]
    cases x.lost <;> simp <;> omega

end Go.Proofs.Qxb6500912aGreatDoor

import Derived.Test.Qxb6500913aR5
namespace Go.Proofs.Qxb6500913a
open Go.Eng
set_option linter.unusedVariables false
set_option linter.unusedSimpArgs false

attribute [local irreducible] encL

theorem word_step {mb wb rb zb fb qb k : Nat} {f : Nat → Int} {fl : Nat → List Nat} {W R Z Fd : List (Int × Value)} {ws : List WE} {o : MOp} (h : Inv f fl k) (M : RM f fl W R Z Fd ws) (ho : o.ok) (hs : SameBut f (doF f o).f) (W' : List (Int × Value))
    (hw : ∀ a : Nat, 2 ≤ a → a < 4096 → (mget W' (a : Int)).getD (.int .u64 0) = .int .u64 (word (doF f o).f a)) {v0 : Value} (hv : v0 = .agg ⟨(doF f o).ans.l⟩)
    (sp : Sp Try.prog 18 #[.pointer (some ⟨mb, 0, none⟩), o.v] (mblk mb wb rb zb fb qb (boot f) (fresh f) (cnSpent f) W R Z Fd (ws.map WE.kv)) (fun v F' => v = v0 ∧ F' = mblk mb wb rb zb fb qb (boot f) (fresh f) (cnSpent f) W' R Z Fd (ws.map WE.kv))) :
    Sp Try.prog 18 #[.pointer (some ⟨mb, 0, none⟩), o.v] (MFB mb wb rb zb fb qb f W R Z Fd ws) (StepR mb wb rb zb fb qb k f o) := by
  refine sp_post (sp_frame (G := ws.flatMap WE.E) sp (List.Perm.refl _)) ?_
  rintro v F' ⟨F2, ⟨rfl, rfl⟩, rfl⟩
  obtain ⟨fl2, hI2⟩ := h.do ho
  refine ⟨_, [], ⟨fl, W', R, Z, Fd, ws, (h.words_only hs hI2.words).mono, M.same hs hw, hv, ?_⟩, by rw [List.append_nil]⟩
  unfold MFB
  rw [hs.boot, hs.fresh, hs.cn3]
theorem same_step {mb wb rb zb fb qb k : Nat} {f : Nat → Int} {fl : Nat → List Nat} {W R Z Fd : List (Int × Value)} {ws : List WE} {o : MOp} (h : Inv f fl k) (M : RM f fl W R Z Fd ws) (ho : o.ok) (hs : (doF f o).f = f) {v0 : Value} (hv : v0 = .agg ⟨(doF f o).ans.l⟩)
    (sp : Sp Try.prog 18 #[.pointer (some ⟨mb, 0, none⟩), o.v] (mblk mb wb rb zb fb qb (boot f) (fresh f) (cnSpent f) W R Z Fd (ws.map WE.kv)) (fun v F' => v = v0 ∧ F' = mblk mb wb rb zb fb qb (boot f) (fresh f) (cnSpent f) W R Z Fd (ws.map WE.kv))) :
    Sp Try.prog 18 #[.pointer (some ⟨mb, 0, none⟩), o.v] (MFB mb wb rb zb fb qb f W R Z Fd ws) (StepR mb wb rb zb fb qb k f o) :=
  word_step h M ho (by rw [hs]; exact SameBut.refl f) W (fun a a1 a2 => by rw [hs]; exact M.wd a a1 a2) hv sp
section
variable {mb wb rb zb fb qb k : Nat} {f : Nat → Int} {fl : Nat → List Nat} {W R Z Fd : List (Int × Value)} {ws : List WE}
theorem step_k0 (h : Inv f fl k) (M : RM f fl W R Z Fd ws) (x A B E D : Nat) (ho : (⟨0, x, A, B, E, D⟩ : MOp).ok) : Sp Try.prog 18 #[.pointer (some ⟨mb, 0, none⟩), (⟨0, x, A, B, E, D⟩ : MOp).v] (MFB mb wb rb zb fb qb f W R Z Fd ws) (StepR mb wb rb zb fb qb k f ⟨0, x, A, B, E, D⟩) := by
  by_cases c : 2 ≤ x ∧ x < 4096
  · exact same_step h M ho rfl (by show _ = Value.agg ⟨(if 2 ≤ x ∧ x < 4096 then (⟨0, false, word f x, 0⟩ : Ans) else ⟨1, false, 0, 0⟩).l⟩; rw [if_pos c]; rfl) (step_load mb wb rb zb fb qb W R Z Fd _ _ _ _ x A B E D c.1 c.2 _ (M.wd x c.1 c.2))
  · exact same_step h M ho rfl (by show _ = Value.agg ⟨(if 2 ≤ x ∧ x < 4096 then (⟨0, false, word f x, 0⟩ : Ans) else ⟨1, false, 0, 0⟩).l⟩; rw [if_neg c]; rfl) (step_bad mb wb rb zb fb qb W R Z Fd _ _ _ _ x A B E D 0 (by omega) c)
theorem step_k1 (h : Inv f fl k) (M : RM f fl W R Z Fd ws) (x A B E D : Nat) (ho : (⟨1, x, A, B, E, D⟩ : MOp).ok) : Sp Try.prog 18 #[.pointer (some ⟨mb, 0, none⟩), (⟨1, x, A, B, E, D⟩ : MOp).v] (MFB mb wb rb zb fb qb f W R Z Fd ws) (StepR mb wb rb zb fb qb k f ⟨1, x, A, B, E, D⟩) := by
  have hf : (doF f ⟨1, x, A, B, E, D⟩).f = storeF f x A := rfl
  have ha : (doF f ⟨1, x, A, B, E, D⟩).ans = if 2 ≤ x ∧ x < 4096 then ⟨0, false, 0, 0⟩ else ⟨1, false, 0, 0⟩ := rfl
  by_cases c : 2 ≤ x ∧ x < 4096
  · have hf2 : (doF f ⟨1, x, A, B, E, D⟩).f = setWord f x A := by rw [hf]; unfold storeF; rw [if_pos c]
    refine word_step h M ho (by rw [hf2]; exact SameBut.set f x A c.2) _ (fun a a1 a2 => ?_) (by rw [ha, if_pos c]; rfl) (step_store mb wb rb zb fb qb W R Z Fd _ _ _ _ x A B E D c.1 c.2)
    rw [hf2, word_setWord, mget_mput]
    by_cases e : a = x
    · rw [if_pos (by omega), if_pos e]; rfl
    · rw [if_neg (by omega), if_neg e]; exact M.wd a a1 a2
  · have hf2 : (doF f ⟨1, x, A, B, E, D⟩).f = f := by rw [hf]; unfold storeF; rw [if_neg c]
    exact same_step h M ho hf2 (by rw [ha, if_neg c]; rfl) (step_bad mb wb rb zb fb qb W R Z Fd _ _ _ _ x A B E D 1 (by omega) c)
theorem step_k2 (h : Inv f fl k) (M : RM f fl W R Z Fd ws) (x A B E D : Nat) (ho : (⟨2, x, A, B, E, D⟩ : MOp).ok) : Sp Try.prog 18 #[.pointer (some ⟨mb, 0, none⟩), (⟨2, x, A, B, E, D⟩ : MOp).v] (MFB mb wb rb zb fb qb f W R Z Fd ws) (StepR mb wb rb zb fb qb k f ⟨2, x, A, B, E, D⟩) := by
  have hf : (doF f ⟨2, x, A, B, E, D⟩).f = casF f x A B := rfl
  have ha : (doF f ⟨2, x, A, B, E, D⟩).ans = if 2 ≤ x ∧ x < 4096 then ⟨0, decide (word f x = A), word f x, 0⟩ else ⟨1, false, 0, 0⟩ := rfl
  by_cases c : 2 ≤ x ∧ x < 4096
  · by_cases q : word f x = A
    · have hf2 : (doF f ⟨2, x, A, B, E, D⟩).f = setWord f x B := by rw [hf]; unfold casF; rw [if_pos ⟨c.1, c.2, q⟩]
      refine word_step h M ho (by rw [hf2]; exact SameBut.set f x B c.2) _ (fun a a1 a2 => ?_) (by rw [ha, if_pos c, decide_eq_true q]; rfl) (step_casY mb wb rb zb fb qb W R Z Fd _ _ _ _ x A B E D c.1 c.2 _ (M.wd x c.1 c.2) q)
      rw [hf2, word_setWord, mget_mput]
      by_cases e : a = x
      · rw [if_pos (by omega), if_pos e]; rfl
      · rw [if_neg (by omega), if_neg e]; exact M.wd a a1 a2
    · have hf2 : (doF f ⟨2, x, A, B, E, D⟩).f = f := by rw [hf]; unfold casF; rw [if_neg (fun z => q z.2.2)]
      exact same_step h M ho hf2 (by rw [ha, if_pos c, decide_eq_false q]; rfl) (step_casN mb wb rb zb fb qb W R Z Fd _ _ _ _ x A B E D c.1 c.2 _ (M.wd x c.1 c.2) q)
  · have hf2 : (doF f ⟨2, x, A, B, E, D⟩).f = f := by rw [hf]; unfold casF; rw [if_neg (fun z => c ⟨z.1, z.2.1⟩)]
    exact same_step h M ho hf2 (by rw [ha, if_neg c]; rfl) (step_bad mb wb rb zb fb qb W R Z Fd _ _ _ _ x A B E D 2 (by omega) c)
theorem step_k3 (h : Inv f fl k) (M : RM f fl W R Z Fd ws) (x A B E D : Nat) (ho : (⟨3, x, A, B, E, D⟩ : MOp).ok) : Sp Try.prog 18 #[.pointer (some ⟨mb, 0, none⟩), (⟨3, x, A, B, E, D⟩ : MOp).v] (MFB mb wb rb zb fb qb f W R Z Fd ws) (StepR mb wb rb zb fb qb k f ⟨3, x, A, B, E, D⟩) := by
  have hf : (doF f ⟨3, x, A, B, E, D⟩).f = addF f x A := rfl
  have ha : (doF f ⟨3, x, A, B, E, D⟩).ans = if 2 ≤ x ∧ x < 4096 then ⟨0, false, word f x, 0⟩ else ⟨1, false, 0, 0⟩ := rfl
  by_cases c : 2 ≤ x ∧ x < 4096
  · have hf2 : (doF f ⟨3, x, A, B, E, D⟩).f = setWord f x (IntKind.u64.wrap (word f x + A)) := by rw [hf]; unfold addF; rw [if_pos c]
    refine word_step h M ho (by rw [hf2]; exact SameBut.set f x _ c.2) _ (fun a a1 a2 => ?_) (by rw [ha, if_pos c]; rfl) (step_add mb wb rb zb fb qb W R Z Fd _ _ _ _ x A B E D c.1 c.2 _ (M.wd x c.1 c.2))
    rw [hf2, word_setWord, mget_mput]
    by_cases e : a = x
    · rw [if_pos (by omega), if_pos e]; rfl
    · rw [if_neg (by omega), if_neg e]; exact M.wd a a1 a2
  · have hf2 : (doF f ⟨3, x, A, B, E, D⟩).f = f := by rw [hf]; unfold addF; rw [if_neg c]
    exact same_step h M ho hf2 (by rw [ha, if_neg c]; rfl) (step_bad mb wb rb zb fb qb W R Z Fd _ _ _ _ x A B E D 3 (by omega) c)
theorem step_k4 (h : Inv f fl k) (M : RM f fl W R Z Fd ws) (x A B E D : Nat) (ho : (⟨4, x, A, B, E, D⟩ : MOp).ok) : Sp Try.prog 18 #[.pointer (some ⟨mb, 0, none⟩), (⟨4, x, A, B, E, D⟩ : MOp).v] (MFB mb wb rb zb fb qb f W R Z Fd ws) (StepR mb wb rb zb fb qb k f ⟨4, x, A, B, E, D⟩) := by
  have hf : (doF f ⟨4, x, A, B, E, D⟩).f = dcasF f x A B E D := rfl
  have ha : (doF f ⟨4, x, A, B, E, D⟩).ans = if ¬ (2 ≤ x ∧ x < 4096) then ⟨1, false, 0, 0⟩ else if x % 2 ≠ 0 then ⟨2, false, 0, 0⟩ else ⟨0, decide (word f x = A ∧ word f (x + 1) = B), word f x, word f (x + 1)⟩ := rfl
  by_cases c : 2 ≤ x ∧ x < 4096
  · by_cases m : x % 2 = 0
    · have hw1 := M.wd x c.1 c.2
      have hw2 := M.wd (x + 1) (by omega) (by omega)
      rw [show ((x + 1 : Nat) : Int) = (x : Int) + 1 by omega] at hw2
      by_cases q : word f x = A ∧ word f (x + 1) = B
      · have hf2 : (doF f ⟨4, x, A, B, E, D⟩).f = setWord (setWord f x E) (x + 1) D := by rw [hf]; unfold dcasF; rw [if_pos ⟨c.1, c.2, m, q.1, q.2⟩]
        refine word_step h M ho (by rw [hf2]; exact (SameBut.set f x _ c.2).trans (SameBut.set _ _ _ (by omega))) _ (fun a a1 a2 => ?_) (by rw [ha, if_neg (not_not_intro c), if_neg (by omega), decide_eq_true q]; rfl) (step_dcasY mb wb rb zb fb qb W R Z Fd _ _ _ _ x A B E D c.1 c.2 _ _ hw1 hw2 m q.1 q.2)
        rw [hf2, word_setWord, word_setWord, mget_mput, mget_mput]
        by_cases e : a = x + 1
        · rw [if_pos (by omega), if_pos e]; rfl
        · rw [if_neg (by omega), if_neg e]
          by_cases e2 : a = x
          · rw [if_pos (by omega), if_pos e2]; rfl
          · rw [if_neg (by omega), if_neg e2]; exact M.wd a a1 a2
      · have hf2 : (doF f ⟨4, x, A, B, E, D⟩).f = f := by rw [hf]; unfold dcasF; rw [if_neg (fun z => q z.2.2.2)]
        exact same_step h M ho hf2 (by rw [ha, if_neg (not_not_intro c), if_neg (by omega), decide_eq_false q]; rfl) (step_dcasN mb wb rb zb fb qb W R Z Fd _ _ _ _ x A B E D c.1 c.2 _ _ hw1 hw2 m q)
    · have hf2 : (doF f ⟨4, x, A, B, E, D⟩).f = f := by rw [hf]; unfold dcasF; rw [if_neg (fun z => m z.2.2.1)]
      exact same_step h M ho hf2 (by rw [ha, if_neg (not_not_intro c), if_pos m]; rfl) (step_dcasM mb wb rb zb fb qb W R Z Fd _ _ _ _ x A B E D c.1 c.2 (by omega))
  · have hf2 : (doF f ⟨4, x, A, B, E, D⟩).f = f := by rw [hf]; unfold dcasF; rw [if_neg (fun z => c ⟨z.1, z.2.1⟩)]
    exact same_step h M ho hf2 (by rw [ha, if_pos c]; rfl) (step_bad mb wb rb zb fb qb W R Z Fd _ _ _ _ x A B E D 4 (by omega) c)
theorem step_k7 (h : Inv f fl k) (M : RM f fl W R Z Fd ws) (kd x A B E D : Nat) (hk : 7 ≤ kd) (ho : (⟨kd, x, A, B, E, D⟩ : MOp).ok) : Sp Try.prog 18 #[.pointer (some ⟨mb, 0, none⟩), (⟨kd, x, A, B, E, D⟩ : MOp).v] (MFB mb wb rb zb fb qb f W R Z Fd ws) (StepR mb wb rb zb fb qb k f ⟨kd, x, A, B, E, D⟩) := by
  have hd : doF f ⟨kd, x, A, B, E, D⟩ = ⟨⟨7, false, 0, 0⟩, f⟩ := by
    unfold doF
    dsimp only
    rw [if_neg (by omega), if_neg (by omega), if_neg (by omega), if_neg (by omega), if_neg (by omega), if_neg (by omega), if_neg (by omega)]
  exact same_step h M ho (by rw [hd]) (by rw [hd]; rfl) (step_other mb wb rb zb fb qb W R Z Fd _ _ _ _ x A B E D kd hk)
end

end Go.Proofs.Qxb6500913a

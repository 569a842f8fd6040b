import Derived.Test.Qxb6500907aV0
namespace Go.Proofs.Qxb6500907a
open Go.Eng
set_option linter.unusedVariables false
set_option linter.unusedSimpArgs false

/-- what the layer keeps besides -/
structure WF (P : Pl) : Prop where
  rt : ∀ d, d < 16 → ∀ r, r ∈ P.rs d → gpF r.a r.l = true ∧ r.v ≤ 16 ∧ r.v ≠ (d : Int)
  rl : ∀ d, d < 16 → ∀ r, r ∈ P.al d → gpF r.a r.l = true ∧ r.c ≤ 16
  sym : ∀ a b, a < 16 → b < 16 → a ≠ b → bitF (P.link a) (b : Int) = bitF (P.link b) (a : Int)
theorem ck_all {c : Ch} (h : ckF c = 0) : c.kd < 6 ∧ c.dv < 16 ∧ (c.kd = 0 → c.via ≤ 16 ∧ c.via ≠ c.dv) ∧ (c.kd = 2 → c.cl ≤ 16) ∧ ((c.kd = 4 ∨ c.kd = 5) → c.pr < 16 ∧ c.pr ≠ c.dv ∧ (c.kd = 4 → c.dv ≤ c.pr)) ∧ gpF c.ra c.rl = true ∧ gpF c.da c.dl = true ∧ c.ix < 64 := by
  unfold ckF at h
  by_cases h1 : 6 ≤ c.kd
  · rw [if_pos h1] at h; omega
  rw [if_neg h1] at h
  by_cases h2 : 16 ≤ c.dv
  · rw [if_pos h2] at h; omega
  rw [if_neg h2] at h
  by_cases h3 : c.kd = 0 ∧ 16 < c.via
  · rw [if_pos h3] at h; omega
  rw [if_neg h3] at h
  by_cases h4 : c.kd = 0 ∧ c.via = c.dv
  · rw [if_pos h4] at h; omega
  rw [if_neg h4] at h
  by_cases h5 : c.kd = 2 ∧ 16 < c.cl
  · rw [if_pos h5] at h; omega
  rw [if_neg h5] at h
  by_cases h6 : (c.kd = 4 ∨ c.kd = 5) ∧ 16 ≤ c.pr
  · rw [if_pos h6] at h; omega
  rw [if_neg h6] at h
  by_cases h7 : (c.kd = 4 ∨ c.kd = 5) ∧ (c.pr = c.dv ∨ (c.kd = 4 ∧ c.pr < c.dv))
  · rw [if_pos h7] at h; omega
  rw [if_neg h7] at h
  by_cases h8 : gpF c.ra c.rl = false ∨ gpF c.da c.dl = false
  · rw [if_pos h8] at h; omega
  rw [if_neg h8] at h
  by_cases h9 : 64 ≤ c.ix
  · rw [if_pos h9] at h; omega
  refine ⟨by omega, by omega, fun e => ⟨by omega, fun e2 => h4 ⟨e, e2⟩⟩, fun e => by omega, fun e => ⟨by omega, fun e2 => h7 ⟨e, .inl e2⟩, fun e3 => by omega⟩, ?_, ?_, by omega⟩
  · cases hg : gpF c.ra c.rl
    · exact absurd (.inl hg) h8
    · rfl
  · cases hg : gpF c.da c.dl
    · exact absurd (.inr hg) h8
    · rfl
theorem ck_intro {c : Ch} (h1 : c.kd < 6) (h2 : c.dv < 16) (h3 : c.kd = 0 → c.via ≤ 16 ∧ c.via ≠ c.dv) (h4 : c.kd = 2 → c.cl ≤ 16) (h5 : (c.kd = 4 ∨ c.kd = 5) → c.pr < 16 ∧ c.pr ≠ c.dv ∧ (c.kd = 4 → c.dv ≤ c.pr)) (h6 : gpF c.ra c.rl = true) (h7 : gpF c.da c.dl = true) (h8 : c.ix < 64) (h9 : eqLits c.lits (useF c).lits = true) : ckF c = 0 := by
  unfold ckF
  rw [if_neg (by omega), if_neg (by omega), if_neg (by omega), if_neg (fun e => (h3 e.1).2 e.2), if_neg (by omega), if_neg (by omega), if_neg (fun e => by have := h5 e.1; omega), if_neg (by rw [h6, h7]; simp), if_neg (by omega), if_neg (by rw [h9]; simp)]
theorem gp00 : gpF 0 0 = true := by decide
theorem ins_take {α : Type} {l : List α} {i : Nat} {r : α} (h : i ≤ l.length) : (l.take i ++ r :: l.drop i).take i = l.take i := by
  rw [List.take_append_of_le_length (by rw [List.length_take]; omega), List.take_take, Nat.min_self]
theorem ins_drop {α : Type} {l : List α} {i : Nat} {r : α} (h : i ≤ l.length) : (l.take i ++ r :: l.drop i).drop (i + 1) = l.drop i := by
  have e : (l.take i).length = i := by rw [List.length_take]; omega
  rw [List.drop_append, List.drop_eq_nil_of_le (by omega), e, List.nil_append, show i + 1 - i = 1 by omega]; rfl
theorem ins_at {α : Type} {l : List α} {i : Nat} {r : α} (h : i ≤ l.length) : (l.take i ++ r :: l.drop i)[i]? = some r := by
  have e : (l.take i).length = i := by rw [List.length_take]; omega
  rw [List.getElem?_append_right (by omega), e, Nat.sub_self]; rfl
theorem ins_lt {α : Type} {l : List α} {i j : Nat} {r : α} (h : i ≤ l.length) (hj : j < i) : (l.take i ++ r :: l.drop i)[j]? = l[j]? := by
  rw [List.getElem?_append_left (by rw [List.length_take]; omega), List.getElem?_take, if_pos hj]
theorem ins_gt {α : Type} {l : List α} {i j : Nat} {r : α} (h : i ≤ l.length) (hj : i ≤ j) : (l.take i ++ r :: l.drop i)[j + 1]? = l[j]? := by
  have e : (l.take i).length = i := by rw [List.length_take]; omega
  rw [List.getElem?_append_right (by omega), e, show j + 1 - i = (j - i) + 1 by omega, List.getElem?_cons_succ, List.getElem?_drop, show i + (j - i) = j by omega]
theorem del_lt {α : Type} {l : List α} {i j : Nat} (h : i < l.length) (hj : j < i) : (l.take i ++ l.drop (i + 1))[j]? = l[j]? := by
  rw [List.getElem?_append_left (by rw [List.length_take]; omega), List.getElem?_take, if_pos hj]
theorem del_ge {α : Type} {l : List α} {i j : Nat} (h : i < l.length) (hj : i ≤ j) : (l.take i ++ l.drop (i + 1))[j]? = l[j + 1]? := by
  have e : (l.take i).length = i := by rw [List.length_take]; omega
  rw [List.getElem?_append_right (by omega), e, List.getElem?_drop, show i + 1 + (j - i) = j + 1 by omega]
theorem del_take {α : Type} {l : List α} {i : Nat} (h : i < l.length) : (l.take i ++ l.drop (i + 1)).take i = l.take i := by
  rw [List.take_append_of_le_length (by rw [List.length_take]; omega), List.take_take, Nat.min_self]
theorem del_drop {α : Type} {l : List α} {i : Nat} (h : i < l.length) : (l.take i ++ l.drop (i + 1)).drop i = l.drop (i + 1) := by
  have e : (l.take i).length = i := by rw [List.length_take]; omega
  rw [List.drop_append, List.drop_eq_nil_of_le (by omega), e, List.nil_append, Nat.sub_self, List.drop_zero]
theorem ins_whole {α : Type} {l : List α} {i : Nat} {r : α} (h : l[i]? = some r) : l.take i ++ r :: l.drop (i + 1) = l := by
  obtain ⟨hi, rfl⟩ := List.getElem?_eq_some_iff.1 h
  rw [← List.drop_eq_getElem_cons hi, List.take_append_drop]
theorem lessR_irr (r : Rt) : ¬ lessR r r.a r.l := by unfold lessR; omega
theorem ins_fp {l : List Rt} {r : Rt} (h : Srt l) : fp (l.take (fp l r.a r.l) ++ r :: l.drop (fp l r.a r.l)) r.a r.l = fp l r.a r.l := by
  obtain ⟨h1, h2⟩ := fp_spec (a := r.a) (n := r.l) ((srt_pw l).1 h)
  have hl := fp_le l r.a r.l
  refine fp_eq (by rw [ins_length hl]; omega) (fun j x hj hx => ?_) (fun j x hj hx => ?_)
  · rw [ins_lt hl hj] at hx; exact h1 j x hj hx
  · by_cases e : j = fp l r.a r.l
    · subst e; rw [ins_at hl] at hx; cases hx; exact lessR_irr r
    · obtain ⟨k, rfl⟩ : ∃ k, j = k + 1 := ⟨j - 1, by omega⟩
      rw [ins_gt hl (by omega)] at hx; exact h2 k x (by omega) hx
theorem del_fp {l : List Rt} {r : Rt} (h : Srt l) (hr : l[fp l r.a r.l]? = some r) : fp (l.take (fp l r.a r.l) ++ l.drop (fp l r.a r.l + 1)) r.a r.l = fp l r.a r.l ∧ fnd (l.take (fp l r.a r.l) ++ l.drop (fp l r.a r.l + 1)) r.a r.l = false := by
  obtain ⟨h1, h2⟩ := fp_spec (a := r.a) (n := r.l) ((srt_pw l).1 h)
  have hi := (List.getElem?_eq_some_iff.1 hr).1
  have e : fp (l.take (fp l r.a r.l) ++ l.drop (fp l r.a r.l + 1)) r.a r.l = fp l r.a r.l := by
    refine fp_eq (by rw [List.length_append, List.length_take, List.length_drop]; omega) (fun j x hj hx => ?_) (fun j x hj hx => ?_)
    · rw [del_lt hi hj] at hx; exact h1 j x hj hx
    · rw [del_ge hi hj] at hx; exact h2 (j + 1) x (by omega) hx
  refine ⟨e, ?_⟩
  cases hy : (l.take (fp l r.a r.l) ++ l.drop (fp l r.a r.l + 1))[fp l r.a r.l]? with
  | none => exact fnd_none e (by have := List.getElem?_eq_none_iff.1 hy; exact this)
  | some y =>
    rw [fnd_some e hy]
    rw [del_ge hi (Nat.le_refl _)] at hy
    have := h _ _ r y (Nat.lt_succ_self _) hr hy
    apply decide_eq_false
    intro hc
    rw [hc.1, hc.2] at this
    exact lessR_irr r this
theorem Pl.rs_back {P : Pl} {f : Nat → List Rt} (h : f = P.rs) : (⟨f, P.al, P.ifc, P.link⟩ : Pl) = P := by rw [h]
theorem Pl.al_back {P : Pl} {f : Nat → List Rl} (h : f = P.al) : (⟨P.rs, f, P.ifc, P.link⟩ : Pl) = P := by rw [h]
theorem ins_del_R (P : Pl) (d : Nat) (r : Rt) : delR (insR P d r) d (fp (P.rs d) r.a r.l) = P := by
  have hl := fp_le (P.rs d) r.a r.l
  show (⟨upd (upd P.rs d _) d (((insR P d r).rs d).take (fp (P.rs d) r.a r.l) ++ ((insR P d r).rs d).drop (fp (P.rs d) r.a r.l + 1)), P.al, P.ifc, P.link⟩ : Pl) = P
  refine Pl.rs_back ?_
  rw [insR_rs, ins_take hl, ins_drop hl, List.take_append_drop, upd_upd, upd_self]
theorem del_ins_R (P : Pl) (d : Nat) (r : Rt) (h : Srt (P.rs d)) (hr : (P.rs d)[fp (P.rs d) r.a r.l]? = some r) : insR (delR P d (fp (P.rs d) r.a r.l)) d r = P := by
  have hi := (List.getElem?_eq_some_iff.1 hr).1
  show (⟨upd (upd P.rs d _) d (((delR P d (fp (P.rs d) r.a r.l)).rs d).take (fp ((delR P d (fp (P.rs d) r.a r.l)).rs d) r.a r.l) ++ r :: ((delR P d (fp (P.rs d) r.a r.l)).rs d).drop (fp ((delR P d (fp (P.rs d) r.a r.l)).rs d) r.a r.l)), P.al, P.ifc, P.link⟩ : Pl) = P
  refine Pl.rs_back ?_
  rw [delR_rs, (del_fp h hr).1, del_take hi, del_drop hi, ins_whole hr, upd_upd, upd_self]
theorem ins_del_A (P : Pl) (d i : Nat) (r : Rl) (h : i ≤ (P.al d).length) : delA (insA P d i r) d i = P := by
  show (⟨P.rs, upd (upd P.al d _) d (((insA P d i r).al d).take i ++ ((insA P d i r).al d).drop (i + 1)), P.ifc, P.link⟩ : Pl) = P
  refine Pl.al_back ?_
  rw [insA_al, ins_take h, ins_drop h, List.take_append_drop, upd_upd, upd_self]
theorem del_ins_A (P : Pl) (d i : Nat) (r : Rl) (hr : (P.al d)[i]? = some r) : insA (delA P d i) d i r = P := by
  have hi := (List.getElem?_eq_some_iff.1 hr).1
  show (⟨P.rs, upd (upd P.al d _) d (((delA P d i).al d).take i ++ r :: ((delA P d i).al d).drop i), P.ifc, P.link⟩ : Pl) = P
  refine Pl.al_back ?_
  rw [delA_al, del_take hi, del_drop hi, ins_whole hr, upd_upd, upd_self]
section dos
variable {P P1 : Pl} {u : Ch} {d : Nat} {pr ix : Int} {up : Bool} {ra rl via : Int} {pm : Bool} {da dl cl : Int}
theorem do0_inv (h : doP P ⟨0, (d : Int), pr, ix, up, ra, rl, via, pm, da, dl, cl⟩ = (P1, u, 0)) : fnd (P.rs d) ra rl = false ∧ ¬ 64 ≤ (P.rs d).length + (P.al d).length ∧ P1 = insR P d ⟨ra, rl, via⟩ ∧ u = ⟨1, (d : Int), 0, 0, false, ra, rl, 0, false, 0, 0, 0⟩ := by
  unfold doP at h
  simp only [if_true, Int.toNat_natCast] at h
  split at h
  · injection h with _ h; injection h with _ h; omega
  · rename_i hf
    split at h
    · injection h with _ h; injection h with _ h; omega
    · rename_i hn
      injection h with h1 h; injection h with h2 _
      exact ⟨by simpa using hf, hn, h1.symm, h2.symm⟩
theorem do0_eq (h1 : fnd (P.rs d) ra rl = false) (h2 : ¬ 64 ≤ (P.rs d).length + (P.al d).length) : doP P ⟨0, (d : Int), pr, ix, up, ra, rl, via, pm, da, dl, cl⟩ = (insR P d ⟨ra, rl, via⟩, ⟨1, (d : Int), 0, 0, false, ra, rl, 0, false, 0, 0, 0⟩, 0) := by
  unfold doP; simp [h1, h2]
theorem do1_inv (h : doP P ⟨1, (d : Int), pr, ix, up, ra, rl, via, pm, da, dl, cl⟩ = (P1, u, 0)) : ∃ r, (P.rs d)[fp (P.rs d) ra rl]? = some r ∧ r.a = ra ∧ r.l = rl ∧ P1 = delR P d (fp (P.rs d) ra rl) ∧ u = ⟨0, (d : Int), 0, 0, false, r.a, r.l, r.v, false, 0, 0, 0⟩ := by
  unfold doP at h
  simp only [if_true, Int.toNat_natCast, show ¬ ((1 : Int) = 0) by decide, if_false] at h
  split at h
  · rename_i hf
    obtain ⟨r, hr, e1, e2⟩ := fnd_true hf
    rw [hr] at h
    injection h with h1 h; injection h with h2 _
    exact ⟨r, hr, e1, e2, h1.symm, h2.symm⟩
  · injection h with _ h; injection h with _ h; omega
theorem do1_eq {r : Rt} (h1 : (P.rs d)[fp (P.rs d) ra rl]? = some r) (h2 : r.a = ra) (h3 : r.l = rl) : doP P ⟨1, (d : Int), pr, ix, up, ra, rl, via, pm, da, dl, cl⟩ = (delR P d (fp (P.rs d) ra rl), ⟨0, (d : Int), 0, 0, false, r.a, r.l, r.v, false, 0, 0, 0⟩, 0) := by
  have hf : fnd (P.rs d) ra rl = true := by rw [fnd_some rfl h1]; exact decide_eq_true ⟨h2, h3⟩
  unfold doP; simp [hf, h1]
theorem do2_inv {xi : Nat} (h : doP P ⟨2, (d : Int), pr, (xi : Int), up, ra, rl, via, pm, da, dl, cl⟩ = (P1, u, 0)) : xi ≤ (P.al d).length ∧ ¬ 64 ≤ (P.rs d).length + (P.al d).length ∧ P1 = insA P d xi ⟨pm, da, dl, cl⟩ ∧ u = ⟨3, (d : Int), 0, (xi : Int), false, 0, 0, 0, false, 0, 0, 0⟩ := by
  unfold doP at h
  simp only [if_true, Int.toNat_natCast, show ¬ ((2 : Int) = 0) by decide, show ¬ ((2 : Int) = 1) by decide, if_false] at h
  split at h
  · injection h with _ h; injection h with _ h; omega
  · rename_i hf
    split at h
    · injection h with _ h; injection h with _ h; omega
    · rename_i hn
      injection h with h1 h; injection h with h2 _
      exact ⟨by omega, hn, h1.symm, h2.symm⟩
theorem do2_eq {xi : Nat} (h1 : xi ≤ (P.al d).length) (h2 : ¬ 64 ≤ (P.rs d).length + (P.al d).length) : doP P ⟨2, (d : Int), pr, (xi : Int), up, ra, rl, via, pm, da, dl, cl⟩ = (insA P d xi ⟨pm, da, dl, cl⟩, ⟨3, (d : Int), 0, (xi : Int), false, 0, 0, 0, false, 0, 0, 0⟩, 0) := by
  unfold doP; simp [show ¬ (P.al d).length < xi by omega, h2]
theorem do3_inv {xi : Nat} (h : doP P ⟨3, (d : Int), pr, (xi : Int), up, ra, rl, via, pm, da, dl, cl⟩ = (P1, u, 0)) : ∃ r, (P.al d)[xi]? = some r ∧ P1 = delA P d xi ∧ u = ⟨2, (d : Int), 0, (xi : Int), false, 0, 0, 0, r.pm, r.a, r.l, r.c⟩ := by
  unfold doP at h
  simp only [if_true, Int.toNat_natCast, show ¬ ((3 : Int) = 0) by decide, show ¬ ((3 : Int) = 1) by decide, show ¬ ((3 : Int) = 2) by decide, if_false] at h
  split at h
  · rename_i r hr
    injection h with h1 h; injection h with h2 _
    exact ⟨r, hr, h1.symm, h2.symm⟩
  · injection h with _ h; injection h with _ h; omega
theorem do3_eq {xi : Nat} {r : Rl} (h1 : (P.al d)[xi]? = some r) : doP P ⟨3, (d : Int), pr, (xi : Int), up, ra, rl, via, pm, da, dl, cl⟩ = (delA P d xi, ⟨2, (d : Int), 0, (xi : Int), false, 0, 0, 0, r.pm, r.a, r.l, r.c⟩, 0) := by
  unfold doP; simp [h1]
theorem do4_eq {pn : Nat} : doP P ⟨4, (d : Int), (pn : Int), ix, up, ra, rl, via, pm, da, dl, cl⟩ = (lnk (lnk P d (setF (P.link d) pn up)) pn (setF ((lnk P d (setF (P.link d) pn up)).link pn) d up), ⟨4, (d : Int), (pn : Int), 0, bitF (P.link d) pn, 0, 0, 0, false, 0, 0, 0⟩, 0) := by
  unfold doP; simp
theorem do5_eq {pn : Nat} : doP P ⟨5, (d : Int), (pn : Int), ix, up, ra, rl, via, pm, da, dl, cl⟩ = (ifcP P d (setF (P.ifc d) pn up), ⟨5, (d : Int), (pn : Int), 0, bitF (P.ifc d) pn, 0, 0, 0, false, 0, 0, 0⟩, 0) := by
  unfold doP; simp
end dos
theorem WF.insR {P : Pl} (h : WF P) {d : Nat} (hd : d < 16) {r : Rt} (hr : gpF r.a r.l = true ∧ r.v ≤ 16 ∧ r.v ≠ (d : Int)) : WF (insR P d r) := by
  refine ⟨fun j hj x hx => ?_, h.rl, h.sym⟩
  have hx' : x ∈ upd P.rs d ((P.rs d).take (fp (P.rs d) r.a r.l) ++ r :: (P.rs d).drop (fp (P.rs d) r.a r.l)) j := hx
  unfold upd at hx'; split at hx'
  · rename_i e; subst e
    rcases ins_mem hx' with rfl | hx'
    · exact hr
    · exact h.rt j hj x hx'
  · exact h.rt j hj x hx'
theorem WF.delR {P : Pl} (h : WF P) {d : Nat} (hd : d < 16) (i : Nat) : WF (delR P d i) := by
  refine ⟨fun j hj x hx => ?_, h.rl, h.sym⟩
  have hx' : x ∈ upd P.rs d ((P.rs d).take i ++ (P.rs d).drop (i + 1)) j := hx
  unfold upd at hx'; split at hx'
  · rename_i e; subst e; exact h.rt j hj x ((del_sub _ _).subset hx')
  · exact h.rt j hj x hx'
theorem WF.insA {P : Pl} (h : WF P) {d : Nat} (hd : d < 16) {i : Nat} {r : Rl} (hr : gpF r.a r.l = true ∧ r.c ≤ 16) : WF (insA P d i r) := by
  refine ⟨h.rt, fun j hj x hx => ?_, h.sym⟩
  have hx' : x ∈ upd P.al d ((P.al d).take i ++ r :: (P.al d).drop i) j := hx
  unfold upd at hx'; split at hx'
  · rename_i e; subst e
    rcases ins_mem hx' with rfl | hx'
    · exact hr
    · exact h.rl j hj x hx'
  · exact h.rl j hj x hx'
theorem WF.delA {P : Pl} (h : WF P) {d : Nat} (hd : d < 16) (i : Nat) : WF (delA P d i) := by
  refine ⟨h.rt, fun j hj x hx => ?_, h.sym⟩
  have hx' : x ∈ upd P.al d ((P.al d).take i ++ (P.al d).drop (i + 1)) j := hx
  unfold upd at hx'; split at hx'
  · rename_i e; subst e; exact h.rl j hj x ((del_sub _ _).subset hx')
  · exact h.rl j hj x hx'
theorem WF.two {P : Pl} (h : WF P) (hP : POk P) {d pn : Nat} (hd : d < 16) (hp : pn < 16) (hne : d ≠ pn) (up : Bool) : WF (lnk (lnk P d (setF (P.link d) pn up)) pn (setF ((lnk P d (setF (P.link d) pn up)).link pn) d up)) := by
  refine ⟨h.rt, h.rl, fun a b ha hb hab => ?_⟩
  have e1 : (lnk P d (setF (P.link d) pn up)).link pn = P.link pn := upd_other _ _ (Ne.symm hne)
  have el : ∀ j, (lnk (lnk P d (setF (P.link d) pn up)) pn (setF ((lnk P d (setF (P.link d) pn up)).link pn) d up)).link j = if j = pn then setF (P.link pn) d up else if j = d then setF (P.link d) pn up else P.link j := fun j => by
    rw [e1]; rfl
  have eb : ∀ (j k : Nat), j < 16 → k < 16 → bitF ((lnk (lnk P d (setF (P.link d) pn up)) pn (setF ((lnk P d (setF (P.link d) pn up)).link pn) d up)).link j) (k : Int) = if (j = pn ∧ k = d) ∨ (j = d ∧ k = pn) then up else bitF (P.link j) (k : Int) := fun j k hj hk => by
    rw [el]
    by_cases c1 : j = pn
    · subst c1
      rw [if_pos rfl, setF_bit d hd up k hk]
      by_cases c2 : k = d
      · rw [if_pos c2, if_pos (.inl ⟨rfl, c2⟩)]
      · rw [if_neg c2, if_neg (by omega), bitF_bv (hP.lnk j hj) k hk]
    · rw [if_neg c1]
      by_cases c2 : j = d
      · subst c2
        rw [if_pos rfl, setF_bit pn hp up k hk]
        by_cases c3 : k = pn
        · rw [if_pos c3, if_pos (.inr ⟨rfl, c3⟩)]
        · rw [if_neg c3, if_neg (by omega), bitF_bv (hP.lnk j hj) k hk]
      · rw [if_neg c2, if_neg (by omega)]
  rw [eb a b ha hb, eb b a hb ha, h.sym a b ha hb hab]
  by_cases c : (a = pn ∧ b = d) ∨ (a = d ∧ b = pn)
  · rw [if_pos c, if_pos (by omega)]
  · rw [if_neg c, if_neg (by omega)]
theorem link_back {P : Pl} (h : WF P) (hP : POk P) {d pn : Nat} (hd : d < 16) (hp : pn < 16) (hne : d ≠ pn) (up : Bool) : ∀ Q, Q = lnk (lnk P d (setF (P.link d) pn up)) pn (setF ((lnk P d (setF (P.link d) pn up)).link pn) d up) →
    lnk (lnk Q d (setF (Q.link d) pn (bitF (P.link d) pn))) pn (setF ((lnk Q d (setF (Q.link d) pn (bitF (P.link d) pn))).link pn) d (bitF (P.link d) pn)) = P := by
  intro Q hQ
  have e1 : (lnk P d (setF (P.link d) pn up)).link pn = P.link pn := upd_other _ _ (Ne.symm hne)
  have ed : Q.link d = setF (P.link d) pn up := by rw [hQ]; show upd (upd P.link d _) pn _ d = _; rw [upd_other _ _ hne, upd_same]
  have ep : Q.link pn = setF (P.link pn) d up := by rw [hQ]; show upd (upd P.link d _) pn _ pn = _; rw [upd_same, e1]
  have e2 : (lnk Q d (setF (Q.link d) pn (bitF (P.link d) pn))).link pn = Q.link pn := upd_other _ _ (Ne.symm hne)
  rw [e2, ep, ed, setF_back (hP.lnk d hd) pn hp, h.sym d pn hd hp hne, setF_back (hP.lnk pn hp) d hd]
  have : upd (upd Q.link d (P.link d)) pn (P.link pn) = P.link := by
    funext j
    unfold upd
    by_cases c1 : j = pn
    · rw [if_pos c1, c1]
    · rw [if_neg c1]
      by_cases c2 : j = d
      · rw [if_pos c2, c2]
      · rw [if_neg c2, hQ]
        show upd (upd P.link d _) pn _ j = P.link j
        rw [upd_other _ _ c1, upd_other _ _ c2]
  show (⟨Q.rs, Q.al, Q.ifc, upd (upd Q.link d (P.link d)) pn (P.link pn)⟩ : Pl) = P
  rw [this, hQ]; rfl
theorem ifc_back {P : Pl} (hP : POk P) {d pn : Nat} (hd : d < 16) (hp : pn < 16) (up : Bool) : ifcP (ifcP P d (setF (P.ifc d) pn up)) d (setF ((ifcP P d (setF (P.ifc d) pn up)).ifc d) pn (bitF (P.ifc d) pn)) = P := by
  have e1 : (ifcP P d (setF (P.ifc d) pn up)).ifc d = setF (P.ifc d) pn up := upd_same _ _ _
  rw [e1, setF_back (hP.ifc d hd) pn hp]
  show (⟨P.rs, P.al, upd (upd P.ifc d _) d (P.ifc d), P.link⟩ : Pl) = P
  rw [upd_upd, upd_self]

end Go.Proofs.Qxb6500907a

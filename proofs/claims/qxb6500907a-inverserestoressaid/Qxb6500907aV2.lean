import Derived.Test.Qxb6500907aV1
import Derived.Test.Qxb6500907aN9
namespace Go.Proofs.Qxb6500907a
open Go.Eng
set_option linter.unusedVariables false
set_option linter.unusedSimpArgs false

theorem ch_self (c : Ch) : eqLits c.lits c.lits = true := by
  simp [Ch.lits, eqLits, litBeq]
/-- one change, undone -/
theorem undo_step {P : Pl} (hP : POk P) (hW : WF P) {c : Ch} (ok : c.ok) (hck : ckF c = 0) {P1 : Pl} {u : Ch} (h : doP P c = (P1, u, 0)) : ckF u = 0 ∧ WF P1 ∧ ∃ u', doP P1 u = (P, u', 0) := by
  obtain ⟨f1, f2, f3, f4, f5, f6, f7, f8⟩ := ck_all hck
  obtain ⟨kd, dv, pr, ix, up, ra, rl, via, pm, da, dl, cl⟩ := c
  simp only at f1 f2 f3 f4 f5 f6 f7 f8
  obtain ⟨d, hdv⟩ := Int.eq_ofNat_of_zero_le ok.dv.1
  simp only at hdv
  subst hdv
  have hd : d < 16 := by omega
  have hlen := hP.len d hd
  have h0 := ok.kd.1
  simp only at h0
  have hk : kd = 0 ∨ kd = 1 ∨ kd = 2 ∨ kd = 3 ∨ kd = 4 ∨ kd = 5 := by omega
  rcases hk with rfl | rfl | rfl | rfl | rfl | rfl
  · obtain ⟨h1, h2, rfl, rfl⟩ := do0_inv h
    obtain ⟨v1, v2⟩ := f3 rfl
    refine ⟨ck_intro (by simp) (by simp only; omega) (by simp) (by simp) (by simp) f6 gp00 (by simp) (by rw [useF_1 _ rfl]; exact ch_self _), hW.insR hd ⟨f6, v1, v2⟩, ?_⟩
    have e := ins_fp (r := ⟨ra, rl, via⟩) (hP.srt d hd)
    have ha : ((insR P d ⟨ra, rl, via⟩).rs d)[fp ((insR P d ⟨ra, rl, via⟩).rs d) ra rl]? = some ⟨ra, rl, via⟩ := by
      rw [insR_rs]; simp only at e ⊢; rw [e]; exact ins_at (fp_le _ _ _)
    have e2 : fp ((insR P d ⟨ra, rl, via⟩).rs d) ra rl = fp (P.rs d) ra rl := by rw [insR_rs]; exact e
    have hq := do1_eq (pr := 0) (ix := 0) (up := false) (via := 0) (pm := false) (da := 0) (dl := 0) (cl := 0) ha rfl rfl
    rw [e2, ins_del_R P d ⟨ra, rl, via⟩] at hq
    exact ⟨_, hq⟩
  · obtain ⟨r, hr, e1, e2, rfl, rfl⟩ := do1_inv h
    subst e1; subst e2
    obtain ⟨w1, w2, w3⟩ := hW.rt d hd r (List.mem_of_getElem? hr)
    have hi := (List.getElem?_eq_some_iff.1 hr).1
    refine ⟨ck_intro (by simp) (by simp only; omega) (fun _ => ⟨w2, w3⟩) (by simp) (by simp) w1 gp00 (by simp) (by rw [useF_0 _ rfl]; exact ch_self _), hW.delR hd _, ?_⟩
    obtain ⟨g1, g2⟩ := del_fp (hP.srt d hd) hr
    have hnf : ¬ 64 ≤ ((delR P d (fp (P.rs d) r.a r.l)).rs d).length + ((delR P d (fp (P.rs d) r.a r.l)).al d).length := by
      rw [delR_rs, List.length_append, List.length_take, List.length_drop]
      show ¬ 64 ≤ _ + (P.al d).length
      omega
    have hq := do0_eq (pr := 0) (ix := 0) (up := false) (via := r.v) (pm := false) (da := 0) (dl := 0) (cl := 0) (P := delR P d (fp (P.rs d) r.a r.l)) (d := d) (ra := r.a) (rl := r.l) (by rw [delR_rs]; exact g2) hnf
    rw [show (⟨r.a, r.l, r.v⟩ : Rt) = r from rfl, del_ins_R P d r (hP.srt d hd) hr] at hq
    exact ⟨_, hq⟩
  · obtain ⟨xi, hxi⟩ := Int.eq_ofNat_of_zero_le ok.ix.1
    simp only at hxi; subst hxi
    obtain ⟨h1, h2, rfl, rfl⟩ := do2_inv h
    refine ⟨ck_intro (by simp) (by simp only; omega) (by simp) (by simp) (by simp) gp00 gp00 f8 (by rw [useF_3 _ rfl]; exact ch_self _), hW.insA hd ⟨f7, f4 rfl⟩, ?_⟩
    have ha : ((insA P d xi ⟨pm, da, dl, cl⟩).al d)[xi]? = some ⟨pm, da, dl, cl⟩ := by rw [insA_al]; exact ins_at h1
    have hq := do3_eq (pr := 0) (up := false) (ra := 0) (rl := 0) (via := 0) (pm := false) (da := 0) (dl := 0) (cl := 0) ha
    rw [ins_del_A P d xi _ h1] at hq
    exact ⟨_, hq⟩
  · obtain ⟨xi, hxi⟩ := Int.eq_ofNat_of_zero_le ok.ix.1
    simp only at hxi; subst hxi
    obtain ⟨r, hr, rfl, rfl⟩ := do3_inv h
    obtain ⟨w1, w2⟩ := hW.rl d hd r (List.mem_of_getElem? hr)
    have hi := (List.getElem?_eq_some_iff.1 hr).1
    refine ⟨ck_intro (by simp) (by simp only; omega) (by simp) (fun _ => w2) (by simp) gp00 w1 f8 (by rw [useF_2 _ rfl]; exact ch_self _), hW.delA hd _, ?_⟩
    have hn1 : xi ≤ ((delA P d xi).al d).length := by rw [delA_al, List.length_append, List.length_take, List.length_drop]; omega
    have hn2 : ¬ 64 ≤ ((delA P d xi).rs d).length + ((delA P d xi).al d).length := by
      rw [delA_al, List.length_append, List.length_take, List.length_drop]
      show ¬ 64 ≤ (P.rs d).length + _
      omega
    have hq := do2_eq (pr := 0) (up := false) (ra := 0) (rl := 0) (via := 0) (pm := r.pm) (da := r.a) (dl := r.l) (cl := r.c) hn1 hn2
    rw [show (⟨r.pm, r.a, r.l, r.c⟩ : Rl) = r from rfl, del_ins_A P d xi r hr] at hq
    exact ⟨_, hq⟩
  · obtain ⟨pn, hpn⟩ := Int.eq_ofNat_of_zero_le ok.pr.1
    simp only at hpn; subst hpn
    obtain ⟨g1, g2, g3⟩ := f5 (.inl rfl)
    have hp : pn < 16 := by omega
    have hne : d ≠ pn := by omega
    rw [do4_eq] at h
    injection h with h1 h; injection h with h2 _
    refine ⟨?_, ?_, ?_⟩
    · rw [← h2]
      exact ck_intro (by simp) (by simp only; omega) (by simp) (by simp) (fun _ => ⟨g1, g2, g3⟩) gp00 gp00 (by simp) (by rw [useF_4 _ (.inl rfl)]; exact ch_self _)
    · rw [← h1]; exact hW.two hP hd hp hne up
    · rw [← h2, do4_eq, link_back hW hP hd hp hne up P1 h1.symm]
      exact ⟨_, rfl⟩
  · obtain ⟨pn, hpn⟩ := Int.eq_ofNat_of_zero_le ok.pr.1
    simp only at hpn; subst hpn
    obtain ⟨g1, g2, g3⟩ := f5 (.inr rfl)
    have hp : pn < 16 := by omega
    rw [do5_eq] at h
    injection h with h1 h; injection h with h2 _
    refine ⟨?_, ?_, ?_⟩
    · rw [← h2]
      exact ck_intro (by simp) (by simp only; omega) (by simp) (by simp) (fun _ => ⟨g1, g2, fun e => by simp at e⟩) gp00 gp00 (by simp) (by rw [useF_4 _ (.inr rfl)]; exact ch_self _)
    · rw [← h1]; exact ⟨hW.rt, hW.rl, hW.sym⟩
    · rw [← h2, do5_eq, ← h1, ifc_back hP hd hp up]
      exact ⟨_, rfl⟩
theorem stepS_acc (P : Pl) (acc us : List Ch) (code : Int) (c : Ch) : stepS (P, acc ++ us, code) c = ((stepS (P, us, code) c).1, acc ++ (stepS (P, us, code) c).2.1, (stepS (P, us, code) c).2.2) := by
  unfold stepS
  by_cases h : code = 0
  · by_cases h2 : (doP P c).2.2 = 0
    · simp [h, h2]
    · simp [h, h2]
  · simp [h]
theorem fold_acc (acc : List Ch) : ∀ (cs : List Ch) (P : Pl) (us : List Ch) (code : Int), cs.foldl stepS (P, acc ++ us, code) = ((cs.foldl stepS (P, us, code)).1, acc ++ (cs.foldl stepS (P, us, code)).2.1, (cs.foldl stepS (P, us, code)).2.2)
  | [], _, _, _ => rfl
  | c :: cs, P, us, code => by
    rw [List.foldl_cons, List.foldl_cons, stepS_acc]
    rcases stepS (P, us, code) c with ⟨P1, u1, c1⟩
    exact fold_acc acc cs P1 u1 c1
theorem steps_cons {P P1 P2 : Pl} {c u : Ch} {cs vs : List Ch} (h1 : doP P c = (P1, u, 0)) (h2 : steps P1 cs = (P2, vs, 0)) : steps P (c :: cs) = (P2, u :: vs, 0) := by
  unfold steps at *
  rw [List.foldl_cons]
  have : stepS (P, [], 0) c = (P1, [u] ++ [], 0) := by unfold stepS; simp [h1]
  rw [this, fold_acc, h2]; rfl
theorem stepS_inv {s : Pl × List Ch × Int} {c : Ch} {P' : Pl} {us : List Ch} (h : stepS s c = (P', us, 0)) : s.2.2 = 0 ∧ ∃ u, doP s.1 c = (P', u, 0) ∧ us = s.2.1 ++ [u] := by
  obtain ⟨P, vs, code⟩ := s
  unfold stepS at h
  simp only at h ⊢
  by_cases hc : code = 0
  · rw [if_pos hc] at h
    rcases hd : doP P c with ⟨P1, u, c1⟩
    rw [hd] at h
    simp only at h
    by_cases h1 : c1 = 0
    · rw [if_pos h1] at h
      injection h with e1 h; injection h with e2 _
      exact ⟨hc, u, by rw [e1, h1], e2.symm⟩
    · rw [if_neg h1] at h
      injection h with _ h; injection h with _ e3
      exact absurd e3 h1
  · rw [if_neg hc] at h
    injection h with _ h; injection h with _ e3
    exact absurd e3 hc
theorem inv_take {P : Pl} (hP : POk P) (hW : WF P) {cs : List Ch} (hok : ∀ c, c ∈ cs → c.ok) (hck : ∀ c, c ∈ cs → ckF c = 0) : ∀ (i : Nat) (Pi : Pl) (ui : List Ch), steps P (cs.take i) = (Pi, ui, 0) → POk Pi ∧ WF Pi ∧ (∀ u, u ∈ ui → ckF u = 0) ∧ ∃ vs, steps Pi ui.reverse = (P, vs, 0)
  | 0, Pi, ui, h => by
    rw [List.take_zero] at h
    injection h with e1 h; injection h with e2 _
    subst e1; subst e2
    exact ⟨hP, hW, (fun u hu => by cases hu), [], rfl⟩
  | i + 1, Pi, ui, h => by
    cases hx : cs[i]? with
    | none =>
      rw [List.take_add_one, hx] at h
      exact inv_take hP hW hok hck i Pi ui (by simpa using h)
    | some c =>
      rw [take_snoc hx, steps_snoc] at h
      obtain ⟨h0, u, hdo, rfl⟩ := stepS_inv h
      rcases hs : steps P (cs.take i) with ⟨Q, vi, code⟩
      rw [hs] at h0 hdo
      simp only at h0 hdo
      subst h0
      obtain ⟨p1, p2, p3, vs, p4⟩ := inv_take hP hW hok hck i Q vi hs
      have hm := List.mem_of_getElem? hx
      obtain ⟨q1, q2, u', q3⟩ := undo_step p1 p2 (hok c hm) (hck c hm) hdo
      have q4 := (p1.doP (hok c hm) (hck c hm)).1
      rw [hdo] at q4
      refine ⟨q4, q2, fun x hx => ?_, u' :: vs, ?_⟩
      · rcases List.mem_append.1 hx with h | h
        · exact p3 x h
        · rw [List.mem_singleton] at h; subst h; exact q1
      · rw [List.reverse_append]
        exact steps_cons q3 p4
theorem wf_pz : WF pz := ⟨fun d _ r h => by simp [pz] at h, fun d _ r h => by simp [pz] at h, fun a b _ _ _ => by simp only [pz]; revert a b; intro a b _ _ _; rw [bitF_bv (by decide) b (by assumption), bitF_bv (by decide) a (by assumption)]; simp [bv]⟩
/-- a batch and its inverse -/
theorem inv_main {P P' : Pl} (hP : POk P) (hW : WF P) {cs us : List Ch} (hok : ∀ c, c ∈ cs → c.ok) (hck : chk cs) (h : steps P cs = (P', us, 0)) (hl : us.length = cs.length) : WF P' ∧ chk us.reverse ∧ ∃ vs, steps P' us.reverse = (P, vs, 0) := by
  obtain ⟨_, h2, h3, h4⟩ := inv_take hP hW hok hck.2 cs.length P' us (by rw [List.take_length]; exact h)
  refine ⟨h2, ⟨by rw [List.length_reverse, hl]; exact hck.1, fun c hc => h3 c (List.mem_reverse.1 hc)⟩, h4⟩

end Go.Proofs.Qxb6500907a

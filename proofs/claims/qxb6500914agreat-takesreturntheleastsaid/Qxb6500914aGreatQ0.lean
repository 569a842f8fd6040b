import Derived.Test.Qxb6500914aGreatN4
namespace Go.Proofs.Qxb6500914aGreat
open Go.Eng
set_option linter.unusedVariables false
set_option linter.unusedSimpArgs false

/-! ## an operation by thread 0 alone, for any container -/
def ResL (C : List (Int × Int)) (ck cv cp : Int) (C' : List (Int × Int)) (ra rv rp : Int) : Prop := ∃ ch, (C', (⟨ra, rv, rp⟩ : Rs), ch) = apL C ck cv cp
inductive SLq (L : List Ev) (k : Bool) (ck cv cp : Int) (C : List (Int × Int)) (W : WS) : Prop
  | work (p : PG) (hr : W.run 0 = some (k, p)) (h7 : p.pc ≤ 7) (hw : W.ck 0 = ck ∧ W.cv 0 = cv ∧ W.cp 0 = cp) (hc : cLi W.m.word k = C) (hl : W.log = L) : SLq L k ck cv cp C W
  | done (p : PG) (hr : W.run 0 = some (k, p)) (h8 : p.pc = 8) (hres : ResL C ck cv cp (cLi W.m.word k) p.ra p.rv p.rp) (hl : W.log = L) : SLq L k ck cv cp C W
  | back (e : Ev) (hr : W.run 0 = none) (hres : ResL C ck cv cp (cLi W.m.word k) e.ra e.rv e.rp) (hl : W.log = L ++ [e]) : SLq L k ck cv cp C W
theorem SLq.step {L : List Ev} {k : Bool} {ck cv cp : Int} {C : List (Int × Int)} {W : WS} (h : SLq L k ck cv cp C W) (hs : SG W) (hz : ZI W) (hcf : CF W) (hb : (W.run 0).isSome = true) : SLq L k ck cv cp C (stepW W 0) := by
  obtain ⟨x, ho⟩ := hs.oi
  obtain ⟨⟨kt, p⟩, hr⟩ := Option.isSome_iff_exists.1 hb
  obtain ⟨c1, c2, c3, c4, c5⟩ := hcf 0 kt p hr
  obtain ⟨e1, e2⟩ := stepW_some hr
  have hlog := stepW_log hr
  have hP : PI kt 0 p := ho.wi.pi 0 _ hr
  have hM := ho.wi.mi
  have hst := lin_step ho hs.ci hr
  have hck : (stepW W 0).ck = W.ck ∧ (stepW W 0).cv = W.cv ∧ (stepW W 0).cp = W.cp := by
    unfold stepW; rw [hr]; dsimp only; split <;> exact ⟨rfl, rfl, rfl⟩
  have h8 : ∀ k, (W.m.word (nd k (crN W.m.word k))).toNat ≤ 8 := fun k => by
    obtain ⟨c, a, b⟩ := hM.cnt k _ (ho.cur7 k)
    rw [a]; omega
  have hzt : kt = false → W.cp 0 = 0 ∧ ((stepF kt W.m p).ret = true ∨ (stepF kt W.m p).p.pc = 8 → (stepF kt W.m p).p.rp = 0) := by
    intro q
    subst q
    obtain ⟨z1, z2, _⟩ := stepF_zero hP hM (hz 0 p hr)
    refine ⟨by rw [← c4]; exact (hz 0 p hr).cp, fun o => ?_⟩
    cases hret : (stepF false W.m p).ret
    · rw [hret] at o
      rcases o with o | o
      · cases o
      · exact (z1 hret).rp (by omega)
    · exact z2 hret
  have e1' : (stepW W 0).m = (stepF kt W.m p).m := e1
  have e2' : (stepW W 0).run = updF W.run 0 (if (stepF kt W.m p).ret then none else some (kt, (stepF kt W.m p).p)) := e2
  have hlog' : (stepW W 0).log = if (stepF kt W.m p).ret then W.log ++ [⟨0, true, W.ck 0, W.cv 0, W.cp 0, (stepF kt W.m p).p.ra, (stepF kt W.m p).p.rv, (stepF kt W.m p).p.rp⟩] else W.log := hlog
  clear e1 e2 hlog
  generalize stepF kt W.m p = R at hst e1' e2' hlog' hzt
  obtain ⟨m', q, b⟩ := R
  dsimp only at hst e1' e2' hlog' hzt
  cases h with
  | back e hr' _ _ => rw [hr'] at hr; cases hr
  | work p' hr' h7 hw hc hl =>
    rw [hr] at hr'
    injection hr' with hr'
    injection hr' with a1 a2
    subst a1; subst a2
    obtain ⟨rfl, rfl, rfl⟩ := hw
    cases hst with
    | go h1 h2 hd =>
      exact .work q (by rw [e2', updF_same]; rfl) h2 (by rw [hck.1, hck.2.1, hck.2.2]; exact ⟨rfl, rfl, rfl⟩) (by rw [e1', hd.cLi (h8 kt)]; exact hc) (by rw [hlog']; exact hl)
    | keep h1 hd hra hrv hrp => omega
    | swap q0 nn h1 h2 hcn hch hn hcl hra hrv hrp =>
      rw [c2, c3, c4] at hch hn hcl hra hrv hrp
      obtain ⟨P, p1, p2, p3, p4, p5⟩ := commit (rp := q.rp) hcn c1.symm c5 (fun z => ⟨(hzt z).1, (hzt z).2 (.inr h2)⟩) (fun _ => hrp)
      rw [hc] at p5
      refine .done q (by rw [e2', updF_same]; rfl) h2 ⟨(applyF q0 nn (W.ck 0) (W.cv 0) (W.cp 0)).ch, ?_⟩ (by rw [hlog']; exact hl)
      rw [e1', cLi_of p1 p2 p3 p4 ?_ hn hcl, hra, hrv]
      · exact p5
      · obtain ⟨_, _, _, n', hn', _⟩ := apply_hdr q0 nn hcn.n hcn.n8 (W.ck 0) (W.cv 0) (W.cp 0)
        rw [hn']; omega
    | answer q0 nn h1 hd hcn hch hra hrv hrp =>
      rw [c2, c3, c4] at hch hra hrv hrp
      obtain ⟨P, p1, p2, p3, p4, p5⟩ := commit (rp := q.rp) hcn c1.symm c5 (fun z => ⟨(hzt z).1, (hzt z).2 (.inl rfl)⟩) (fun _ => hrp)
      rw [hc] at p5
      refine .back ⟨0, true, W.ck 0, W.cv 0, W.cp 0, q.ra, q.rv, q.rp⟩ (by rw [e2', updF_same]; rfl) ⟨(applyF q0 nn (W.ck 0) (W.cv 0) (W.cp 0)).ch, ?_⟩ (by rw [hlog', hl]; rfl)
      have hsm := apL_same (C := C) (ck := W.ck 0) (cv := W.cv 0) (cp := W.cp 0) (by rw [← p5]; exact hch)
      rw [← p5] at hsm
      have hsm' : itm P P.n.toNat = C := hsm
      show (cLi (stepW W 0).m.word kt, (⟨q.ra, q.rv, q.rp⟩ : Rs), _) = _
      rw [e1', hd.cLi (h8 kt), hc, hra, hrv, ← p5, hsm']
  | done p' hr' h8' hres hl =>
    rw [hr] at hr'
    injection hr' with hr'
    injection hr' with a1 a2
    subst a1; subst a2
    cases hst with
    | go h1 h2 hd => omega
    | swap q0 nn h1 h2 hcn hch hn hcl hra hrv hrp => omega
    | answer q0 nn h1 hd hcn hch hra hrv hrp => omega
    | keep h1 hd hra hrv hrp =>
      obtain ⟨ch, hres⟩ := hres
      refine .back ⟨0, true, W.ck 0, W.cv 0, W.cp 0, q.ra, q.rv, q.rp⟩ (by rw [e2', updF_same]; rfl) ⟨ch, ?_⟩ (by rw [hlog', hl]; rfl)
      show (cLi (stepW W 0).m.word kt, (⟨q.ra, q.rv, q.rp⟩ : Rs), ch) = _
      rw [e1', hd.cLi (h8 kt), hra, hrv, hrp]; exact hres
theorem SLq.solo {L : List Ev} {k : Bool} {ck cv cp : Int} {C : List (Int × Int)} : ∀ n W, Good5 W → LW W ≤ 1000100 → SLq L k ck cv cp C W → (∀ s, s ≠ 0 → W.run s = none) → SLq L k ck cv cp C (soloN 0 n W).2 ∧ ∀ s, s ≠ 0 → (soloN 0 n W).2.run s = none
  | 0, W, _, _, h, ho => ⟨h, ho⟩
  | n + 1, W, hg, hL, h, ho => by
    simp only [soloN]
    split
    · rename_i hb
      obtain ⟨hs, hz⟩ := hg.1.2 hL
      obtain ⟨x, hx⟩ := Option.isSome_iff_exists.1 hb
      refine SLq.solo n (stepW W 0) (keepG5.step W 0 hg hb) (by rw [LW_step W 0 hg.1.1]; exact hL) (h.step hs hz (hg.2 hL).1 hb) (fun s hs0 => ?_)
      rw [(stepW_some hx).2, updF_ne _ _ hs0]; exact ho s hs0
    · exact ⟨h, ho⟩
structure CallG (W : WS) (kd u v : Int) (W2 : WS) (e : Ev) : Prop where
  good : Good6 W2
  lw : LW W2 = LW W + 2
  idle : ∀ s, W2.run s = none
  res : ResL (cLi W.m.word (boxOf kd)) kd (cvOf kd u) (cpOf kd v) (cLi W2.m.word (boxOf kd)) e.ra e.rv e.rp
  log : ∃ e1, W2.log = W.log ++ [e1, e]
theorem call_resG {W : WS} (hg : Good6 W) (hL : LW W ≤ 1000000) (hi : ∀ s, W.run s = none) (kd u v : Int) (h0 : 0 ≤ kd) (h7 : kd ≤ 7) (hu : InR u) (hv : InR v) : ∃ e, CallG W kd u v (callW W kd u v) e := by
  have hg1 := keepG6.inv W 0 kd u v hg (hi 0) (by omega) h0 h7 hu hv
  have hlw := LW_inv W 0 kd u v (by omega) (hi 0)
  have hrun : (invokeW W 0 kd u v).run 0 = some (boxOf kd, startP (boxOf kd) 0 kd (cvOf kd u) (cpOf kd v)) := by
    show updF W.run 0 (some (boxOf kd, startP (boxOf kd) 0 kd (cvOf kd u) (cpOf kd v))) 0 = _
    rw [updF_same]
  have hs0 : SLq (W.log ++ [⟨0, false, kd, cvOf kd u, cpOf kd v, 0, 0, 0⟩]) (boxOf kd) kd (cvOf kd u) (cpOf kd v) (cLi W.m.word (boxOf kd)) (invokeW W 0 kd u v) :=
    .work _ hrun (by show (0 : Int) ≤ 7; decide) ⟨by show updF W.ck 0 kd 0 = kd; rw [updF_same], by show updF W.cv 0 (cvOf kd u) 0 = _; rw [updF_same], by show updF W.cp 0 (cpOf kd v) 0 = _; rw [updF_same]⟩ rfl rfl
  have hoth : ∀ s, s ≠ 0 → (invokeW W 0 kd u v).run s = none := fun s hs => by show updF W.run 0 (some (boxOf kd, startP (boxOf kd) 0 kd (cvOf kd u) (cpOf kd v))) s = none; rw [updF_ne _ _ hs]; exact hi s
  obtain ⟨hsl, hot⟩ := SLq.solo 64 (invokeW W 0 kd u v) hg1.1 (by omega) hs0 hoth
  have hk := keepG6.solo 0 64 (invokeW W 0 kd u v) hg1
  have hid := solo_idle 0 64 (invokeW W 0 kd u v) hg1.1.1.1 (by
    unfold restT; rw [hrun]
    exact Nat.le_trans (rest_le (m := W.m) (hg1.1.1.1.pi 0 _ hrun)).2 (by omega))
  have hall : ∀ s, (callW W kd u v).run s = none := fun s => by
    by_cases e : s = 0
    · rw [e]; exact hid
    · exact hot s e
  cases hsl with
  | work p hr h7 hw hc hl => rw [hid] at hr; cases hr
  | done p hr h8 hres hl => rw [hid] at hr; cases hr
  | back e hr hres hl =>
    refine ⟨e, hk.1, hk.2.trans hlw, hall, hres, ⟨⟨0, false, kd, cvOf kd u, cpOf kd v, 0, 0, 0⟩, ?_⟩⟩
    show (soloN 0 64 (invokeW W 0 kd u v)).2.log = _
    rw [hl, List.append_assoc]; rfl
theorem play_callG {W : WS} (kd u v : Nat) (h7 : kd ≤ 7) (hi : W.run 0 = none) : playN W ⟨kd, 0, u, v⟩ = invokeW W 0 kd u v := by
  unfold playN
  rw [if_neg (by show ¬ ((kd : Int) = 8); omega), if_neg (by show ¬ ((kd : Int) = 9); omega), if_pos ⟨by show (kd : Int) ≤ 7; omega, by show (0 : Nat) < 6; omega, by show (W.run 0).isSome = false; rw [hi]; rfl⟩]
/-- what a pop or a take does -/
theorem CallG.pop {W W2 : WS} {kd u v : Int} {e : Ev} (h : CallG W kd u v W2 e) (hk : kd = 2 ∨ kd = 3 ∨ kd = 5) : (cLi W.m.word (boxOf kd) = [] ∧ e.ra = 2 ∧ cLi W2.m.word (boxOf kd) = []) ∨ (e.ra = 1 ∧ (cLi W2.m.word (boxOf kd)).length + 1 = (cLi W.m.word (boxOf kd)).length ∧ (kd ≠ 3 → cLi W.m.word (boxOf kd) = (e.rp, e.rv) :: cLi W2.m.word (boxOf kd))) := by
  obtain ⟨ch, hr⟩ := h.res
  generalize cLi W.m.word (boxOf kd) = C at hr
  generalize cLi W2.m.word (boxOf kd) = C' at hr
  unfold apL at hr
  rw [if_neg (by omega)] at hr
  by_cases hn : C = []
  · subst hn
    rw [show (if kd = 3 then ([] : List (Int × Int)).getLast? else ([] : List (Int × Int)).head?) = none by split <;> rfl] at hr
    simp only [Prod.mk.injEq, Rs.mk.injEq] at hr
    exact .inl ⟨rfl, hr.2.1.1, hr.1⟩
  · have hl := List.length_pos_iff.2 hn
    refine .inr ?_
    by_cases h3 : kd = 3
    · rw [if_pos h3, List.getLast?_eq_some_getLast hn] at hr
      simp only at hr
      rw [if_neg (by omega), if_neg (by omega), if_pos h3] at hr
      simp only [Prod.mk.injEq, Rs.mk.injEq] at hr
      refine ⟨hr.2.1.1, by rw [hr.1, List.length_dropLast]; omega, fun q => absurd h3 q⟩
    · rw [if_neg h3] at hr
      obtain ⟨x, B, rfl⟩ := List.exists_cons_of_ne_nil hn
      simp only [List.head?_cons] at hr
      rw [if_neg (by omega), if_neg (by omega), if_neg h3] at hr
      simp only [Prod.mk.injEq, Rs.mk.injEq, List.tail_cons] at hr
      refine ⟨hr.2.1.1, by rw [hr.1]; rfl, fun _ => ?_⟩
      rw [hr.1, hr.2.1.2.1, hr.2.1.2.2]
theorem cLi_len {W : WS} (hs : SG W) (k : Bool) : (cLi W.m.word k).length ≤ 8 := by
  obtain ⟨x, ho⟩ := hs.oi
  obtain ⟨c, a, b⟩ := ho.wi.mi.cnt k _ (ho.cur7 k)
  unfold cLi
  rw [List.length_map, List.length_range, a]; omega

end Go.Proofs.Qxb6500914aGreat

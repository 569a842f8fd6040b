import Derived.Test.Qxb6500914aGreatN2
namespace Go.Proofs.Qxb6500914aGreat
open Go.Eng
set_option linter.unusedVariables false
set_option linter.unusedSimpArgs false

/-! ## one operation takes effect -/
theorem inK_iff {k : Bool} {ck : Int} (h : 0 ≤ ck ∧ ck ≤ 7) : inK k ck ↔ boxOf ck = k := by
  unfold inK boxOf
  cases k with
  | false => rw [if_neg (by simp)]; constructor
             · intro q; exact decide_eq_false (by omega)
             · intro q; have := of_decide_eq_false q; omega
  | true => rw [if_pos rfl]; constructor
            · intro q; exact decide_eq_true (by omega)
            · intro q; have := of_decide_eq_true q; omega
theorem apL_same {C : List (Int × Int)} {ck cv cp : Int} (h : (apL C ck cv cp).2.2 = false) : (apL C ck cv cp).1 = C := by
  unfold apL at h ⊢
  by_cases c : ck = 0 ∨ ck = 1 ∨ ck = 4
  · rw [if_pos c] at h ⊢
    by_cases c8 : C.length = 8
    · rw [if_pos c8]
    · rw [if_neg c8] at h; cases h
  · rw [if_neg c] at h ⊢
    generalize (if ck = 3 then C.getLast? else C.head?) = o at h ⊢
    cases o with
    | none => rfl
    | some x =>
      simp only at h ⊢
      by_cases c6 : ck = 6
      · rw [if_pos c6]
      · rw [if_neg c6] at h ⊢
        by_cases c7 : ck = 7 ∧ cp < x.1
        · rw [if_pos c7]
        · rw [if_neg c7] at h; cases h
def noPr (q : PG) : PG := { q with ip := fun _ => 0 }
theorem apply_noPr (q : PG) (nn : Nat) (ck cv cp : Int) (h3 : ck ≤ 3) : (applyF (noPr q) nn ck cv cp).p.n = (applyF q nn ck cv cp).p.n ∧ (applyF (noPr q) nn ck cv cp).p.iv = (applyF q nn ck cv cp).p.iv ∧ (applyF (noPr q) nn ck cv cp).ra = (applyF q nn ck cv cp).ra ∧ (applyF (noPr q) nn ck cv cp).rv = (applyF q nn ck cv cp).rv ∧ (applyF (noPr q) nn ck cv cp).ch = (applyF q nn ck cv cp).ch := by
  by_cases h1 : ck = 0 ∨ ck = 1 ∨ ck = 4
  · by_cases h2 : nn = 8
    · rw [applyF_full h1 h2, applyF_full h1 h2]; exact ⟨rfl, rfl, rfl, rfl, rfl⟩
    · rw [applyF_push h1 h2, applyF_push h1 h2]
      have hp : putAt (noPr q) nn ck cp = putAt q nn ck cp := by unfold putAt; rw [if_neg (show ¬ ck = 4 by omega), if_neg (show ¬ ck = 4 by omega)]
      rw [hp]
      exact ⟨rfl, rfl, rfl, rfl, rfl⟩
  · by_cases h2 : nn = 0
    · rw [applyF_empty h1 h2, applyF_empty h1 h2]; exact ⟨rfl, rfl, rfl, rfl, rfl⟩
    · rw [applyF_pop h1 h2 (by omega) (by omega), applyF_pop h1 h2 (by omega) (by omega)]; exact ⟨rfl, rfl, rfl, rfl, rfl⟩
theorem commit {w : Nat → Int} {k : Bool} {q0 : PG} {nn : Nat} {ck cv cp rp : Int} (hc : ContK w k q0 nn) (hk : boxOf ck = k) (h0 : 0 ≤ ck ∧ ck ≤ 7) (hf : k = false → cp = 0 ∧ rp = 0) (ht : k = true → rp = (applyF q0 nn ck cv cp).rp) :
    ∃ P : PG, P.n = (applyF q0 nn ck cv cp).p.n ∧ P.iv = (applyF q0 nn ck cv cp).p.iv ∧ (k = true → P.ip = (applyF q0 nn ck cv cp).p.ip) ∧ (k = false → ∀ i, P.ip i = 0) ∧ (itm P P.n.toNat, (⟨(applyF q0 nn ck cv cp).ra, (applyF q0 nn ck cv cp).rv, rp⟩ : Rs), (applyF q0 nn ck cv cp).ch) = apL (cLi w k) ck cv cp := by
  have hdn : (w (nd k (crN w k))).toNat = nn := by rw [hc.dn]; exact Int.toNat_natCast _
  cases k with
  | true =>
    have hi : itm q0 nn = cLi w true := by
      unfold itm cLi
      rw [hdn]
      refine List.map_congr_left fun i hi => ?_
      have hi' := List.mem_range.1 hi
      have e1 := hc.c (2 * i) (by show 2 * i < nn * 2; omega)
      have e2 := hc.c (2 * i + 1) (by show 2 * i + 1 < nn * 2; omega)
      have c1 : cellV true q0 (2 * i) = q0.ip i := by unfold cellV; rw [if_pos rfl, if_pos (by omega), show 2 * i / 2 = i by omega]
      have c2 : cellV true q0 (2 * i + 1) = q0.iv i := by unfold cellV; rw [if_pos rfl, if_neg (by omega), show (2 * i + 1) / 2 = i by omega]
      rw [c1] at e1; rw [c2] at e2
      rw [e1, e2]; rfl
    refine ⟨(applyF q0 nn ck cv cp).p, rfl, rfl, fun _ => rfl, fun q => (by cases q), ?_⟩
    rw [ht rfl, apply_list hc.n hc.n8, hi]
  | false =>
    obtain ⟨f1, f2⟩ := hf rfl
    have h3 : ck ≤ 3 := by unfold boxOf at hk; have := of_decide_eq_false hk; omega
    obtain ⟨a1, a2, a3, a4, a5⟩ := apply_noPr q0 nn ck cv cp h3
    obtain ⟨z1, z2⟩ := apply_zero (noPr q0) nn ck cv cp (fun _ => rfl) f1
    have hi : itm (noPr q0) nn = cLi w false := by
      unfold itm cLi
      rw [hdn]
      refine List.map_congr_left fun i hi => ?_
      have hi' := List.mem_range.1 hi
      have e1 := hc.c i (by show i < nn * 1; omega)
      have c1 : cellV false q0 i = q0.iv i := rfl
      rw [c1] at e1
      show (0, q0.iv i) = _
      rw [e1]; rfl
    refine ⟨(applyF (noPr q0) nn ck cv cp).p, a1, a2, fun q => (by cases q), fun _ => z1, ?_⟩
    rw [← a3, ← a4, ← a5, show rp = (applyF (noPr q0) nn ck cv cp).rp by rw [f2, z2], apply_list (show (noPr q0).n = nn from hc.n) hc.n8, hi]
theorem cLi_of {w' : Nat → Int} {k : Bool} {P Q : PG} (h1 : P.n = Q.n) (h2 : P.iv = Q.iv) (h3 : k = true → P.ip = Q.ip) (h4 : k = false → ∀ i, P.ip i = 0) (h0 : 0 ≤ Q.n) (hn : w' (nd k (crN w' k)) = Q.n) (hcl : ∀ c : Nat, (c : Int) < Q.n * wd k → ndC w' k (crN w' k) c = cellV k Q c) : cLi w' k = itm P P.n.toNat := by
  obtain ⟨n, hQ⟩ : ∃ n : Nat, Q.n = n := ⟨Q.n.toNat, by omega⟩
  unfold cLi itm
  rw [h1, hn, hQ, Int.toNat_natCast]
  refine List.map_congr_left fun i hi => ?_
  have hi' := List.mem_range.1 hi
  rw [hQ] at hcl
  cases k with
  | true =>
    have w2 : ((wd true : Nat) : Int) = 2 := rfl
    rw [w2] at hcl
    have e1 := hcl (2 * i) (by omega)
    have e2 := hcl (2 * i + 1) (by omega)
    have c1 : cellV true Q (2 * i) = Q.ip i := by unfold cellV; rw [if_pos rfl, if_pos (by omega), show 2 * i / 2 = i by omega]
    have c2 : cellV true Q (2 * i + 1) = Q.iv i := by unfold cellV; rw [if_pos rfl, if_neg (by omega), show (2 * i + 1) / 2 = i by omega]
    rw [c1] at e1; rw [c2] at e2
    show (ndC w' true (crN w' true) (2 * i), ndC w' true (crN w' true) (2 * i + 1)) = _
    rw [e1, e2, h3 rfl, h2]
  | false =>
    have w2 : ((wd false : Nat) : Int) = 1 := rfl
    rw [w2] at hcl
    have e1 := hcl i (by omega)
    have c1 : cellV false Q i = Q.iv i := rfl
    rw [c1] at e1
    show (0, ndC w' false (crN w' false) i) = _
    rw [e1, h4 rfl, h2]
theorem Same.cLi {w w' : Nat → Int} {k : Bool} (h : Same w w' k) (h8 : (w (nd k (crN w k))).toNat ≤ 8) : Go.Proofs.Qxb6500914aGreat.cLi w' k = Go.Proofs.Qxb6500914aGreat.cLi w k := by
  unfold Go.Proofs.Qxb6500914aGreat.cLi
  rw [h.cur, h.cnt]
  refine List.map_congr_left fun i hi => ?_
  have hi' := List.mem_range.1 hi
  cases k with
  | true =>
    show (ndC w' true (crN w' true) (2 * i), ndC w' true (crN w' true) (2 * i + 1)) = (ndC w true (crN w true) (2 * i), ndC w true (crN w true) (2 * i + 1))
    rw [h.cur, h.cell _ (by show 2 * i < 8 * 2; omega), h.cell _ (by show 2 * i + 1 < 8 * 2; omega)]
  | false =>
    show (0, ndC w' false (crN w' false) i) = (0, ndC w false (crN w false) i)
    rw [h.cur, h.cell _ (by show i < 8 * 1; omega)]
/-! ## the invariant of the world -/
def CF (W : WS) : Prop := ∀ t k p, W.run t = some (k, p) → k = boxOf (W.ck t) ∧ p.ck = W.ck t ∧ p.cv = W.cv t ∧ p.cp = W.cp t ∧ 0 ≤ W.ck t ∧ W.ck t ≤ 7
def phO (k : Bool) (ck cv cp : Int) : Option (Bool × PG) → Ph
  | none => .idle
  | some (k', p) => if k' = k then (if p.pc = 8 then .fin ⟨p.ra, p.rv, p.rp⟩ else .work ck cv cp) else .idle
def phW (k : Bool) (W : WS) (t : Nat) : Ph := phO k (W.ck t) (W.cv t) (W.cp t) (W.run t)
def LinI (k : Bool) (W : WS) : Prop := ∃ L A, LI k (hist k W.log) L A W.log.length (phW k W) ∧ cLi W.m.word k = cOf k A
theorem CF.step {W : WS} (h : CF W) (hs : SG W) (t : Nat) (hb : (W.run t).isSome = true) : CF (stepW W t) := by
  obtain ⟨⟨k, p⟩, hx⟩ := Option.isSome_iff_exists.1 hb
  obtain ⟨e1, e2⟩ := stepW_some hx
  have hck : (stepW W t).ck = W.ck ∧ (stepW W t).cv = W.cv ∧ (stepW W t).cp = W.cp := by
    unfold stepW; rw [hx]; dsimp only; split <;> exact ⟨rfl, rfl, rfl⟩
  obtain ⟨d1, _⟩ := stepF_due (hs.di.wi.pi t _ hx) hs.di.wi.mi (hs.di.due t _ hx)
  intro s k' p' hy
  rw [hck.1, hck.2.1, hck.2.2]
  rw [e2] at hy
  by_cases q : s = t
  · subst q
    rw [updF_same] at hy
    by_cases hr : (stepF k W.m p).ret = true
    · rw [show (stepF (k, p).1 W.m (k, p).2).ret = true from hr, if_pos rfl] at hy; cases hy
    · rw [if_neg hr] at hy
      have hy' : some (k, (stepF k W.m p).p) = some (k', p') := hy
      injection hy' with hy'
      injection hy' with a b
      subst a; subst b
      obtain ⟨c1, c2, c3, c4, c5⟩ := h s k p hx
      exact ⟨c1, d1.ck.trans c2, d1.cv.trans c3, d1.cp.trans c4, c5⟩
  · rw [updF_ne _ _ q] at hy; exact h s k' p' hy
theorem CF.inv {W : WS} (h : CF W) (t : Nat) (kd u v : Int) (h0 : 0 ≤ kd) (h7 : kd ≤ 7) : CF (invokeW W t kd u v) := by
  intro s k' p' hy
  have hy' : updF W.run t (some (boxOf kd, startP (boxOf kd) t kd (cvOf kd u) (cpOf kd v))) s = some (k', p') := hy
  show k' = boxOf (updF W.ck t kd s) ∧ p'.ck = updF W.ck t kd s ∧ p'.cv = updF W.cv t (cvOf kd u) s ∧ p'.cp = updF W.cp t (cpOf kd v) s ∧ 0 ≤ updF W.ck t kd s ∧ updF W.ck t kd s ≤ 7
  by_cases q : s = t
  · subst q
    rw [updF_same] at hy'
    injection hy' with hy'
    injection hy' with a b
    subst a; subst b
    rw [updF_same, updF_same, updF_same]
    refine ⟨rfl, rfl, rfl, ?_, h0, h7⟩
    show (if boxOf kd then cpOf kd v else 0) = cpOf kd v
    cases hb : boxOf kd
    · have : ¬ 4 ≤ kd := of_decide_eq_false hb
      unfold cpOf; rw [if_neg (show ¬ (kd = 4 ∨ kd = 7) by omega)]; rfl
    · rfl
  · rw [updF_ne _ _ q] at hy'
    rw [updF_ne _ _ q, updF_ne _ _ q, updF_ne _ _ q]
    exact h s k' p' hy'
theorem LinI.inv {k : Bool} {W : WS} (h : LinI k W) (t : Nat) (ht : t < 6) (hn : W.run t = none) (kd u v : Int) (h0 : 0 ≤ kd) (h7 : kd ≤ 7) (hL : LW W ≤ 1000100) : LinI k (invokeW W t kd u v) := by
  obtain ⟨L, A, hI, hc⟩ := h
  have hl : W.log.length ≤ 1000100 := by unfold LW at hL; omega
  have hnv : W.log.length + 1 < never := by unfold never; omega
  have hlen : (invokeW W t kd u v).log.length = W.log.length + 1 := by show (W.log ++ [_]).length = _; rw [List.length_append]; rfl
  have hh : hist k (invokeW W t kd u v).log = hStep k (hist k W.log) W.log.length ⟨t, false, kd, cvOf kd u, cpOf kd v, 0, 0, 0⟩ := hist_snoc k W.log _
  have hpi : phW k W t = .idle := by unfold phW; rw [hn]; rfl
  have hph : ∀ s, phW k (invokeW W t kd u v) s = if s = t then (if boxOf kd = k then .work kd (cvOf kd u) (cpOf kd v) else .idle) else phW k W s := fun s => by
    show phO k (updF W.ck t kd s) (updF W.cv t (cvOf kd u) s) (updF W.cp t (cpOf kd v) s) (updF W.run t (some (boxOf kd, startP (boxOf kd) t kd (cvOf kd u) (cpOf kd v))) s) = _
    by_cases q : s = t
    · subst q
      rw [updF_same, updF_same, updF_same, updF_same, if_pos rfl]
      show (if boxOf kd = k then (if (0 : Int) = 8 then Ph.fin _ else .work kd (cvOf kd u) (cpOf kd v)) else .idle) = _
      rw [if_neg (show ¬ (0 : Int) = 8 by decide)]
    · rw [updF_ne _ _ q, updF_ne _ _ q, updF_ne _ _ q, updF_ne _ _ q, if_neg q]; rfl
  refine ⟨L, A, ?_, hc⟩
  rw [hlen, hh]
  unfold hStep
  by_cases hb : boxOf kd = k
  · rw [if_pos ((inK_iff ⟨h0, h7⟩).2 hb)]
    have e : phW k (invokeW W t kd u v) = updF (phW k W) t (.work kd (cvOf kd u) (cpOf kd v)) := funext fun s => by
      rw [hph]; unfold updF; rw [if_pos hb]
    rw [e]
    exact hI.invoke ht hpi kd (cvOf kd u) (cpOf kd v) hnv
  · rw [if_neg (fun q => hb ((inK_iff ⟨h0, h7⟩).1 q))]
    have e : phW k (invokeW W t kd u v) = phW k W := funext fun s => by
      rw [hph, if_neg hb]
      by_cases q : s = t
      · subst q; rw [if_pos rfl, hpi]
      · rw [if_neg q]
    rw [e]
    exact hI.other hnv
theorem phO_go {k : Bool} {ck cv cp : Int} {p q : PG} (h1 : p.pc ≤ 7) (h2 : q.pc ≤ 7) (k' : Bool) : phO k ck cv cp (some (k', q)) = phO k ck cv cp (some (k', p)) := by
  unfold phO; simp only; rw [if_neg (show ¬ q.pc = 8 by omega), if_neg (show ¬ p.pc = 8 by omega)]
theorem LinI.step {k : Bool} {W : WS} (h : LinI k W) (hs : SG W) (hz : ZI W) (hcf : CF W) (hL : LW W ≤ 1000100) (t : Nat) (hb : (W.run t).isSome = true) : LinI k (stepW W t) := by
  obtain ⟨⟨kt, p⟩, hr⟩ := Option.isSome_iff_exists.1 hb
  obtain ⟨x, ho⟩ := hs.oi
  obtain ⟨L, A, hI, hc⟩ := h
  obtain ⟨c1, c2, c3, c4, c5⟩ := hcf t kt p hr
  obtain ⟨e1, e2⟩ := stepW_some hr
  have hlog := stepW_log hr
  have hP : PI kt t p := ho.wi.pi t _ hr
  have ht : t < 6 := hP.ht
  have hM := ho.wi.mi
  have hmv := mv hP hM
  have hst := lin_step ho hs.ci hr
  have hl : W.log.length ≤ 1000100 := by unfold LW at hL; omega
  have hnv : W.log.length + 1 < never := by unfold never; omega
  have hck : (stepW W t).ck = W.ck ∧ (stepW W t).cv = W.cv ∧ (stepW W t).cp = W.cp := by
    unfold stepW; rw [hr]; dsimp only; split <;> exact ⟨rfl, rfl, rfl⟩
  have h8 : (W.m.word (nd k (crN W.m.word k))).toNat ≤ 8 := by
    obtain ⟨c, a, b⟩ := hM.cnt k _ (ho.cur7 k)
    rw [a]; omega
  have hzt : kt = false → W.cp t = 0 ∧ ((stepF kt W.m p).ret = true ∨ (stepF kt W.m p).p.pc = 8 → (stepF kt W.m p).p.rp = 0) := by
    intro q
    subst q
    obtain ⟨z1, z2, _⟩ := stepF_zero hP hM (hz t p hr)
    refine ⟨by rw [← c4]; exact (hz t p hr).cp, fun o => ?_⟩
    cases hret : (stepF false W.m p).ret
    · rw [hret] at o
      rcases o with o | o
      · cases o
      · exact (z1 hret).rp (by omega)
    · exact z2 hret
  have msame : kt ≠ k → Same W.m.word (stepF kt W.m p).m.word k := fun q => mv_same ho hr hmv k (fun z => q z.1)
  have e1' : (stepW W t).m = (stepF kt W.m p).m := e1
  have e2' : (stepW W t).run = updF W.run t (if (stepF kt W.m p).ret then none else some (kt, (stepF kt W.m p).p)) := e2
  have hlog' : (stepW W t).log = if (stepF kt W.m p).ret then W.log ++ [⟨t, true, W.ck t, W.cv t, W.cp t, (stepF kt W.m p).p.ra, (stepF kt W.m p).p.rv, (stepF kt W.m p).p.rp⟩] else W.log := hlog
  clear e1 e2 hlog hmv
  generalize stepF kt W.m p = R at hst e1' e2' hlog' msame hzt
  obtain ⟨m', q, b⟩ := R
  dsimp only at hst e1' e2' hlog' msame hzt
  have hph : ∀ s, phW k (stepW W t) s = if s = t then phO k (W.ck t) (W.cv t) (W.cp t) (if b then none else some (kt, q)) else phW k W s := fun s => by
    unfold phW
    rw [hck.1, hck.2.1, hck.2.2, e2']
    by_cases z : s = t
    · subst z; rw [updF_same, if_pos rfl]
    · rw [updF_ne _ _ z, if_neg z]
  have hpt : phW k W t = phO k (W.ck t) (W.cv t) (W.cp t) (some (kt, p)) := by unfold phW; rw [hr]
  unfold LinI
  rw [e1', hlog']
  by_cases hk : kt = k
  · subst hk
    have hin : inK kt (W.ck t) := (inK_iff c5).2 c1.symm
    cases hst with
    | go h1 h2 hd =>
      have e : phW kt (stepW W t) = phW kt W := funext fun s => by
        rw [hph]
        by_cases z : s = t
        · subst z; rw [if_pos rfl, hpt]; exact phO_go h1 h2 kt
        · rw [if_neg z]
      rw [e, if_neg (by simp)]
      exact ⟨L, A, hI, by rw [hd.cLi h8]; exact hc⟩
    | keep h1 hd hra hrv hrp =>
      have e : phW kt (stepW W t) = updF (phW kt W) t .idle := funext fun s => by
        rw [hph]; unfold updF; rfl
      have hp8 : phW kt W t = .fin ⟨q.ra, q.rv, q.rp⟩ := by rw [hpt]; unfold phO; simp only; rw [if_pos h1, hra, hrv, hrp]; rfl
      rw [e, if_pos rfl, List.length_append, hist_snoc]
      refine ⟨L, A, ?_, by rw [hd.cLi h8]; exact hc⟩
      unfold hStep
      rw [if_pos hin]
      exact hI.ret ht hp8 hnv
    | swap q0 nn h1 h2 hcn hch hn hcl hra hrv hrp =>
      rw [c2, c3, c4] at hch hn hcl hra hrv hrp
      obtain ⟨P, p1, p2, p3, p4, p5⟩ := commit (rp := q.rp) hcn c1.symm c5 (fun z => ⟨(hzt z).1, (hzt z).2 (.inr h2)⟩) (fun _ => hrp)
      obtain ⟨s1, s2⟩ := st_rel (A := A) (cv := W.cv t) (cp := W.cp t) c1.symm c5
      rw [hc] at p5
      have hpw : phW kt W t = .work (W.ck t) (W.cv t) (W.cp t) := by rw [hpt]; unfold phO; simp only; rw [if_neg (show ¬ p.pc = 8 by omega)]; rfl
      have hrs : (stA kt A (W.ck t) (W.cv t) (W.cp t)).2 = ⟨q.ra, q.rv, q.rp⟩ := by rw [← s2, ← p5, hra, hrv]
      have e : phW kt (stepW W t) = updF (phW kt W) t (.fin (stA kt A (W.ck t) (W.cv t) (W.cp t)).2) := funext fun s => by
        rw [hph, hrs]; unfold updF
        by_cases z : s = t
        · rw [if_pos z, if_pos z]; show phO kt _ _ _ (some (kt, q)) = _; unfold phO; simp only; rw [if_pos h2]; rfl
        · rw [if_neg z, if_neg z]
      rw [e, if_neg (by simp)]
      refine ⟨_, _, hI.lin ht hpw, ?_⟩
      rw [cLi_of p1 p2 p3 p4 ?_ hn hcl, ← s1, ← p5]
      obtain ⟨_, _, _, n', hn', _⟩ := apply_hdr q0 nn hcn.n hcn.n8 (W.ck t) (W.cv t) (W.cp t)
      rw [hn']; omega
    | answer q0 nn h1 hd hcn hch hra hrv hrp =>
      rw [c2, c3, c4] at hch hra hrv hrp
      obtain ⟨P, p1, p2, p3, p4, p5⟩ := commit (rp := q.rp) hcn c1.symm c5 (fun z => ⟨(hzt z).1, (hzt z).2 (.inl rfl)⟩) (fun _ => hrp)
      obtain ⟨s1, s2⟩ := st_rel (A := A) (cv := W.cv t) (cp := W.cp t) c1.symm c5
      rw [hc] at p5
      have hpw : phW kt W t = .work (W.ck t) (W.cv t) (W.cp t) := by rw [hpt]; unfold phO; simp only; rw [if_neg (show ¬ p.pc = 8 by omega)]; rfl
      have hrs : (stA kt A (W.ck t) (W.cv t) (W.cp t)).2 = ⟨q.ra, q.rv, q.rp⟩ := by rw [← s2, ← p5, hra, hrv]
      have hI2 := hI.lin ht hpw
      have e : phW kt (stepW W t) = updF (updF (phW kt W) t (.fin (stA kt A (W.ck t) (W.cv t) (W.cp t)).2)) t .idle := funext fun s => by
        rw [hph]; unfold updF
        by_cases z : s = t
        · rw [if_pos z, if_pos z]; rfl
        · rw [if_neg z, if_neg z, if_neg z]
      rw [e, if_pos rfl, List.length_append, hist_snoc]
      refine ⟨L ++ [⟨t, W.ck t, W.cv t, W.cp t, (stA kt A (W.ck t) (W.cv t) (W.cp t)).2, W.log.length⟩], (stA kt A (W.ck t) (W.cv t) (W.cp t)).1, ?_, ?_⟩
      · unfold hStep
        rw [if_pos hin]
        exact hI2.ret ht (by rw [updF_same, hrs]) hnv
      · rw [hd.cLi h8, hc, ← s1, apL_same (by rw [← p5]; exact hch)]
  · have hout : ¬ inK k (W.ck t) := fun z => hk (c1.trans ((inK_iff c5).1 z))
    have e : phW k (stepW W t) = phW k W := funext fun s => by
      rw [hph]
      by_cases z : s = t
      · subst z
        rw [if_pos rfl, hpt]
        cases b
        · unfold phO; simp only; rw [if_neg hk]; simp [hk]
        · unfold phO; simp only; rw [if_neg hk]; rfl
      · rw [if_neg z]
    rw [e, (msame hk).cLi h8]
    cases b
    · rw [if_neg (by simp)]; exact ⟨L, A, hI, hc⟩
    · rw [if_pos rfl, List.length_append, hist_snoc]
      refine ⟨L, A, ?_, hc⟩
      unfold hStep
      rw [if_neg hout]
      exact hI.other hnv
def Good5 (W : WS) : Prop := Good4 W ∧ (LW W ≤ 1000100 → CF W ∧ ∀ k, LinI k W)
theorem keepG5 : Keep Good5 := ⟨fun _ h => h.1.1,
  fun W t h hb => ⟨keepG4.step W t h.1 hb, fun hl => by
    rw [LW_step W t h.1.1] at hl
    have hg := h.1.2 hl
    exact ⟨(h.2 hl).1.step hg.1 t hb, fun k => ((h.2 hl).2 k).step hg.1 hg.2 (h.2 hl).1 hl t hb⟩⟩,
  fun W t kd u v h hn ht h0 h7 hu hv => ⟨keepG4.inv W t kd u v h.1 hn ht h0 h7 hu hv, fun hl => by
    rw [LW_inv W t kd u v ht hn] at hl
    exact ⟨(h.2 (by omega)).1.inv t kd u v h0 h7, fun k => ((h.2 (by omega)).2 k).inv t ht hn kd u v h0 h7 (by omega)⟩⟩⟩
theorem start_G5 {m : MS} (h : StartM m) : Good5 (W0 m) := by
  refine ⟨start_G4 h, fun _ => ⟨fun t k p hx => (by cases hx), fun k => ⟨[], [], ?_, ?_⟩⟩⟩
  · have e : phW k (W0 m) = fun _ => .idle := funext fun s => rfl
    rw [e]
    exact LI.start k
  · have h0 : (W0 m).m.word (nd k (crN (W0 m).m.word k)) = 0 := by
      obtain ⟨st, m1, h1, h2⟩ := h
      have hc : crN m.word k = 0 := (start_words ⟨st, m1, h1, h2⟩).1 k
      show m.word (nd k (crN m.word k)) = 0
      rw [hc, h2.word, h1.word]
      cases k
      · rw [if_neg (by decide), if_neg (by decide), if_neg (by decide), if_neg (by decide), if_neg (by decide), if_pos rfl]
      · rw [if_neg (by decide), if_neg (by decide), if_pos rfl]
    unfold cLi
    rw [h0]
    cases k <;> rfl

end Go.Proofs.Qxb6500914aGreat

import Derived.Test.Qxb6500914aGreatK2
namespace Go.Proofs.Qxb6500914aGreat
open Go.Eng
set_option linter.unusedVariables false
set_option linter.unusedSimpArgs false

attribute [local irreducible] encM encP

theorem apply_still (q : PG) (nn : Nat) (ck cv cp : Int) (h : (applyF q nn ck cv cp).ch = false) : (applyF q nn ck cv cp).p = q := by
  by_cases h1 : ck = 0 ∨ ck = 1 ∨ ck = 4
  · by_cases h2 : nn = 8
    · rw [applyF_full h1 h2]
    · rw [applyF_push h1 h2] at h; cases h
  · by_cases h2 : nn = 0
    · rw [applyF_empty h1 h2]
    · by_cases h3 : ck = 6
      · rw [applyF_peek h2 h3]
      · by_cases h4 : ck = 7 ∧ cp < q.ip (atF ck nn)
        · rw [applyF_due h2 h4]
        · rw [applyF_pop h1 h2 h3 h4] at h; cases h
theorem stepW_log {W : WS} {t : Nat} {x : Bool × PG} (hx : W.run t = some x) : (stepW W t).log = if (stepF x.1 W.m x.2).ret then W.log ++ [⟨t, true, W.ck t, W.cv t, W.cp t, (stepF x.1 W.m x.2).p.ra, (stepF x.1 W.m x.2).p.rv, (stepF x.1 W.m x.2).p.rp⟩] else W.log := by
  unfold stepW; rw [hx]; dsimp only; split <;> rfl
/-- the answer of an operation on the deque, and what it leaves -/
def Res (n0 : Nat) (c0 : Nat → Int) (ck cv ra rv n' : Int) (c' : Nat → Int) : Prop := ∃ q : PG, q.n = n0 ∧ (∀ c, c < n0 → q.iv c = c0 c) ∧ ra = (applyF q n0 ck cv 0).ra ∧ rv = (applyF q n0 ck cv 0).rv ∧ n' = (applyF q n0 ck cv 0).p.n ∧ ∀ c : Nat, (c : Int) < (applyF q n0 ck cv 0).p.n → c' c = (applyF q n0 ck cv 0).p.iv c
inductive SLp (L : List Ev) (ck cv : Int) (n0 : Nat) (c0 : Nat → Int) (W : WS) : Prop
  | work (p : PG) (hr : W.run 0 = some (false, p)) (h7 : p.pc ≤ 7) (hk : p.ck = ck) (hv : p.cv = cv) (hn : dn W.m.word = n0) (hc : ∀ c, c < 8 → dc W.m.word c = c0 c) (hl : W.log = L) : SLp L ck cv n0 c0 W
  | done (p : PG) (hr : W.run 0 = some (false, p)) (h8 : p.pc = 8) (hres : Res n0 c0 ck cv p.ra p.rv (dn W.m.word) (dc W.m.word)) (hl : W.log = L) : SLp L ck cv n0 c0 W
  | back (ra rv : Int) (e : Ev) (hr : W.run 0 = none) (hres : Res n0 c0 ck cv ra rv (dn W.m.word) (dc W.m.word)) (he : e.ret = true ∧ e.ra = ra ∧ e.rv = rv ∧ e.rp = 0) (hl : W.log = L ++ [e]) : SLp L ck cv n0 c0 W
theorem SLp.step {L : List Ev} {ck cv : Int} {n0 : Nat} {c0 : Nat → Int} {W : WS} (hn0 : n0 ≤ 8) (h : SLp L ck cv n0 c0 W) (hs : SG W) (hz : ZI W) (hb : (W.run 0).isSome = true) : SLp L ck cv n0 c0 (stepW W 0) := by
  obtain ⟨x, ho⟩ := hs.oi
  cases h with
  | back ra rv e hr hres he hl => rw [hr] at hb; cases hb
  | work p hr h7 hk hv hn hc hl =>
    obtain ⟨e1, e2⟩ := stepW_some hr
    have hlog := stepW_log hr
    have hP : PI false 0 p := ho.wi.pi 0 _ hr
    obtain ⟨z1, z2, z3, z4⟩ := stepF_zero hP ho.wi.mi (hz 0 p hr)
    have hd := deq_step ho hs.ci hz hr
    have e1' : (stepW W 0).m = (stepF false W.m p).m := e1
    have e2' : (stepW W 0).run = updF W.run 0 (if (stepF false W.m p).ret then none else some (false, (stepF false W.m p).p)) := e2
    have hlog' : (stepW W 0).log = if (stepF false W.m p).ret then W.log ++ [⟨0, true, W.ck 0, W.cv 0, W.cp 0, (stepF false W.m p).p.ra, (stepF false W.m p).p.rv, (stepF false W.m p).p.rp⟩] else W.log := hlog
    generalize stepF false W.m p = R at hd e1' e2' hlog' z1 z2 z3 z4
    obtain ⟨m', q, b⟩ := R
    dsimp only at hd e1' e2' hlog' z1 z2 z3 z4
    cases hd with
    | go h1 h2 hds =>
      refine .work q (by rw [e2', updF_same]; rfl) h2 (z3.trans hk) (z4.trans hv) (by rw [e1', hds.n]; exact hn) (fun c hc8 => by rw [e1', hds.c c hc8]; exact hc c hc8) (by rw [hlog']; exact hl)
    | swap q0 nn h1 h2 hcn hch hnn hcl hra hrv =>
      have en : nn = n0 := by have := hcn.dn; omega
      subst en
      rw [hk, hv] at hch hnn hcl hra hrv
      refine .done q (by rw [e2', updF_same]; rfl) h2 ⟨q0, hcn.n, fun c hcc => (hcn.c c hcc).trans (hc c (by omega)), hra, hrv, by rw [e1']; exact hnn, fun c hcc => by rw [e1']; exact hcl c hcc⟩ (by rw [hlog']; exact hl)
    | answer q0 nn h1 hds hcn hch hra hrv =>
      have en : nn = n0 := by have := hcn.dn; omega
      subst en
      rw [hk, hv] at hch hra hrv
      have hst := apply_still q0 nn ck cv 0 hch
      refine .back q.ra q.rv ⟨0, true, W.ck 0, W.cv 0, W.cp 0, q.ra, q.rv, q.rp⟩ (by rw [e2', updF_same]; rfl) ⟨q0, hcn.n, fun c hcc => (hcn.c c hcc).trans (hc c (by omega)), hra, hrv, ?_, fun c hcc => ?_⟩ ⟨rfl, rfl, rfl, z2 rfl⟩ (by rw [hlog', hl]; rfl)
      · rw [e1', hds.n, hst, hcn.n]; exact hn
      · rw [hst, hcn.n] at hcc
        rw [e1', hds.c c (by omega), hst]
        exact (hcn.c c (by omega)).symm
    | keep h1 hds hra hrv => omega
  | done p hr h8 hres hl =>
    obtain ⟨e1, e2⟩ := stepW_some hr
    have hlog := stepW_log hr
    have hP : PI false 0 p := ho.wi.pi 0 _ hr
    obtain ⟨z1, z2, z3, z4⟩ := stepF_zero hP ho.wi.mi (hz 0 p hr)
    have hd := deq_step ho hs.ci hz hr
    have e1' : (stepW W 0).m = (stepF false W.m p).m := e1
    have e2' : (stepW W 0).run = updF W.run 0 (if (stepF false W.m p).ret then none else some (false, (stepF false W.m p).p)) := e2
    have hlog' : (stepW W 0).log = if (stepF false W.m p).ret then W.log ++ [⟨0, true, W.ck 0, W.cv 0, W.cp 0, (stepF false W.m p).p.ra, (stepF false W.m p).p.rv, (stepF false W.m p).p.rp⟩] else W.log := hlog
    generalize stepF false W.m p = R at hd e1' e2' hlog' z1 z2 z3 z4
    obtain ⟨m', q, b⟩ := R
    dsimp only at hd e1' e2' hlog' z1 z2 z3 z4
    cases hd with
    | go h1 h2 hds => omega
    | swap q0 nn h1 h2 hcn hch hnn hcl hra hrv => omega
    | answer q0 nn h1 hds hcn hch hra hrv => omega
    | keep h1 hds hra hrv =>
      obtain ⟨q0, r1, r2, r3, r4, r5, r6⟩ := hres
      refine .back q.ra q.rv ⟨0, true, W.ck 0, W.cv 0, W.cp 0, q.ra, q.rv, q.rp⟩ (by rw [e2', updF_same]; rfl) ⟨q0, r1, r2, hra.trans r3, hrv.trans r4, by rw [e1', hds.n]; exact r5, fun c hcc => ?_⟩ ⟨rfl, rfl, rfl, z2 rfl⟩ (by rw [hlog', hl]; rfl)
      obtain ⟨_, _, _, n', g4, g5⟩ := apply_hdr q0 n0 r1 hn0 ck cv 0
      rw [e1', hds.c c (by rw [g4] at hcc; omega)]
      exact r6 c hcc
theorem SLp.solo {L : List Ev} {ck cv : Int} {n0 : Nat} {c0 : Nat → Int} (hn0 : n0 ≤ 8) : ∀ n W, Good4 W → LW W ≤ 1000100 → SLp L ck cv n0 c0 W → (∀ s, s ≠ 0 → W.run s = none) → SLp L ck cv n0 c0 (soloN 0 n W).2 ∧ ∀ s, s ≠ 0 → (soloN 0 n W).2.run s = none
  | 0, W, _, _, h, ho => ⟨h, ho⟩
  | n + 1, W, hg, hL, h, ho => by
    simp only [soloN]
    split
    · rename_i hb
      obtain ⟨hs, hz⟩ := hg.2 hL
      obtain ⟨x, hx⟩ := Option.isSome_iff_exists.1 hb
      refine SLp.solo hn0 n (stepW W 0) (keepG4.step W 0 hg hb) (by rw [LW_step W 0 hg.1]; exact hL) (h.step hn0 hs hz hb) (fun s hs0 => ?_)
      rw [(stepW_some hx).2, updF_ne _ _ hs0]; exact ho s hs0
    · exact ⟨h, ho⟩
def restT (W : WS) (t : Nat) : Nat := match W.run t with
  | none => 0
  | some x => rest x.1 W.m x.2
theorem solo_idle (t : Nat) : ∀ n W, WI W → restT W t ≤ n → (soloN t n W).2.run t = none
  | 0, W, h, hr => by
    show W.run t = none
    cases e : W.run t with
    | none => rfl
    | some x =>
      have := (rest_le (m := W.m) (h.pi t x e)).1
      unfold restT at hr; rw [e] at hr; dsimp only at hr; omega
  | n + 1, W, h, hr => by
    simp only [soloN]
    split
    · rename_i hb
      obtain ⟨x, hx⟩ := Option.isSome_iff_exists.1 hb
      obtain ⟨e1, e2⟩ := stepW_some hx
      refine solo_idle t n (stepW W t) (h.step t) ?_
      unfold restT at hr ⊢
      rw [hx] at hr; dsimp only at hr
      rw [e2, updF_same, e1]
      cases hret : (stepF x.1 W.m x.2).ret
      · have := (rest_step (h.pi t x hx) h.mi hret).1
        simp only [Bool.false_eq_true, if_false]
        omega
      · simp only [if_true]; omega
    · rename_i hb
      cases e : W.run t with
      | none => rfl
      | some x => rw [e] at hb; exact absurd rfl hb
theorem SG.dn8 {W : WS} (h : SG W) : ∃ n0 : Nat, dn W.m.word = n0 ∧ n0 ≤ 8 := by
  obtain ⟨x, ho⟩ := h.oi
  obtain ⟨c, hc, hc8⟩ := ho.wi.mi.cnt false (crN W.m.word false) (ho.cur7 false)
  exact ⟨c, hc, hc8⟩
/-- an operation on the deque by thread 0 alone -/
def callW (W : WS) (kd u v : Int) : WS := (soloN 0 64 (invokeW W 0 kd u v)).2
structure CallR (W : WS) (kd u : Int) (W2 : WS) (ra rv : Int) : Prop where
  good : Good4 W2
  lw : LW W2 = LW W + 2
  idle : ∀ s, W2.run s = none
  res : ∃ n0 : Nat, dn W.m.word = n0 ∧ n0 ≤ 8 ∧ Res n0 (dc W.m.word) kd (cvOf kd u) ra rv (dn W2.m.word) (dc W2.m.word)
  log : ∃ e1 e2 : Ev, W2.log = W.log ++ [e1, e2] ∧ e2.ra = ra ∧ e2.rv = rv ∧ e2.rp = 0
theorem call_res {W : WS} (hg : Good4 W) (hL : LW W ≤ 1000000) (hi : ∀ s, W.run s = none) (kd u v : Int) (h0 : 0 ≤ kd) (h3 : kd ≤ 3) (hu : InR u) (hv : InR v) : ∃ ra rv, CallR W kd u (callW W kd u v) ra rv := by
  have hbx : boxOf kd = false := decide_eq_false (by omega)
  have hg1 := keepG4.inv W 0 kd u v hg (hi 0) (by omega) h0 (by omega) hu hv
  have hlw := LW_inv W 0 kd u v (by omega) (hi 0)
  obtain ⟨n0, hn0, hn8⟩ := (hg.2 (by omega)).1.dn8
  have hrun : (invokeW W 0 kd u v).run 0 = some (false, startP false 0 kd (cvOf kd u) (cpOf kd v)) := by
    show updF W.run 0 (some (boxOf kd, startP (boxOf kd) 0 kd (cvOf kd u) (cpOf kd v))) 0 = _
    rw [updF_same, hbx]
  have hs0 : SLp (W.log ++ [⟨0, false, kd, cvOf kd u, cpOf kd v, 0, 0, 0⟩]) kd (cvOf kd u) n0 (dc W.m.word) (invokeW W 0 kd u v) :=
    .work (startP false 0 kd (cvOf kd u) (cpOf kd v)) hrun (by show (0 : Int) ≤ 7; decide) rfl rfl hn0 (fun _ _ => rfl) rfl
  have hoth : ∀ s, s ≠ 0 → (invokeW W 0 kd u v).run s = none := fun s hs => by show updF W.run 0 (some (boxOf kd, startP (boxOf kd) 0 kd (cvOf kd u) (cpOf kd v))) s = none; rw [updF_ne _ _ hs]; exact hi s
  obtain ⟨hsl, hot⟩ := SLp.solo hn8 64 (invokeW W 0 kd u v) hg1 (by omega) hs0 hoth
  have hk := keepG4.solo 0 64 (invokeW W 0 kd u v) hg1
  have hid := solo_idle 0 64 (invokeW W 0 kd u v) hg1.1 (by
    unfold restT; rw [hrun]
    exact Nat.le_trans (rest_le (m := W.m) (hg1.1.pi 0 _ hrun)).2 (by omega))
  have hall : ∀ s, (callW W kd u v).run s = none := fun s => by
    by_cases e : s = 0
    · rw [e]; exact hid
    · exact hot s e
  cases hsl with
  | work p hr h7 hk hv hn hc hl => rw [hid] at hr; cases hr
  | done p hr h8 hres hl => rw [hid] at hr; cases hr
  | back ra rv e hr hres he hl =>
    refine ⟨ra, rv, hk.1, hk.2.trans hlw, hall, ⟨n0, hn0, hn8, hres⟩, ⟨⟨0, false, kd, cvOf kd u, cpOf kd v, 0, 0, 0⟩, e, ?_, he.2⟩⟩
    show (soloN 0 64 (invokeW W 0 kd u v)).2.log = _
    rw [hl, List.append_assoc]; rfl
theorem CallR.pop {W W2 : WS} {kd u ra rv : Int} (h : CallR W kd u W2 ra rv) (hk : kd = 2 ∨ kd = 3) : (dn W.m.word = 0 ∧ ra = 2 ∧ dn W2.m.word = 0) ∨ (1 ≤ dn W.m.word ∧ ra = 1 ∧ dn W2.m.word + 1 = dn W.m.word) := by
  obtain ⟨n0, hn0, hn8, q, r1, r2, r3, r4, r5, r6⟩ := h.res
  by_cases e : n0 = 0
  · obtain ⟨a1, a2, a3⟩ := pop_empty q n0 kd (cvOf kd u) hk e
    exact .inl ⟨by omega, r3.trans a2, by rw [r5, apply_still _ _ _ _ _ a1, r1, e]; rfl⟩
  · obtain ⟨a1, a2, a3, a4⟩ := pop_some q n0 kd (cvOf kd u) hk e
    exact .inr ⟨by omega, r3.trans a2, by rw [r5, a4, hn0]; omega⟩
theorem CallR.push {W W2 : WS} {kd u ra rv : Int} (h : CallR W kd u W2 ra rv) (hk : kd = 0 ∨ kd = 1) (h0 : dn W.m.word = 0) : ra = 0 ∧ dn W2.m.word = 1 ∧ dc W2.m.word 0 = u := by
  obtain ⟨n0, hn0, hn8, q, r1, r2, r3, r4, r5, r6⟩ := h.res
  have e : n0 = 0 := by omega
  subst e
  obtain ⟨a1, a2, a3, a4⟩ := push_one q kd (cvOf kd u) hk
  refine ⟨r3.trans a2, r5.trans a3, ?_⟩
  rw [r6 0 (by rw [a3]; decide), a4]
  unfold cvOf; rw [if_pos (by omega)]
/-- two pops contend for one element -/
def rcT (W : WS) (t : Nat) : Nat := match W.run t with
  | none => 0
  | some y => if y.2.pc ≤ 7 then 1 else 0
def scT (W : WS) (t : Nat) : Nat := match W.run t with
  | none => 0
  | some y => if y.2.pc ≤ 7 then 0 else 1
def gotE (z : Int) (e : Ev) : Bool := e.ret && decide (e.ra = 1 ∧ e.rv = z ∧ e.rp = 0)
def empE (e : Ev) : Bool := e.ret && decide (e.ra = 2 ∧ e.rv = 0 ∧ e.rp = 0)
def TPs (z : Int) (W : WS) (tl : List Ev) : Prop := (dn W.m.word = 1 ∧ dc W.m.word 0 = z ∧ tl.countP (gotE z) = 0 ∧ tl.countP empE = 0 ∧ rcT W 1 + rcT W 2 = 2) ∨
  (dn W.m.word = 0 ∧ tl.countP (gotE z) + scT W 1 + scT W 2 = 1 ∧ tl.countP empE + rcT W 1 + rcT W 2 = 1 ∧ ∀ t y, W.run t = some y → ¬ y.2.pc ≤ 7 → y.2.ra = 1 ∧ y.2.rv = z)
structure TP (L : List Ev) (z : Int) (W : WS) : Prop where
  others : ∀ s, s ≠ 1 → s ≠ 2 → W.run s = none
  fr : ∀ t y, W.run t = some y → y.1 = false ∧ (y.2.ck = 2 ∨ y.2.ck = 3)
  st : ∃ tl, W.log = L ++ tl ∧ TPs z W tl ∧ ∀ e, e ∈ tl → e.ret = true → gotE z e = true ∨ empE e = true
theorem TP.step {L : List Ev} {z : Int} {W : WS} (h : TP L z W) (hs : SG W) (hz : ZI W) (t : Nat) (hb : (W.run t).isSome = true) : TP L z (stepW W t) := by
  obtain ⟨x, ho⟩ := hs.oi
  obtain ⟨⟨k, p⟩, hr⟩ := Option.isSome_iff_exists.1 hb
  have hk := h.fr t _ hr
  have hk1 : k = false := hk.1
  subst hk1
  have hck : p.ck = 2 ∨ p.ck = 3 := hk.2
  have ht12 : t = 1 ∨ t = 2 := by
    by_cases a : t = 1
    · exact .inl a
    · by_cases b : t = 2
      · exact .inr b
      · rw [h.others t a b] at hr; cases hr
  obtain ⟨e1, e2⟩ := stepW_some hr
  have hlog := stepW_log hr
  have hP : PI false t p := ho.wi.pi t _ hr
  obtain ⟨z1, z2, z3, z4⟩ := stepF_zero hP ho.wi.mi (hz t p hr)
  have hd := deq_step ho hs.ci hz hr
  have e1' : (stepW W t).m = (stepF false W.m p).m := e1
  have e2' : (stepW W t).run = updF W.run t (if (stepF false W.m p).ret then none else some (false, (stepF false W.m p).p)) := e2
  have hlog' : (stepW W t).log = if (stepF false W.m p).ret then W.log ++ [⟨t, true, W.ck t, W.cv t, W.cp t, (stepF false W.m p).p.ra, (stepF false W.m p).p.rv, (stepF false W.m p).p.rp⟩] else W.log := hlog
  generalize stepF false W.m p = R at hd e1' e2' hlog' z1 z2 z3 z4
  obtain ⟨m', q, b⟩ := R
  dsimp only at hd e1' e2' hlog' z1 z2 z3 z4
  obtain ⟨tl, hl, hst, hev⟩ := h.st
  have roth : ∀ s, s ≠ t → (stepW W t).run s = W.run s := fun s hs => by rw [e2', updF_ne _ _ hs]
  have rco : ∀ s, s ≠ t → rcT (stepW W t) s = rcT W s ∧ scT (stepW W t) s = scT W s := fun s hs => by unfold rcT scT; rw [roth s hs]; exact ⟨rfl, rfl⟩
  have rct : rcT W t = if p.pc ≤ 7 then 1 else 0 := by unfold rcT; rw [hr]
  have sct : scT W t = if p.pc ≤ 7 then 0 else 1 := by unfold scT; rw [hr]
  have hrt : (stepW W t).run t = if b then none else some (false, q) := by rw [e2', updF_same]
  have fr' : ∀ s y, (stepW W t).run s = some y → y.1 = false ∧ (y.2.ck = 2 ∨ y.2.ck = 3) := fun s y hy => by
    by_cases e : s = t
    · subst e
      rw [hrt] at hy
      cases b
      · injection hy with hy; subst hy; exact ⟨rfl, by show q.ck = 2 ∨ q.ck = 3; rw [z3]; exact hck⟩
      · cases hy
    · rw [roth s e] at hy; exact h.fr s y hy
  have oth' : ∀ s, s ≠ 1 → s ≠ 2 → (stepW W t).run s = none := fun s h1 h2 => by rw [roth s (by omega)]; exact h.others s h1 h2
  have o1 := rco 1; have o2 := rco 2
  cases hd with
  | go h1 h2 hds =>
    refine ⟨oth', fr', tl, by rw [hlog']; exact hl, ?_, hev⟩
    have rct' : rcT (stepW W t) t = 1 ∧ scT (stepW W t) t = 0 := by unfold rcT scT; rw [hrt]; exact ⟨if_pos h2, if_pos h2⟩
    rw [if_pos h1] at rct sct
    have r1 : rcT (stepW W t) 1 = rcT W 1 ∧ scT (stepW W t) 1 = scT W 1 := by
      by_cases e : (1 : Nat) = t
      · subst e; omega
      · exact o1 e
    have r2 : rcT (stepW W t) 2 = rcT W 2 ∧ scT (stepW W t) 2 = scT W 2 := by
      by_cases e : (2 : Nat) = t
      · subst e; omega
      · exact o2 e
    unfold TPs
    rw [e1', hds.n, hds.c 0 (by omega), r1.1, r1.2, r2.1, r2.2]
    rcases hst with hA | ⟨b1, b2, b3, b4⟩
    · exact .inl hA
    · refine .inr ⟨b1, b2, b3, fun s y hy h8 => ?_⟩
      by_cases e : s = t
      · subst e
        rw [hrt] at hy
        injection hy with hy; subst hy
        exact absurd h2 h8
      · rw [roth s e] at hy; exact b4 s y hy h8
  | swap q0 nn h1 h2 hcn hch hnn hcl hra hrv =>
    refine ⟨oth', fr', tl, by rw [hlog']; exact hl, ?_, hev⟩
    have h8 : ¬ q.pc ≤ 7 := by omega
    have rct' : rcT (stepW W t) t = 0 ∧ scT (stepW W t) t = 1 := by unfold rcT scT; rw [hrt]; exact ⟨if_neg h8, if_neg h8⟩
    rw [if_pos (by omega)] at rct sct
    rcases hst with ⟨a1, a2, a3, a4, a5⟩ | ⟨b1, b2, b3, b4⟩
    · have en : nn = 1 := by have := hcn.dn; omega
      subst en
      obtain ⟨p1, p2, p3, p4⟩ := pop_some q0 1 p.ck p.cv hck (by decide)
      have hat : atF p.ck 1 = 0 := by unfold atF; split <;> rfl
      right
      refine ⟨by rw [e1', hnn, p4]; rfl, ?_, ?_, fun s y hy h8' => ?_⟩
      · have u1 : scT W 1 = 0 ∧ scT W 2 = 0 := by
          have f1 : rcT W 1 ≤ 1 ∧ (rcT W 1 = 1 → scT W 1 = 0) := by unfold rcT scT; split; exact ⟨by omega, fun h => by omega⟩; (split; exact ⟨by omega, fun _ => rfl⟩; exact ⟨by omega, fun h => by omega⟩)
          have f2 : rcT W 2 ≤ 1 ∧ (rcT W 2 = 1 → scT W 2 = 0) := by unfold rcT scT; split; exact ⟨by omega, fun h => by omega⟩; (split; exact ⟨by omega, fun _ => rfl⟩; exact ⟨by omega, fun h => by omega⟩)
          exact ⟨f1.2 (by omega), f2.2 (by omega)⟩
        rcases ht12 with rfl | rfl
        · have := (o2 (by decide)).2; omega
        · have := (o1 (by decide)).2; omega
      · rcases ht12 with rfl | rfl
        · have := (o2 (by decide)).1; omega
        · have := (o1 (by decide)).1; omega
      · by_cases e : s = t
        · subst e
          rw [hrt] at hy
          injection hy with hy; subst hy
          exact ⟨hra.trans p2, by show q.rv = z; rw [hrv, p3, hat, hcn.c 0 (by decide)]; exact a2⟩
        · rw [roth s e] at hy
          exfalso
          have hs12 : s = 1 ∨ s = 2 := by
            by_cases a : s = 1
            · exact .inl a
            · by_cases b : s = 2
              · exact .inr b
              · rw [h.others s a b] at hy; cases hy
          have : rcT W s = 0 := by unfold rcT; rw [hy]; exact if_neg h8'
          rcases ht12 with rfl | rfl <;> rcases hs12 with rfl | rfl <;> omega
    · exfalso
      have en : nn = 0 := by have := hcn.dn; omega
      rw [(pop_empty q0 nn p.ck p.cv hck en).1] at hch
      cases hch
  | answer q0 nn h1 hds hcn hch hra hrv =>
    rcases hst with ⟨a1, a2, a3, a4, a5⟩ | ⟨b1, b2, b3, b4⟩
    · exfalso
      have en : nn ≠ 0 := by have := hcn.dn; omega
      rw [(pop_some q0 nn p.ck p.cv hck en).1] at hch
      cases hch
    · have en : nn = 0 := by have := hcn.dn; omega
      obtain ⟨p1, p2, p3⟩ := pop_empty q0 nn p.ck p.cv hck en
      have hrp : q.rp = 0 := z2 rfl
      refine ⟨oth', fr', tl ++ [⟨t, true, W.ck t, W.cv t, W.cp t, q.ra, q.rv, q.rp⟩], by rw [hlog', hl]; simp, ?_, fun e he her => ?_⟩
      rotate_left
      · rcases List.mem_append.1 he with he | he
        · exact hev e he her
        · have : e = ⟨t, true, W.ck t, W.cv t, W.cp t, q.ra, q.rv, q.rp⟩ := by simpa using he
          right; rw [this, hra, p2, hrv, p3, hrp]; rfl
      have rct' : rcT (stepW W t) t = 0 ∧ scT (stepW W t) t = 0 := by unfold rcT scT; rw [hrt]; exact ⟨rfl, rfl⟩
      rw [if_pos (by omega)] at rct sct
      have g1 : List.countP (gotE z) [⟨t, true, W.ck t, W.cv t, W.cp t, q.ra, q.rv, q.rp⟩] = 0 := by
        rw [hra, p2]; unfold gotE; simp
      have g2 : List.countP empE [⟨t, true, W.ck t, W.cv t, W.cp t, q.ra, q.rv, q.rp⟩] = 1 := by
        rw [hra, p2, hrv, p3, hrp]; unfold empE; simp
      right
      rw [List.countP_append, List.countP_append, g1, g2]
      refine ⟨by rw [e1', hds.n]; exact b1, ?_, ?_, fun s y hy h8 => ?_⟩
      · rcases ht12 with rfl | rfl
        · have := (o2 (by decide)).2; omega
        · have := (o1 (by decide)).2; omega
      · rcases ht12 with rfl | rfl
        · have := (o2 (by decide)).1; omega
        · have := (o1 (by decide)).1; omega
      · by_cases e : s = t
        · subst e; rw [hrt] at hy; cases hy
        · rw [roth s e] at hy; exact b4 s y hy h8
  | keep h1 hds hra hrv =>
    have h8 : ¬ p.pc ≤ 7 := by omega
    rw [if_neg h8] at rct sct
    rcases hst with ⟨a1, a2, a3, a4, a5⟩ | ⟨b1, b2, b3, b4⟩
    · exfalso
      have f1 : rcT W 1 ≤ 1 := by unfold rcT; split; omega; (split <;> omega)
      have f2 : rcT W 2 ≤ 1 := by unfold rcT; split; omega; (split <;> omega)
      rcases ht12 with rfl | rfl <;> omega
    · obtain ⟨y1, y2⟩ := b4 t _ hr h8
      have y1' : p.ra = 1 := y1
      have y2' : p.rv = z := y2
      have hrp : q.rp = 0 := z2 rfl
      refine ⟨oth', fr', tl ++ [⟨t, true, W.ck t, W.cv t, W.cp t, q.ra, q.rv, q.rp⟩], by rw [hlog', hl]; simp, ?_, fun e he her => ?_⟩
      rotate_left
      · rcases List.mem_append.1 he with he | he
        · exact hev e he her
        · have : e = ⟨t, true, W.ck t, W.cv t, W.cp t, q.ra, q.rv, q.rp⟩ := by simpa using he
          left; rw [this, hra, y1', hrv, y2', hrp]; unfold gotE; simp
      have rct' : rcT (stepW W t) t = 0 ∧ scT (stepW W t) t = 0 := by unfold rcT scT; rw [hrt]; exact ⟨rfl, rfl⟩
      have g1 : List.countP (gotE z) [⟨t, true, W.ck t, W.cv t, W.cp t, q.ra, q.rv, q.rp⟩] = 1 := by
        rw [hra, y1', hrv, y2', hrp]; unfold gotE; simp
      have g2 : List.countP empE [⟨t, true, W.ck t, W.cv t, W.cp t, q.ra, q.rv, q.rp⟩] = 0 := by
        rw [hra, y1']; unfold empE; simp
      right
      rw [List.countP_append, List.countP_append, g1, g2]
      refine ⟨by rw [e1', hds.n]; exact b1, ?_, ?_, fun s y hy h8 => ?_⟩
      · rcases ht12 with rfl | rfl
        · have := (o2 (by decide)).2; omega
        · have := (o1 (by decide)).2; omega
      · rcases ht12 with rfl | rfl
        · have := (o2 (by decide)).1; omega
        · have := (o1 (by decide)).1; omega
      · by_cases e : s = t
        · subst e; rw [hrt] at hy; cases hy
        · rw [roth s e] at hy; exact b4 s y hy h8
/-- the phase of the two pops -/
structure TG (B : Nat) (L : List Ev) (z : Int) (W : WS) : Prop where
  good : Good4 W
  lw : LW W = B
  tp : TP L z W
theorem TG.step {B : Nat} {L : List Ev} {z : Int} {W : WS} (hB : B ≤ 1000100) (h : TG B L z W) (t : Nat) : TG B L z (stepW W t) := by
  cases hb : (W.run t).isSome
  · rw [stepW_idle hb]; exact h
  · obtain ⟨hs, hz⟩ := h.good.2 (by rw [h.lw]; exact hB)
    exact ⟨keepG4.step W t h.good hb, (LW_step W t h.good.1).trans h.lw, h.tp.step hs hz t hb⟩
theorem TG.steps {B : Nat} {L : List Ev} {z : Int} (hB : B ≤ 1000100) : ∀ n W, TG B L z W → TG B L z (stepsN n W)
  | 0, W, h => h
  | n + 1, W, h => (TG.steps hB n W h).step hB n
theorem TG.run {B : Nat} {L : List Ev} {z : Int} (hB : B ≤ 1000100) : ∀ n W, TG B L z W → TG B L z (runN n W)
  | 0, W, h => h
  | n + 1, W, h => by
    simp only [runN]
    split
    · exact h
    · exact TG.run hB n _ (h.steps hB 6 W)
theorem TG.fin {B : Nat} {L : List Ev} {z : Int} {W : WS} (h : TG B L z W) (hq : quietW W = true) : dn W.m.word = 0 ∧ ∃ tl, W.log = L ++ tl ∧ tl.countP (gotE z) = 1 ∧ tl.countP empE = 1 ∧ ∀ e, e ∈ tl → e.ret = true → gotE z e = true ∨ empE e = true := by
  have n1 := quiet_none hq 1 (by omega)
  have n2 := quiet_none hq 2 (by omega)
  have r1 : rcT W 1 = 0 ∧ scT W 1 = 0 := by unfold rcT scT; rw [n1]; exact ⟨rfl, rfl⟩
  have r2 : rcT W 2 = 0 ∧ scT W 2 = 0 := by unfold rcT scT; rw [n2]; exact ⟨rfl, rfl⟩
  obtain ⟨tl, hl, hst, hev⟩ := h.tp.st
  rcases hst with ⟨a1, a2, a3, a4, a5⟩ | ⟨b1, b2, b3, b4⟩
  · exfalso; omega
  · exact ⟨b1, tl, hl, by omega, by omega, hev⟩
/-- the two pops are invoked -/
theorem two_pops {W : WS} {z : Int} (hg : Good4 W) (hL : LW W ≤ 1000000) (hi : ∀ s, W.run s = none) (h1 : dn W.m.word = 1) (hz0 : dc W.m.word 0 = z) (u v u' v' : Int) (hu : InR u) (hv : InR v) (hu' : InR u') (hv' : InR v') :
    TG (LW W + 4) W.log z (invokeW (invokeW W 1 2 u v) 2 3 u' v') := by
  have i1 : (invokeW W 1 2 u v).run 2 = none := by show updF W.run 1 (some (boxOf 2, startP (boxOf 2) 1 2 (cvOf 2 u) (cpOf 2 v))) 2 = none; rw [updF_ne _ _ (by decide)]; exact hi 2
  have g1 := keepG4.inv W 1 2 u v hg (hi 1) (by omega) (by omega) (by omega) hu hv
  have g2 := keepG4.inv (invokeW W 1 2 u v) 2 3 u' v' g1 i1 (by omega) (by omega) (by omega) hu' hv'
  have l1 := LW_inv W 1 2 u v (by omega) (hi 1)
  have l2 := LW_inv (invokeW W 1 2 u v) 2 3 u' v' (by omega) i1
  have rr : ∀ s, (invokeW (invokeW W 1 2 u v) 2 3 u' v').run s = if s = 2 then some (false, startP false 2 3 (cvOf 3 u') (cpOf 3 v')) else if s = 1 then some (false, startP false 1 2 (cvOf 2 u) (cpOf 2 v)) else none := fun s => by
    show updF (updF W.run 1 (some (boxOf 2, startP (boxOf 2) 1 2 (cvOf 2 u) (cpOf 2 v)))) 2 (some (boxOf 3, startP (boxOf 3) 2 3 (cvOf 3 u') (cpOf 3 v'))) s = _
    unfold updF
    by_cases e : s = 2
    · rw [if_pos e, if_pos e]; rfl
    · rw [if_neg e, if_neg e]
      by_cases e' : s = 1
      · rw [if_pos e', if_pos e']; rfl
      · rw [if_neg e', if_neg e']; exact hi s
  refine ⟨g2, by rw [l2, l1], ⟨fun s a b => by rw [rr, if_neg b, if_neg a], fun t y hy => ?_, [⟨1, false, 2, cvOf 2 u, cpOf 2 v, 0, 0, 0⟩, ⟨2, false, 3, cvOf 3 u', cpOf 3 v', 0, 0, 0⟩], ?_, .inl ⟨h1, hz0, rfl, rfl, ?_⟩, fun e he her => ?_⟩⟩
  · rw [rr] at hy
    split at hy
    · injection hy with hy; subst hy; exact ⟨rfl, .inr rfl⟩
    · split at hy
      · injection hy with hy; subst hy; exact ⟨rfl, .inl rfl⟩
      · cases hy
  · show (W.log ++ [_]) ++ [_] = _
    rw [List.append_assoc]; rfl
  · unfold rcT; rw [rr, rr]; rfl
  · exfalso
    rcases List.mem_cons.1 he with he | he
    · rw [he] at her; cases her
    · rcases List.mem_cons.1 he with he | he
      · rw [he] at her; cases her
      · cases he

end Go.Proofs.Qxb6500914aGreat

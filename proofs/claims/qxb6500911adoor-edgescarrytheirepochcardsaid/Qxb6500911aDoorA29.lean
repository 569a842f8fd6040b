import Derived.Test.Qxb6500911aDoorA27
namespace Go.Proofs.Qxb6500911aDoor
open Go.Eng
set_option linter.unusedVariables false
set_option linter.unusedSimpArgs false

/-! ## where the entries come from -/
structure JW (S : Nat → Int → Nat → Prop) (g : Gs) : Prop where
  ws : ∀ t, t < 16 → ∀ e k, k < 16 → nt (g.ws t) e k ≠ 0 → S t e k
  mg : ∀ t u, Mgv g.bx t u → u.k ≠ 3 → ∀ k, k < 16 → u.s.getLsbD k = true → S t u.e k
  ok : ∀ t, t < 16 → WsOk (g.ws t) (g.flr t)
theorem ws_ap {k fz e : Int} {l : List Wt} {s : BitVec 16} (h : WsOk l fz) : WsOk (apL k fz l e s) (apF k fz e) := by
  have adj : ∀ d, WsOk (adjS fz l e s d) fz := fun d => by
    unfold adjS; split
    · exact h
    · exact adj_ok (by omega) h
  unfold apL apF
  by_cases k1 : k = 1
  · rw [if_pos k1, if_neg (by omega)]; exact adj 1
  rw [if_neg k1]
  by_cases k2 : k = 2
  · rw [if_pos k2, if_neg (by omega)]; exact adj (-1)
  rw [if_neg k2]
  by_cases k3 : k = 3 ∧ fz ≤ e
  · rw [if_pos k3, if_pos k3]; exact end_ok h
  · rw [if_neg k3, if_neg k3]; exact h
theorem nt_ap {k fz e : Int} {l : List Wt} {s : BitVec 16} (h : WsOk l fz) (e' : Int) (j : Nat) (hn : nt (apL k fz l e s) e' j ≠ 0) : nt l e' j ≠ 0 ∨ (k ≠ 3 ∧ e' = e ∧ s.getLsbD j = true) := by
  have adj : ∀ d, k ≠ 3 → nt (adjS fz l e s d) e' j ≠ 0 → nt l e' j ≠ 0 ∨ (k ≠ 3 ∧ e' = e ∧ s.getLsbD j = true) := fun d h3 hn => by
    unfold adjS at hn; split at hn
    · exact .inl hn
    · rw [adj_nt h] at hn
      by_cases c : e' = e ∧ s.getLsbD j = true
      · exact .inr ⟨h3, c⟩
      · rw [if_neg c, Int.add_zero] at hn; exact .inl hn
  unfold apL at hn
  by_cases k1 : k = 1
  · rw [if_pos k1] at hn; exact adj 1 (by omega) hn
  rw [if_neg k1] at hn
  by_cases k2 : k = 2
  · rw [if_pos k2] at hn; exact adj (-1) (by omega) hn
  rw [if_neg k2] at hn
  split at hn
  · rw [end_nt] at hn
    split at hn
    · exact absurd rfl hn
    · exact .inl hn
  · exact .inl hn
theorem apply_J {S : Nat → Int → Nat → Prop} {g : Gs} {u : Up} (h : JW S g) (hw : u.w < 16) (hu : u.k ≠ 3 → ∀ k, k < 16 → u.s.getLsbD k = true → S u.w u.e k) : JW S (applyG g u) := by
  refine ⟨fun t ht e k hk hn => ?_, h.mg, fun t ht => ?_⟩
  · simp only [applyG, updW] at hn
    by_cases c : t = u.w
    · subst c
      rw [if_pos rfl] at hn
      rcases nt_ap (h.ok _ ht) e k hn with h1 | ⟨h1, h2, h3⟩
      · exact h.ws _ ht e k hk h1
      · rw [h2]; exact hu h1 k hk h3
    · rw [if_neg c] at hn; exact h.ws t ht e k hk hn
  · simp only [applyG, updW, updI]
    by_cases c : t = u.w
    · subst c; rw [if_pos rfl, if_pos rfl]; exact ws_ap (h.ok _ ht)
    · rw [if_neg c, if_neg c]; exact h.ok t ht
theorem route_J {S : Nat → Int → Nat → Prop} {g : Gs} {u : Up} {a : Nat} {Q : Int} (h : JW S g) (ha : a < 4) (ho : UpOk Q u) (hu : u.k ≠ 3 → ∀ k, k < 16 → u.s.getLsbD k = true → S u.w u.e k) : JW S (routeG g a u) := by
  have hv := route_RV (g := g) ha ho
  by_cases c : u.w % 4 = a
  · have : routeG g a u = applyG g u := by unfold routeG; rw [if_pos c]
    rw [this]; exact apply_J h ho.w hu
  · have e1 : (routeG g a u).ws = g.ws ∧ (routeG g a u).flr = g.flr := by unfold routeG; rw [if_neg c]; exact ⟨rfl, rfl⟩
    refine ⟨by rw [e1.1]; exact h.ws, fun t u' hm h3 k hk hs => ?_, by rw [e1.1, e1.2]; exact h.ok⟩
    rcases (hv.mg t u').1 hm with h1 | ⟨_, rfl, rfl⟩
    · exact h.mg t u' h1 h3 k hk hs
    · exact hu h3 k hk hs
theorem b01_rng (b : Bool) : b01 b = 0 ∨ b01 b = 1 := by cases b <;> simp [b01]
theorem b01_T {b : Bool} (h : b01 b = 1) : b = true := by cases b <;> simp_all [b01]
theorem pub1_J {S : Nat → Int → Nat → Prop} {Q : Int} {g0 g : Gs} {a t w : Nat} {tb : Tab} {ep : Nat → Int} {b : Bt} (ha : a < 4) (hw : w < 16) (hbo : BtOk Q b) (hL : BLg g0 t tb ep b) (h : JW S g)
    (h0 : ∀ k, k < 16 → (wfg g0.tb w).getLsbD k = true → S w (g0.ep w) k) (h1 : ∀ k, k < 16 → (wfg tb w).getLsbD k = true → S w (ep w) k) : JW S (pub1 a b g w) := by
  unfold pub1
  by_cases ce : b.ended.getLsbD w = true
  · rw [if_pos ce]
    exact route_J h ha (upok3 hbo hw) (fun h9 => absurd rfl h9)
  · have ce' : b.ended.getLsbD w = false := by simpa using ce
    rw [if_neg ce]
    obtain ⟨h2, h3⟩ := hL.ne w hw ce'
    have hdf := hL.df w hw ce'
    have e1 : JW S (if b.del w ≠ 0#16 then routeG g a ⟨2, w, b.ep w, b.del w⟩ else g) := by
      by_cases cd : b.del w ≠ 0#16
      · rw [if_pos cd]
        obtain ⟨a1, a2⟩ := hL.ad w hw ce' (.inr cd)
        refine route_J h ha (upok2 hbo hw cd) (fun _ k hk hs => ?_)
        simp only at hs ⊢
        rw [a1, h3]
        refine h0 k hk ?_
        have hkt := hL.dt w k hs
        subst hkt
        have h4 := hdf k
        rw [hL.at_ w, hs] at h4
        simp only [show b01 false = 0 from rfl, show b01 true = 1 from rfl] at h4
        have := b01_rng ((WFv (fun w => waitOn tb w 20) (holdB tb) w).getLsbD k)
        have := b01_rng ((WFv (fun w => waitOn g0.tb w 20) (holdB g0.tb) w).getLsbD k)
        exact b01_T (by unfold wfg; omega)
      · rw [if_neg cd]; exact h
    by_cases ca : b.add w ≠ 0#16
    · rw [if_pos ca]
      obtain ⟨a1, a2⟩ := hL.ad w hw ce' (.inl ca)
      refine route_J e1 ha (upok1 hbo hw ca) (fun _ k hk hs => ?_)
      simp only at hs ⊢
      rw [a1]
      refine h1 k hk ?_
      have h4 := hdf k
      have hkt : (b.del w).getLsbD k = false := by
        cases hd : (b.del w).getLsbD k with
        | false => rfl
        | true =>
          have := hL.dt w k hd
          subst this
          rw [hL.at_ w] at hs; cases hs
      rw [hkt, hs] at h4
      simp only [show b01 false = 0 from rfl, show b01 true = 1 from rfl] at h4
      have := b01_rng ((WFv (fun w => waitOn tb w 20) (holdB tb) w).getLsbD k)
      have := b01_rng ((WFv (fun w => waitOn g0.tb w 20) (holdB g0.tb) w).getLsbD k)
      exact b01_T (by unfold wfg; omega)
    · rw [if_neg ca]; exact e1
theorem publ_J {S : Nat → Int → Nat → Prop} {Q : Int} {g : Gs} {a t : Nat} {tb : Tab} {ep : Nat → Int} {b : Bt} (ha : a < 4) (hbo : BtOk Q b) (hL : BLg g t tb ep b) (h : JW S g)
    (h0 : ∀ w, w < 16 → ∀ k, k < 16 → (wfg g.tb w).getLsbD k = true → S w (g.ep w) k) (h1 : ∀ w, w < 16 → ∀ k, k < 16 → (wfg tb w).getLsbD k = true → S w (ep w) k) : ∀ n, n ≤ 16 → JW S (publN a b (setC g tb ep) n)
  | 0, _ => ⟨h.ws, h.mg, h.ok⟩
  | n + 1, hn => by
    rw [publN]
    exact pub1_J ha (by omega) hbo hL (publ_J ha hbo hL h h0 h1 n (by omega)) (h0 n (by omega)) (h1 n (by omega))
/-- what a step does to the epochs -/
def EpLaw (g g2 : Gs) : Prop := ∀ t, t < 16 → (wtg g.tb t = true ∧ wtg g2.tb t = false ∧ g2.ep t = g.ep t + 1) ∨ ((wtg g.tb t = false ∨ wtg g2.tb t = true) ∧ g2.ep t = g.ep t)
theorem EpLaw.same {g g2 : Gs} (he : g2.ep = g.ep) (ht : ∀ t, t < 16 → wtg g2.tb t = wtg g.tb t) : EpLaw g g2 := fun t h => by
  right
  rw [he, ht t h]
  refine ⟨?_, rfl⟩
  cases wtg g.tb t
  · exact .inl rfl
  · exact .inr rfl
theorem BL_ep {g : Gs} {a t : Nat} {tb : Tab} {ep : Nat → Int} {b : Bt} (hL : BLg g t tb ep b) : EpLaw g (publN a b (setC g tb ep) 16) := fun w hw => by
  rw [(publ_core a b _ 16).1, (publ_core a b _ 16).2]
  show (wtg g.tb w = true ∧ wtg tb w = false ∧ ep w = g.ep w + 1) ∨ ((wtg g.tb w = false ∨ wtg tb w = true) ∧ ep w = g.ep w)
  cases hb : b.ended.getLsbD w with
  | true =>
    obtain ⟨h1, h2, h3, _⟩ := hL.en w hw hb
    exact .inl ⟨h1, by unfold wtg; rw [show waitOn tb w 20 = none from h2]; rfl, h3⟩
  | false =>
    obtain ⟨h1, h2⟩ := hL.ne w hw hb
    right
    refine ⟨?_, h2⟩
    unfold wtg
    rw [show waitOn tb w 20 = waitOn g.tb w 20 from h1]
    cases (waitOn g.tb w 20).isSome
    · exact .inl rfl
    · exact .inr rfl
def WfS (S : Nat → Int → Nat → Prop) (g : Gs) : Prop := ∀ w, w < 16 → ∀ k, k < 16 → (wfg g.tb w).getLsbD k = true → S w (g.ep w) k
theorem acq_J {B Q : Int} {g : Gs} {t r u : Int} (hG : GI B Q g) (hu : u ≤ 16) : EpLaw g (acqG g t r u).1 ∧ ∀ S, JW S g → WfS S g → WfS S (acqG g t r u).1 → JW S (acqG g t r u).1 := by
  unfold acqG
  split
  · rename_i c
    obtain ⟨tn, rfl⟩ : ∃ n : Nat, t = n := ⟨t.toNat, by omega⟩
    obtain ⟨rn, rfl⟩ : ∃ n : Nat, r = n := ⟨r.toNat, by omega⟩
    simp only [Int.toNat_natCast]
    have ht : tn < 16 := by omega
    have hr : rn < 20 := by omega
    have hti := hG.ti.acq (u := u) ht hr hu
    rcases acqN_cases g.tb tn rn u with ⟨cd, e, h0, h1⟩ | ⟨hw, hq, e⟩ | ⟨hw, e⟩
    · rw [e, if_neg h1]
      exact ⟨EpLaw.same rfl (fun _ _ => rfl), fun S h _ _ => ⟨h.ws, h.mg, h.ok⟩⟩
    · rw [e, if_neg (show ¬ (0 : Int) = 1 by decide)]
      refine ⟨EpLaw.same rfl (fun w hwl => ?_), fun S h _ _ => ⟨h.ws, h.mg, h.ok⟩⟩
      unfold wtg
      simp only [setC]
      rw [waitOn_congr (tb := g.tb) (tb' := tbU g.tb rn (giveH (g.tb.held rn) ⟨tn, u⟩) (g.tb.q rn)) 20 (fun r' _ => by rw [tbU_q]; split; (rename_i e9; rw [e9]); rfl)]
    · rw [e] at hti ⊢
      obtain ⟨b1, b2, b3⟩ := blk_wo hG.ti hti hr
      rw [if_pos rfl]
      refine ⟨fun w hw9 => ?_, fun S h h0 h1 => apply_J (g := setC g _ g.ep) ⟨h.ws, h.mg, h.ok⟩ ht (fun _ k hk hs => ?_)⟩
      · right
        refine ⟨?_, rfl⟩
        simp only [applyG, setC]
        unfold wtg
        by_cases c9 : w = tn
        · subst c9; rw [hw]; exact .inl rfl
        · rw [b1 w c9]
          cases (waitOn g.tb w 20).isSome
          · exact .inl rfl
          · exact .inr rfl
      · have h2 := h1 tn ht k hk
        simp only [applyG, setC] at h2 hs ⊢
        refine h2 ?_
        unfold wfg WFv
        simp only
        rw [b2]; exact hs
  · exact ⟨EpLaw.same rfl (fun _ _ => rfl), fun S h _ _ => h⟩
theorem del_J {B Q : Int} {g : Gs} {p : Int} (hG : GI B Q g) (hQ : Q ≤ 1000000000000) {S : Nat → Int → Nat → Prop} (h : JW S g) : JW S (delG g p).1 := by
  unfold delG
  split
  · exact h
  · rename_i x l hx
    have hb := foldB_lt p
    obtain ⟨_, u, hu, hxu, hdec, _⟩ := hG.pop hQ hx hb
    unfold hdlG
    rw [hdec]
    simp only
    have hsub : ∀ w u', Mgv (bxU g.bx (foldB p) l) w u' → Mgv g.bx w u' := fun w u' => by
      rintro ⟨b, hb2, m, hm, hd, hw2⟩
      refine ⟨b, hb2, m, ?_, hd, hw2⟩
      simp only [bxU] at hm
      split at hm
      · rename_i c; subst c; rw [hx]; exact .tail _ hm
      · exact hm
    refine apply_J (g := { g with bx := bxU g.bx (foldB p) l }) ⟨h.ws, fun t u' hm => h.mg t u' (hsub t u' hm), h.ok⟩ hu.w (fun h3 k hk hs => ?_)
    exact h.mg u.w u ⟨foldB p, hb, x, by rw [hx]; exact .head _, hdec, rfl⟩ h3 k hk hs
theorem step_J {B Q : Int} {g : Gs} {o : DO} (hG : GI B Q g) (hQ9 : Q ≤ 100000000000) (hQ : 0 ≤ Q) : EpLaw g (stepG g o).1 ∧ ∀ S, JW S g → WfS S g → WfS S (stepG g o).1 → JW S (stepG g o).1 := by
  have same : EpLaw g g ∧ ∀ S, JW S g → WfS S g → WfS S g → JW S g := ⟨EpLaw.same rfl (fun _ _ => rfl), fun S h _ _ => h⟩
  have pub : ∀ {a t : Nat} {tb : Tab} {ep : Nat → Int} {b : Bt} {Q' : Int}, a < 4 → BtOk Q' b → BLg g t tb ep b → EpLaw g (publN a b (setC g tb ep) 16) ∧ ∀ S, JW S g → WfS S g → WfS S (publN a b (setC g tb ep) 16) → JW S (publN a b (setC g tb ep) 16) := fun {a t tb ep b Q'} ha hb hL =>
    ⟨BL_ep hL, fun S h h0 h1 => publ_J ha hb hL h h0 (fun w hw k hk hs => by
      have h2 := h1 w hw k hk
      rw [(publ_core a b _ 16).1, (publ_core a b _ 16).2] at h2
      exact h2 hs) 16 (Nat.le_refl _)⟩
  unfold stepG
  split
  · exact acq_J hG (nm17 o.c).2
  · split
    · simp only
      unfold relG
      split
      · rename_i c1
        split
        · rename_i c2
          split
          · rename_i c3
            have ht : (nmP o.a 16).toNat < 16 := by omega
            have hrel := hG.ti.rel (r := nmP o.b 20) ht
            have hrr := rel_r c3
            have hcp := hcP_ok (bf := bfR g.tb (nmP o.b 20)) (z := (g.ep, bt0)) hrel.1 (r := (nmP o.b 20).toNat) (by omega) hG.ep (bt0_ok hQ) hrel.2.2
            exact pub (by omega) hcp.2 (rel_BL hG.ti ht c3)
          · exact same
        · exact same
      · exact same
    · split
      · simp only
        unfold canG
        split
        · rename_i c1
          obtain ⟨a1, a2, a3⟩ := adm_0 c1
          split
          · have ht : (nmP o.a 16).toNat < 16 := by omega
            have hwd := wdK_ok (t := (nmP o.a 16).toNat) (z := (g.ep, bt0)) hG.ti hG.ep (bt0_ok hQ)
            exact pub (by omega) hwd.2.2 (can_BL hG.ti ht)
          · exact same
        · exact same
      · split
        · simp only
          unfold abG
          split
          · rename_i c1
            obtain ⟨a1, a2, a3⟩ := adm_0 c1
            have ht : (nmP o.a 16).toNat < 16 := by omega
            have hab := abK_ok (t := (nmP o.a 16).toNat) hG.ti hG.ep hQ ht
            exact pub (by omega) hab.2.2 (abo_BL hG.ti ht hG.ep hQ)
          · exact same
        · split
          · refine ⟨EpLaw.same del_core.1 (fun t _ => by rw [del_core.2]), fun S h _ _ => del_J hG (by omega) h⟩
          · exact same
theorem JW00 (S : Nat → Int → Nat → Prop) : JW S g00 := by
  refine ⟨fun t _ e k _ hn => absurd rfl hn, fun t u hm => ?_, fun t _ => WsOk.nil _⟩
  obtain ⟨b, _, m, h9, _⟩ := hm
  simp [g00] at h9

end Go.Proofs.Qxb6500911aDoor

import Derived.Test.Qxb6500914aGreatJ3
namespace Go.Proofs.Qxb6500914aGreat
open Go.Eng
set_option linter.unusedVariables false
set_option linter.unusedSimpArgs false

attribute [local irreducible] encM encP

theorem apply_zero (p : PG) (nn : Nat) (ck cv cp : Int) (h : ∀ i, p.ip i = 0) (hc : cp = 0) : (∀ i, (applyF p nn ck cv cp).p.ip i = 0) ∧ (applyF p nn ck cv cp).rp = 0 := by
  by_cases h1 : ck = 0 ∨ ck = 1 ∨ ck = 4
  · by_cases h2 : nn = 8
    · rw [applyF_full h1 h2]; exact ⟨h, rfl⟩
    · rw [applyF_push h1 h2]
      refine ⟨fun i => ?_, rfl⟩
      show updF (fun j => if putAt p nn ck cp < j ∧ j ≤ nn then p.ip (j - 1) else p.ip j) (putAt p nn ck cp) cp i = 0
      unfold updF; dsimp only
      split
      · exact hc
      · split <;> exact h _
  · by_cases h2 : nn = 0
    · rw [applyF_empty h1 h2]; exact ⟨h, rfl⟩
    · by_cases h3 : ck = 6
      · rw [applyF_peek h2 h3]; exact ⟨h, h _⟩
      · by_cases h4 : ck = 7 ∧ cp < p.ip (atF ck nn)
        · rw [applyF_due h2 h4]; exact ⟨h, h _⟩
        · rw [applyF_pop h1 h2 h3 h4]
          refine ⟨fun i => ?_, h _⟩
          show (if atF ck nn ≤ i ∧ i + 1 < nn then p.ip (i + 1) else p.ip i) = 0
          split <;> exact h _
structure Zf (p : PG) : Prop where
  ip : ∀ i, p.ip i = 0
  cp : p.cp = 0
  rp : 5 ≤ p.pc → p.rp = 0
theorem stepF_zero {t : Nat} {m : MS} {p : PG} (h : PI false t p) (hM : MI m) (hz : Zf p) : ((stepF false m p).ret = false → Zf (stepF false m p).p) ∧ ((stepF false m p).ret = true → (stepF false m p).p.rp = 0) ∧ ((stepF false m p).p.ck = p.ck ∧ (stepF false m p).p.cv = p.cv) := by
  have hpc := h.pc
  rcases (show p.pc = 0 ∨ p.pc = 1 ∨ p.pc = 2 ∨ p.pc = 3 ∨ p.pc = 4 ∨ p.pc = 5 ∨ p.pc = 6 ∨ p.pc = 7 ∨ p.pc = 8 by omega) with e | e | e | e | e | e | e | e | e
  · rw [stepF_0 e]; exact ⟨fun _ => ⟨hz.ip, hz.cp, fun q => absurd q (by show ¬ (5 : Int) ≤ 1; decide)⟩, fun q => (by cases q), rfl, rfl⟩
  · rw [stepF_1 e]; exact ⟨fun _ => ⟨hz.ip, hz.cp, fun q => absurd q (by show ¬ (5 : Int) ≤ 2; decide)⟩, fun q => (by cases q), rfl, rfl⟩
  · obtain ⟨r, hr, hr1, hr2⟩ := h.root (by omega)
    have hr' : p.root.toNat = r := by omega
    obtain ⟨c, hc, hc8⟩ := hM.cnt false (r % 256) hr2
    rw [stepF_2 e (by rw [hr', hc]; omega), hr', hc]
    obtain ⟨g1, g2, g3, g4⟩ := through_hdr (p.s_n c) 3 4
    obtain ⟨i1, i2⟩ := through_items (p.s_n c) 3 4
    generalize throughF (p.s_n (c : Int)) 3 4 = q at g1 g2 g3 g4 i1 i2
    refine ⟨fun _ => ⟨fun i => by show q.ip i = 0; rw [i1]; exact hz.ip i, g1.cp.trans hz.cp, fun z => ?_⟩, fun q => (by cases q), g1.ck, g1.cv⟩
    exfalso
    have z' : 5 ≤ q.pc := z
    rcases g4 with ⟨_, y⟩ | ⟨_, y⟩ <;> omega
  · rw [stepF_3 e]
    generalize m.word (nd false (p.root.toNat % 256) + 1 + p.at_.toNat) = x
    have i0 : (setCell false p p.at_.toNat x).ip = p.ip := rfl
    obtain ⟨s1, s2, s3, s4, _⟩ := setCell_hdr false p p.at_.toNat x
    generalize setCell false p p.at_.toNat x = q0 at s1 s2 s3 s4 i0
    obtain ⟨g1, g2, g3, g4⟩ := walked_hdr q0 4
    obtain ⟨i1, i2⟩ := walked_items q0 4
    generalize walkedF q0 4 = q at g1 g2 g3 g4 i1 i2
    refine ⟨fun _ => ⟨fun i => by show q.ip i = 0; rw [i1, i0]; exact hz.ip i, (g1.cp.trans s1.cp).trans hz.cp, fun z => ?_⟩, fun q => (by cases q), g1.ck.trans s1.ck, g1.cv.trans s1.cv⟩
    exfalso
    have z' : 5 ≤ q.pc := z
    rcases g4 with ⟨_, y⟩ | ⟨_, y⟩ <;> omega
  · obtain ⟨nn, hn, hn8⟩ := h.n (by omega)
    have hn' : p.n.toNat = nn := by omega
    by_cases hw : m.word (hd false) = p.root
    · have hA := apply_hdr p nn hn hn8 p.ck p.cv p.cp
      have hB := apply_zero p nn p.ck p.cv p.cp hz.ip hz.cp
      cases hc : (applyF p p.n.toNat p.ck p.cv p.cp).ch
      · rw [stepF_4c e hw hc, hn']; exact ⟨fun q => (by cases q), fun _ => hB.2, hA.1.ck, hA.1.cv⟩
      · rw [stepF_4b e hw hc, hn']; exact ⟨fun _ => ⟨hB.1, hA.1.cp.trans hz.cp, fun _ => hB.2⟩, fun q => (by cases q), hA.1.ck, hA.1.cv⟩
    · rw [stepF_4a e hw]; exact ⟨fun _ => ⟨hz.ip, hz.cp, fun q => absurd q (by show ¬ (5 : Int) ≤ 2; decide)⟩, fun q => (by cases q), rfl, rfl⟩
  · rw [stepF_5 e]
    obtain ⟨g1, g2, g3, g4⟩ := through_hdr p 6 7
    obtain ⟨r1, r2, r3⟩ := through_resp p 6 7
    obtain ⟨i1, i2⟩ := through_items p 6 7
    exact ⟨fun _ => ⟨fun i => by show (throughF p 6 7).ip i = 0; rw [i1]; exact hz.ip i, g1.cp.trans hz.cp, fun _ => r3.trans (hz.rp (by omega))⟩, fun q => (by cases q), g1.ck, g1.cv⟩
  · rw [stepF_6 e]
    obtain ⟨g1, g2, g3, g4⟩ := walked_hdr p 7
    obtain ⟨r1, r2, r3⟩ := walked_resp p 7
    obtain ⟨i1, i2⟩ := walked_items p 7
    exact ⟨fun _ => ⟨fun i => by show (walkedF p 7).ip i = 0; rw [i1]; exact hz.ip i, g1.cp.trans hz.cp, fun _ => r3.trans (hz.rp (by omega))⟩, fun q => (by cases q), g1.ck, g1.cv⟩
  · by_cases hw : m.word (hd false) = p.root
    · rw [stepF_7a e hw]; exact ⟨fun _ => ⟨hz.ip, hz.cp, fun _ => hz.rp (by omega)⟩, fun q => (by cases q), rfl, rfl⟩
    · rw [stepF_7b e hw]; exact ⟨fun _ => ⟨hz.ip, hz.cp, fun q => absurd q (by show ¬ (5 : Int) ≤ 2; decide)⟩, fun q => (by cases q), rfl, rfl⟩
  · rw [stepF_8 e]; exact ⟨fun q => (by cases q), fun _ => hz.rp (by omega), rfl, rfl⟩
def ZI (W : WS) : Prop := ∀ t p, W.run t = some (false, p) → Zf p
theorem ZI.step {W : WS} (hw : WI W) (h : ZI W) (t : Nat) (hb : (W.run t).isSome = true) : ZI (stepW W t) := by
  obtain ⟨⟨k, p⟩, hx⟩ := Option.isSome_iff_exists.1 hb
  obtain ⟨e1, e2⟩ := stepW_some hx
  intro u q hq
  rw [e2] at hq
  by_cases e : u = t
  · subst e
    rw [updF_same] at hq
    cases hret : (stepF k W.m p).ret
    · rw [show (stepF (k, p).1 W.m (k, p).2).ret = false from hret] at hq
      have hq' : some (k, (stepF k W.m p).p) = some (false, q) := hq
      injection hq' with hq'
      injection hq' with h1 h2
      subst h1; subst h2
      exact (stepF_zero (hw.pi u _ hx) hw.mi (h u p hx)).1 hret
    · rw [show (stepF (k, p).1 W.m (k, p).2).ret = true from hret] at hq; cases hq
  · rw [updF_ne _ _ e] at hq; exact h u q hq
theorem ZI.inv {W : WS} (h : ZI W) (t : Nat) (kd u v : Int) : ZI (invokeW W t kd u v) := by
  intro s q hq
  have hq' : updF W.run t (some (boxOf kd, startP (boxOf kd) t kd (cvOf kd u) (cpOf kd v))) s = some (false, q) := hq
  by_cases e : s = t
  · subst e
    rw [updF_same] at hq'
    injection hq' with hq'
    injection hq' with h1 h2
    subst h2
    rw [h1]
    exact ⟨fun _ => rfl, rfl, fun _ => rfl⟩
  · rw [updF_ne _ _ e] at hq'; exact h s q hq'
def Good4 (W : WS) : Prop := WI W ∧ (LW W ≤ 1000100 → SG W ∧ ZI W)
theorem keepG4 : Keep Good4 := ⟨fun _ h => h.1,
  fun W t h hb => ⟨h.1.step t, fun hl => by rw [LW_step W t h.1] at hl; exact ⟨(h.2 hl).1.step hl t hb, (h.2 hl).2.step h.1 t hb⟩⟩,
  fun W t kd u v h hn ht _ _ _ _ => ⟨h.1.inv t ht kd u v, fun hl => by rw [LW_inv W t kd u v ht hn] at hl; exact ⟨(h.2 (by omega)).1.inv t ht hn kd u v, (h.2 (by omega)).2.inv t kd u v⟩⟩⟩
theorem start_G4 {m : MS} (h : StartM m) : Good4 (W0 m) := ⟨start_WI h, fun _ => ⟨start_SG h, fun t p hx => (by cases hx)⟩⟩
/-- the deque's elements -/
def dn (w : Nat → Int) : Int := w (nd false (crN w false))
def dc (w : Nat → Int) (c : Nat) : Int := ndC w false (crN w false) c
structure DS (w w' : Nat → Int) : Prop where
  n : dn w' = dn w
  c : ∀ c, c < 8 → dc w' c = dc w c
theorem Same.ds {w w' : Nat → Int} (h : Same w w' false) : DS w w' := ⟨by unfold dn; rw [h.cur]; exact h.cnt, fun c hc => by unfold dc; rw [h.cur]; exact h.cell c hc⟩
theorem DS.refl (w : Nat → Int) : DS w w := ⟨rfl, fun _ _ => rfl⟩
theorem mv_same {W : WS} {x : OX} {k : Bool} {t : Nat} {p q : PG} {m' : MS} {b : Bool} (h : OI W x) (hr : W.run t = some (k, p)) (hm : Mv k t W.m p m' q b) (k' : Bool) (hns : ¬ (k = k' ∧ p.pc = 7 ∧ q.pc = 8)) : Same W.m.word m'.word k' := by
  have hP : PI k t p := h.wi.pi t _ hr
  have hrefl : Same W.m.word W.m.word k' := ⟨rfl, rfl, fun _ _ => rfl⟩
  cases hm with
  | spare q e h1 h2 => exact hrefl
  | look q kd hk e h1 h2 h3 => exact hrefl
  | count q r e h1 h2 h3 hpr hr2 h4 => exact hrefl
  | copy q i j e h1 h2 h3 h4 hi hj => exact hrefl
  | choose q e hw h1 h2 h3 h4 => exact hrefl
  | answer q e hw h1 h2 h3 => exact hrefl
  | write q s j v e h1 h2 h3 h4 hsp hs7 hj =>
    obtain ⟨s0, hs0, _, how, hnc⟩ := h.mine hr (by show 1 ≤ p.pc; omega) (by show p.pc ≤ 7; omega)
    have e0 : s0 = s := by omega
    subst e0
    exact same_write hs7 hj (h.cur7 k') (fun z => hnc (z.1 ▸ z.2))
  | keep q r e h4 hpr hr2 =>
    exact same_hd (hd_ne_sp k' k t hP.ht) (fun i j hi hj => by have := hd_ne_nd k k' i hi j hj (1 + t) (by have := hP.ht; omega); omega) (h.cur7 k')
  | swap q r s e h1 h2 h4 hpr hr1 hr2 hsp hs7 hw =>
    have ek : k' ≠ k := fun z => hns ⟨z.symm, e, h1⟩
    exact same_hd (fun z => ek (hd_inj _ _ z)) (fun i j hi hj => by have := hd_ne_nd k k' i hi j hj 0 (by omega); omega) (h.cur7 k')
/-- the state q is the deque's content -/
structure Cont (w : Nat → Int) (q : PG) (nn : Nat) : Prop where
  n8 : nn ≤ 8
  n : q.n = nn
  dn : dn w = nn
  c : ∀ c, c < nn → q.iv c = dc w c
/-- one step of an operation on the deque -/
inductive DStep (w : Nat → Int) (p : PG) (w' : Nat → Int) (q : PG) : Bool → Prop
  | go (h1 : p.pc ≤ 7) (h2 : q.pc ≤ 7) (hd : DS w w') : DStep w p w' q false
  | swap (q0 : PG) (nn : Nat) (h1 : p.pc = 7) (h2 : q.pc = 8) (hc : Cont w q0 nn) (hch : (applyF q0 nn p.ck p.cv 0).ch = true) (hn : dn w' = (applyF q0 nn p.ck p.cv 0).p.n) (hcl : ∀ c : Nat, (c : Int) < (applyF q0 nn p.ck p.cv 0).p.n → dc w' c = (applyF q0 nn p.ck p.cv 0).p.iv c)
      (hra : q.ra = (applyF q0 nn p.ck p.cv 0).ra) (hrv : q.rv = (applyF q0 nn p.ck p.cv 0).rv) : DStep w p w' q false
  | answer (q0 : PG) (nn : Nat) (h1 : p.pc = 4) (hd : DS w w') (hc : Cont w q0 nn) (hch : (applyF q0 nn p.ck p.cv 0).ch = false) (hra : q.ra = (applyF q0 nn p.ck p.cv 0).ra) (hrv : q.rv = (applyF q0 nn p.ck p.cv 0).rv) : DStep w p w' q true
  | keep (h1 : p.pc = 8) (hd : DS w w') (hra : q.ra = p.ra) (hrv : q.rv = p.rv) : DStep w p w' q true
theorem mv_go {k : Bool} {t : Nat} {m m' : MS} {p q : PG} {b : Bool} (hm : Mv k t m p m' q b) (h4 : p.pc ≠ 4) (h8 : p.pc ≠ 8) (h7 : ¬ (p.pc = 7 ∧ q.pc = 8)) : b = false ∧ q.pc ≤ 7 := by
  cases hm with
  | spare q e' h1 h2 => exact ⟨rfl, by omega⟩
  | look q kd hk e' h1 h2 h3 => exact ⟨rfl, by omega⟩
  | count q r e' h1 h2 h3 hpr hr2 h4 => exact ⟨rfl, by omega⟩
  | copy q i j e' h1 h2 h3 h4 hi hj => exact ⟨rfl, by omega⟩
  | choose q e' hw h1 h2 h3 _ => exact absurd e' h4
  | answer q e' hw h1 h2 h3 => exact absurd e' h4
  | write q s j v e' h1 h2 h3 h4 hsp hs7 hj => exact ⟨rfl, by omega⟩
  | swap q r s e' h1 h2 h4 hpr hr1 hr2 hsp hs7 hw => exact absurd ⟨e', h1⟩ h7
  | keep q r e' _ hpr hr2 => exact absurd e' h8
theorem deq_step {W : WS} {x : OX} {t : Nat} {p : PG} (h : OI W x) (hc : CI W) (hz : ZI W) (hr : W.run t = some (false, p)) : DStep W.m.word p (stepF false W.m p).m.word (stepF false W.m p).p (stepF false W.m p).ret := by
  have hP : PI false t p := h.wi.pi t _ hr
  have hM := h.wi.mi
  have hT : TI W.m W.ck x false t p := h.th t _ hr
  have hct : CT W.m.word false p := hc t _ hr
  have hzf := hz t p hr
  have hpc := hP.pc
  have hmv := mv hP hM
  have same : ¬ (p.pc = 7 ∧ (stepF false W.m p).p.pc = 8) → DS W.m.word (stepF false W.m p).m.word := fun hn => (mv_same h hr hmv false (fun z => hn z.2)).ds
  by_cases h7 : p.pc = 7 ∧ (stepF false W.m p).p.pc = 8
  · have e := h7.1
    by_cases hw : W.m.word (hd false) = p.root
    · obtain ⟨s, hs, hs7⟩ := hP.sp (by omega)
      obtain ⟨r, hpr, hr1, hr2⟩ := hP.root (by omega)
      have hs' : p.sp.toNat = s := by omega
      have hr' : p.root.toNat = r := by omega
      obtain ⟨q0, nn, a1, a2, a3, a4, a5, a6, a7, a8, a9, a10, a11⟩ := hct.fr (by omega) (by omega) hw.symm
      obtain ⟨w1, w2⟩ := hct.w7 e
      rw [hzf.cp] at a5 a6 a7 a8 a9 a10 a11
      rw [hs'] at w1 w2
      rw [stepF_7a e hw, hs', hr']
      have hcas : (casF W.m (hd false) p.root (succF r s : Nat)).word = updF W.m.word (hd false) ((succF r s : Nat) : Int) := by rw [cas_word, if_pos hw]
      show DStep W.m.word p (casF W.m (hd false) p.root (succF r s : Nat)).word (p.s_pc 8) false
      rw [hcas]
      have hcr : crN (updF W.m.word (hd false) ((succF r s : Nat) : Int)) false = s := by
        unfold crN; rw [updF_same, Int.toNat_natCast]; exact (succF_ok r s (by omega)).2
      refine .swap q0 nn e rfl ⟨a1, a2, a3, fun c hcc => a4 c (by show c < nn * 1; omega)⟩ a5 ?_ (fun c hcc => ?_) a9 a10
      · unfold dn
        rw [hcr, updF_ne _ _ (by have := hd_ne_nd false false s hs7 0 (by omega) 0 (by omega); omega), w1]
        exact a6
      · obtain ⟨nn2, hnn2, hnn28⟩ := hP.n (by omega)
        have hcc8 : c < 8 := by rw [← a6, hnn2] at hcc; omega
        unfold dc ndC
        rw [hcr, updF_ne _ _ (by have := hd_ne_nd false false s hs7 (1 + c) (by show 1 + c < 1 + 8 * 1; omega) 0 (by omega); omega)]
        have := w2 c (by show (c : Int) < p.n * ((1 : Nat) : Int); rw [a6]; omega)
        refine this.trans ?_
        show p.iv c = _
        rw [a8]
    · exfalso
      have h8 := h7.2
      rw [stepF_7b e hw] at h8
      exact absurd h8 (by show ¬ (2 : Int) = 8; decide)
  · have hds := same h7
    rcases (show p.pc = 4 ∨ p.pc = 8 ∨ (p.pc ≠ 4 ∧ p.pc ≠ 8) by omega) with e | e | e
    · obtain ⟨nn, hn, hn8⟩ := hP.n (by omega)
      have hn' : p.n.toNat = nn := by omega
      by_cases hw : W.m.word (hd false) = p.root
      · cases hch : (applyF p p.n.toNat p.ck p.cv p.cp).ch
        · rw [stepF_4c e hw hch, hn'] at hds ⊢
          rw [hn'] at hch
          rw [hzf.cp] at hch ⊢
          refine .answer p nn e hds ⟨hn8, hn, ?_, fun c hcc => ?_⟩ hch rfl rfl
          · rw [← hn]; exact (hT.n (.inr e) hw.symm).symm
          · exact hct.c4 e hw.symm c (by rw [hn]; show (c : Int) < (nn : Int) * ((1 : Nat) : Int); omega)
        · rw [stepF_4b e hw hch] at hds ⊢; exact .go (by omega) (by show (5 : Int) ≤ 7; decide) hds
      · rw [stepF_4a e hw] at hds ⊢; exact .go (by omega) (by show (2 : Int) ≤ 7; decide) hds
    · rw [stepF_8 e] at hds ⊢; exact .keep e hds rfl rfl
    · have hq := mv_go hmv e.1 e.2 h7
      rw [hq.1]
      exact .go (by omega) hq.2 hds
/-- what the operations on the deque answer and leave -/
theorem pop_empty (q : PG) (nn : Nat) (ck cv : Int) (h : ck = 2 ∨ ck = 3) (h0 : nn = 0) : (applyF q nn ck cv 0).ch = false ∧ (applyF q nn ck cv 0).ra = 2 ∧ (applyF q nn ck cv 0).rv = 0 := by
  rw [applyF_empty (by omega) h0]; exact ⟨rfl, rfl, rfl⟩
theorem pop_some (q : PG) (nn : Nat) (ck cv : Int) (h : ck = 2 ∨ ck = 3) (h0 : nn ≠ 0) : (applyF q nn ck cv 0).ch = true ∧ (applyF q nn ck cv 0).ra = 1 ∧ (applyF q nn ck cv 0).rv = q.iv (atF ck nn) ∧ (applyF q nn ck cv 0).p.n = ((nn - 1 : Nat) : Int) := by
  rw [applyF_pop (by omega) h0 (by omega) (by omega)]
  exact ⟨rfl, rfl, rfl, (remove_hdr q (atF ck nn) nn (by omega)).2.2.2⟩
theorem push_one (q : PG) (ck cv : Int) (h : ck = 0 ∨ ck = 1) : (applyF q 0 ck cv 0).ch = true ∧ (applyF q 0 ck cv 0).ra = 0 ∧ (applyF q 0 ck cv 0).p.n = 1 ∧ (applyF q 0 ck cv 0).p.iv 0 = cv := by
  rw [applyF_push (by omega) (by omega)]
  have hp : putAt q 0 ck 0 = 0 := by unfold putAt; (repeat' split) <;> first | rfl | (exfalso; omega)
  rw [hp]
  refine ⟨rfl, rfl, (insert_hdr q 0 0 0 cv).2.2.2, ?_⟩
  show updF (fun j => if 0 < j ∧ j ≤ 0 then q.iv (j - 1) else q.iv j) 0 cv 0 = cv
  exact updF_same _ _ _

end Go.Proofs.Qxb6500914aGreat

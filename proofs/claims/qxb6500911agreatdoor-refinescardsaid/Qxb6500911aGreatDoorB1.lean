import Derived.Test.Qxb6500911aGreatDoorB0
namespace Go.Proofs.Qxb6500911aGreatDoor
open Go.Eng
set_option linter.unusedVariables false
set_option linter.unusedSimpArgs false

/-! ## who is woken -/
def WkI (t : Nat) (b : Bt) : Prop := ∀ w, w < 16 → b.woken.getLsbD w = (b.ended.getLsbD w && !decide (w = t))
theorem WkI.start (t : Nat) : WkI t bt0 := fun w _ => by simp [bt0]
theorem WkI.fin {t : Nat} {b : Bt} (h : WkI t b) (ep : Nat → Int) : WkI t (endB b ep t) := fun w hw => by
  simp only [endB, BitVec.getLsbD_or, bit_get hw]
  rw [h w hw]
  by_cases c : w = t
  · subst c; simp
  · rw [decide_eq_false (fun e : t = w => c e.symm)]; simp
theorem WkI.hcA {t : Nat} : ∀ (wk : List Nat) {z : (Nat → Int) × Bt}, t ∉ wk → WkI t z.2 → WkI t (Qxb6500911aGreatDoor.hcA z wk).2
  | [], z, _, h => h
  | x :: wk, z, hn, h => by
    refine WkI.hcA wk (z := hcA1 z x) (fun hm => hn (.tail _ hm)) (fun w hw => ?_)
    have hx : x ≠ t := fun e => hn (e ▸ .head _)
    simp only [hcA1, wokB, endB, BitVec.getLsbD_or, bit_get hw]
    rw [h w hw]
    by_cases c : x = w
    · subst c; simp [hx]
    · simp [c]
theorem WkI.hcB {t : Nat} {ep : Nat → Int} {ca we : BitVec 16} : ∀ (ws : List Nat) {b : Bt}, WkI t b → WkI t (Qxb6500911aGreatDoor.hcB ep ca we b ws)
  | [], b, h => h
  | x :: ws, b, h => WkI.hcB ws (b := hcB1 ep ca we b x) (fun w hw => h w hw)
theorem WkI.hcP {t r : Nat} {tb : Tab} {bf : BitVec 16} {z : (Nat → Int) × Bt} {wk : List Nat} (hn : t ∉ wk) (h : WkI t z.2) : WkI t (Qxb6500911aGreatDoor.hcP tb r bf z wk).2 := by
  unfold Qxb6500911aGreatDoor.hcP
  split
  · exact WkI.hcA wk hn h
  · exact WkI.hcB _ (WkI.hcA wk hn h)
theorem wake_sub {tot : Int} {l : List Rq} {h : Nat → Int} {w : Nat} (hw : w ∈ (wakeP tot l h).2.2) : ∃ x, x ∈ l ∧ x.t = w := by
  have : w ∈ l.map (·.t) := by rw [(wakeP_suf tot l h).1]; exact List.mem_append_left _ hw
  obtain ⟨x, hx, e⟩ := List.mem_map.1 this
  exact ⟨x, hx, e⟩
theorem drop_nt {tb : Tab} {t r : Nat} (hr : r < 20) (hnw : waitOn tb t 20 = none) : t ∉ (dropT tb t r).2.1 := by
  unfold dropT
  split
  · exact List.not_mem_nil
  · intro hm
    obtain ⟨x, hx, e⟩ := wake_sub hm
    exact not_wait hnw hr x hx e
theorem with_nt {tb : Tab} {t r : Nat} : t ∉ (withT tb t r).2 := fun hm => by
  obtain ⟨x, hx, e⟩ := wake_sub hm
  have := (List.mem_filter.1 hx).2
  rw [e] at this
  simp at this
theorem drop_BL' {t r : Nat} {tb : Tab} (hI : TI tb) (ht : t < 16) (hr : r < 20) (hnw : waitOn tb t 20 = none) : waitOn (dropT tb t r).1 t 20 = none :=
  (drop_BL (z := (fun _ => 0, bt0)) (BL.start _ _ _ t) hI ht hr hnw).2
theorem wd_Wk {tb : Tab} {z : (Nat → Int) × Bt} {t : Nat} (h : WkI t z.2) : WkI t (wdK tb z t).2.1.2 := by
  cases hq : waitOn tb t 20 with
  | none => rw [wdK_none hq]; exact h
  | some r => rw [wdK_some hq]; exact WkI.hcP (z := (updI z.1 t (z.1 t + 1), endB z.2 z.1 t)) with_nt (h.fin z.1)
theorem ab_Wk {t : Nat} (ht : t < 16) : ∀ (rs : List Nat) {z : Tab × ((Nat → Int) × Bt)}, (∀ r, r ∈ rs → r < 20) → TI z.1 → waitOn z.1 t 20 = none → WkI t z.2.2 → WkI t (abN t z rs).2.2
  | [], z, _, _, _, h => h
  | r :: rs, z, hrs, hI, hn, h => ab_Wk ht rs (z := abS t z r) (fun r' hr' => hrs r' (.tail _ hr')) (hI.drop ht (hrs r (.head _))).1 (drop_BL' hI ht (hrs r (.head _)) hn) (WkI.hcP (z := z.2) (drop_nt (hrs r (.head _)) hn) h)
theorem rel_nw {tb : Tab} {t : Nat} {r : Int} (h0 : (relT tb t r).2.2 = 0) : waitOn tb t 20 = none := by
  obtain ⟨h1, h2⟩ := rel_r h0
  cases hq : waitOn tb t 20 with
  | none => rfl
  | some r' =>
    unfold relT at h0
    rw [if_pos ⟨h1, h2⟩, hq] at h0
    simp at h0
theorem rel_Wk {g : Gs} {t : Nat} {r : Int} (h0 : (relT g.tb t r).2.2 = 0) : WkI t (relH g t r).2 := by
  obtain ⟨h1, h2⟩ := rel_r h0
  have hw := rel_nw h0
  refine WkI.hcP (z := (g.ep, bt0)) ?_ (WkI.start t)
  unfold relT
  rw [if_pos ⟨h1, h2⟩, if_neg (by rw [hw]; simp)]
  exact drop_nt (by omega) hw
theorem abo_Wk {g : Gs} {t : Nat} {Q : Int} (hI : TI g.tb) (ht : t < 16) (he : EpI Q g.ep) (hQ : 0 ≤ Q) : WkI t (abK g t).2.2 := by
  have h1 := wd_BL (z := (g.ep, bt0)) (BL.start _ _ _ t) hI ht
  exact ab_Wk ht _ (fun r hr => heldBy_lt hr) (wdK_ok (z := (g.ep, bt0)) hI he (bt0_ok hQ)).1 h1.2 (wd_Wk (z := (g.ep, bt0)) (WkI.start t))
theorem wf_fold {tb : Tab} {r t : Nat} : ∀ (l : List Rq) (g : Nat → BitVec 16), (l.foldl (wfS tb r) g) t = if l.any (fun x => x.t == t) then holdB tb r &&& ~~~ bitB t else g t
  | [], g => rfl
  | x :: l, g => by
    rw [List.foldl_cons, wf_fold l]
    simp only [List.any_cons, Bool.or_eq_true, beq_iff_eq]
    by_cases c : l.any (fun x => x.t == t) = true
    · rw [if_pos c, if_pos (.inr c)]
    · rw [if_neg c]
      unfold wfS
      by_cases c2 : t = x.t
      · rw [if_pos c2, if_pos (.inl c2.symm), c2]
      · rw [if_neg c2, if_neg (fun h => h.elim (fun e => c2 e.symm) c)]
theorem wf_wait {tb : Tab} (hI : TI tb) (t : Nat) : ∀ n, n ≤ 20 → wfN tb n t = match waitOn tb t n with | some r => holdB tb r &&& ~~~ bitB t | none => 0#16
  | 0, _ => rfl
  | n + 1, hn => by
    rw [wfN, wf_fold, wf_wait hI t n (by omega), waitOn]
    by_cases c : (tb.q n).any (fun x => x.t == t) = true
    · rw [if_pos c]
      cases hw : waitOn tb t n with
      | none => simp only [c, if_true]
      | some r =>
        exfalso
        obtain ⟨hr, x, hx, hxt⟩ := wait_mem hw
        obtain ⟨y, hy, hyt⟩ := List.any_eq_true.1 c
        have := hI.dis r n (by omega) (by omega) x hx y hy (by rw [hxt]; exact (beq_iff_eq.1 hyt).symm)
        omega
    · rw [if_neg c]
      cases hw : waitOn tb t n with
      | none => simp only [c, Bool.false_eq_true, if_false]
      | some r => rfl
theorem wf_wfg {tb : Tab} (hI : TI tb) (t : Nat) : wfN tb 20 t = wfg tb t := wf_wait hI t 20 (Nat.le_refl _)
/-- what the model tells, out of the relation before and after -/
structure MB (g : Gs) (t : Nat) (tb : Tab) (ep : Nat → Int) (b : Bt) : Prop where
  en : ∀ w, w < 16 → b.ended.getLsbD w = (wtg g.tb w && !(wtg tb w))
  ep : ∀ w, w < 16 → ep w = if b.ended.getLsbD w = true then g.ep w + 1 else g.ep w
  be : ∀ w, w < 16 → (b.ended.getLsbD w = true ∨ b.add w ≠ 0#16 ∨ b.del w ≠ 0#16) → b.ep w = g.ep w
  ad : ∀ w, w < 16 → b.ended.getLsbD w = false → wtg tb w = true → b.add w = wfN tb 20 w &&& ~~~ wfN g.tb 20 w ∧ b.del w = wfN g.tb 20 w &&& ~~~ wfN tb 20 w
  nw : ∀ w, w < 16 → b.ended.getLsbD w = false → wtg tb w = false → b.add w = 0#16 ∧ b.del w = 0#16
  wk : WkI t b
theorem MB.of {g : Gs} {t : Nat} {tb : Tab} {ep : Nat → Int} {b : Bt} (h : BLg g t tb ep b) (hI : TI g.tb) (hI' : TI tb) (hk : WkI t b) : MB g t tb ep b := by
  have hf : ∀ w, w < 16 → b.ended.getLsbD w = false ∨ b.ended.getLsbD w = true := fun w _ => by cases b.ended.getLsbD w <;> simp
  refine ⟨fun w hw => ?_, fun w hw => ?_, fun w hw hc => ?_, fun w hw he ha => ?_, fun w hw he ha => ?_, hk⟩
  · rcases hf w hw with c | c
    · have := (h.ne w hw c).1
      unfold wtg
      rw [c, this]
      cases (waitOn g.tb w 20).isSome <;> rfl
    · obtain ⟨a1, a2, _⟩ := h.en w hw c
      unfold wtg
      rw [c, a2, a1]; rfl
  · rcases hf w hw with c | c
    · rw [if_neg (by rw [c]; simp)]; exact (h.ne w hw c).2
    · rw [if_pos c]; exact (h.en w hw c).2.2.1
  · rcases hf w hw with c | c
    · rw [c] at hc
      have := h.ad w hw c (hc.elim (fun x => by simp at x) id)
      rw [this.1]; exact (h.ne w hw c).2
    · exact (h.en w hw c).2.2.2
  · have hd := h.df w hw he
    rw [wf_wfg hI, wf_wfg hI']
    unfold wfg
    constructor
    · apply BitVec.eq_of_getLsbD_eq
      intro k hk9
      have h1 := hd k
      rw [BitVec.getLsbD_and, BitVec.getLsbD_not]
      simp only [hk9, decide_true, Bool.true_and]
      by_cases ck : k = t
      · subst ck
        rw [h.at_ w] at h1 ⊢
        cases h3 : (b.del w).getLsbD k <;> cases h4 : (WFv (fun w => waitOn tb w 20) (holdB tb) w).getLsbD k <;> cases h5 : (WFv (fun w => waitOn g.tb w 20) (holdB g.tb) w).getLsbD k <;> simp [h3, h4, h5, b01] at h1 ⊢
      · have h2 : (b.del w).getLsbD k = false := by
          cases h3 : (b.del w).getLsbD k with
          | false => rfl
          | true => exact absurd (h.dt w k h3) ck
        rw [h2] at h1
        cases h3 : (b.add w).getLsbD k <;> cases h4 : (WFv (fun w => waitOn tb w 20) (holdB tb) w).getLsbD k <;> cases h5 : (WFv (fun w => waitOn g.tb w 20) (holdB g.tb) w).getLsbD k <;> simp [h3, h4, h5, b01] at h1 ⊢
    · apply BitVec.eq_of_getLsbD_eq
      intro k hk9
      have h1 := hd k
      rw [BitVec.getLsbD_and, BitVec.getLsbD_not]
      simp only [hk9, decide_true, Bool.true_and]
      by_cases ck : k = t
      · subst ck
        rw [h.at_ w] at h1
        cases h3 : (b.del w).getLsbD k <;> cases h4 : (WFv (fun w => waitOn tb w 20) (holdB tb) w).getLsbD k <;> cases h5 : (WFv (fun w => waitOn g.tb w 20) (holdB g.tb) w).getLsbD k <;> simp [h3, h4, h5, b01] at h1 ⊢
      · have h2 : (b.del w).getLsbD k = false := by
          cases h3 : (b.del w).getLsbD k with
          | false => rfl
          | true => exact absurd (h.dt w k h3) ck
        rw [h2] at h1 ⊢
        cases h3 : (b.add w).getLsbD k <;> cases h4 : (WFv (fun w => waitOn tb w 20) (holdB tb) w).getLsbD k <;> cases h5 : (WFv (fun w => waitOn g.tb w 20) (holdB g.tb) w).getLsbD k <;> simp [h3, h4, h5, b01] at h1 ⊢
  · constructor
    · apply Classical.byContradiction
      intro hn
      have := (h.ad w hw he (.inl hn)).2
      unfold wtg at ha
      rw [this] at ha; cases ha
    · apply Classical.byContradiction
      intro hn
      have := (h.ad w hw he (.inr hn)).2
      unfold wtg at ha
      rw [this] at ha; cases ha
/-! ## one step of the model -/
def wdT (tb : Tab) (t : Nat) : Tab × Int := match waitOn tb t 20 with | none => (tb, 11) | some r => ((withT tb t r).1, 0)
def dropN (t : Nat) (tb : Tab) (rs : List Nat) : Tab := rs.foldl (fun tb r => (dropT tb t r).1) tb
def abT (tb : Tab) (t : Nat) : Tab := dropN t (wdT tb t).1 (heldBy (wdT tb t).1 t)
def inP (v n : Int) (d : Int) : Int := if 0 ≤ v ∧ v < n then v else d
def chM (tb : Tab) (k : Int) (t : Nat) (b c : Int) : Tab × Int :=
  if k = 0 then (if 0 ≤ b ∧ b < 20 then acqN tb t b.toNat (inP c 17 0) else (tb, 5))
  else if k = 1 then ((relT tb t (inP b 20 (-1))).1, (relT tb t (inP b 20 (-1))).2.2)
  else if k = 2 then wdT tb t else (abT tb t, 0)
theorem wdK_T (tb : Tab) (z : (Nat → Int) × Bt) (t : Nat) : (wdK tb z t).1 = (wdT tb t).1 ∧ (wdK tb z t).2.2 = (wdT tb t).2 := by
  cases hq : waitOn tb t 20 with
  | none => rw [wdK_none hq]; unfold wdT; rw [hq]; exact ⟨rfl, rfl⟩
  | some r => rw [wdK_some hq]; unfold wdT; rw [hq]; exact ⟨rfl, rfl⟩
theorem abN_T (t : Nat) : ∀ (rs : List Nat) (z : Tab × ((Nat → Int) × Bt)), (abN t z rs).1 = dropN t z.1 rs
  | [], z => rfl
  | r :: rs, z => abN_T t rs (abS t z r)
theorem abK_T (g : Gs) (t : Nat) : (abK g t).1 = abT g.tb t := by
  unfold abK abT
  rw [abN_T, (wdK_T g.tb (g.ep, bt0) t).1]
theorem publN_bt0 (a : Nat) (g : Gs) : ∀ n, publN a bt0 g n = g
  | 0 => rfl
  | n + 1 => by
    rw [publN, publN_bt0 a g n]
    unfold pub1
    rw [if_neg (by simp [bt0]), if_neg (by simp [bt0]), if_neg (by simp [bt0])]
theorem setC_self (g : Gs) : setC g g.tb g.ep = g := rfl
/-- the batch of a blocked acquisition -/
def btA (t : Nat) (e : Int) (s : BitVec 16) : Bt := ⟨0#16, 0#16, updB (fun _ => 0#16) t s, fun _ => 0#16, updI (fun _ => 0) t e⟩
theorem pub1_none {a : Nat} {b : Bt} {g : Gs} {w : Nat} (h1 : b.ended.getLsbD w = false) (h2 : b.add w = 0#16) (h3 : b.del w = 0#16) : pub1 a b g w = g := by
  unfold pub1
  rw [if_neg (by rw [h1]; simp), if_neg (by rw [h2]; simp), if_neg (by rw [h3]; simp)]
theorem applyG_zero (g : Gs) (t : Nat) (e : Int) : applyG g ⟨1, t, e, 0#16⟩ = g := by
  have ef : apF 1 (g.flr t) e = g.flr t := by unfold apF; rw [if_neg (fun x => absurd x.1 (by decide))]
  have el : apL 1 (g.flr t) (g.ws t) e 0#16 = g.ws t := by unfold apL adjS; rw [if_pos rfl, if_pos (.inr rfl)]
  unfold applyG
  simp only
  rw [ef, el]
  obtain ⟨ep, flr, ws, bx, tb⟩ := g
  have h1 : updI flr t (flr t) = flr := funext fun j => by unfold updI; split; (rename_i c; rw [c]); rfl
  have h2 : updW ws t (ws t) = ws := funext fun j => by unfold updW; split; (rename_i c; rw [c]); rfl
  simp only [h1, h2]
theorem publN_A {t : Nat} {e : Int} {s : BitVec 16} (g : Gs) : ∀ n, publN (t % 4) (btA t e s) g n = if t < n then applyG g ⟨1, t, e, s⟩ else g
  | 0 => by rw [if_neg (Nat.not_lt_zero _)]; rfl
  | n + 1 => by
    rw [publN, publN_A g n]
    by_cases c : n = t
    · subst c
      rw [if_neg (Nat.lt_irrefl _), if_pos (Nat.lt_succ_self _)]
      unfold pub1 btA updB updI
      simp only [if_true]
      rw [if_neg (by simp)]
      by_cases cs : s = 0#16
      · subst cs; rw [if_neg (by simp), if_neg (by simp), applyG_zero]
      · rw [if_pos cs, if_neg (by simp)]
        unfold routeG; rw [if_pos rfl]
    · rw [pub1_none (by simp [btA]) (by simp [btA, updB, c]) (by simp [btA])]
      by_cases c2 : t < n
      · rw [if_pos c2, if_pos (by omega)]
      · rw [if_neg c2, if_neg (by omega)]
theorem wtg_some {tb : Tab} {w r : Nat} (h : waitOn tb w 20 = some r) : wtg tb w = true := by unfold wtg; rw [h]; rfl
theorem wtg_none {tb : Tab} {w : Nat} (h : waitOn tb w 20 = none) : wtg tb w = false := by unfold wtg; rw [h]; rfl
theorem MB.same (g : Gs) (t : Nat) (hI : TI g.tb) : MB g t g.tb g.ep bt0 := MB.of (BL.start _ _ _ t) hI hI (WkI.start t)
theorem MB.sameW {g : Gs} {t : Nat} {tb : Tab} (hI : TI g.tb) (hI' : TI tb) (h : ∀ w, w < 16 → wtg tb w = wtg g.tb w ∧ wfg tb w = wfg g.tb w) : MB g t tb g.ep bt0 := by
  refine ⟨fun w hw => ?_, fun w hw => by simp [bt0], fun w hw hc => by simp [bt0] at hc, fun w hw _ _ => ?_, fun w hw _ _ => ⟨rfl, rfl⟩, WkI.start t⟩
  · rw [(h w hw).1]; cases wtg g.tb w <;> simp [bt0]
  · rw [wf_wfg hI, wf_wfg hI', (h w hw).2]
    have : wfg g.tb w &&& ~~~ wfg g.tb w = 0#16 := by
      apply BitVec.eq_of_getLsbD_eq
      intro i hi
      simp
    rw [this]; exact ⟨rfl, rfl⟩
/-- the step of the graph and that of the model: the batch -/
structure StM (g : Gs) (Q : Int) (t a : Nat) (tb : Tab) (cd : Int) (r : Gs × Int × BitVec 16) (lo : Prop) (ep : Nat → Int) (b : Bt) : Prop where
  mb : MB g t tb ep b
  bo : BtOk (Q + 400) b
  ei : EpI (Q + 400) ep
  eq : r = (publN a b (setC g tb ep) 16, cd, b.woken)
  lo : lo → ∀ w, w < 16 → w % 4 ≠ a → b.ended.getLsbD w = false ∧ b.add w = 0#16 ∧ b.del w = 0#16
theorem nm_in {v n : Int} (h : 0 ≤ v ∧ v < n) : nmP v n = v := by unfold nmP; rw [if_neg (by omega)]
theorem nm_inP (v n : Int) : nmP v n = inP v n (-1) := by unfold nmP inP; split <;> split <;> omega
theorem acqN_0 (tb : Tab) (t r : Nat) : acqN tb t r (-1) = acqN tb t r 0 := by
  unfold acqN
  by_cases hw : (waitOn tb t 20).isSome = true
  · rw [if_pos hw, if_pos hw]
  · rw [if_neg hw, if_neg hw]
    have e1 : (-1 : Int) < 1 ∨ totP r < tb.held r t + -1 := .inl (by decide)
    have e2 : (0 : Int) < 1 ∨ totP r < tb.held r t + 0 := .inl (by decide)
    by_cases c : 8 ≤ r
    · rw [if_pos (show 8 ≤ r ∧ (-1 : Int) ≠ 1 ∧ (-1 : Int) ≠ 16 from ⟨c, by decide, by decide⟩), if_pos (show 8 ≤ r ∧ (0 : Int) ≠ 1 ∧ (0 : Int) ≠ 16 from ⟨c, by decide, by decide⟩)]
    · have n1 : ¬ (8 ≤ r ∧ (-1 : Int) ≠ 1 ∧ (-1 : Int) ≠ 16) := fun x => c x.1
      have n2 : ¬ (8 ≤ r ∧ (0 : Int) ≠ 1 ∧ (0 : Int) ≠ 16) := fun x => c x.1
      have n3 : ¬ (8 ≤ r ∧ 0 < tb.held r t) := fun x => c x.1
      rw [if_neg n1, if_neg n2, if_neg n3, if_neg n3, if_pos e1, if_pos e2]
theorem acqN_nm (tb : Tab) (t r : Nat) (c : Int) : acqN tb t r (nmP c 17) = acqN tb t r (inP c 17 0) := by
  by_cases h : 0 ≤ c ∧ c < 17
  · rw [nm_in h]; unfold inP; rw [if_pos h]
  · unfold inP nmP; rw [if_neg h, if_pos (by omega)]; exact acqN_0 tb t r
theorem StM.same {g : Gs} {B Q : Int} {t a : Nat} {cd : Int} {lo : Prop} (hG : GI B Q g) (hQ : 0 ≤ Q) : StM g Q t a g.tb cd (g, cd, 0#16) lo g.ep bt0 :=
  ⟨MB.same g t hG.ti, bt0_ok (by omega), hG.ep.mono (by omega), by rw [publN_bt0]; rfl, fun _ w _ _ => ⟨by simp [bt0], rfl, rfl⟩⟩
theorem MB.blk {g : Gs} {t r : Nat} {tb : Tab} (hI : TI g.tb) (hI' : TI tb) (hw : waitOn g.tb t 20 = none) (h1 : ∀ w, w ≠ t → waitOn tb w 20 = waitOn g.tb w 20) (h2 : waitOn tb t 20 = some r) (h3 : ∀ r', holdB tb r' = holdB g.tb r') : MB g t tb g.ep (btA t (g.ep t) (holdB tb r &&& ~~~ bitB t)) := by
  have hne : ∀ w, w ≠ t → wtg tb w = wtg g.tb w ∧ wfg tb w = wfg g.tb w := fun w hn => wfg_eq (h1 w hn) (fun r' _ => h3 r')
  have hs : ∀ A : BitVec 16, A &&& ~~~ A = 0#16 := fun A => by
    apply BitVec.eq_of_getLsbD_eq
    intro i hi
    simp
  refine ⟨fun w hw9 => ?_, fun w hw9 => by simp [btA], fun w hw9 hc => ?_, fun w hw9 _ ha => ?_, fun w hw9 _ ha => ?_, fun w hw9 => by simp [btA]⟩
  · by_cases c : w = t
    · subst c; rw [wtg_none hw]; simp [btA]
    · rw [(hne w c).1]; cases wtg g.tb w <;> simp [btA]
  · by_cases c : w = t
    · subst c; simp [btA, updI]
    · exfalso
      simp [btA, updB, c] at hc
  · rw [wf_wfg hI, wf_wfg hI']
    by_cases c : w = t
    · subst c
      have e1 : wfg tb w = holdB tb r &&& ~~~ bitB w := by unfold wfg WFv; simp only [h2]
      have e2 : wfg g.tb w = 0#16 := by unfold wfg WFv; simp only [hw]
      rw [e1, e2]
      refine ⟨?_, ?_⟩
      · simp only [btA, updB, if_true]
        rw [show (~~~ (0#16) : BitVec 16) = BitVec.allOnes 16 from rfl, BitVec.and_allOnes]
      · simp [btA]
    · rw [(hne w c).2, hs]
      simp [btA, updB, c]
  · by_cases c : w = t
    · subst c; rw [wtg_some h2] at ha; cases ha
    · simp [btA, updB, c]
theorem btA_ok {Q : Int} {t : Nat} {e : Int} {s : BitVec 16} (hQ : 0 ≤ Q) (he : 0 ≤ e ∧ e ≤ Q) (hs : s.getLsbD t = false) : BtOk Q (btA t e s) := by
  refine ⟨fun w hw => ?_, fun w hw => ?_, fun w hw => by simp [btA]⟩
  · simp only [btA, updI]; split
    · exact he
    · exact ⟨Int.le_refl _, hQ⟩
  · simp only [btA, updB]; split
    · rename_i c; rw [c]; exact hs
    · simp
theorem and_bit_off {A : BitVec 16} {t : Nat} (ht : t < 16) : (A &&& ~~~ bitB t).getLsbD t = false := by
  rw [BitVec.getLsbD_and, BitVec.getLsbD_not, bit_get ht]; simp
/-- a step that the model plays itself -/
theorem stepM {B Q : Int} {g : Gs} {k : Int} {t a : Nat} {b c : Int} (hG : GI B Q g) (hQ : 0 ≤ Q) (ht : t < 16) (hk : 0 ≤ k ∧ k ≤ 3) (ha : a < 4)
    (hat : (k = 0 ∨ k = 1) ∧ a = t % 4 ∨ (k = 2 ∨ k = 3) ∧ b = (a : Int)) (hr : k ≠ 0 → roomP g.bx a 4 = true) :
    TI (chM g.tb k t b c).1 ∧ ∃ ep bt, StM g Q t a (chM g.tb k t b c).1 (chM g.tb k t b c).2 (stepG g ⟨k, (t : Int), b, c⟩) (k = 0) ep bt := by
  have hna : nmP (t : Int) 16 = t := nm_in (by omega)
  have hi := hG.ti
  unfold stepG chM
  simp only [hna]
  by_cases k0 : k = 0
  · have hat0 : a = t % 4 := by omega
    rw [if_pos k0, if_pos k0]
    by_cases cb : 0 ≤ b ∧ b < 20
    · rw [if_pos cb, nm_in cb]
      obtain ⟨rn, rfl⟩ : ∃ n : Nat, b = n := ⟨b.toNat, by omega⟩
      have hrn : rn < 20 := by omega
      rw [acqG_ok ht hrn, acqN_nm, Int.toNat_natCast]
      have hti := hi.acq (u := nmP c 17) ht hrn (nm17 c).2
      rw [acqN_nm] at hti
      generalize inP c 17 0 = u at hti ⊢
      refine ⟨hti, ?_⟩
      rcases acqN_cases g.tb t rn u with ⟨cd, e, h0, h1⟩ | ⟨hw, hq, e⟩ | ⟨hw, e⟩
      · rw [e]
        simp only [if_neg h1, setC_self]
        exact ⟨_, _, StM.same hG hQ⟩
      · rw [e] at hti ⊢
        refine ⟨g.ep, bt0, MB.sameW hi hti (fun w hw9 => ?_), bt0_ok (by omega), hG.ep.mono (by omega), ?_, fun _ w _ _ => ⟨by simp [bt0], rfl, rfl⟩⟩
        · exact wfg_eq (tb := g.tb) (tb' := tbU g.tb rn (giveH (g.tb.held rn) ⟨t, u⟩) (g.tb.q rn)) (w := w) (waitOn_congr 20 (fun r' _ => by rw [tbU_q]; split; (rename_i e9; rw [e9]); rfl)) (fun r' hr' => by
            refine tbU_hold fun e9 => ?_
            subst e9
            obtain ⟨_, x, hx, _⟩ := wait_mem hr'
            rw [hq] at hx; cases hx)
        · rw [publN_bt0]
          simp only [if_neg (show ¬ (0 : Int) = 1 by decide)]
          rfl
      · rw [e] at hti ⊢
        obtain ⟨b1, b2, b3⟩ := blk_wo hi hti hrn
        refine ⟨g.ep, btA t (g.ep t) (holdB (tbU g.tb rn (g.tb.held rn) (g.tb.q rn ++ [⟨t, u⟩])) rn &&& ~~~ bitB t), MB.blk hi hti hw b1 b2 b3, btA_ok (by omega) (by have := hG.ep.bd t ht; omega) (and_bit_off ht), hG.ep.mono (by omega), ?_, fun _ w hw9 hwa => ?_⟩
        · rw [hat0, publN_A, if_pos ht]
          simp only [if_true]
          rfl
        · have : w ≠ t := fun e => hwa (by rw [e]; exact hat0.symm)
          simp [btA, updB, this]
    · have e : acqG g (t : Int) (nmP b 20) (nmP c 17) = (g, 5) := by
        unfold acqG nmP
        rw [if_pos (show b < 0 ∨ 20 ≤ b by omega), if_neg (by omega), if_pos (by omega)]
      rw [if_neg cb, e]
      exact ⟨hi, _, _, StM.same hG hQ⟩
  · rw [if_neg k0, if_neg k0]
    have hroom := hr k0
    by_cases k1 : k = 1
    · have hat0 : a = t % 4 := by omega
      rw [if_pos k1, if_pos k1, ← nm_inP]
      have hrel := hi.rel (r := nmP b 20) ht
      refine ⟨hrel.1, ?_⟩
      rw [relG_t ht, ← hat0, if_pos hroom]
      by_cases c3 : (relT g.tb t (nmP b 20)).2.2 = 0
      · rw [if_pos c3, c3]
        have hrr := rel_r c3
        have hcp := hcP_ok (bf := bfR g.tb (nmP b 20)) (z := (g.ep, bt0)) hrel.1 (r := (nmP b 20).toNat) (by omega) hG.ep (bt0_ok hQ) hrel.2.2
        exact ⟨_, _, MB.of (rel_BL hi ht c3) hi hrel.1 (rel_Wk c3), hcp.2.mono (show Q + 16 ≤ Q + 400 by omega), hcp.1.mono (by omega), rfl, fun h => absurd h k0⟩
      · rw [if_neg c3, rel_same c3]
        exact ⟨_, _, StM.same hG hQ⟩
    · rw [if_neg k1, if_neg k1]
      have hba : b = (a : Int) := by omega
      have hnb : nmP b 4 = (a : Int) := by rw [hba]; exact nm_in (by omega)
      have hadm : admC g (t : Int) (a : Int) = 0 := by
        unfold admC
        rw [if_pos (by omega), if_pos (by omega), Int.toNat_natCast, if_pos hroom]
      by_cases k2 : k = 2
      · rw [if_pos k2, if_pos k2, hnb]
        have hwd := wdK_ok (t := t) (z := (g.ep, bt0)) hi hG.ep (bt0_ok hQ)
        have hT := wdK_T g.tb (g.ep, bt0) t
        rw [← Prod.eta (wdT g.tb t)]
        simp only
        rw [← hT.1, ← hT.2]
        refine ⟨hwd.1, ?_⟩
        unfold canG
        rw [if_pos hadm, Int.toNat_natCast, Int.toNat_natCast]
        by_cases c3 : (wdK g.tb (g.ep, bt0) t).2.2 = 0
        · rw [if_pos c3, c3]
          exact ⟨_, _, MB.of (can_BL hi ht) hi hwd.1 (wd_Wk (z := (g.ep, bt0)) (WkI.start t)), hwd.2.2.mono (show Q + 17 ≤ Q + 400 by omega), hwd.2.1.mono (by omega), rfl, fun h => absurd h k0⟩
        · rw [if_neg c3, wdK_11 c3]
          exact ⟨_, _, StM.same hG hQ⟩
      · rw [if_neg k2, if_neg k2, if_pos (by omega), hnb]
        have hab := abK_ok (t := t) hi hG.ep hQ ht
        simp only
        rw [← abK_T g t]
        refine ⟨hab.1, ?_⟩
        unfold abG
        rw [if_pos hadm, Int.toNat_natCast, Int.toNat_natCast]
        exact ⟨_, _, MB.of (abo_BL hi ht hG.ep hQ) hi hab.1 (abo_Wk hi ht hG.ep hQ), hab.2.2.mono (show Q + 400 ≤ Q + 400 by omega), hab.2.1.mono (by omega), rfl, fun h => absurd h k0⟩

end Go.Proofs.Qxb6500911aGreatDoor

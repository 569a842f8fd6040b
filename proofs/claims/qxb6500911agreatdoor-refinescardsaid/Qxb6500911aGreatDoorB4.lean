import Derived.Test.Qxb6500911aGreatDoorB3
namespace Go.Proofs.Qxb6500911aGreatDoor
open Go.Eng
set_option linter.unusedVariables false
set_option linter.unusedSimpArgs false

/-! ## the model's step -/
def withE (g : Gs) (ep : Nat → Int) : Gs := { g with ep := ep }
def mixE (i : Nat) (ep ep0 : Nat → Int) : Nat → Int := fun j => if j < i then ep j else ep0 j
theorem route_ep (g : Gs) (ep : Nat → Int) (a : Nat) (u : Up) : routeG (withE g ep) a u = withE (routeG g a u) ep := by
  unfold routeG withE applyG
  split <;> rfl
theorem pub1_ep (g : Gs) (ep : Nat → Int) (a : Nat) (b : Bt) (w : Nat) : pub1 a b (withE g ep) w = withE (pub1 a b g w) ep := by
  unfold pub1
  simp only [route_ep]
  split
  · rfl
  · split <;> split <;> simp only [route_ep]
/-- where the model stands when the first i tasks are told -/
def gAt (a : Nat) (b : Bt) (g0 g1 : Gs) (i : Nat) : Gs := withE (publN a b g1 i) (mixE i g1.ep g0.ep)
theorem gAt_next {a : Nat} {b : Bt} {g0 g1 : Gs} {i : Nat} : gAt a b g0 g1 (i + 1) = withE (pub1 a b (gAt a b g0 g1 i) i) (mixE (i + 1) g1.ep g0.ep) := by
  unfold gAt; rw [publN, pub1_ep]; rfl
theorem mix_end {i : Nat} {ep ep0 : Nat → Int} (h : ep i = ep0 i + 1) : mixE (i + 1) ep ep0 = updI (mixE i ep ep0) i (ep0 i + 1) := by
  funext j
  unfold mixE updI
  by_cases c : j = i
  · subst c; rw [if_pos (by omega), if_pos rfl, h]
  · rw [if_neg c]
    by_cases c2 : j < i
    · simp only [if_pos c2]; rw [if_pos (by omega)]
    · simp only [if_neg c2]; rw [if_neg (by omega)]
theorem mix_same {i : Nat} {ep ep0 : Nat → Int} (h : ep i = ep0 i) : mixE (i + 1) ep ep0 = mixE i ep ep0 := by
  funext j
  unfold mixE
  by_cases c : j = i
  · subst c; rw [if_pos (by omega), if_neg (by omega), h]
  · by_cases c2 : j < i
    · rw [if_pos (by omega), if_pos c2]
    · rw [if_neg (by omega), if_neg c2]
theorem mix_at (i : Nat) (ep ep0 : Nat → Int) : mixE i ep ep0 i = ep0 i := if_neg (Nat.lt_irrefl i)
theorem mix_zero (ep ep0 : Nat → Int) : mixE 0 ep ep0 = ep0 := funext fun j => if_neg (Nat.not_lt_zero j)
theorem gAt_ep (a : Nat) (b : Bt) (g0 g1 : Gs) (i : Nat) : (gAt a b g0 g1 i).ep i = g0.ep i := mix_at i _ _
structure Tld (b : Bt) (w : Nat) : Prop where
  t : b.ended.getLsbD w = true ∨ b.add w ≠ 0#16 ∨ b.del w ≠ 0#16
def RmI (a : Nat) (b : Bt) (g : Gs) (i k : Nat) : Prop := (∀ w, w < 16 → w % 4 ≠ a → b.ended.getLsbD w = false ∧ b.add w = 0#16 ∧ b.del w = 0#16) ∨ (∀ to, to < 4 → to ≠ a → (g.bx (a * 4 + to)).length ≤ 24 + 2 * ((i + 3 - to) / 4) + (if i % 4 = to then k else 0))
/-- halfway: k of the messages of task i are out -/
structure HM (B Q : Int) (L : Nat) (a : Nat) (b : Bt) (M0 : Dm) (g : Gs) (got : Nat → List Ms) (M : Dm) (i k : Nat) : Prop where
  bb : M.bm = M0.bm ∧ M.bt = M0.bt
  s : MR Q (L + 2 * i + k) g got M
  gi : GI (B + 2 * i + k) Q g
  room : RmI a b g i k
structure QM (B Q : Int) (L : Nat) (a : Nat) (b : Bt) (g0 g1 : Gs) (M0 : Dm) (g : Gs) (got : Nat → List Ms) (M : Dm) (i : Nat) (m : BitVec 16) : Prop where
  h : HM B Q L a b M0 g got M i 0
  eq : g = gAt a b g0 g1 i
  wk : m = maskN (fun w => if b.woken.getLsbD w = true then 1 else 0) i
theorem HM.rm {B Q : Int} {L a : Nat} {b : Bt} {M0 : Dm} {g : Gs} {got : Nat → List Ms} {M : Dm} {i k : Nat} (h : HM B Q L a b M0 g got M i k) (hi : i < 16) (hk : k ≤ 1) (ht : b.ended.getLsbD i = true ∨ b.add i ≠ 0#16 ∨ b.del i ≠ 0#16) : i % 4 ≠ a → (g.bx (a * 4 + i % 4)).length < 32 := fun hn => by
  rcases h.room with hr | hr
  · obtain ⟨h1, h2, h3⟩ := hr i hi hn
    rcases ht with ht | ht | ht
    · rw [h1] at ht; cases ht
    · exact absurd h2 ht
    · exact absurd h3 ht
  · have := hr (i % 4) (by omega) hn
    rw [if_pos rfl] at this
    omega
theorem HM.next {B Q : Int} {L a : Nat} {b : Bt} {M0 : Dm} {g : Gs} {got got' : Nat → List Ms} {M M' : Dm} {i k : Nat} {u : Up} (h : HM B Q L a b M0 g got M i k) (hq : BQ (B + 2 * i + k) Q) (ha : a < 4) (hu : UpOk Q u) (hw : u.w = i) (hi : i < 16) (hk : k ≤ 1) (ht : b.ended.getLsbD i = true ∨ b.add i ≠ 0#16 ∨ b.del i ≠ 0#16) (hS : MR Q (L + 2 * i + k + 1) (routeG g a u) got' M') (hb : M'.bm = M.bm ∧ M'.bt = M.bt) : HM B Q L a b M0 (routeG g a u) got' M' i (k + 1) := by
  have hrm := h.rm hi hk ht
  have hg := h.gi.route hq ha hu (by rw [hw]; exact hrm)
  refine ⟨⟨hb.1.trans h.bb.1, hb.2.trans h.bb.2⟩, hS, by rw [show B + 2 * (i : Int) + ((k + 1 : Nat) : Int) = B + 2 * i + k + 1 by omega]; exact hg, ?_⟩
  rcases h.room with hr | hr
  · exact .inl hr
  · refine .inr fun to h1 h2 => ?_
    have := hr to h1 h2
    rw [route_len ha h1 h2, hw]
    split <;> rename_i c
    · rw [if_pos c] at this; omega
    · rw [if_neg c] at this; omega
theorem HM.up {B Q : Int} {L a : Nat} {b : Bt} {M0 : Dm} {g : Gs} {got : Nat → List Ms} {M : Dm} {i : Nat} (h : HM B Q L a b M0 g got M i 0) : HM B Q L a b M0 g got M i 1 := by
  refine ⟨h.bb, h.s.mono (Int.le_refl _) (by omega), h.gi.mono (by omega) (Int.le_refl _), ?_⟩
  rcases h.room with hr | hr
  · exact .inl hr
  · refine .inr fun to h1 h2 => ?_
    have := hr to h1 h2
    rw [ite_self] at this
    split <;> omega
theorem GI.withE {B Q : Int} {g : Gs} {ep : Nat → Int} (h : GI B Q g) (h2 : EpI Q ep) : GI B Q (Qxb6500911aGreatDoor.withE g ep) := ⟨h.ti, h.ok, h.nb, h.fb, h2, h.b32, h.ms⟩
theorem HM.fin {B Q : Int} {L a : Nat} {b : Bt} {M0 : Dm} {g : Gs} {got : Nat → List Ms} {M : Dm} {i k : Nat} (h : HM B Q L a b M0 g got M i k) (hk : k ≤ 2) (hi : i < 16) : HM B Q L a b M0 g got M (i + 1) 0 := by
  refine ⟨h.bb, h.s.mono (Int.le_refl _) (by omega), h.gi.mono (by omega) (Int.le_refl _), ?_⟩
  rcases h.room with hr | hr
  · exact .inl hr
  · refine .inr fun to h1 h2 => ?_
    have := hr to h1 h2
    rw [ite_self]
    split at this <;> omega
theorem mixE_ok {Q : Int} {i : Nat} {ep ep0 : Nat → Int} (h : EpI Q ep) (h0 : EpI Q ep0) : EpI Q (mixE i ep ep0) := ⟨fun t ht => by unfold mixE; split; exact h.bd t ht; exact h0.bd t ht⟩
/-- the wait of task i has ended -/
theorem QM.ended {B Q : Int} {L a : Nat} {b : Bt} {g0 g1 : Gs} {M0 : Dm} {g : Gs} {got got' : Nat → List Ms} {M M' : Dm} {i : Nat} {m m' : BitVec 16} {u : Up} (h : QM B Q L a b g0 g1 M0 g got M i m) (hu : u = ⟨3, i, b.ep i, 0#16⟩) (hH : HM B Q L a b M0 (routeG g a u) got' M' i 1) (hi : i < 16) (he : b.ended.getLsbD i = true) (hep : g1.ep i = g0.ep i + 1) (he0 : EpI Q g0.ep) (he1 : EpI Q g1.ep) (hm' : m' = if b.woken.getLsbD i = true then m ||| bitB i else m) :
    QM B Q L a b g0 g1 M0 (gAt a b g0 g1 (i + 1)) got' ⟨M'.bm, M'.bt, updV M'.fd (2 + i) (.int .u64 (g0.ep i + 1)), M'.fm, M'.ft, M'.Ed, M'.Em, M'.Et⟩ (i + 1) m' := by
  have e1 : gAt a b g0 g1 (i + 1) = withE (routeG g a u) (updI (routeG g a u).ep i (g0.ep i + 1)) := by
    rw [gAt_next, ← h.eq]
    unfold pub1
    rw [if_pos he, ← hu, mix_end hep]
    congr 2
    have : (routeG g a u).ep = g.ep := by unfold routeG applyG; split <;> rfl
    rw [this, h.eq]; rfl
  have hf := hH.fin (by omega) hi
  have hg : GI (B + 2 * ((i + 1 : Nat) : Int) + ((0 : Nat) : Int)) Q (gAt a b g0 g1 (i + 1)) := by
    have e2 : gAt a b g0 g1 (i + 1) = withE (routeG g a u) (mixE (i + 1) g1.ep g0.ep) := by
      rw [gAt_next, ← h.eq]; unfold pub1; rw [if_pos he, ← hu]
    rw [e2]; exact hf.gi.withE (mixE_ok he1 he0)
  refine ⟨⟨hf.bb, ?_, hg, ?_⟩, rfl, ?_⟩
  · rw [e1]
    exact ⟨hf.s.md.setEp hi, hf.s.go, hf.s.ln⟩
  · rw [e1]; exact hf.room
  · rw [hm', h.wk]
    simp only [maskN]
    split <;> rename_i c
    · rw [if_pos (by decide)]
    · rw [if_neg (by decide)]
/-- the wait of task i goes on, or there is none -/
theorem QM.goes {B Q : Int} {L a : Nat} {b : Bt} {g0 g1 : Gs} {M0 : Dm} {g g' : Gs} {got got' : Nat → List Ms} {M M' : Dm} {i k : Nat} {m : BitVec 16} (h : QM B Q L a b g0 g1 M0 g got M i m) (hH : HM B Q L a b M0 g' got' M' i k) (hk : k ≤ 2) (hi : i < 16) (he : b.ended.getLsbD i = false) (hwk : b.woken.getLsbD i = false) (hep : g1.ep i = g0.ep i) (hg' : g' = pub1 a b g i) :
    QM B Q L a b g0 g1 M0 g' got' M' (i + 1) m := by
  have e1 : g' = gAt a b g0 g1 (i + 1) := by
    rw [gAt_next, ← h.eq, mix_same hep, hg']
    have h9 := h.eq
    unfold gAt at h9
    conv => rhs; rw [h9, pub1_ep]
    rw [h9, pub1_ep]; rfl
  refine ⟨hH.fin hk hi, e1, ?_⟩
  rw [h.wk]
  simp only [maskN, hwk, Bool.false_eq_true, if_false]
  rw [if_neg (by decide)]
theorem QM.start {B Q : Int} {L a : Nat} {b : Bt} {g0 : Gs} {tb : Tab} {ep : Nat → Int} {got : Nat → List Ms} {M : Dm} (hS : MR Q L (setC g0 tb g0.ep) got M) (hG : GI B Q (setC g0 tb g0.ep)) (hr : (∀ w, w < 16 → w % 4 ≠ a → b.ended.getLsbD w = false ∧ b.add w = 0#16 ∧ b.del w = 0#16) ∨ roomP g0.bx a 4 = true) :
    QM B Q L a b g0 (setC g0 tb ep) M (setC g0 tb g0.ep) got M 0 0#16 := by
  refine ⟨⟨⟨rfl, rfl⟩, by simpa using hS, by simpa using hG, ?_⟩, ?_, rfl⟩
  · rcases hr with hr | hr
    · exact .inl hr
    · refine .inr fun to h1 h2 => ?_
      have := roomP_spec.1 hr to h1 h2
      simp only [setC]
      split <;> omega
  · unfold gAt; rw [mix_zero]; rfl
theorem wk_mask {b : Bt} : maskN (fun w => if b.woken.getLsbD w = true then 1 else 0) 16 = b.woken := by
  apply BitVec.eq_of_getLsbD_eq
  intro k hk
  rw [maskN_get (Nat.le_refl _)]
  cases b.woken.getLsbD k <;> simp [hk]
theorem MdF.epc {g g' : Gs} {got : Nat → List Ms} {M : Dm} (h : MdF g got M) (h1 : ∀ t, t < 16 → g.ep t = g'.ep t) (h2 : g'.bx = g.bx) (h3 : g'.tb = g.tb) : MdF g' got M := ⟨h.p0, h.p1, fun t ht => by rw [← h1 t ht]; exact h.ep t ht, h.gt, by rw [h2]; exact h.mc, by rw [h3]; exact h.tb⟩
theorem QM.all {B Q : Int} {L a : Nat} {b : Bt} {g0 g1 : Gs} {M0 : Dm} {g : Gs} {got : Nat → List Ms} {M : Dm} {m : BitVec 16} (h : QM B Q L a b g0 g1 M0 g got M 16 m) : MR Q (L + 32) (publN a b g1 16) got M ∧ m = b.woken := by
  have hs := h.h.s
  rw [h.eq] at hs
  have he := (publ_core a b g1 16).1
  refine ⟨⟨hs.md.epc (fun t ht => ?_) rfl rfl, hs.go, hs.ln⟩, by rw [h.wk]; exact wk_mask⟩
  rw [he]; unfold gAt withE mixE; simp only [if_pos ht]
structure QZ where
  g : Gs
  got : Nat → List Ms
  M : Dm
  i : Nat
  m : BitVec 16
theorem upE {Q : Int} {b : Bt} {i : Nat} {e : Int} (hb : BtOk Q b) (hi : i < 16) (he : b.ep i = e) : UpOk Q ⟨3, i, e, 0#16⟩ := by rw [← he]; exact upok3 hb hi
theorem upD {Q : Int} {b : Bt} {i : Nat} {e : Int} {s : BitVec 16} (hb : BtOk Q b) (hi : i < 16) (he : b.ep i = e) (hs : b.del i = s) (h : s ≠ 0#16) : UpOk Q ⟨2, i, e, s⟩ := by subst hs; rw [← he]; exact upok2 hb hi h
theorem upA {Q : Int} {b : Bt} {i : Nat} {e : Int} {s : BitVec 16} (hb : BtOk Q b) (hi : i < 16) (he : b.ep i = e) (hs : b.add i = s) (h : s ≠ 0#16) : UpOk Q ⟨1, i, e, s⟩ := by subst hs; rw [← he]; exact upok1 hb hi h
theorem QM.ep {B Q : Int} {L a : Nat} {b : Bt} {g0 g1 : Gs} {M0 : Dm} {g : Gs} {got : Nat → List Ms} {M : Dm} {i : Nat} {m : BitVec 16} (h : QM B Q L a b g0 g1 M0 g got M i m) : g.ep i = g0.ep i := by rw [h.eq]; exact gAt_ep a b g0 g1 i
theorem route_epI (g : Gs) (a : Nat) (u : Up) : (routeG g a u).ep = g.ep := by unfold routeG applyG; split <;> rfl
theorem andnot_mi (A B : BitVec 16) : mi A = mi A := rfl
theorem msk_get {g : Nat → BitVec 16} {i : Nat} (h : i < 16) : (mskA g)[0 + i * 1]? = some (.int .u16 (mi (g i))) := by
  rw [show 0 + i * 1 = i by omega]; unfold mskA; rw [arrL_get h]


theorem wt_of {tb : Tab} {i : Nat} (hi : i < 16) {v : Bool} (h : (wgB tb).getLsbD i = v) : wtg tb i = v := by rw [← wgB_get hi]; exact h
end Go.Proofs.Qxb6500911aGreatDoor

import Derived.Test.Qxb6500911aGreatDoorA22
namespace Go.Proofs.Qxb6500911aGreatDoor
open Go.Eng
set_option linter.unusedVariables false
set_option linter.unusedSimpArgs false

/-! ## the main law: what the shards hold and what is under way, against the tables -/
def cU (u : Up) (w : Nat) (e : Int) (h : Nat) : Int := if u.w = w ∧ u.e = e ∧ u.s.getLsbD h = true then (if u.k = 1 then 1 else if u.k = 2 then -1 else 0) else 0
def cM (m : Ms) (w : Nat) (e : Int) (h : Nat) : Int := match decP (msR m) with | some u => cU u w e h | none => 0
def uL (w : Nat) (e : Int) (h : Nat) : List Ms → Int
  | [] => 0
  | m :: l => cM m w e h + uL w e h l
theorem uL_append (w : Nat) (e : Int) (h : Nat) : ∀ (l m : List Ms), uL w e h (l ++ m) = uL w e h l + uL w e h m
  | [], m => by simp [uL]
  | x :: l, m => by rw [List.cons_append, uL, uL, uL_append w e h l m]; omega
def und (bx : Nat → List Ms) (w : Nat) (e : Int) (h : Nat) : Int := sumN (fun b => uL w e h (bx b)) 16
def Mgv (bx : Nat → List Ms) (w : Nat) (u : Up) : Prop := ∃ b, b < 16 ∧ ∃ m, m ∈ bx b ∧ decP (msR m) = some u ∧ u.w = w
theorem und_upd {bx : Nat → List Ms} {b : Nat} {l : List Ms} {w : Nat} {e : Int} {h : Nat} (hb : b < 16) : und (bxU bx b l) w e h = und bx w e h + (uL w e h l - uL w e h (bx b)) := by
  unfold und
  have : (fun j => uL w e h (bxU bx b l j)) = fun j => if j = b then uL w e h l else uL w e h (bx j) := by
    funext j; unfold bxU; split <;> rfl
  rw [this, sumN_upd (f := fun j => uL w e h (bx j)) hb]
theorem uL_zero {w : Nat} {e : Int} {h : Nat} : ∀ {l : List Ms}, (∀ m, m ∈ l → cM m w e h = 0) → uL w e h l = 0
  | [], _ => rfl
  | m :: l, hz => by rw [uL, hz m (.head _), uL_zero (fun x hx => hz x (.tail _ hx))]; rfl
theorem sumN_zeros {f : Nat → Int} : ∀ {n}, (∀ i, i < n → f i = 0) → sumN f n = 0
  | 0, _ => rfl
  | n + 1, h => by unfold sumN; rw [sumN_zeros (fun i hi => h i (by omega)), h n (by omega)]; rfl
theorem und_zero {bx : Nat → List Ms} {w : Nat} {e : Int} {h : Nat} (hz : ∀ u, Mgv bx w u → u.e = e → u.k = 3) : und bx w e h = 0 := by
  refine sumN_zeros fun b hb => uL_zero fun m hm => ?_
  unfold cM
  split
  · rename_i u hu
    unfold cU
    split
    · rename_i c
      have := hz u ⟨b, hb, m, hm, hu, c.1⟩ c.2.1
      rw [if_neg (by omega), if_neg (by omega)]
    · rfl
  · rfl
structure MIw (e0 : Int) (wt : Bool) (F : Nat → Int) (fz : Int) (l : List Wt) (U : Int → Nat → Int) (Mg : Up → Prop) : Prop where
  s0 : ∀ x, x ∈ l → x.e < e0 ∨ (x.e = e0 ∧ wt = true)
  s1 : ∀ u, Mg u → u.e < e0 ∨ (u.e = e0 ∧ wt = true ∧ u.k ≠ 3)
  s2 : fz ≤ e0
  s3 : ∀ h, nt l e0 h + U e0 h = F h
  s4 : e0 = 0 ∨ fz = e0 ∨ ∃ u, Mg u ∧ u.k = 3 ∧ u.e = e0 - 1
  s5 : ∀ e h, (∀ u, Mg u → u.e = e → u.k = 3) → U e h = 0
def wtg (tb : Tab) (w : Nat) : Bool := (waitOn tb w 20).isSome
def wfg (tb : Tab) (w : Nat) : BitVec 16 := WFv (fun w => waitOn tb w 20) (holdB tb) w
def MIg (g : Gs) (w : Nat) (ep : Nat → Int) (tb : Tab) : Prop := MIw (ep w) (wtg tb w) (fun h => b01 ((wfg tb w).getLsbD h)) (g.flr w) (g.ws w) (fun e h => und g.bx w e h) (Mgv g.bx w)
/-- after one update of task w has been handed out -/
theorem nt_big {l : List Wt} {e0 : Int} {wt : Bool} (h : ∀ x, x ∈ l → x.e < e0 ∨ (x.e = e0 ∧ wt = true)) {e : Int} (he : e0 < e) (k : Nat) : nt l e k = 0 := nt_none fun x hx hxe => by rcases h x hx with h1 | h1 <;> omega
theorem msR_up (a : Nat) (u : Up) : msR (upMs a u) = ⟨(a : Int), ((u.w % 4 : Nat) : Int), u.k, (u.w : Int), u.e, mi u.s, 0⟩ := rfl
theorem cM_up {a : Nat} {u : Up} {Q : Int} (hu : UpOk Q u) (w : Nat) (e : Int) (h : Nat) : cM (upMs a u) w e h = cU u w e h := by unfold cM; rw [msR_up, dec_up hu]
structure RV (g g' : Gs) (a : Nat) (u : Up) : Prop where
  fl : ∀ w, w ≠ u.w → g'.flr w = g.flr w ∧ g'.ws w = g.ws w
  un : ∀ w e h, und g'.bx w e h = und g.bx w e h + (if u.w % 4 = a then 0 else cU u w e h)
  mg : ∀ w u', Mgv g'.bx w u' ↔ (Mgv g.bx w u' ∨ (u.w % 4 ≠ a ∧ u' = u ∧ u.w = w))
  lo : u.w % 4 = a → g'.flr u.w = apF u.k (g.flr u.w) u.e ∧ g'.ws u.w = apL u.k (g.flr u.w) (g.ws u.w) u.e u.s
  re : u.w % 4 ≠ a → g'.flr u.w = g.flr u.w ∧ g'.ws u.w = g.ws u.w
theorem route_RV {g : Gs} {a : Nat} {u : Up} {Q : Int} (ha : a < 4) (hu : UpOk Q u) : RV g (routeG g a u) a u := by
  have hw := hu.w
  unfold routeG
  by_cases c : u.w % 4 = a
  · rw [if_pos c]
    refine ⟨fun w hn => ?_, fun w e h => ?_, fun w u' => ?_, fun _ => ?_, fun hn => absurd c hn⟩
    · simp only [applyG, updI, updW]; rw [if_neg hn, if_neg hn]; exact ⟨rfl, rfl⟩
    · rw [if_pos c, Int.add_zero]; rfl
    · exact ⟨fun h => .inl h, fun h => by rcases h with h | h; exact h; exact absurd c h.1⟩
    · simp only [applyG, updI, updW, if_true]; exact ⟨trivial, trivial⟩
  · rw [if_neg c]
    have hb : a * 4 + u.w % 4 < 16 := by omega
    refine ⟨fun w hn => ⟨rfl, rfl⟩, fun w e h => ?_, fun w u' => ?_, fun h => absurd h c, fun _ => ⟨rfl, rfl⟩⟩
    · rw [if_neg c]
      simp only
      rw [und_upd hb, uL_append, uL, uL, cM_up hu]; omega
    · unfold Mgv
      constructor
      · rintro ⟨b, hb2, m, hm, hd, hw2⟩
        simp only [bxU] at hm
        split at hm
        · rename_i e
          subst e
          rcases List.mem_append.1 hm with hm | hm
          · exact .inl ⟨_, hb2, m, hm, hd, hw2⟩
          · simp only [List.mem_singleton] at hm
            subst hm
            rw [msR_up, dec_up hu] at hd
            cases hd
            exact .inr ⟨c, rfl, hw2⟩
        · exact .inl ⟨b, hb2, m, hm, hd, hw2⟩
      · rintro (⟨b, hb2, m, hm, hd, hw2⟩ | ⟨_, rfl, hw2⟩)
        · refine ⟨b, hb2, m, ?_, hd, hw2⟩
          simp only [bxU]
          split
          · rename_i e; subst e; exact List.mem_append_left _ hm
          · exact hm
        · refine ⟨a * 4 + u'.w % 4, hb, upMs a u', ?_, by rw [msR_up, dec_up hu], hw2⟩
          simp only [bxU, if_true]
          exact List.mem_append_right _ (List.mem_singleton.2 rfl)
theorem cU_other {u : Up} {w : Nat} (h : u.w ≠ w) (e : Int) (k : Nat) : cU u w e k = 0 := by unfold cU; rw [if_neg (fun c => h c.1)]
/-- a task whose update it is not -/
theorem MIw.frame {e0 : Int} {wt : Bool} {F : Nat → Int} {g g' : Gs} {a : Nat} {u : Up} {w : Nat} (h : MIw e0 wt F (g.flr w) (g.ws w) (fun e h => und g.bx w e h) (Mgv g.bx w)) (hr : RV g g' a u) (hn : w ≠ u.w) : MIw e0 wt F (g'.flr w) (g'.ws w) (fun e h => und g'.bx w e h) (Mgv g'.bx w) := by
  have e1 := hr.fl w hn
  have e2 : (fun e h => und g'.bx w e h) = fun e h => und g.bx w e h := by
    funext e k; rw [hr.un, cU_other (fun e => hn e.symm)]; split <;> omega
  have e3 : Mgv g'.bx w = Mgv g.bx w := by
    funext u'; apply propext; rw [hr.mg]
    exact ⟨fun h => by rcases h with h | h; exact h; exact absurd h.2.2.symm hn, fun h => .inl h⟩
  rw [e1.1, e1.2, e2, e3]; exact h
/-- an insertion or a removal at the present epoch -/
theorem MIw.adj {e0 : Int} {F : Nat → Int} {g g' : Gs} {a : Nat} {u : Up} (h : MIw e0 true F (g.flr u.w) (g.ws u.w) (fun e h => und g.bx u.w e h) (Mgv g.bx u.w)) (hr : RV g g' a u) (hok : WsOk (g.ws u.w) (g.flr u.w)) (he : u.e = e0) (hs : u.s ≠ 0#16) {d : Int} (hk : (u.k = 1 ∧ d = 1) ∨ (u.k = 2 ∧ d = -1)) : MIw e0 true (fun h => F h + d * b01 (u.s.getLsbD h)) (g'.flr u.w) (g'.ws u.w) (fun e h => und g'.bx u.w e h) (Mgv g'.bx u.w) := by
  have hcu : ∀ k, cU u u.w e0 k = d * b01 (u.s.getLsbD k) := fun k => by
    unfold cU b01
    by_cases c : u.s.getLsbD k = true
    · rw [if_pos ⟨rfl, he, c⟩, if_pos c]
      rcases hk with hk | hk
      · rw [if_pos hk.1, hk.2]; rfl
      · rw [if_neg (by omega), if_pos hk.1, hk.2]; rfl
    · rw [if_neg (fun h => c h.2.2), if_neg c]; omega
  have hk3 : u.k ≠ 3 := by omega
  by_cases c : u.w % 4 = a
  · obtain ⟨e1, e2⟩ := hr.lo c
    have hf : g'.flr u.w = g.flr u.w := by rw [e1]; unfold apF; rw [if_neg (by omega)]
    have hl : g'.ws u.w = adjL u.e u.s d (g.ws u.w) := by
      rw [e2]; unfold apL
      have h2 := h.s2
      rcases hk with hk | hk
      · rw [if_pos hk.1, hk.2]; unfold adjS; rw [if_neg (by rintro (h3 | h3); omega; exact hs h3)]
      · rw [if_neg (by omega), if_pos hk.1, hk.2]; unfold adjS; rw [if_neg (by rintro (h3 | h3); omega; exact hs h3)]
    have hU : (fun e h => und g'.bx u.w e h) = fun e h => und g.bx u.w e h := by funext e k; rw [hr.un, if_pos c, Int.add_zero]
    have hM : Mgv g'.bx u.w = Mgv g.bx u.w := by
      funext u'; apply propext; rw [hr.mg]
      exact ⟨fun h => by rcases h with h | h; exact h; exact absurd c h.1, fun h => .inl h⟩
    rw [hf, hl, hU, hM]
    refine ⟨fun x hx => ?_, h.s1, h.s2, fun k => ?_, h.s4, h.s5⟩
    · rcases adj_mem hx with h1 | h1
      · exact .inr ⟨by omega, rfl⟩
      · exact h.s0 x h1
    · rw [adj_nt hok]
      have := h.s3 k
      unfold b01
      by_cases cs : u.s.getLsbD k = true
      · rw [if_pos ⟨he.symm, cs⟩, if_pos cs]; omega
      · rw [if_neg (fun h => cs h.2), if_neg cs]; omega
  · obtain ⟨e1, e2⟩ := hr.re c
    rw [e1, e2]
    have hM : ∀ u', Mgv g'.bx u.w u' → Mgv g.bx u.w u' ∨ u' = u := fun u' h9 => by
      rcases (hr.mg u.w u').1 h9 with h9 | h9
      · exact .inl h9
      · exact .inr h9.2.1
    have hM2 : ∀ u', Mgv g.bx u.w u' → Mgv g'.bx u.w u' := fun u' h9 => (hr.mg u.w u').2 (.inl h9)
    refine ⟨h.s0, fun u' h9 => ?_, h.s2, fun k => ?_, ?_, fun e k h9 => ?_⟩
    · rcases hM u' h9 with h9 | rfl
      · exact h.s1 u' h9
      · exact .inr ⟨he, rfl, hk3⟩
    · rw [hr.un, if_neg c, hcu]
      have := h.s3 k
      omega
    · rcases h.s4 with h4 | h4 | ⟨u', h4, h5⟩
      · exact .inl h4
      · exact .inr (.inl h4)
      · exact .inr (.inr ⟨u', hM2 u' h4, h5⟩)
    · exact und_zero h9
/-- the end of the wait of epoch e0 -/
theorem MIw.fin {e0 : Int} {wt : Bool} {F : Nat → Int} {g g' : Gs} {a : Nat} {u : Up} (h : MIw e0 wt F (g.flr u.w) (g.ws u.w) (fun e h => und g.bx u.w e h) (Mgv g.bx u.w)) (hr : RV g g' a u) (he : u.e = e0) (hk : u.k = 3) : MIw (e0 + 1) false (fun _ => 0) (g'.flr u.w) (g'.ws u.w) (fun e h => und g'.bx u.w e h) (Mgv g'.bx u.w) := by
  have h2 := h.s2
  have hM : ∀ u', Mgv g'.bx u.w u' → u'.e < e0 + 1 := fun u' h9 => by
    rcases (hr.mg u.w u').1 h9 with h9 | h9
    · rcases h.s1 u' h9 with h1 | h1 <;> omega
    · rw [h9.2.1]; omega
  have hU : ∀ k, und g'.bx u.w (e0 + 1) k = 0 := fun k => und_zero fun u' h9 h10 => by have := hM u' h9; omega
  have hs1 : ∀ u', Mgv g'.bx u.w u' → u'.e < e0 + 1 ∨ (u'.e = e0 + 1 ∧ false = true ∧ u'.k ≠ 3) := fun u' h9 => .inl (hM u' h9)
  by_cases c : u.w % 4 = a
  · obtain ⟨e1, e2⟩ := hr.lo c
    have hf : g'.flr u.w = e0 + 1 := by rw [e1]; unfold apF; rw [if_pos ⟨hk, by omega⟩, he]
    have hl : g'.ws u.w = endL e0 (g.ws u.w) := by rw [e2]; unfold apL; rw [if_neg (by omega), if_neg (by omega), if_pos ⟨hk, by omega⟩, he]
    rw [hf, hl]
    have hs0 : ∀ x, x ∈ endL e0 (g.ws u.w) → x.e < e0 + 1 ∨ (x.e = e0 + 1 ∧ false = true) := fun x hx => by
      have h9 := List.mem_filter.1 hx
      have h10 := of_decide_eq_true h9.2
      rcases h.s0 x h9.1 with h11 | h11 <;> omega
    exact ⟨hs0, hs1, Int.le_refl _, fun k => by rw [hU, end_nt, if_neg (by omega), nt_big h.s0 (by omega)]; rfl, .inr (.inl rfl), fun e k h9 => und_zero h9⟩
  · obtain ⟨e1, e2⟩ := hr.re c
    rw [e1, e2]
    refine ⟨fun x hx => ?_, hs1, by omega, fun k => ?_, .inr (.inr ⟨u, (hr.mg u.w u).2 (.inr ⟨c, rfl, rfl⟩), hk, by omega⟩), fun e k h9 => und_zero h9⟩
    · rcases h.s0 x hx with h1 | h1 <;> exact .inl (by omega)
    · rw [hU, nt_big h.s0 (by omega)]; rfl
/-! publish keeps it -/
theorem MIw.congrF {e0 : Int} {wt : Bool} {F F' : Nat → Int} {fz : Int} {l : List Wt} {U : Int → Nat → Int} {Mg : Up → Prop} (h : MIw e0 wt F fz l U Mg) (hf : ∀ k, F k = F' k) : MIw e0 wt F' fz l U Mg :=
  ⟨h.s0, h.s1, h.s2, fun k => by rw [h.s3 k, hf k], h.s4, h.s5⟩
/-- one task's part of publish -/
theorem pub1_MI {B Q : Int} {g0 g : Gs} {a t w : Nat} {tb : Tab} {ep : Nat → Int} {b : Bt} (ha : a < 4) (hw : w < 16) (hbo : BtOk Q b) (hL : BLg g0 t tb ep b) (hG : GI B Q g) (hq : BQ (B + 2) Q) (hB : 0 ≤ B) (hrm : w % 4 ≠ a → (g.bx (a * 4 + w % 4)).length < 32)
    (h : MIw (g0.ep w) (wtg g0.tb w) (fun k => b01 ((wfg g0.tb w).getLsbD k)) (g.flr w) (g.ws w) (fun e k => und g.bx w e k) (Mgv g.bx w)) :
    MIg (pub1 a b g w) w ep tb := by
  unfold pub1
  by_cases ce : b.ended.getLsbD w = true
  · rw [if_pos ce]
    obtain ⟨h1, h2, h3, h4⟩ := hL.en w hw ce
    have hv := route_RV (g := g) (u := ⟨3, w, b.ep w, 0#16⟩) ha (upok3 hbo hw)
    have h5 := MIw.fin (u := ⟨3, w, b.ep w, 0#16⟩) h hv h4 rfl
    have e1 : wtg tb w = false := by unfold wtg; rw [h2]; rfl
    have e2 : wfg tb w = 0#16 := by unfold wfg WFv; simp only; rw [show waitOn tb w 20 = none from h2]
    unfold MIg
    rw [h3, e1, e2]
    exact h5.congrF (fun k => by simp [b01])
  · have ce' : b.ended.getLsbD w = false := by simpa using ce
    rw [if_neg ce]
    obtain ⟨h2, h3⟩ := hL.ne w hw ce'
    have hdf := hL.df w hw ce'
    have e1 : wtg tb w = wtg g0.tb w := by unfold wtg; rw [h2]
    have step2 : MIw (g0.ep w) (wtg g0.tb w) (fun k => b01 ((wfg g0.tb w).getLsbD k) - b01 ((b.del w).getLsbD k)) ((if b.del w ≠ 0#16 then routeG g a ⟨2, w, b.ep w, b.del w⟩ else g).flr w) ((if b.del w ≠ 0#16 then routeG g a ⟨2, w, b.ep w, b.del w⟩ else g).ws w) (fun e k => und (if b.del w ≠ 0#16 then routeG g a ⟨2, w, b.ep w, b.del w⟩ else g).bx w e k) (Mgv (if b.del w ≠ 0#16 then routeG g a ⟨2, w, b.ep w, b.del w⟩ else g).bx w) ∧ GI (B + 1) Q (if b.del w ≠ 0#16 then routeG g a ⟨2, w, b.ep w, b.del w⟩ else g) ∧ ((if b.del w ≠ 0#16 then routeG g a ⟨2, w, b.ep w, b.del w⟩ else g).bx (a * 4 + w % 4)).length ≤ (g.bx (a * 4 + w % 4)).length + 1 := by
      by_cases cd : b.del w ≠ 0#16
      · rw [if_pos cd]
        obtain ⟨a1, a2⟩ := hL.ad w hw ce' (.inr cd)
        have hwt : wtg g0.tb w = true := by rw [← e1]; exact a2
        have hv := route_RV (g := g) (u := ⟨2, w, b.ep w, b.del w⟩) ha (upok2 hbo hw cd)
        rw [hwt] at h ⊢
        have h6 := MIw.adj (u := ⟨2, w, b.ep w, b.del w⟩) h hv (hG.ok w hw) (by simp only; rw [a1, h3]) cd (.inr ⟨rfl, rfl⟩)
        refine ⟨h6.congrF (fun k => by simp only; omega), ?_, ?_⟩
        · exact hG.route ⟨by have := hq.b; omega, hq.q⟩ ha (upok2 hbo hw cd) hrm
        · rw [route_len2 ha]; split <;> omega
      · rw [if_neg cd]
        have cd' : b.del w = 0#16 := by simpa using cd
        exact ⟨h.congrF (fun k => by rw [cd']; simp [b01]), hG.mono (by omega) (Int.le_refl _), by omega⟩
    obtain ⟨s1, s2, s3⟩ := step2
    generalize (if b.del w ≠ 0#16 then routeG g a ⟨2, w, b.ep w, b.del w⟩ else g) = g1 at s1 s2 s3
    unfold MIg
    rw [h3, e1]
    have hF : ∀ k, b01 ((wfg g0.tb w).getLsbD k) - b01 ((b.del w).getLsbD k) + b01 ((b.add w).getLsbD k) = b01 ((wfg tb w).getLsbD k) := fun k => by
      have := hdf k
      unfold wfg
      omega
    by_cases ca : b.add w ≠ 0#16
    · rw [if_pos ca]
      obtain ⟨a1, a2⟩ := hL.ad w hw ce' (.inl ca)
      have hwt : wtg g0.tb w = true := by rw [← e1]; exact a2
      have hv := route_RV (g := g1) (u := ⟨1, w, b.ep w, b.add w⟩) ha (upok1 hbo hw ca)
      rw [hwt] at s1 ⊢
      have h6 := MIw.adj (u := ⟨1, w, b.ep w, b.add w⟩) s1 hv (s2.ok w hw) (by simp only; rw [a1, h3]) ca (.inl ⟨rfl, rfl⟩)
      exact h6.congrF (fun k => by have := hF k; simp only; omega)
    · rw [if_neg ca]
      have ca' : b.add w = 0#16 := by simpa using ca
      exact s1.congrF (fun k => by have := hF k; rw [ca'] at this; simp [b01] at this ⊢; omega)
theorem pub1_other {g : Gs} {a w x : Nat} {b : Bt} {Q : Int} (ha : a < 4) (hw : w < 16) (hbo : BtOk Q b) (hx : x ≠ w) {e0 : Int} {wt : Bool} {F : Nat → Int} (h : MIw e0 wt F (g.flr x) (g.ws x) (fun e k => und g.bx x e k) (Mgv g.bx x)) : MIw e0 wt F ((pub1 a b g w).flr x) ((pub1 a b g w).ws x) (fun e k => und (pub1 a b g w).bx x e k) (Mgv (pub1 a b g w).bx x) := by
  unfold pub1
  split
  · exact h.frame (route_RV ha (upok3 hbo hw)) hx
  · have h1 : MIw e0 wt F ((if b.del w ≠ 0#16 then routeG g a ⟨2, w, b.ep w, b.del w⟩ else g).flr x) ((if b.del w ≠ 0#16 then routeG g a ⟨2, w, b.ep w, b.del w⟩ else g).ws x) (fun e k => und (if b.del w ≠ 0#16 then routeG g a ⟨2, w, b.ep w, b.del w⟩ else g).bx x e k) (Mgv (if b.del w ≠ 0#16 then routeG g a ⟨2, w, b.ep w, b.del w⟩ else g).bx x) := by
      split
      · rename_i cd; exact h.frame (route_RV ha (upok2 hbo hw cd)) hx
      · exact h
    split
    · rename_i ca; exact h1.frame (route_RV ha (upok1 hbo hw ca)) hx
    · exact h1
theorem pub1_GI {B Q : Int} {g : Gs} {a w : Nat} {b : Bt} (ha : a < 4) (hw : w < 16) (hbo : BtOk Q b) (hG : GI B Q g) (hq : BQ (B + 2) Q) (hB : 0 ≤ B) (hrm : w % 4 ≠ a → (g.bx (a * 4 + w % 4)).length + 2 ≤ 32) : GI (B + 2) Q (pub1 a b g w) := by
  have q0 : BQ B Q := ⟨by have := hq.b; omega, hq.q⟩
  have q1 : BQ (B + 1) Q := ⟨by have := hq.b; omega, hq.q⟩
  unfold pub1
  split
  · exact (hG.route q0 ha (upok3 hbo hw) (fun hn => by have := hrm hn; simp only; omega)).mono (by omega) (Int.le_refl _)
  · have h1 : GI (B + 1) Q (if b.del w ≠ 0#16 then routeG g a ⟨2, w, b.ep w, b.del w⟩ else g) ∧ (w % 4 ≠ a → ((if b.del w ≠ 0#16 then routeG g a ⟨2, w, b.ep w, b.del w⟩ else g).bx (a * 4 + w % 4)).length < 32) := by
      split
      · rename_i cd
        refine ⟨hG.route q0 ha (upok2 hbo hw cd) (fun hn => by have := hrm hn; simp only; omega), fun hn => ?_⟩
        rw [route_len2 ha]
        have := hrm hn
        split <;> omega
      · exact ⟨hG.mono (by omega) (Int.le_refl _), fun hn => by have := hrm hn; omega⟩
    split
    · rename_i ca
      have := h1.1.route q1 ha (upok1 hbo hw ca) h1.2
      rw [show B + 2 = B + 1 + 1 by omega]; exact this
    · exact h1.1.mono (by omega) (Int.le_refl _)
theorem publ_rm {g : Gs} {a : Nat} {b : Bt} (ha : a < 4) (hr : roomP g.bx a 4 = true) {n : Nat} (hn : n < 16) : n % 4 ≠ a → ((publN a b g n).bx (a * 4 + n % 4)).length + 2 ≤ 32 := fun hna => by
  have h1 := publ_len (g := g) (bt := b) ha (b := a * 4 + n % 4) (by omega) n (by omega)
  rw [if_pos (by omega)] at h1
  have h2 := roomP_spec.1 hr (n % 4) (by omega) hna
  omega
theorem publ_GI {B Q : Int} {g : Gs} {a : Nat} {b : Bt} (ha : a < 4) (hbo : BtOk Q b) (hG : GI B Q g) (hq : BQ (B + 40) Q) (hB : 0 ≤ B) (hr : roomP g.bx a 4 = true) : ∀ n : Nat, n ≤ 16 → GI (B + 2 * (n : Int)) Q (publN a b g n)
  | 0, _ => by simpa [publN] using hG
  | n + 1, hn => by
    have ih := publ_GI ha hbo hG hq hB hr n (by omega)
    rw [publN]
    have h1 := pub1_GI (w := n) ha (by omega) hbo ih ⟨by have := hq.b; omega, hq.q⟩ (by omega) (publ_rm ha hr (by omega))
    rw [show B + 2 * ((n + 1 : Nat) : Int) = B + 2 * (n : Int) + 2 by omega]; exact h1
def MIall (g : Gs) : Prop := ∀ w, w < 16 → MIg g w g.ep g.tb
theorem pub1_core (a : Nat) (b : Bt) (g : Gs) (w : Nat) : (pub1 a b g w).ep = g.ep ∧ (pub1 a b g w).tb = g.tb := by
  have hr : ∀ g : Gs, ∀ u, (routeG g a u).ep = g.ep ∧ (routeG g a u).tb = g.tb := fun g u => by unfold routeG; split <;> exact ⟨rfl, rfl⟩
  unfold pub1
  split
  · exact hr _ _
  · split
    · rw [(hr _ _).1, (hr _ _).2]; split
      · exact hr _ _
      · exact ⟨rfl, rfl⟩
    · split
      · exact hr _ _
      · exact ⟨rfl, rfl⟩
theorem publ_core (a : Nat) (b : Bt) (g : Gs) : ∀ n, (publN a b g n).ep = g.ep ∧ (publN a b g n).tb = g.tb
  | 0 => ⟨rfl, rfl⟩
  | n + 1 => by rw [publN, (pub1_core a b _ n).1, (pub1_core a b _ n).2]; exact publ_core a b g n
theorem publ_MI {B Q Q0 : Int} {g : Gs} {a t : Nat} {tb : Tab} {ep : Nat → Int} {b : Bt} (ha : a < 4) (hbo : BtOk Q b) (hL : BLg g t tb ep b) (hG : GI B Q (setC g tb ep)) (hq : BQ (B + 40) Q) (hB : 0 ≤ B) (hr : roomP g.bx a 4 = true) (hM : MIall g) : MIall (publN a b (setC g tb ep) 16) := by
  have key : ∀ n, n ≤ 16 → (∀ w, w < n → MIg (publN a b (setC g tb ep) n) w ep tb) ∧ ∀ w, w < 16 → n ≤ w → MIw (g.ep w) (wtg g.tb w) (fun k => b01 ((wfg g.tb w).getLsbD k)) ((publN a b (setC g tb ep) n).flr w) ((publN a b (setC g tb ep) n).ws w) (fun e k => und (publN a b (setC g tb ep) n).bx w e k) (Mgv (publN a b (setC g tb ep) n).bx w) := by
    intro n
    induction n with
    | zero => exact fun _ => ⟨fun w hw => absurd hw (by omega), fun w hw _ => hM w hw⟩
    | succ n ih =>
      intro hn
      obtain ⟨i1, i2⟩ := ih (by omega)
      have hGn := publ_GI ha hbo hG hq hB hr n (by omega)
      refine ⟨fun w hw => ?_, fun w hw hw2 => ?_⟩
      · rw [publN]
        by_cases c : w = n
        · subst c
          exact pub1_MI ha (by omega) hbo hL hGn ⟨by have := hq.b; omega, hq.q⟩ (by omega) (fun hna => by have := publ_rm (b := b) (g := setC g tb ep) ha hr (n := w) (by omega) hna; omega) (i2 w (by omega) (Nat.le_refl _))
        · exact pub1_other ha (by omega) hbo c (i1 w (by omega))
      · rw [publN]
        exact pub1_other ha (by omega) hbo (by omega) (i2 w hw (by omega))
  intro w hw
  have := (key 16 (Nat.le_refl _)).1 w hw
  have hc := publ_core a b (setC g tb ep) 16
  rw [hc.1, hc.2]; exact this
/-! delivery keeps it -/
theorem uL_cons (w : Nat) (e : Int) (h : Nat) (m : Ms) (l : List Ms) : uL w e h (m :: l) = cM m w e h + uL w e h l := rfl
theorem del_MI {B Q : Int} {g : Gs} {pick : Int} (hG : GI B Q g) (hQ : Q ≤ 1000000000000) (hM : MIall g) : MIall (delG g pick).1 := by
  unfold delG
  split
  · exact hM
  · rename_i x l hx
    have hb := foldB_lt pick
    obtain ⟨_, u, hu, hxu, hdec, _⟩ := hG.pop hQ hx hb
    unfold hdlG
    rw [hdec]
    simp only
    have hcm : ∀ w e k, cM x w e k = cU u w e k := fun w e k => by unfold cM; rw [hdec]
    have hun : ∀ w e k, und (bxU g.bx (foldB pick) l) w e k = und g.bx w e k - cU u w e k := fun w e k => by
      rw [und_upd hb, hx, uL_cons, hcm]; omega
    have hsub : ∀ w u', Mgv (bxU g.bx (foldB pick) l) w u' → Mgv g.bx w u' := fun w u' => by
      rintro ⟨b, hb2, m, hm, hd, hw2⟩
      refine ⟨b, hb2, m, ?_, hd, hw2⟩
      simp only [bxU] at hm
      split at hm
      · rename_i c; subst c; rw [hx]; exact .tail _ hm
      · exact hm
    have hback : ∀ w u', Mgv g.bx w u' → Mgv (bxU g.bx (foldB pick) l) w u' ∨ u' = u := fun w u' => by
      rintro ⟨b, hb2, m, hm, hd, hw2⟩
      by_cases c : b = foldB pick
      · subst c
        rw [hx] at hm
        rcases List.mem_cons.1 hm with rfl | hm
        · rw [hdec] at hd; cases hd; exact .inr rfl
        · exact .inl ⟨_, hb2, m, by simp only [bxU, if_true]; exact hm, hd, hw2⟩
      · exact .inl ⟨b, hb2, m, by simp only [bxU]; rw [if_neg c]; exact hm, hd, hw2⟩
    have hmu : Mgv g.bx u.w u := ⟨_, hb, x, by rw [hx]; exact .head _, hdec, rfl⟩
    intro w hw
    have h := hM w hw
    unfold MIg at h ⊢
    simp only [applyG]
    by_cases cw : w = u.w
    · subst cw
      simp only [updI, updW, if_true]
      have h1 := h.s1 u hmu
      have h2 := h.s2
      have hok := hG.ok u.w hw
      refine ⟨fun y hy => ?_, fun u' h9 => h.s1 u' (hsub _ _ h9), ?_, fun k => ?_, ?_, fun e k h9 => und_zero h9⟩
      · unfold apL adjS at hy
        split at hy
        · split at hy
          · exact h.s0 y hy
          · rcases adj_mem hy with h9 | h9
            · rcases h1 with h1 | h1
              · exact .inl (by omega)
              · exact .inr ⟨by omega, h1.2.1⟩
            · exact h.s0 y h9
        · split at hy
          · split at hy
            · exact h.s0 y hy
            · rcases adj_mem hy with h9 | h9
              · rcases h1 with h1 | h1
                · exact .inl (by omega)
                · exact .inr ⟨by omega, h1.2.1⟩
              · exact h.s0 y h9
          · split at hy
            · exact h.s0 y (List.mem_filter.1 hy).1
            · exact h.s0 y hy
      · unfold apF
        split
        · rename_i c
          rcases h1 with h1 | h1
          · omega
          · exact absurd c.1 h1.2.2
        · exact h2
      · have h3 := h.s3 k
        rw [hun]
        have key : nt (apL u.k (g.flr u.w) (g.ws u.w) u.e u.s) (g.ep u.w) k = nt (g.ws u.w) (g.ep u.w) k + cU u u.w (g.ep u.w) k := by
          have adj : ∀ d, nt (adjS (g.flr u.w) (g.ws u.w) u.e u.s d) (g.ep u.w) k = nt (g.ws u.w) (g.ep u.w) k + (if u.e = g.ep u.w ∧ u.s.getLsbD k = true then d else 0) := fun d => by
            unfold adjS
            split
            · rename_i c
              rw [if_neg]
              · omega
              · rintro ⟨c1, c2⟩
                rcases c with c | c
                · omega
                · rw [c] at c2; simp at c2
            · rw [adj_nt hok]
              by_cases c : u.e = g.ep u.w ∧ u.s.getLsbD k = true
              · rw [if_pos c, if_pos ⟨c.1.symm, c.2⟩]
              · rw [if_neg c, if_neg (fun h => c ⟨h.1.symm, h.2⟩)]
          unfold apL cU
          by_cases k1 : u.k = 1
          · rw [if_pos k1, adj, if_pos k1]; simp only [true_and]
          · rw [if_neg k1, if_neg k1]
            by_cases k2 : u.k = 2
            · rw [if_pos k2, adj, if_pos k2]; simp only [true_and]
            · rw [if_neg k2, if_neg k2]
              have hk3 : u.k = 3 := by rcases hu.k with h9 | h9; exact h9.1; rcases h9.1 with h10 | h10; exact absurd h10 k1; exact absurd h10 k2
              have hlt : u.e < g.ep u.w := by rcases h1 with h1 | h1; exact h1; exact absurd hk3 h1.2.2
              rw [ite_self]
              split
              · rw [end_nt, if_neg (by omega)]; omega
              · omega
        rw [key]; omega
      · rcases h.s4 with h4 | h4 | ⟨u', h4, h5, h6⟩
        · exact .inl h4
        · refine .inr (.inl ?_)
          unfold apF
          split
          · rename_i c
            rcases h1 with h1 | h1
            · omega
            · exact absurd c.1 h1.2.2
          · exact h4
        · rcases hback _ u' h4 with h7 | rfl
          · exact .inr (.inr ⟨u', h7, h5, h6⟩)
          · refine .inr (.inl ?_)
            unfold apF
            split
            · omega
            · rename_i c
              have : ¬ g.flr u'.w ≤ u'.e := fun h9 => c ⟨h5, h9⟩
              omega
    · have e1 : (fun e k => und (bxU g.bx (foldB pick) l) w e k) = fun e k => und g.bx w e k := by funext e k; rw [hun, cU_other (fun e => cw e.symm)]; omega
      have e2 : Mgv (bxU g.bx (foldB pick) l) w = Mgv g.bx w := by
        funext u'; apply propext
        refine ⟨hsub w u', fun h9 => ?_⟩
        rcases hback w u' h9 with h10 | rfl
        · exact h10
        · obtain ⟨_, _, _, _, _, h11⟩ := h9; exact absurd h11.symm cw
      simp only [updI, updW]
      rw [if_neg cw, if_neg cw, e1, e2]; exact h
/-! Acquire keeps it -/
theorem wfg_eq {tb tb' : Tab} {w : Nat} (h1 : waitOn tb' w 20 = waitOn tb w 20) (h2 : ∀ r, waitOn tb w 20 = some r → holdB tb' r = holdB tb r) : wtg tb' w = wtg tb w ∧ wfg tb' w = wfg tb w := by
  refine ⟨by unfold wtg; rw [h1], ?_⟩
  unfold wfg WFv
  simp only [h1]
  cases hq : waitOn tb w 20 with
  | none => rfl
  | some r => simp only; rw [h2 r hq]
theorem waitOn_congr {tb tb' : Tab} {w : Nat} : ∀ n, (∀ r, r < n → tb'.q r = tb.q r) → waitOn tb' w n = waitOn tb w n
  | 0, _ => rfl
  | n + 1, h => by rw [waitOn, waitOn, waitOn_congr n (fun r hr => h r (by omega)), h n (by omega)]
theorem acqN_cases (tb : Tab) (t r : Nat) (u : Int) : (∃ c, acqN tb t r u = (tb, c) ∧ c ≠ 0 ∧ c ≠ 1) ∨ (waitOn tb t 20 = none ∧ tb.q r = [] ∧ acqN tb t r u = (tbU tb r (giveH (tb.held r) ⟨t, u⟩) (tb.q r), 0)) ∨ (waitOn tb t 20 = none ∧ acqN tb t r u = (tbU tb r (tb.held r) (tb.q r ++ [⟨t, u⟩]), 1)) := by
  unfold acqN
  split
  · exact .inl ⟨8, rfl, by decide, by decide⟩
  · rename_i hw
    have hw0 : waitOn tb t 20 = none := by cases hq : waitOn tb t 20 with | none => rfl | some r => rw [hq] at hw; simp at hw
    split
    · exact .inl ⟨7, rfl, by decide, by decide⟩
    · split
      · exact .inl ⟨9, rfl, by decide, by decide⟩
      · split
        · exact .inl ⟨7, rfl, by decide, by decide⟩
        · split
          · rename_i c; exact .inr (.inl ⟨hw0, c.1, rfl⟩)
          · exact .inr (.inr ⟨hw0, rfl⟩)
theorem MIw.wake {e0 : Int} {F : Nat → Int} {fz : Int} {l : List Wt} {U : Int → Nat → Int} {Mg : Up → Prop} (h : MIw e0 false F fz l U Mg) : MIw e0 true F fz l U Mg :=
  ⟨fun x hx => by rcases h.s0 x hx with h1 | h1; exact .inl h1; exact absurd h1.2 (by simp), fun u hu => by rcases h.s1 u hu with h1 | h1; exact .inl h1; exact absurd h1.2.1 (by simp), h.s2, h.s3, h.s4, h.s5⟩
theorem blk_MI {B Q : Int} {g : Gs} {tb' : Tab} {tn rn : Nat} {s : BitVec 16} (hG : GI B Q g) (ht : tn < 16) (hM : MIall g) (hw : waitOn g.tb tn 20 = none) (hwt : waitOn tb' tn 20 = some rn) (hwo : ∀ w, w ≠ tn → waitOn tb' w 20 = waitOn g.tb w 20) (hold : ∀ r', holdB tb' r' = holdB g.tb r') (hs : holdB tb' rn &&& ~~~ bitB tn = s) : MIall (applyG (setC g tb' g.ep) ⟨1, tn, g.ep tn, s⟩) := by
  have hep := hG.ep.bd tn ht
  have hst : s.getLsbD tn = false := by rw [← hs, BitVec.getLsbD_and, BitVec.getLsbD_not, bit_get ht]; simp
  have hh := hM tn ht
  have e1 : wtg g.tb tn = false := by unfold wtg; rw [hw]; rfl
  have e2 : wfg g.tb tn = 0#16 := by unfold wfg WFv; simp only; rw [hw]
  unfold MIg at hh
  rw [e1, e2] at hh
  have hh2 := (hh.wake).congrF (F' := fun _ => 0) (fun k => by simp [b01])
  have e3 : wtg tb' tn = true := by unfold wtg; rw [hwt]; rfl
  have e4 : wfg tb' tn = s := by unfold wfg WFv; simp only; rw [hwt]; simp only; exact hs
  by_cases c0 : s = 0#16
  · have hsame : applyG (setC g tb' g.ep) ⟨1, tn, g.ep tn, s⟩ = setC g tb' g.ep := by
      simp only [applyG, setC, apF1, apL1]
      have a1 : updI g.flr tn (g.flr tn) = g.flr := by funext j; unfold updI; split; (rename_i e9; rw [e9]); rfl
      have a2 : updW g.ws tn (adjS (g.flr tn) (g.ws tn) (g.ep tn) s 1) = g.ws := by funext j; unfold updW adjS; split; (rename_i e9; rw [if_pos (.inr c0), e9]); rfl
      rw [a1, a2]
    rw [hsame]
    intro w hwl
    by_cases cw : w = tn
    · subst cw
      unfold MIg
      simp only [setC]
      rw [e3, e4, c0]
      exact hh2.congrF (fun k => by simp [b01])
    · have h := hM w hwl
      have h2 := wfg_eq (tb := g.tb) (tb' := tb') (w := w) (hwo w cw) (fun r' _ => hold r')
      unfold MIg at h ⊢
      simp only [setC]
      rw [h2.1, h2.2]; exact h
  · have huo : UpOk Q (⟨1, tn, g.ep tn, s⟩ : Up) := ⟨ht, hep, .inr ⟨.inl rfl, c0⟩, hst⟩
    have hv := route_RV (g := setC g tb' g.ep) (a := tn % 4) (u := ⟨1, tn, g.ep tn, s⟩) (by omega) huo
    have hrt : routeG (setC g tb' g.ep) (tn % 4) ⟨1, tn, g.ep tn, s⟩ = applyG (setC g tb' g.ep) ⟨1, tn, g.ep tn, s⟩ := by unfold routeG; rw [if_pos rfl]
    rw [hrt] at hv
    intro w hwl
    by_cases cw : w = tn
    · subst cw
      have h6 := MIw.adj (g := setC g tb' g.ep) (u := ⟨1, w, g.ep w, s⟩) hh2 hv (hG.ok w ht) rfl c0 (.inl ⟨rfl, rfl⟩)
      show MIw (g.ep w) (wtg tb' w) (fun h => b01 ((wfg tb' w).getLsbD h)) _ _ _ _
      rw [e3, e4]
      exact h6.congrF (fun k => by simp only; omega)
    · have h := hM w hwl
      have h2 := wfg_eq (tb := g.tb) (tb' := tb') (w := w) (hwo w cw) (fun r' _ => hold r')
      have h7 := MIw.frame (g := setC g tb' g.ep) h hv cw
      show MIw (g.ep w) (wtg tb' w) (fun h => b01 ((wfg tb' w).getLsbD h)) _ _ _ _
      rw [h2.1, h2.2]; exact h7
theorem blk_wo {tb : Tab} {tn rn : Nat} {u : Int} (hI : TI tb) (hti : TI (tbU tb rn (tb.held rn) (tb.q rn ++ [⟨tn, u⟩]))) (hr : rn < 20) : (∀ w, w ≠ tn → waitOn (tbU tb rn (tb.held rn) (tb.q rn ++ [⟨tn, u⟩])) w 20 = waitOn tb w 20) ∧ waitOn (tbU tb rn (tb.held rn) (tb.q rn ++ [⟨tn, u⟩])) tn 20 = some rn ∧ ∀ r', holdB (tbU tb rn (tb.held rn) (tb.q rn ++ [⟨tn, u⟩])) r' = holdB tb r' := by
  refine ⟨fun w hn => ?_, ?_, fun r' => ?_⟩
  · apply opt_ext; intro r'
    rw [wo_char hti, wo_char hI]
    constructor
    · rintro ⟨hr', x, hx, ex⟩
      refine ⟨hr', x, ?_, ex⟩
      rw [tbU_q] at hx
      split at hx
      · rename_i e9; subst e9
        rcases List.mem_append.1 hx with hx | hx
        · exact hx
        · simp only [List.mem_singleton] at hx; subst hx; exact absurd ex.symm hn
      · exact hx
    · rintro ⟨hr', x, hx, ex⟩
      refine ⟨hr', x, ?_, ex⟩
      rw [tbU_q]
      split
      · rename_i e9; subst e9; exact List.mem_append_left _ hx
      · exact hx
  · exact (wo_char hti).2 ⟨hr, ⟨tn, u⟩, by rw [tbU_q, if_pos rfl]; exact List.mem_append_right _ (List.mem_singleton.2 rfl), rfl⟩
  · unfold holdB tbU; simp only; split; (rename_i e9; rw [e9]); rfl
theorem acq_MI {B Q : Int} {g : Gs} {t r u : Int} (hG : GI B Q g) (hu : u ≤ 16) (hM : MIall g) : MIall (acqG g t r u).1 := by
  unfold acqG
  split
  · rename_i c
    obtain ⟨tn, rfl⟩ : ∃ n : Nat, t = n := ⟨t.toNat, by omega⟩
    obtain ⟨rn, rfl⟩ : ∃ n : Nat, r = n := ⟨r.toNat, by omega⟩
    simp only [Int.toNat_natCast]
    have ht : tn < 16 := by omega
    have hr : rn < 20 := by omega
    have hti := hG.ti.acq (u := u) ht hr hu
    rcases acqN_cases g.tb tn rn u with ⟨cd, e, h0, h1⟩ | ⟨hw, hq, e⟩ | ⟨hw, e⟩
    · rw [e, if_neg h1]
      exact hM
    · rw [e, if_neg (show ¬ (0 : Int) = 1 by decide)]
      intro w hwl
      have h := hM w hwl
      have h2 := wfg_eq (tb := g.tb) (tb' := tbU g.tb rn (giveH (g.tb.held rn) ⟨tn, u⟩) (g.tb.q rn)) (w := w) (waitOn_congr 20 (fun r' _ => by rw [tbU_q]; split; (rename_i e9; rw [e9]); rfl)) (fun r' hr' => by
        refine tbU_hold fun e9 => ?_
        subst e9
        obtain ⟨_, x, hx, _⟩ := wait_mem hr'
        rw [hq] at hx; cases hx)
      unfold MIg at h ⊢
      simp only [setC]
      rw [h2.1, h2.2]; exact h
    · rw [e] at hti ⊢
      obtain ⟨b1, b2, b3⟩ := blk_wo hG.ti hti hr
      rw [if_pos rfl]
      exact blk_MI hG ht hM hw b2 b1 b3 rfl
  · exact hM
theorem abN_ok {t : Nat} (ht : t < 16) : ∀ (rs : List Nat) {z : Tab × ((Nat → Int) × Bt)} {Q : Int}, (∀ r, r ∈ rs → r < 20) → TI z.1 → EpI Q z.2.1 → BtOk Q z.2.2 → TI (abN t z rs).1 ∧ EpI (Q + 16 * rs.length) (abN t z rs).2.1 ∧ BtOk (Q + 16 * rs.length) (abN t z rs).2.2
  | [], z, Q, _, h1, h2, h3 => ⟨h1, h2.mono (by simp), h3.mono (by simp)⟩
  | r :: rs, z, Q, hr, h1, h2, h3 => by
    have h4 := abS_ok ht (hr r (.head _)) h1 h2 h3
    have h5 := abN_ok ht rs (z := abS t z r) (fun r' hr' => hr r' (.tail _ hr')) h4.1 h4.2.1 h4.2.2
    rw [List.length_cons]
    exact ⟨h5.1, h5.2.1.mono (by omega), h5.2.2.mono (by omega)⟩
theorem abK_ok {g : Gs} {t : Nat} {Q : Int} (hI : TI g.tb) (he : EpI Q g.ep) (hQ : 0 ≤ Q) (ht : t < 16) : TI (abK g t).1 ∧ EpI (Q + 400) (abK g t).2.1 ∧ BtOk (Q + 400) (abK g t).2.2 := by
  have h1 := wdK_ok (t := t) (z := (g.ep, bt0)) hI he (bt0_ok hQ)
  have h2 := abN_ok ht (heldBy (wdK g.tb (g.ep, bt0) t).1 t) (z := ((wdK g.tb (g.ep, bt0) t).1, (wdK g.tb (g.ep, bt0) t).2.1)) (fun r hr => heldBy_lt hr) h1.1 h1.2.1 h1.2.2
  have h3 := heldBy_len (wdK g.tb (g.ep, bt0) t).1 t
  exact ⟨h2.1, h2.2.1.mono (by omega), h2.2.2.mono (by omega)⟩
theorem step_MI {B Q : Int} {g : Gs} {o : DO} (hG : GI B Q g) (hq : BQ (B + 40) (Q + 400)) (hB : 0 ≤ B) (hQ : 0 ≤ Q) (hM : MIall g) : MIall (stepG g o).1 := by
  have hq1 := hq.q
  unfold stepG
  split
  · exact acq_MI hG (nm17 o.c).2 hM
  · split
    · simp only
      unfold relG
      split
      · rename_i c1
        split
        · rename_i c2
          split
          · rename_i c3
            have ht : (nmP o.a 16).toNat < 16 := by omega
            have hrel := hG.ti.rel (r := nmP o.b 20) ht
            have hrr := rel_r c3
            have hcp := hcP_ok (bf := bfR g.tb (nmP o.b 20)) (z := (g.ep, bt0)) hrel.1 (r := (nmP o.b 20).toNat) (by omega) hG.ep (bt0_ok hQ) hrel.2.2
            exact publ_MI (Q0 := Q) (by omega) (hcp.2.mono (show Q + 16 ≤ Q + 400 by omega)) (rel_BL hG.ti ht c3) (hG.core (by omega) hrel.1 (hcp.1.mono (by omega))) hq hB c2 hM
          · exact hM
        · exact hM
      · exact hM
    · split
      · simp only
        unfold canG
        split
        · rename_i c1
          obtain ⟨a1, a2, a3⟩ := adm_0 c1
          split
          · have ht : (nmP o.a 16).toNat < 16 := by omega
            have hwd := wdK_ok (t := (nmP o.a 16).toNat) (z := (g.ep, bt0)) hG.ti hG.ep (bt0_ok hQ)
            exact publ_MI (Q0 := Q) (by omega) (hwd.2.2.mono (show Q + 17 ≤ Q + 400 by omega)) (can_BL hG.ti ht) (hG.core (by omega) hwd.1 (hwd.2.1.mono (by omega))) hq hB a3 hM
          · exact hM
        · exact hM
      · split
        · simp only
          unfold abG
          split
          · rename_i c1
            obtain ⟨a1, a2, a3⟩ := adm_0 c1
            have ht : (nmP o.a 16).toNat < 16 := by omega
            have hab := abK_ok (t := (nmP o.a 16).toNat) hG.ti hG.ep hQ ht
            exact publ_MI (Q0 := Q) (by omega) (hab.2.2.mono (show Q + 400 ≤ Q + 400 by omega)) (abo_BL hG.ti ht hG.ep hQ) (hG.core (by omega) hab.1 (hab.2.1.mono (by omega))) hq hB a3 hM
          · exact hM
        · split
          · exact del_MI hG (by omega) hM
          · exact hM
theorem MI00 : MIall g00 := by
  intro w hw
  refine ⟨fun x hx => (nomatch hx), ?_, Int.le_refl _, fun h => ?_, .inl rfl, fun e h h9 => und_zero h9⟩
  · rintro u ⟨b, _, m, hm, _⟩
    exact (nomatch hm)
  · have h1 : und g00.bx w (g00.ep w) h = 0 := und_zero (by rintro u ⟨b, _, m, hm, _⟩; exact (nomatch hm))
    have h2 : waitOn g00.tb w 20 = none := by
      cases hq : waitOn g00.tb w 20 with
      | none => rfl
      | some r => obtain ⟨_, x, hx, _⟩ := wait_mem hq; exact (nomatch hx)
    have h3 : wfg g00.tb w = 0#16 := by unfold wfg WFv; simp only; rw [h2]
    show nt (g00.ws w) (g00.ep w) h + und g00.bx w (g00.ep w) h = b01 ((wfg g00.tb w).getLsbD h)
    rw [h1, h3]
    simp [g00, nt, b01]

end Go.Proofs.Qxb6500911aGreatDoor

import Derived.Test.Qxb6500908aY6
namespace Go.Proofs.Qxb6500908a
open Go.Eng
set_option linter.unusedVariables false
set_option linter.unusedSimpArgs false

attribute [local irreducible] postP orB sh1 bitIn handP

/-! ## honest devices: an input of the gate -/
section
variable {dv : List DeP} {A B : Ms → Prop}
theorem gu_st {s s' : StP} {au : Bool} {dn ys : Int} (h : GU s dv A B au dn ys) (h1 : s'.ep = s.ep) (h2 : s'.ph = s.ph) (h3 : s'.fid = s.fid) : GU s' dv A B au dn ys := ⟨by rw [h1]; exact h.a1, by rw [h1, h2]; exact h.a2, by rw [h2, h3]; exact h.a3, by rw [h2, h3]; exact h.b3, by rw [h2, h3]; exact h.a4⟩
theorem tr_h {g : GtP} {i : InP} {s : StP} {g1 : GtP} (ht : Tr g i s g1) (hg : GtI g) (h : HS g.st dv A B) (hu : GU g.st dv A B g.au g.dn g.ys) (hi : i.k = 7 → B i.m) : HS s dv A B ∧ GU s dv A B g1.au g1.dn g1.ys := by
  have hs := (ht.sti hg).1
  have b0 : ∀ j, j < 16 → ¬ bitIn 0 j = true := fun j hj => by
    rw [bit_iff hj, show bv 0 = 0#16 from rfl, BitVec.getLsbD_zero]; simp
  cases ht with
  | start b q n hk h0 hq =>
    have hb := hg.qv b (by rw [hq]; exact List.mem_cons_self ..)
    have hH := hs_start h h0 hb.1 hb.2.1 hs
    exact ⟨hH, ⟨fun a => (by cases a), fun a => (by cases a), fun j D _ _ p => by have p : (1 : Int) = 3 := p; omega, fun j D _ _ p => by have p : (1 : Int) = 2 := p; omega, fun _ j D hD b => absurd b (b0 j (dv_lt hH hD))⟩⟩
  | dec c y t h1 hw =>
    have hau : g.au = false := by
      cases e : g.au with
      | false => rfl
      | true => have := hg.au e; omega
    have hH := hs_dec h h1 (c := c) (fun hc j D hD => by
      subst hc
      rcases hw with h9 | h9 | h9 | h9
      · exact absurd h9.2.1 (by simp)
      · exact absurd h9.2.2.1 (by simp)
      · exact absurd h9.2.2.2.2.1 (by simp)
      · obtain ⟨k7, ⟨_, _, hm16, _, hmb⟩, k4, hy, ho, _⟩ := h9
        obtain ⟨D2, h8, h7⟩ := h.gm i.m (hi k7)
        have hj := dv_lt h hD
        have h6 := bit_nat (x := g.ys) h7.d hm16 hj
        rw [ho, bit_all hj] at h6
        rcases Bool.or_eq_true_iff.1 h6.symm with h5 | h5
        · exact hu.a4 h1 j D hD h5
        · have e := of_decide_eq_true h5
          rw [e, h8] at hD
          injection hD with hD
          rw [← hD]; exact h7.k4 k4 hy h1 hmb) hs
    refine ⟨hH, ⟨fun a => ?_, fun a => ?_, fun j D hD b => absurd b (b0 j (dv_lt hH hD)), fun j D hD b => absurd b (b0 j (dv_lt hH hD)), fun p => ?_⟩⟩
    · have a : g.au = true := a; rw [hau] at a; cases a
    · have a : g.au = true := a; rw [hau] at a; cases a
    · simp only [setlP] at p; split at p <;> omega
  | cls hk hc hd =>
    have hm := hi hk
    obtain ⟨D2, h8, c2, c3⟩ := hs_cnf h rfl hu hm hc
    obtain ⟨D3, h7, h6⟩ := h.gm i.m hm
    have hm16 := hc.1.2.2.1
    have h23 : g.st.ph = 2 ∨ g.st.ph = 3 := by
      have := hg.s.p; have := hc.1.2.1
      rcases hc.2 with h9 | h9 | h9 <;> omega
    have hH := hs_cls h h23 (fun j D hD => by
      have d := h.dev j D hD
      have hj := dv_lt h hD
      have h5 := bit_nat (x := g.dn) h6.d hm16 hj
      rw [hd, bit_all hj] at h5
      have key : (g.st.ph = 2 → ¬ D.sg = g.st.fid) ∧ (g.st.ph = 3 → D.sg = 0 ∧ ∀ x, A x → x.k = 0 → x.d.toNat = j → x.b = g.st.fid → D.fin g.st.fid = true ∨ x.e < D.ep) := by
        rcases Bool.or_eq_true_iff.1 h5.symm with h4 | h4
        · exact ⟨hu.b3 j D hD h4, hu.a3 j D hD h4⟩
        · have e := of_decide_eq_true h4
          subst e
          rw [h8] at hD
          injection hD with hD
          subst hD
          exact ⟨c2, c3⟩
      rcases h23 with p | p
      · have hn := key.1 p
        have hr : D.rn = g.st.fid := (d.p2 p).resolve_left hn
        refine ⟨?_, fun _ => hr, fun _ _ _ _ _ => .inl ?_⟩
        · rcases d.sg with h9 | h9
          · exact h9
          · exact absurd h9.2.1 hn
        · rcases d.fr with h9 | h9
          · exact absurd (hr.symm.trans h9) (hg.s.f1 (by omega))
          · rw [← hr]; exact h9
      · exact ⟨(key.2 p).1, fun p2 => by omega, (key.2 p).2⟩) hs
    exact ⟨hH, ⟨fun a => (by cases a), fun a => (by cases a), fun j D _ _ p => by have p : (0 : Int) = 3 := p; omega, fun j D _ _ p => by have p : (0 : Int) = 2 := p; omega, fun p => by have p : (0 : Int) = 1 := p; omega⟩⟩
  | abq hk hq =>
    obtain ⟨b, hb, he⟩ := qix_in hq
    have hb := hg.qv b (List.mem_of_getElem? hb)
    rw [he] at hb
    exact ⟨hs_vd h hb.2.1 hs, gu_st hu rfl rfl rfl⟩
  | add hk hw hh hl => exact ⟨hs_is h hs, gu_st hu rfl rfl rfl⟩
  | drop hk hh => exact ⟨hs_is h hs, gu_st hu rfl rfl rfl⟩
theorem qt_h {g : GtP} {i : InP} {g1 : GtP} (ht : Qt g i g1) (hg : GtI g) (h : HS g.st dv A B) (hu : GU g.st dv A B g.au g.dn g.ys) (hi : i.k = 7 → B i.m) : GU g.st dv A B g1.au g1.dn g1.ys := by
  cases ht with
  | yes hk hh h4 h1 hy hn =>
    obtain ⟨_, _, hm16, _, hmb⟩ := hh
    obtain ⟨D2, h8, h7⟩ := h.gm i.m (hi hk)
    refine ⟨hu.a1, hu.a2, hu.a3, hu.b3, fun p j D hD b => ?_⟩
    have h6 := bit_nat (x := g.ys) h7.d hm16 (dv_lt h hD)
    rcases Bool.or_eq_true_iff.1 (h6.symm.trans b) with h5 | h5
    · exact hu.a4 h1 j D hD h5
    · have e := of_decide_eq_true h5
      rw [e, h8] at hD
      injection hD with hD
      rw [← hD]; exact h7.k4 h4 hy h1 hmb
  | cnf hk hc hn =>
    have hm := hi hk
    obtain ⟨D2, h8, c2, c3⟩ := hs_cnf h rfl hu hm hc
    obtain ⟨D3, h7, h6⟩ := h.gm i.m hm
    have hm16 := hc.1.2.2.1
    have key : ∀ j D, dv[j]? = some D → bitIn (orB g.dn (sh1 i.m.d)) j = true → (g.st.ph = 2 → ¬ D.sg = g.st.fid) ∧ (g.st.ph = 3 → D.sg = 0 ∧ ∀ x, A x → x.k = 0 → x.d.toNat = j → x.b = g.st.fid → D.fin g.st.fid = true ∨ x.e < D.ep) := by
      intro j D hD b
      have h5 := bit_nat (x := g.dn) h6.d hm16 (dv_lt h hD)
      rcases Bool.or_eq_true_iff.1 (h5.symm.trans b) with h4 | h4
      · exact ⟨hu.b3 j D hD h4, hu.a3 j D hD h4⟩
      · have e := of_decide_eq_true h4
        subst e
        rw [h8] at hD
        injection hD with hD
        subst hD
        exact ⟨c2, c3⟩
    exact ⟨hu.a1, hu.a2, fun j D hD b => (key j D hD b).2, fun j D hD b => (key j D hD b).1, hu.a4⟩
  | _ => exact ⟨hu.a1, hu.a2, hu.a3, hu.b3, hu.a4⟩
theorem hi_gin {g : GtP} {l : LdP} {i : InP} {r : GtP × LdP} {A' : Ms → Prop} (hg : GtI g) (hs : g.st = l.d) (h : HS l.d dv A B) (hu : GU l.d dv A B g.au g.dn g.ys) (hi : i.k = 7 → B i.m) (hr : GinR g l i r) (hA : ∀ m, A' m → A m ∨ m ∈ r.1.out) :
    HS r.2.d dv A' B ∧ (r.1.off = false → GU r.2.d dv A' B r.1.au r.1.dn r.1.ys) := by
  obtain ⟨r1, r2⟩ := r
  have go : ∀ (s : StP) (g1 : GtP), HS s dv A B → GU s dv A B g1.au g1.dn g1.ys → GtI { g1 with out := [] } → g1.st = s → (g1.out = [] ∨ g1.out = pushP g1) → (∀ m, A' m → A m ∨ m ∈ g1.out) → HS s dv A' B ∧ GU s dv A' B g1.au g1.dn g1.ys := by
    intro s g1 h1 h2 h3 h4 h5 h6
    rcases h5 with h5 | h5
    · have h7 : ∀ m, A' m → A m := fun m hm => (h6 m hm).resolve_right (by rw [h5]; exact List.not_mem_nil)
      exact ⟨h1.sub h7 (fun _ h => h), h2.sub h7 (fun _ h => h)⟩
    · rw [h5] at h6
      exact ⟨hs_push h1 h4 (fun p => by have := h3.sl (by show g1.st.ph = 1; rw [h4]; exact p); rw [← h4]; exact this) h6, gu_push h2 (fun a => by have := h3.au a; rw [← h4]; exact this) h4 h6⟩
  rcases hr with ⟨h1, h2⟩ | ⟨s, g1, h1, h2⟩
  · have h1 : r2 = l := h1
    subst h1
    have hq := h2.gti hg
    have h3 := qt_h h2 hg (by rw [hs]; exact h) (by rw [hs]; exact hu) hi
    rw [hs] at h3
    obtain ⟨a, b⟩ := go r2.d r1 h h3 hq.1 (hq.2.trans hs) (h2.out hg) hA
    exact ⟨a, fun _ => b⟩
  · have h3 := tr_h h1 hg (by rw [hs]; exact h) (by rw [hs]; exact hu) hi
    rcases h2 with ⟨e1, e2, _⟩ | ⟨e1, e2, _, e3, _⟩
    · have e1 : r1 = g1 := e1
      have e2 : r2.d = s := e2
      subst e1
      obtain ⟨a, b⟩ := go s r1 h3.1 h3.2 (h1.gti hg) (h1.sti hg).2 (h1.out hg) hA
      show HS r2.d dv A' B ∧ (r1.off = false → GU r2.d dv A' B r1.au r1.dn r1.ys)
      rw [e2]
      exact ⟨a, fun _ => b⟩
    · have e1 : r1.off = true := e1
      have e2 : r1.out = [] := e2
      have h7 : ∀ m, A' m → A m := fun m hm => (hA m hm).resolve_right (by show ¬ m ∈ r1.out; rw [e2]; exact List.not_mem_nil)
      refine ⟨?_, fun e => by have e : r1.off = false := e; rw [e1] at e; cases e⟩
      show HS r2.d dv A' B
      rcases e3 with e3 | e3
      · have e3 : r2.d = s := e3
        rw [e3]; exact h3.1.sub h7 (fun _ h => h)
      · have e3 : r2.d = l.d := e3
        rw [e3]; exact h.sub h7 (fun _ h => h)
end
structure HI (W : WoP) : Prop where
  h : HS W.l.d W.dv (fun m => m ∈ W.td ∨ m ∈ W.xd) (fun m => m ∈ W.tg ∨ m ∈ W.xg)
  up : ∀ g, W.g = some g → GU W.l.d W.dv (fun m => m ∈ W.td ∨ m ∈ W.xd) (fun m => m ∈ W.tg ∨ m ∈ W.xg) g.au g.dn g.ys
  hn : W.hn = true
theorem HI.mov {W : WoP} {td xd tg xg : List Ms} (h : HI W) (h1 : ∀ m, m ∈ td ∨ m ∈ xd → m ∈ W.td ∨ m ∈ W.xd) (h2 : ∀ m, m ∈ tg ∨ m ∈ xg → m ∈ W.tg ∨ m ∈ W.xg) : HI { W with td := td, xd := xd, tg := tg, xg := xg } := ⟨h.h.sub h1 h2, fun g hg => (h.up g hg).sub h1 h2, h.hn⟩
theorem HI.hand {W : WoP} {m : Ms} {r : List Ms} {d : DeP} (h : HI W) (hx : W.xd = m :: r) (hd : W.dv[m.d.toNat]? = some d) : HI (hndW W m r d) := by
  have hm : m ∈ W.td ∨ m ∈ W.xd := .inr (by rw [hx]; exact List.mem_cons_self ..)
  obtain ⟨a, b⟩ := hs_hand h.h hm hd (A' := fun m => m ∈ W.td ∨ m ∈ r) (B' := fun m' => m' ∈ postO W.tg (handP d m).2 ∨ m' ∈ W.xg) (fun x hx' => hx'.imp (fun z => z) (fun z => by rw [hx]; exact List.mem_cons_of_mem _ z)) (fun x hx' => by
    rcases hx' with h9 | h9
    · rcases postO_mem h9 with h8 | h8
      · exact .inl (.inl h8)
      · exact .inr h8
    · exact .inl (.inr h9))
  exact ⟨a, fun g hg => b _ _ _ (h.up g hg), h.hn⟩
theorem HI.feed {n : Nat} {W : WoP} {g : GtP} {i : InP} (h : HI W) (hw : WI n W) (hg : W.g = some g) (hi : i.k = 7 → i.m ∈ W.tg ∨ i.m ∈ W.xg) {xg : List Ms} (hx : ∀ m, m ∈ xg → m ∈ W.xg) : HI (fedG { W with xg := xg } g i) := by
  obtain ⟨h1, h2, h3⟩ := hw.g g hg
  obtain ⟨a, b⟩ := hi_gin (r := (ginP g W.l i).1) (A' := fun m => m ∈ postP W.td (ginP g W.l i).1.1.out ∨ m ∈ W.xd) h1 h2 h.h (h.up g hg) hi (gin_cs h1 h3) (fun m hm => by
    rcases hm with h9 | h9
    · rcases postP_mem h9 with h8 | h8
      · exact .inl (.inl h8)
      · exact .inr h8
    · exact .inl (.inr h9))
  have hB : ∀ m, m ∈ W.tg ∨ m ∈ xg → m ∈ W.tg ∨ m ∈ W.xg := fun m hm => hm.imp (fun z => z) (hx m)
  unfold fedG
  show HI (if (ginP g W.l i).1.1.off = true then _ else _)
  split
  · exact ⟨a.sub (fun _ z => z) hB, fun g' e => (by cases e), h.hn⟩
  · rename_i ho
    have ho : (ginP g W.l i).1.1.off = false := by
      cases e : (ginP g W.l i).1.1.off with
      | false => rfl
      | true => exact absurd e ho
    refine ⟨a.sub (fun _ z => z) hB, fun g' e => ?_, h.hn⟩
    have e : some { (ginP g W.l i).1.1 with out := [] } = some g' := e
    injection e with e
    rw [← e]
    exact (b ho).sub (fun _ z => z) hB
theorem hs_ops {s : StP} {dv : List DeP} {A B : Ms → Prop} (h : HS s dv A B) : HS (opS s) dv A B := by
  have hs := (ops_sti h.st).1
  unfold opS at hs ⊢
  split
  · rename_i h1
    rw [if_pos h1] at hs
    exact hs_dec (hs_ep h) h1 (fun e => by cases e) hs
  · exact hs_ep h
theorem HI.boot {W : WoP} (h : HI W) (hg : W.g = none) : HI (bootW W) := by
  have hb := boot_cs h.h.st
  have hop := ops_sti h.h.st
  have hH : HS (bootP W.l).2.d W.dv (fun m => m ∈ W.td ∨ m ∈ W.xd) (fun m => m ∈ W.tg ∨ m ∈ W.xg) := by
    rcases hb.d with e | e
    · rw [e]; exact hs_ops h.h
    · rw [e.1]; exact h.h
  unfold bootW
  split
  · exact ⟨hH, fun g e => (by have e : W.g = some g := e; rw [hg] at e; cases e), h.hn⟩
  · rename_i g e
    obtain ⟨h1, h2, h3, h4, h5⟩ := hb.up g e
    have hA : ∀ m, m ∈ postP W.td g.out ∨ m ∈ W.xd → (m ∈ W.td ∨ m ∈ W.xd) ∨ m ∈ pushP (gt0 (bootP W.l).2.d) := fun m hm => by
      rcases hm with h9 | h9
      · rcases postP_mem h9 with h8 | h8
        · exact .inl (.inl h8)
        · rw [h4] at h8; exact .inr h8
      · exact .inl (.inr h9)
    have hp1 : ¬ (bootP W.l).2.d.ph = 1 := by rw [h5]; exact hop.2.2.2.2.2.2.2.1
    refine ⟨hs_push hH (g1 := gt0 (bootP W.l).2.d) rfl (fun p => absurd p hp1) hA, fun g' e' => ?_, h.hn⟩
    have e' : some { g with out := [] } = some g' := e'
    injection e' with e'
    rw [← e']
    show GU (bootP W.l).2.d W.dv _ _ g.au g.dn g.ys
    have b0 : ∀ j, j < 16 → ¬ bitIn 0 j = true := fun j hj => by
      rw [bit_iff hj, show bv 0 = 0#16 from rfl, BitVec.getLsbD_zero]; simp
    have hdn : g.dn = 0 := by rw [h4]; rfl
    have hep : (bootP W.l).2.d.ep = W.l.d.ep + 1 := by rw [h5]; exact hop.2.2.2.2.2.2.1
    refine gu_push (A := fun m => m ∈ W.td ∨ m ∈ W.xd) ⟨fun _ m hm _ => ?_, fun _ _ m D hm hD _ _ e9 => ?_, fun j D hD b => ?_, fun j D hD b => ?_, fun p => absurd p hp1⟩ (fun a => ?_) (g1 := gt0 (bootP W.l).2.d) rfl hA
    · obtain ⟨D, _, h8⟩ := h.h.dm m hm
      have := h8.e
      rw [hep]; omega
    · exfalso
      obtain ⟨D', h7, h8⟩ := h.h.gm m hm
      have h6 := (h.h.dev _ D' h7).ep
      have h5 := h8.e
      rw [hep] at e9
      omega
    · rw [hdn] at b; exact absurd b (b0 j (dv_lt h.h hD))
    · rw [hdn] at b; exact absurd b (b0 j (dv_lt h.h hD))
    · have := h1.au a
      rw [← h2]; exact this
theorem HI.led {W : WoP} {l' : LdP} (h : HI W) (hd : l'.d = W.l.d) : HI { W with l := l' } := ⟨by show HS l'.d _ _ _; rw [hd]; exact h.h, fun g e => by show GU l'.d _ _ _ _ _ _; rw [hd]; exact h.up g e, h.hn⟩
theorem HI.fall {W : WoP} {l' : LdP} (h : HI W) (hd : l'.d = W.l.d) : HI { W with l := l', g := none } := ⟨by show HS l'.d _ _ _; rw [hd]; exact h.h, fun g e => (by cases e), h.hn⟩
theorem HI.stub {W : WoP} {i : Nat} {d : DeP} (b : Bool) (h : HI W) (hd : W.dv[i]? = some d) : HI { W with dv := W.dv.set i { d with sb := b } } := by
  have hdv := h.h.dev i d hd
  have h9 : DevI W.l.d i { d with sb := b } := ⟨hdv.id, hdv.ep, hdv.rn, hdv.sg, hdv.fr, hdv.fs, hdv.p2⟩
  refine ⟨⟨h.h.st, by rw [List.length_set]; exact h.h.dl, h.h.sv, h.h.sf, fun j D hD => ?_, fun m hm => ?_, fun m hm => ?_⟩, fun g hg => ?_, h.hn⟩
  · rcases set_at hd hD with ⟨rfl, rfl⟩ | ⟨_, h8⟩
    · exact h9
    · exact h.h.dev j D h8
  · obtain ⟨D, h1, h2⟩ := h.h.dm m hm
    exact set_ex hd h1 h2 (fun _ e => by subst e; exact ⟨h2.d, h2.e, h2.u, h2.k0, h2.k1, h2.k2⟩)
  · obtain ⟨D, h1, h2⟩ := h.h.gm m hm
    exact set_ex hd h1 h2 (fun _ e => by subst e; exact ⟨h2.d, h2.e, h2.u, h2.k4, h2.k5, h2.k6, h2.k7⟩)
  · have u := h.up g hg
    refine ⟨u.a1, fun a p m D hm hD k z e => ?_, fun j D hD b p => ?_, fun j D hD b p => ?_, fun p j D hD b => ?_⟩
    · rcases set_at hd hD with ⟨e1, rfl⟩ | ⟨_, h8⟩
      · exact u.a2 a p m d hm (by rw [e1]; exact hd) k z e
      · exact u.a2 a p m D hm h8 k z e
    · rcases set_at hd hD with ⟨rfl, rfl⟩ | ⟨_, h8⟩
      · exact u.a3 _ d hd b p
      · exact u.a3 j D h8 b p
    · rcases set_at hd hD with ⟨rfl, rfl⟩ | ⟨_, h8⟩
      · exact u.b3 _ d hd b p
      · exact u.b3 j D h8 b p
    · rcases set_at hd hD with ⟨rfl, rfl⟩ | ⟨_, h8⟩
      · exact u.a4 p _ d hd b
      · exact u.a4 p j D h8 b
theorem sti_0 : StI sp0 := ⟨by simp [sp0], fun _ => rfl, fun h => absurd rfl h, fun h => by simp [sp0] at h, fun h => by simp [sp0] at h, fun h => by simp [sp0] at h, rfl, fun i c h => (by cases h), List.nodup_nil, Nat.zero_le _, by simp [sp0]⟩

end Go.Proofs.Qxb6500908a

import Derived.Test.Qxb6500915aGreatDoorK0
namespace Go.Proofs.Qxb6500915aGreatDoor
open Go.Eng
set_option linter.unusedVariables false
set_option linter.unusedSimpArgs false

/-! ## states of two searches -/
section iso2
def unpl (n : Nat) (c : Core) : List Nat := (List.range n).filter fun j => !(bt c.1 j)
theorem mem_unpl {n : Nat} {c : Core} {j : Nat} : j ∈ unpl n c ↔ j < n ∧ bt c.1 j = false := by unfold unpl; rw [List.mem_filter, List.mem_range]; simp
theorem unpl_nd (n : Nat) (c : Core) : (unpl n c).Nodup := List.Pairwise.filter _ List.nodup_range
theorem unpl_new {n : Nat} (hn : n ≤ 64) {c : Core} {l : Lt} {li : Nat} (hl : li < n) : unpl n (newC c l li) = (unpl n c).filter (fun x => x != li) := by
  unfold unpl newC
  rw [List.filter_filter]
  apply List.filter_congr
  intro j hj
  rw [List.mem_range] at hj
  simp only
  rw [bt_or _ (by omega)]
  by_cases h : li = j
  · simp [h]
  · have : ¬ j = li := fun h9 => h h9.symm
    simp [h, this]
def rdJ (B : List Lt) (c : Core) (j : Nat) : Lt := rdL c.2 (Bj B j)
/-- nothing unnumbered of literal j occurs in another literal still to place -/
def prvA (B : List Lt) (c : Core) (j : Nat) : Prop := ∀ v, v ∈ vN (Bj B j).a → fnI c.2.1 v = -1 → ∀ i, i ∈ unpl B.length c → i ≠ j → v ∉ vN (Bj B i).a
/-- where the variables occur -/
def OcI (B : List Lt) (oc : List Int) : Prop := ∀ v i, v < oc.length → i < 64 → (bt (fnI oc v) i = true ↔ i < B.length ∧ v ∈ vN (Bj B i).a)
/-- the labelled literals of two states are the same -/
structure SEN (B B' : List Lt) (vs vs' : Nat) (N N' : Nat → Int) (c c' : Core) : Prop where
  i : InjN N vs
  i' : InjN N' vs'
  r : Cmp2 N N' vs vs' c.2 c'.2
  m : ((unpl B.length c).map (fun j => lab N (Bj B j))).Perm ((unpl B'.length c').map (fun j => lab N' (Bj B' j)))
theorem Cmp2.symm {N N' : Nat → Int} {vs vs' : Nat} {s s' : Nm} (h : Cmp2 N N' vs vs' s s') : Cmp2 N' N vs' vs s' s := ⟨h.l', h.l, h.nx.symm, fun v v' hv hv' e => (h.r v' v hv' hv e.symm).symm⟩
theorem SEN.symm {B B' : List Lt} {vs vs' : Nat} {N N' : Nat → Int} {c c' : Core} (h : SEN B B' vs vs' N N' c c') : SEN B' B vs' vs N' N c' c := ⟨h.i', h.i, h.r.symm, h.m.symm⟩
theorem SEN.fnd {B B' : List Lt} {vs vs' : Nat} {N N' : Nat → Int} {c c' : Core} (h : SEN B B' vs vs' N N' c c') {p : Nat} (hp : p ∈ unpl B.length c) : ∃ p', p' ∈ unpl B'.length c' ∧ lab N (Bj B p) = lab N' (Bj B' p') := by
  have h1 := h.m.mem_iff.1 (List.mem_map.2 ⟨p, hp, rfl⟩)
  obtain ⟨p', h2, h3⟩ := List.mem_map.1 h1
  exact ⟨p', h2, h3.symm⟩
theorem SEN.rd {B B' : List Lt} {vs vs' : Nat} {N N' : Nat → Int} {c c' : Core} (h : SEN B B' vs vs' N N' c c') (hB : DnL vs B) (hB' : DnL vs' B') {p p' : Nat} (e : lab N (Bj B p) = lab N' (Bj B' p')) : rdJ B c p = rdJ B' c' p' := (simL h.i h.i' h.r (Bj_dn hB p) (Bj_dn hB' p') e).2
theorem perm_rest {N N' : Nat → Int} {B B' : List Lt} {L L' : List Nat} (hd : L.Nodup) (hd' : L'.Nodup) (hm : (L.map (fun j => lab N (Bj B j))).Perm (L'.map (fun j => lab N' (Bj B' j)))) {p p' : Nat} (hp : p ∈ L) (hp' : p' ∈ L') (e : lab N (Bj B p) = lab N' (Bj B' p')) : ((L.filter (fun x => x != p)).map (fun j => lab N (Bj B j))).Perm ((L'.filter (fun x => x != p')).map (fun j => lab N' (Bj B' j))) := by
  have h1 := (List.perm_cons_erase hp).map (fun j => lab N (Bj B j))
  have h2 := (List.perm_cons_erase hp').map (fun j => lab N' (Bj B' j))
  rw [List.Nodup.erase_eq_filter hd] at h1
  rw [List.Nodup.erase_eq_filter hd'] at h2
  have h3 := (h1.symm.trans hm).trans h2
  rw [List.map_cons, List.map_cons, e] at h3
  exact h3.cons_inv
/-- literals with one label are picked in both -/
theorem SEN.pick {B B' : List Lt} {vs vs' : Nat} {N N' : Nat → Int} {c c' : Core} (h : SEN B B' vs vs' N N' c c') (hn : B.length ≤ 64) (hn' : B'.length ≤ 64) (hB : DnL vs B) (hB' : DnL vs' B') {p p' : Nat} (hp : p ∈ unpl B.length c) (hp' : p' ∈ unpl B'.length c') (e : lab N (Bj B p) = lab N' (Bj B' p')) : SEN B B' vs vs' N N' (newC c (Bj B p) p) (newC c' (Bj B' p') p') := by
  refine ⟨h.i, h.i', (simL h.i h.i' h.r (Bj_dn hB p) (Bj_dn hB' p') e).1, ?_⟩
  rw [unpl_new hn (mem_unpl.1 hp).1, unpl_new hn' (mem_unpl.1 hp').1]
  exact perm_rest (unpl_nd _ _) (unpl_nd _ _) h.m hp hp' e
theorem lab_vN {N : Nat → Int} {l : Lt} {x : Int} : (∃ v, v ∈ vN l.a ∧ N v = x) ↔ ∃ t, t ∈ (lab N l).a ∧ t.k = 0 ∧ t.v = x := by
  rw [lab_a]
  constructor
  · rintro ⟨v, hv, rfl⟩
    obtain ⟨t, ht, hk, e⟩ := mem_vN.1 hv
    refine ⟨lbT N t, List.mem_map.2 ⟨t, ht, rfl⟩, ?_, ?_⟩
    · unfold lbT; rw [chT_k]; exact hk
    · unfold lbT; rw [chT_v hk]; simp only [e]
  · rintro ⟨t, ht, hk, e⟩
    obtain ⟨q, hq, rfl⟩ := List.mem_map.1 ht
    have hqk : q.k = 0 := by unfold lbT at hk; rw [chT_k] at hk; exact hk
    refine ⟨q.v.toNat, mem_vN.2 ⟨q, hq, hqk, rfl⟩, ?_⟩
    unfold lbT at e; rw [chT_v hqk] at e; exact e
theorem vN_lt {vs : Nat} {ts : List Tm} (h : ∀ t, t ∈ ts → Dn vs t) {v : Nat} (hv : v ∈ vN ts) : v < vs := by
  obtain ⟨t, ht, hk, e⟩ := mem_vN.1 hv
  rw [← e]; exact (dn_nat (h t ht) hk).1
theorem SEN.prv {B B' : List Lt} {vs vs' : Nat} {N N' : Nat → Int} {c c' : Core} (h : SEN B B' vs vs' N N' c c') (hB : DnL vs B) (hB' : DnL vs' B') {p p' : Nat} (hp : p ∈ unpl B.length c) (hp' : p' ∈ unpl B'.length c') (e : lab N (Bj B p) = lab N' (Bj B' p')) (hv : prvA B c p) : prvA B' c' p' := by
  intro v' hv' hf i' hi' hne hm
  have hr := perm_rest (unpl_nd _ _) (unpl_nd _ _) h.m hp hp' e
  have h1 : lab N' (Bj B' i') ∈ ((unpl B'.length c').filter (fun x => x != p')).map (fun j => lab N' (Bj B' j)) := List.mem_map.2 ⟨i', List.mem_filter.2 ⟨hi', by simpa using hne⟩, rfl⟩
  have h2 := hr.mem_iff.2 h1
  obtain ⟨i, h3, h4⟩ := List.mem_map.1 h2
  rw [List.mem_filter] at h3
  have hi : i ≠ p := by simpa using h3.2
  obtain ⟨v, hv1, hv2⟩ := lab_vN.2 (by rw [h4]; exact lab_vN.1 ⟨v', hm, rfl⟩)
  obtain ⟨u, hu1, hu2⟩ := lab_vN.2 (by rw [e]; exact lab_vN.1 ⟨v', hv', rfl⟩)
  have hvl := vN_lt (Bj_dn hB i) hv1
  have hul := vN_lt (Bj_dn hB p) hu1
  have huv := h.i u v hul hvl (hu2.trans hv2.symm)
  have hfu : fnI c.2.1 u = -1 := by rw [← h.r.r u v' hul (vN_lt (Bj_dn hB' p') hv') hu2]; exact hf
  exact hv u hu1 hfu i h3.1 hi (huv ▸ hv1)
/-! ### private twins -/
/-- the unnumbered variables at one place of two literals -/
def rel (num : List Int) (a b : List Tm) (v u : Nat) : Prop := ∃ (t : Nat) (x y : Tm), a[t]? = some x ∧ b[t]? = some y ∧ x.k = 0 ∧ y.k = 0 ∧ x.v.toNat = v ∧ y.v.toNat = u ∧ fnI num v = -1
open Classical in
noncomputable def sw (num : List Int) (a b : List Tm) (v : Nat) : Nat := if h : ∃ u, rel num a b v u then Classical.choose h else if h : ∃ u, rel num a b u v then Classical.choose h else v
structure Tw (vs : Nat) (s : Nm) (a b : List Tm) : Prop where
  st : StI vs s
  da : ∀ t, t ∈ a → Dn vs t
  db : ∀ t, t ∈ b → Dn vs t
  e : (rdTs s a).2 = (rdTs s b).2
  dj : ∀ v, v ∈ vN a → fnI s.1 v = -1 → v ∉ vN b
theorem Tw.at {vs : Nat} {s : Nm} {a b : List Tm} (h : Tw vs s a b) {t : Nat} {x : Tm} (hx : a[t]? = some x) : ∃ y, b[t]? = some y ∧ x.k = y.k ∧ (¬ x.k = 0 → x = y) ∧ (x.k = 0 → fnI (rdTs s a).1.1 x.v.toNat = fnI (rdTs s b).1.1 y.v.toNat ∧ x.i = y.i ∧ x.s = y.s) := by
  have e := h.e
  rw [(rd_val h.st h.da).1, (rd_val h.st h.db).1] at e
  have h1 := congrArg (fun l => l[t]?) e
  simp only [List.getElem?_map, hx, Option.map_some] at h1
  cases hy : b[t]? with
  | none => rw [hy] at h1; cases h1
  | some y =>
    rw [hy] at h1
    simp only [Option.map_some, Option.some.injEq] at h1
    have hk : x.k = y.k := by have := congrArg Tm.k h1; unfold lbT at this; rwa [chT_k, chT_k] at this
    refine ⟨y, rfl, hk, fun h9 => ?_, fun h9 => ?_⟩
    · unfold lbT at h1; rw [chT_n h9, chT_n (by omega)] at h1; exact h1
    · unfold lbT at h1; rw [chT_v h9, chT_v (by omega)] at h1
      injection h1 with _ h2 h3 h4
      exact ⟨h2, h3, h4⟩
theorem Tw.symm {vs : Nat} {s : Nm} {a b : List Tm} (h : Tw vs s a b) (hdj : ∀ v, v ∈ vN b → fnI s.1 v = -1 → v ∉ vN a) : Tw vs s b a := ⟨h.st, h.db, h.da, h.e.symm, hdj⟩
theorem at_vN {ts : List Tm} {t : Nat} {x : Tm} (h : ts[t]? = some x) (hk : x.k = 0) : x.v.toNat ∈ vN ts := mem_vN.2 ⟨x, List.mem_of_getElem? h, hk, rfl⟩
/-- numbered variables stand at the same places -/
theorem Tw.num {vs : Nat} {s : Nm} {a b : List Tm} (h : Tw vs s a b) {t : Nat} {x y : Tm} (hx : a[t]? = some x) (hy : b[t]? = some y) (hk : x.k = 0) (hf : ¬ fnI s.1 x.v.toNat = -1) : x.v.toNat = y.v.toNat := by
  obtain ⟨y', hy', e1, _, e2⟩ := h.at hx
  rw [hy] at hy'; injection hy' with hy'; subst hy'
  have h1 := (e2 hk).1
  rw [rd_keep h.st h.da hf] at h1
  have hky : y.k = 0 := by omega
  by_cases hg : fnI s.1 y.v.toNat = -1
  · have := rd_fresh h.st h.db (at_vN hy hky) hg
    have := h.st.lt x.v.toNat
    omega
  · rw [rd_keep h.st h.db hg] at h1
    exact h.st.inj _ _ h1 hf
theorem Tw.fr {vs : Nat} {s : Nm} {a b : List Tm} (h : Tw vs s a b) {t : Nat} {x y : Tm} (hx : a[t]? = some x) (hy : b[t]? = some y) (hk : x.k = 0) (hf : fnI s.1 x.v.toNat = -1) : fnI s.1 y.v.toNat = -1 := by
  obtain ⟨y', hy', e1, _, e2⟩ := h.at hx
  rw [hy] at hy'; injection hy' with hy'; subst hy'
  have h1 := (e2 hk).1
  have hky : y.k = 0 := by omega
  have h2 := rd_fresh h.st h.da (at_vN hx hk) hf
  refine Classical.byContradiction fun hg => ?_
  rw [rd_keep h.st h.db hg] at h1
  have := h.st.lt y.v.toNat
  omega
theorem Tw.fun {vs : Nat} {s : Nm} {a b : List Tm} (h : Tw vs s a b) {v u u' : Nat} (h1 : rel s.1 a b v u) (h2 : rel s.1 a b v u') : u = u' := by
  obtain ⟨t, x, y, a1, a2, a3, a4, a5, a6, a7⟩ := h1
  obtain ⟨t', x', y', b1, b2, b3, b4, b5, b6, b7⟩ := h2
  obtain ⟨y2, c1, _, _, c2⟩ := h.at a1
  obtain ⟨y3, d1, _, _, d2⟩ := h.at b1
  rw [a2] at c1; injection c1 with c1; subst c1
  rw [b2] at d1; injection d1 with d1; subst d1
  have e1 := (c2 a3).1
  have e2 := (d2 b3).1
  rw [a5, a6] at e1
  rw [b5, b6] at e2
  exact (h.st.rd h.db).inj _ _ (e1.symm.trans e2) ((rd_val h.st h.db).2 u (by rw [← a6]; exact at_vN a2 a4))
theorem Tw.inj {vs : Nat} {s : Nm} {a b : List Tm} (h : Tw vs s a b) {v v' u : Nat} (h1 : rel s.1 a b v u) (h2 : rel s.1 a b v' u) : v = v' := by
  obtain ⟨t, x, y, a1, a2, a3, a4, a5, a6, a7⟩ := h1
  obtain ⟨t', x', y', b1, b2, b3, b4, b5, b6, b7⟩ := h2
  obtain ⟨y2, c1, _, _, c2⟩ := h.at a1
  obtain ⟨y3, d1, _, _, d2⟩ := h.at b1
  rw [a2] at c1; injection c1 with c1; subst c1
  rw [b2] at d1; injection d1 with d1; subst d1
  have e1 := (c2 a3).1
  have e2 := (d2 b3).1
  rw [a5, a6] at e1
  rw [b5, b6] at e2
  exact (h.st.rd h.da).inj _ _ (e1.trans e2.symm) ((rd_val h.st h.da).2 v (by rw [← a5]; exact at_vN a1 a3))
theorem rel_l {s : Nm} {a b : List Tm} {v u : Nat} (h : rel s.1 a b v u) : v ∈ vN a ∧ fnI s.1 v = -1 := by
  obtain ⟨t, x, y, a1, a2, a3, a4, a5, a6, a7⟩ := h
  exact ⟨by rw [← a5]; exact at_vN a1 a3, a7⟩
theorem rel_r {vs : Nat} {s : Nm} {a b : List Tm} (hT : Tw vs s a b) {v u : Nat} (h : rel s.1 a b v u) : u ∈ vN b ∧ fnI s.1 u = -1 := by
  obtain ⟨t, x, y, a1, a2, a3, a4, a5, a6, a7⟩ := h
  refine ⟨by rw [← a6]; exact at_vN a2 a4, ?_⟩
  rw [← a6]; exact hT.fr a1 a2 a3 (by rw [a5]; exact a7)
theorem Tw.sw1 {vs : Nat} {s : Nm} {a b : List Tm} (h : Tw vs s a b) {v u : Nat} (h1 : rel s.1 a b v u) : sw s.1 a b v = u := by
  have hex : ∃ u, rel s.1 a b v u := ⟨u, h1⟩
  unfold sw
  rw [dif_pos hex]
  exact h.fun (Classical.choose_spec hex) h1
theorem Tw.sw2 {vs : Nat} {s : Nm} {a b : List Tm} (h : Tw vs s a b) {v u : Nat} (h1 : rel s.1 a b v u) : sw s.1 a b u = v := by
  have hr := rel_r h h1
  have hno : ¬ ∃ w, rel s.1 a b u w := fun ⟨w, hw⟩ => h.dj u (rel_l hw).1 (rel_l hw).2 hr.1
  have hex : ∃ w, rel s.1 a b w u := ⟨v, h1⟩
  unfold sw
  rw [dif_neg hno, dif_pos hex]
  exact h.inj (Classical.choose_spec hex) h1
theorem sw0 {num : List Int} {a b : List Tm} {v : Nat} (h1 : ¬ ∃ u, rel num a b v u) (h2 : ¬ ∃ u, rel num a b u v) : sw num a b v = v := by
  unfold sw; rw [dif_neg h1, dif_neg h2]
theorem Tw.cases {vs : Nat} {s : Nm} {a b : List Tm} (h : Tw vs s a b) (v : Nat) : (∃ u, rel s.1 a b v u ∧ sw s.1 a b v = u) ∨ (∃ u, rel s.1 a b u v ∧ sw s.1 a b v = u) ∨ sw s.1 a b v = v := by
  by_cases h1 : ∃ u, rel s.1 a b v u
  · obtain ⟨u, hu⟩ := h1; exact .inl ⟨u, hu, h.sw1 hu⟩
  · by_cases h2 : ∃ u, rel s.1 a b u v
    · obtain ⟨u, hu⟩ := h2; exact .inr (.inl ⟨u, hu, h.sw2 hu⟩)
    · exact .inr (.inr (sw0 h1 h2))
theorem Tw.inv {vs : Nat} {s : Nm} {a b : List Tm} (h : Tw vs s a b) (v : Nat) : sw s.1 a b (sw s.1 a b v) = v := by
  rcases h.cases v with ⟨u, h1, h2⟩ | ⟨u, h1, h2⟩ | h2
  · rw [h2]; exact h.sw2 h1
  · rw [h2]; exact h.sw1 h1
  · rw [h2, h2]
theorem Tw.nm {vs : Nat} {s : Nm} {a b : List Tm} (h : Tw vs s a b) (v : Nat) : fnI s.1 (sw s.1 a b v) = fnI s.1 v := by
  rcases h.cases v with ⟨u, h1, h2⟩ | ⟨u, h1, h2⟩ | h2
  · rw [h2, (rel_r h h1).2, (rel_l h1).2]
  · rw [h2, (rel_r h h1).2, (rel_l h1).2]
  · rw [h2]
theorem Tw.lt {vs : Nat} {s : Nm} {a b : List Tm} (h : Tw vs s a b) {v : Nat} (hv : v < vs) : sw s.1 a b v < vs := by
  rcases h.cases v with ⟨u, h1, h2⟩ | ⟨u, h1, h2⟩ | h2
  · rw [h2]; exact vN_lt h.db (rel_r h h1).1
  · rw [h2]; exact vN_lt h.da (rel_l h1).1
  · rw [h2]; exact hv
/-- swapped, the first literal wears the second's labels -/
theorem Tw.lab1 {vs : Nat} {s : Nm} {a b : List Tm} (h : Tw vs s a b) (N : Nat → Int) : a.map (lbT (fun v => N (sw s.1 a b v))) = b.map (lbT N) := by
  apply List.ext_getElem?
  intro t
  rw [List.getElem?_map, List.getElem?_map]
  cases hx : a[t]? with
  | none =>
    have hl : a.length = b.length := by have := congrArg List.length h.e; rwa [rdTs_len, rdTs_len] at this
    rw [List.getElem?_eq_none_iff] at hx
    rw [List.getElem?_eq_none (by omega)]; rfl
  | some x =>
    obtain ⟨y, hy, e1, e2, e3⟩ := h.at hx
    rw [hy]
    simp only [Option.map_some, Option.some.injEq]
    unfold lbT
    by_cases hk : x.k = 0
    · have hky : y.k = 0 := by omega
      rw [chT_v hk, chT_v hky]
      have hs : sw s.1 a b x.v.toNat = y.v.toNat := by
        by_cases hf : fnI s.1 x.v.toNat = -1
        · exact h.sw1 ⟨t, x, y, hx, hy, hk, hky, rfl, rfl, hf⟩
        · have e9 := h.num hx hy hk hf
          rcases h.cases x.v.toNat with ⟨u, h1, _⟩ | ⟨u, h1, _⟩ | h2
          · exact absurd (rel_l h1).2 hf
          · exact absurd (rel_r h h1).2 hf
          · rw [h2, e9]
      simp only [hs]
      rw [e1, (e3 hk).2.1, (e3 hk).2.2]
    · rw [chT_n hk, chT_n (by omega)]; exact e2 hk
theorem Tw.lab2 {vs : Nat} {s : Nm} {a b : List Tm} (h : Tw vs s a b) (N : Nat → Int) : b.map (lbT (fun v => N (sw s.1 a b v))) = a.map (lbT N) := by
  have := h.lab1 (fun v => N (sw s.1 a b v))
  rw [← this]
  apply List.map_congr_left
  intro t _
  unfold lbT
  congr 1
  funext v
  show N (sw s.1 a b (sw s.1 a b v.toNat)) = N v.toNat
  rw [h.inv]
theorem Tw.lab0 {vs : Nat} {s : Nm} {a b : List Tm} (h : Tw vs s a b) (N : Nat → Int) {l : Lt} (h1 : ∀ v, v ∈ vN a → fnI s.1 v = -1 → v ∉ vN l.a) (h2 : ∀ v, v ∈ vN b → fnI s.1 v = -1 → v ∉ vN l.a) : lab (fun v => N (sw s.1 a b v)) l = lab N l := by
  unfold lab chL
  congr 1
  apply List.map_congr_left
  intro t ht
  by_cases hk : t.k = 0
  · rw [chT_v hk, chT_v hk]
    have hm := mem_vN.2 ⟨t, ht, hk, rfl⟩
    have : sw s.1 a b t.v.toNat = t.v.toNat := by
      rcases h.cases t.v.toNat with ⟨u, h3, _⟩ | ⟨u, h3, _⟩ | h3
      · exact absurd hm (h1 _ (rel_l h3).1 (rel_l h3).2)
      · exact absurd hm (h2 _ (rel_r h h3).1 (rel_r h h3).2)
      · exact h3
    simp only [this]
  · rw [chT_n hk, chT_n hk]
end iso2

end Go.Proofs.Qxb6500915aGreatDoor

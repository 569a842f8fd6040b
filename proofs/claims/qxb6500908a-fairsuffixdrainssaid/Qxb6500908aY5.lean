import Derived.Test.Qxb6500908aY4
namespace Go.Proofs.Qxb6500908a
open Go.Eng
set_option linter.unusedVariables false
set_option linter.unusedSimpArgs false

attribute [local irreducible] postP orB sh1 bitIn handP

/-! ## honest devices: the sets may shrink -/
theorem HS.sub {s : StP} {dv : List DeP} {A B A' B' : Ms → Prop} (h : HS s dv A B) (hA : ∀ m, A' m → A m) (hB : ∀ m, B' m → B m) : HS s dv A' B' := ⟨h.st, h.dl, h.sv, h.sf, h.dev, fun m hm => h.dm m (hA m hm), fun m hm => h.gm m (hB m hm)⟩
theorem GU.sub {s : StP} {dv : List DeP} {A B A' B' : Ms → Prop} {au : Bool} {dn ys : Int} (h : GU s dv A B au dn ys) (hA : ∀ m, A' m → A m) (hB : ∀ m, B' m → B m) : GU s dv A' B' au dn ys := ⟨fun a m hm => h.a1 a m (hA m hm), fun a p m D hm => h.a2 a p m D (hB m hm), fun j D hD hb hp => ⟨(h.a3 j D hD hb hp).1, fun m hm => (h.a3 j D hD hb hp).2 m (hA m hm)⟩, h.b3, h.a4⟩
/-! ## a device's answer -/
theorem gm_4 {s : StP} {D : DeP} {id : Int} {m : Ms} {y : Bool} (hid : 0 ≤ id) (he : m.e ≤ D.ep) (hu : Used s m.b) (h : y = true → s.ph = 1 → m.b = s.fid → D.sg = s.fid) : GMs s D (rpl id m 4 y 0 0) := ⟨hid, he, hu, fun _ => h, fun k => by simp [rpl] at k, fun k => by simp [rpl] at k, fun k => by simp [rpl] at k⟩
theorem gm_5 {s : StP} {D : DeP} {id : Int} {m : Ms} (hid : 0 ≤ id) (he : m.e ≤ D.ep) (hu : Used s m.b) (h : D.fin m.b = true) : GMs s D (rpl id m 5 false 0 0) := ⟨hid, he, hu, fun k => by simp [rpl] at k, fun _ => h, fun k => by simp [rpl] at k, fun k => by simp [rpl] at k⟩
theorem gm_6 {s : StP} {D : DeP} {id : Int} {m : Ms} {r z : Int} (hid : 0 ≤ id) (he : m.e ≤ D.ep) (hu : Used s m.b) (h : r = 0 ∨ s.vd r = some 3) (h2 : s.ph = 2 → r = s.fid → D.rn = s.fid) : GMs s D (rpl id m 6 false r z) := ⟨hid, he, hu, fun k => by simp [rpl] at k, fun k => by simp [rpl] at k, fun _ => h, fun _ => h2⟩
structure HdF (s : StP) (j : Nat) (D D' : DeP) (o : Option Ms) (m : Ms) : Prop where
  dev : DevI s j D'
  ep : D.ep ≤ D'.ep
  fin : ∀ b, D.fin b = true → D'.fin b = true
  sg1 : s.ph = 1 → D.sg = s.fid → D'.sg = s.fid
  rn2 : s.ph = 2 → D.rn = s.fid → D'.rn = s.fid
  rep : ∀ x, o = some x → x.d = D.id ∧ GMs s D' x ∧ (x.k = 6 → x.s = 0 → D'.sg = 0)
  sg0 : D'.sg = 0 ∨ D'.sg = D.sg ∨ (m.k = 0 ∧ m.b = s.fid ∧ ¬ s.ph = 0 ∧ D.sg = 0 ∧ D.fin s.fid = false ∧ ¬ m.e < D.ep ∧ ¬ s.fid = D.rn ∧ D'.sg = s.fid)
theorem finU_m {f : Int → Bool} {b : Int} : ∀ x, f x = true → finU f b x = true := by
  intro x hx
  unfold finU
  split
  · rfl
  · exact hx
theorem finU_b {f : Int → Bool} {b : Int} : finU f b b = true := by unfold finU; rw [if_pos rfl]
theorem finU_c {f : Int → Bool} {b x : Int} (h : finU f b x = true) : x = b ∨ f x = true := by
  unfold finU at h
  split at h
  · exact .inl (by assumption)
  · exact .inr h
theorem hd_facts {s : StP} {dv : List DeP} {A B : Ms → Prop} (h : HS s dv A B) {m : Ms} {D : DeP} (hm : A m) (hD : dv[m.d.toNat]? = some D) : HdF s m.d.toNat D (handP D m).1 (handP D m).2 m := by
  obtain ⟨D2, h2, h3⟩ := h.dm m hm
  have e2 : D2 = D := by rw [h2] at hD; injection hD
  subst e2
  have hd := h.dev _ _ hD
  have hid : m.d = D2.id := by rw [hd.id]; have := h3.d; omega
  have hid0 : 0 ≤ D2.id := by rw [hd.id]; omega
  have f1 := h.st.f1
  have rx := h.rx hD
  have r3 := h.rn3 hD
  have hb0 := h3.u.1
  have sgc : m.b = D2.sg → ¬ s.ph = 0 ∧ m.b = s.fid ∧ D2.ss = slP s.fn m.d.toNat := fun e => by
    rcases hd.sg with h9 | h9
    · omega
    · exact ⟨h9.1, by rw [e]; exact h9.2.1, h9.2.2⟩
  rcases hand_cs D2 m hid with ⟨he, e⟩ | ⟨he, hc⟩
  · rw [e]; exact ⟨hd, Int.le_refl _, fun _ h => h, fun _ h => h, fun _ h => h, fun x hx => (by cases hx), .inr (.inl rfl)⟩
  have he' : D2.ep ≤ m.e := by omega
  have hd' : DevI s m.d.toNat { D2 with ep := m.e } := ⟨hd.id, h3.e, hd.rn, hd.sg, hd.fr, hd.fs, hd.p2⟩
  rcases hc with ⟨k, c, e⟩ | ⟨k, c, e⟩ | ⟨k, c, c1, c2, e⟩ | ⟨k, c, e⟩ | ⟨k, c, c1, e⟩ | ⟨k, c, e⟩ | ⟨k, c, e⟩ | ⟨k, e⟩ | ⟨e, _⟩
  · rw [e]
    refine ⟨hd', he', fun _ h => h, fun _ h => h, fun _ h => h, fun x hx => ?_, .inr (.inl rfl)⟩
    injection hx with hx; subst hx
    refine ⟨rfl, gm_4 hid0 (Int.le_refl _) h3.u (fun _ p b => ?_), fun k => by simp [rpl] at k⟩
    rcases c with c | c
    · show D2.sg = s.fid; omega
    · exact absurd (c.symm.trans b) (rx (by omega) (by omega))
  · rw [e]
    refine ⟨hd', he', fun _ h => h, fun _ h => h, fun _ h => h, fun x hx => ?_, .inr (.inl rfl)⟩
    injection hx with hx; subst hx
    exact ⟨rfl, gm_4 hid0 (Int.le_refl _) h3.u (fun y => by cases y), fun k => by simp [rpl] at k⟩
  · rw [e]
    have hk0 : ¬ s.ph = 0 ∧ m.b = s.fid ∧ m.t = slP s.fn m.d.toNat := by
      rcases h3.k0 k with h9 | h9 | h9
      · exact h9
      · rw [h9] at c2; cases c2
      · exact absurd h9 he
    have hsn : ¬ s.fid = D2.rn := fun e9 => c (.inr (by omega))
    refine ⟨⟨hd.id, h3.e, hd.rn, .inr hk0, hd.fr, fun b hb eb => ?_, fun _ => .inl hk0.2.1⟩, he', fun _ h => h, fun _ _ => hk0.2.1, fun _ h => h, fun x hx => ?_, .inr (.inr ⟨k, hk0.2.1, hk0.1, c1, by rw [← hk0.2.1]; exact c2, he, hsn, hk0.2.1⟩)⟩
    · have eb : m.b = b := eb
      have hb : D2.fin b = true := hb
      rw [← eb, c2] at hb; cases hb
    · injection hx with hx; subst hx
      exact ⟨rfl, gm_4 hid0 (Int.le_refl _) h3.u (fun _ _ b => b), fun k => by simp [rpl] at k⟩
  · rw [e]
    obtain ⟨p0, pb, ps⟩ := sgc c
    have p2 := h3.k1 k p0 pb
    refine ⟨⟨hd.id, h3.e, .inr ⟨p2, c.symm.trans pb, ps⟩, .inl rfl, .inr (by show finU D2.fin m.b D2.sg = true; rw [← c]; exact finU_b), fun b _ eb => eb.symm, fun _ => .inr (c.symm.trans pb)⟩, he', finU_m, fun p _ => by omega, fun _ _ => c.symm.trans pb, fun x hx => ?_, .inl rfl⟩
    injection hx with hx; subst hx
    exact ⟨rfl, gm_5 hid0 (Int.le_refl _) h3.u finU_b, fun k => by simp [rpl] at k⟩
  · rw [e]
    refine ⟨hd', he', fun _ h => h, fun _ h => h, fun _ h => h, fun x hx => ?_, .inr (.inl rfl)⟩
    injection hx with hx; subst hx
    refine ⟨rfl, gm_5 hid0 (Int.le_refl _) h3.u ?_, fun k => by simp [rpl] at k⟩
    rcases hd.fr with h9 | h9
    · omega
    · rw [c1]; exact h9
  · rw [e]
    obtain ⟨p0, pb, ps⟩ := sgc c
    have p3 := h3.k2 k p0 pb
    refine ⟨⟨hd.id, h3.e, hd.rn, .inl rfl, ?_, fun b _ eb => eb.symm, fun p => by omega⟩, he', finU_m, fun p _ => by omega, fun p _ => by omega, fun x hx => ?_, .inl rfl⟩
    · rcases hd.fr with h9 | h9
      · exact .inl h9
      · exact .inr (finU_m _ h9)
    · injection hx with hx; subst hx
      exact ⟨rfl, gm_5 hid0 (Int.le_refl _) h3.u finU_b, fun k => by simp [rpl] at k⟩
  · rw [e]
    refine ⟨⟨hd.id, h3.e, hd.rn, hd.sg, ?_, fun b hb eb => ?_, hd.p2⟩, he', finU_m, fun _ h => h, fun _ h => h, fun x hx => ?_, .inr (.inl rfl)⟩
    · rcases hd.fr with h9 | h9
      · exact .inl h9
      · exact .inr (finU_m _ h9)
    · have eb : D2.sg = b := eb
      rcases finU_c hb with h9 | h9
      · exact absurd (h9.symm.trans eb.symm) c
      · exact hd.fs b h9 eb
    · injection hx with hx; subst hx
      exact ⟨rfl, gm_5 hid0 (Int.le_refl _) h3.u finU_b, fun k => by simp [rpl] at k⟩
  · rw [e]
    refine ⟨hd', he', fun _ h => h, fun _ h => h, fun _ h => h, fun x hx => ?_, .inr (.inl rfl)⟩
    injection hx with hx; subst hx
    exact ⟨rfl, gm_6 hid0 (Int.le_refl _) h3.u r3 (fun _ h => h), fun _ z => z⟩
  · rw [e]
    exact ⟨hd', he', fun _ h => h, fun _ h => h, fun _ h => h, fun x hx => (by cases hx), .inr (.inl rfl)⟩
theorem DMs.up {s : StP} {D D' : DeP} {m : Ms} (h : DMs s D m) (he : D.ep ≤ D'.ep) (hf : ∀ b, D.fin b = true → D'.fin b = true) : DMs s D' m := ⟨h.d, h.e, h.u, fun k => by
    rcases h.k0 k with h9 | h9 | h9
    · exact .inl h9
    · exact .inr (.inl (hf _ h9))
    · exact .inr (.inr (by omega)), h.k1, h.k2⟩
theorem set_at {α : Type} {l : List α} {i j : Nat} {a x b : α} (hi : l[i]? = some b) (h : (l.set i a)[j]? = some x) : (j = i ∧ x = a) ∨ (¬ j = i ∧ l[j]? = some x) := by
  by_cases e : j = i
  · subst e
    rw [List.getElem?_set_self (List.getElem?_eq_some_iff.1 hi).1] at h
    injection h with h
    exact .inl ⟨rfl, h.symm⟩
  · rw [List.getElem?_set_ne (fun h => e h.symm)] at h
    exact .inr ⟨e, h⟩
theorem set_ex {α : Type} {l : List α} {i j : Nat} {a b : α} (hi : l[i]? = some b) {P : α → Prop} {x : α} (hj : l[j]? = some x) (hP : P x) (h : j = i → x = b → P a) : ∃ y, (l.set i a)[j]? = some y ∧ P y := by
  by_cases e : j = i
  · subst e
    rw [hi] at hj; injection hj with hj
    exact ⟨a, List.getElem?_set_self (List.getElem?_eq_some_iff.1 hi).1, h rfl hj.symm⟩
  · exact ⟨x, by rw [List.getElem?_set_ne (fun h => e h.symm)]; exact hj, hP⟩
theorem hs_hand {s : StP} {dv : List DeP} {A B A' B' : Ms → Prop} (h : HS s dv A B) {m : Ms} {D : DeP} (hm : A m) (hD : dv[m.d.toNat]? = some D) (hA : ∀ x, A' x → A x) (hB : ∀ x, B' x → B x ∨ (handP D m).2 = some x) :
    HS s (dv.set m.d.toNat (handP D m).1) A' B' ∧ ∀ au dn ys, GU s dv A B au dn ys → GU s (dv.set m.d.toNat (handP D m).1) A' B' au dn ys := by
  have hf := hd_facts h hm hD
  have hdv := h.dev _ _ hD
  have hid0 : D.id.toNat = m.d.toNat := by rw [hdv.id]; omega
  generalize (handP D m).1 = D' at *
  generalize (handP D m).2 = o at *
  have f1 := h.st.f1
  refine ⟨⟨h.st, by rw [List.length_set]; exact h.dl, h.sv, h.sf, fun j E hE => ?_, fun x hx => ?_, fun x hx => ?_⟩, fun au dn ys u => ⟨fun a x hx => u.a1 a x (hA x hx), fun a p x E hx hE k z e => ?_, fun j E hE b p => ?_, fun j E hE b p => ?_, fun p j E hE b => ?_⟩⟩
  · rcases set_at hD hE with ⟨rfl, rfl⟩ | ⟨_, h9⟩
    · exact hf.dev
    · exact h.dev j E h9
  · obtain ⟨E, h1, h2⟩ := h.dm x (hA x hx)
    exact set_ex hD h1 h2 (fun _ e => (e ▸ h2).up hf.ep hf.fin)
  · rcases hB x hx with h9 | h9
    · obtain ⟨E, h1, h2⟩ := h.gm x h9
      refine set_ex hD h1 h2 (fun _ e => ?_)
      subst e
      exact ⟨h2.d, by have := h2.e; have := hf.ep; omega, h2.u, fun k y p b => hf.sg1 p (h2.k4 k y p b), fun k => hf.fin _ (h2.k5 k), h2.k6, fun k p r => hf.rn2 p (h2.k7 k p r)⟩
    · obtain ⟨h1, h2, _⟩ := hf.rep x h9
      exact ⟨D', by rw [show x.d.toNat = m.d.toNat by rw [h1]; exact hid0, List.getElem?_set_self (List.getElem?_eq_some_iff.1 hD).1], h2⟩
  · rcases hB x hx with h9 | h9
    · rcases set_at hD hE with ⟨e1, rfl⟩ | ⟨_, h8⟩
      · have hD2 : dv[x.d.toNat]? = some D := by rw [e1]; exact hD
        have h0 := u.a2 a p x D h9 hD2 k z e
        rcases hf.sg0 with h7 | h7 | h7
        · exact h7
        · rw [h7]; exact h0
        · exfalso
          obtain ⟨D3, h6, h5⟩ := h.gm x h9
          rw [hD2] at h6; injection h6 with h6
          subst h6
          have h4 := u.a1 a m hm h7.1
          have h3 := h5.e
          exact h7.2.2.2.2.2.1 (by omega)
      · exact u.a2 a p x E h9 h8 k z e
    · obtain ⟨h1, _, h3⟩ := hf.rep x h9
      rcases set_at hD hE with ⟨_, rfl⟩ | ⟨h8, _⟩
      · exact h3 k z
      · exact absurd (by rw [h1]; exact hid0) h8
  · rcases set_at hD hE with ⟨rfl, rfl⟩ | ⟨_, h9⟩
    · obtain ⟨h1, h2⟩ := u.a3 _ D hD b p
      refine ⟨?_, fun x hx k d b' => ?_⟩
      · rcases hf.sg0 with h7 | h7 | h7
        · exact h7
        · rw [h7]; exact h1
        · exfalso
          rcases h2 m hm h7.1 rfl h7.2.1 with h6 | h6
          · rw [h7.2.2.2.2.1] at h6; cases h6
          · exact h7.2.2.2.2.2.1 h6
      · rcases h2 x (hA x hx) k d b' with h6 | h6
        · exact .inl (hf.fin _ h6)
        · exact .inr (by have := hf.ep; omega)
    · exact ⟨(u.a3 j E h9 b p).1, fun x hx => (u.a3 j E h9 b p).2 x (hA x hx)⟩
  · rcases set_at hD hE with ⟨rfl, rfl⟩ | ⟨_, h9⟩
    · have h1 := u.b3 _ D hD b p
      rcases hf.sg0 with h7 | h7 | h7
      · rw [h7]; exact fun e => f1 (by omega) e.symm
      · rw [h7]; exact h1
      · exfalso
        rcases hdv.p2 p with h6 | h6
        · exact h1 h6
        · exact h7.2.2.2.2.2.2.1 h6.symm
    · exact u.b3 j E h9 b p
  · rcases set_at hD hE with ⟨rfl, rfl⟩ | ⟨_, h9⟩
    · exact hf.sg1 p (u.a4 p _ D hD b)
    · exact u.a4 p j E h9 b

end Go.Proofs.Qxb6500908a

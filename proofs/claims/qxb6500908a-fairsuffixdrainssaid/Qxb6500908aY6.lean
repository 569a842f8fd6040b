import Derived.Test.Qxb6500908aY5
namespace Go.Proofs.Qxb6500908a
open Go.Eng
set_option linter.unusedVariables false
set_option linter.unusedSimpArgs false

attribute [local irreducible] postP orB sh1 bitIn handP

/-! ## honest devices: the state moves -/
section
variable {s : StP} {dv : List DeP} {A B : Ms → Prop}
theorem Used.up {s s' : StP} {b : Int} (h : Used s b) (hf : ¬ s.ph = 0 → ¬ s.vd s.fid = none ∨ (¬ s'.ph = 0 ∧ s'.fid = s.fid)) (hv : ∀ x, ¬ s.vd x = none → ¬ s'.vd x = none) : Used s' b := ⟨h.1, by
    rcases h.2 with h9 | h9
    · rcases hf h9.1 with h8 | h8
      · exact .inr (hv b (by rw [h9.2]; exact h8))
      · exact .inl ⟨h8.1, by rw [h8.2]; exact h9.2⟩
    · exact .inr (hv b h9)⟩
theorem hs_is (h : HS s dv A B) {l : List Iv} (hs : StI { s with is := l }) : HS { s with is := l } dv A B := ⟨hs, h.dl, h.sv, h.sf, fun j D hD => let d := h.dev j D hD; ⟨d.id, d.ep, d.rn, d.sg, d.fr, d.fs, d.p2⟩, fun m hm => let ⟨D, h1, h2⟩ := h.dm m hm; ⟨D, h1, h2.d, h2.e, h2.u, h2.k0, h2.k1, h2.k2⟩, fun m hm => let ⟨D, h1, h2⟩ := h.gm m hm; ⟨D, h1, h2.d, h2.e, h2.u, h2.k4, h2.k5, h2.k6, h2.k7⟩⟩
theorem hs_ep (h : HS s dv A B) : HS { s with ep := s.ep + 1 } dv A B := ⟨⟨h.st.p, h.st.f0, h.st.f1, h.st.v1, h.st.v2, h.st.v3, h.st.v0, h.st.vr, h.st.n, h.st.il, h.st.vl⟩, h.dl, h.sv, h.sf, fun j D hD => let d := h.dev j D hD; ⟨d.id, by have := d.ep; show D.ep ≤ s.ep + 1; omega, d.rn, d.sg, d.fr, d.fs, d.p2⟩, fun m hm => let ⟨D, h1, h2⟩ := h.dm m hm; ⟨D, h1, h2.d, by have := h2.e; show m.e ≤ s.ep + 1; omega, h2.u, h2.k0, h2.k1, h2.k2⟩, fun m hm => let ⟨D, h1, h2⟩ := h.gm m hm; ⟨D, h1, h2.d, h2.e, h2.u, h2.k4, h2.k5, h2.k6, h2.k7⟩⟩
theorem hs_vd (h : HS s dv A B) {id : Int} (hv : s.vd id = none) (hs : StI { s with vd := rfU s.vd id 4 }) : HS { s with vd := rfU s.vd id 4 } dv A B := by
  have hm3 : ∀ x, s.vd x = some 3 → rfU s.vd id 4 x = some 3 := fun x hx => by
    unfold rfU
    rw [if_neg (fun e => by rw [e, hv] at hx; cases hx)]; exact hx
  have hmn : ∀ x, ¬ s.vd x = none → ¬ rfU s.vd id 4 x = none := fun x hx => by
    unfold rfU
    split
    · exact fun e => (by cases e)
    · exact hx
  have hu : ∀ b, Used s b → Used { s with vd := rfU s.vd id 4 } b := fun b hb => hb.up (fun h9 => .inr ⟨h9, rfl⟩) hmn
  exact ⟨hs, h.dl, fun v hv' => (h.sv v hv').imp (fun z => z) (hm3 _), h.sf, fun j D hD => let d := h.dev j D hD; ⟨d.id, d.ep, d.rn, d.sg, d.fr, d.fs, d.p2⟩, fun m hm => let ⟨D, h1, h2⟩ := h.dm m hm; ⟨D, h1, h2.d, h2.e, hu _ h2.u, h2.k0, h2.k1, h2.k2⟩, fun m hm => let ⟨D, h1, h2⟩ := h.gm m hm; ⟨D, h1, h2.d, h2.e, hu _ h2.u, h2.k4, h2.k5, fun k => (h2.k6 k).imp (fun z => z) (hm3 _), h2.k7⟩⟩
theorem hs_start (h : HS s dv A B) (h0 : s.ph = 0) {b : Int} {n : NtP} (hb : ¬ b = 0) (hv : s.vd b = none) (hs : StI { s with fid := b, ph := 1, fn := n }) : HS { s with fid := b, ph := 1, fn := n } dv A B := by
  have hu : ∀ x, Used s x → Used { s with fid := b, ph := 1, fn := n } x := fun x hx => hx.up (fun h9 => absurd h0 h9) (fun _ h => h)
  have hn : ∀ x, Used s x → ¬ x = b := fun x hx e => by
    rcases hx.2 with h9 | h9
    · exact h9.1 h0
    · rw [e] at h9; exact h9 hv
  refine ⟨hs, h.dl, h.sv, fun _ v hv' e => ?_, fun j D hD => ?_, fun m hm => ?_, fun m hm => ?_⟩
  · have e : v.1 = b := e
    rcases h.sv v hv' with h9 | h9
    · omega
    · rw [e, hv] at h9; cases h9
  · have d := h.dev j D hD
    refine ⟨d.id, d.ep, .inl ?_, .inl ?_, d.fr, d.fs, fun p => ?_⟩
    · rcases d.rn with h9 | h9
      · exact h9
      · omega
    · rcases d.sg with h9 | h9
      · exact h9
      · exact absurd h0 h9.1
    · have p : (1 : Int) = 2 := p; omega
  · obtain ⟨D, h1, h2⟩ := h.dm m hm
    refine ⟨D, h1, h2.d, h2.e, hu _ h2.u, fun k => .inr ?_, fun _ _ e => absurd e (hn _ h2.u), fun _ _ e => absurd e (hn _ h2.u)⟩
    rcases h2.k0 k with h9 | h9
    · exact absurd h0 h9.1
    · exact h9
  · obtain ⟨D, h1, h2⟩ := h.gm m hm
    exact ⟨D, h1, h2.d, h2.e, hu _ h2.u, fun _ _ _ e => absurd e (hn _ h2.u), h2.k5, h2.k6, fun _ p => by have p : (1 : Int) = 2 := p; omega⟩
theorem hs_dec (h : HS s dv A B) (h1 : s.ph = 1) {c : Bool} (hc : c = true → ∀ (j : Nat) (D : DeP), dv[j]? = some D → D.sg = s.fid) (hs : StI (setlP s c)) : HS (setlP s c) dv A B := by
  have hp : (setlP s c).ph = if c then 2 else 3 := rfl
  have hp0 : ¬ (setlP s c).ph = 0 := by rw [hp]; split <;> omega
  have hp1 : ¬ (setlP s c).ph = 1 := by rw [hp]; split <;> omega
  have hp2 : (setlP s c).ph = 2 → c = true := fun e => by
    rw [hp] at e
    cases c with
    | true => rfl
    | false => simp at e
  have v1 := h.st.v1 h1
  have hm : ∀ x y, s.vd x = some y → (setlP s c).vd x = some y := fun x y hx => by
    show (if x = s.fid then _ else _) = _
    rw [if_neg (fun e => by rw [e, v1] at hx; cases hx)]; exact hx
  have hmn : ∀ x, ¬ s.vd x = none → ¬ (setlP s c).vd x = none := fun x hx => by
    show ¬ (if x = s.fid then _ else _) = _
    split
    · exact fun e => (by cases e)
    · exact hx
  have hu : ∀ b, Used s b → Used (setlP s c) b := fun b hb => hb.up (fun h9 => .inr ⟨hp0, rfl⟩) hmn
  refine ⟨hs, h.dl, fun v hv => (h.sv v hv).imp id (hm _ _), fun _ => h.sf (by omega), fun j D hD => ?_, fun m hm' => ?_, fun m hm' => ?_⟩
  · have d := h.dev j D hD
    refine ⟨d.id, d.ep, .inl ?_, ?_, d.fr, d.fs, fun p => .inl (hc (hp2 p) j D hD)⟩
    · rcases d.rn with h9 | h9
      · exact h9
      · omega
    · rcases d.sg with h9 | h9
      · exact .inl h9
      · exact .inr ⟨hp0, h9.2⟩
  · obtain ⟨D, a1, h2⟩ := h.dm m hm'
    refine ⟨D, a1, h2.d, h2.e, hu _ h2.u, fun k => (h2.k0 k).imp (fun h9 => ⟨hp0, h9.2⟩) id, fun k _ e => ?_, fun k _ e => ?_⟩
    · have := h2.k1 k (by omega) e; omega
    · have := h2.k2 k (by omega) e; omega
  · obtain ⟨D, a1, h2⟩ := h.gm m hm'
    refine ⟨D, a1, h2.d, h2.e, hu _ h2.u, fun _ _ p => absurd p hp1, h2.k5, fun k => (h2.k6 k).imp id (hm _ _), fun k p e => ?_⟩
    have e : m.r = s.fid := e
    rcases h2.k6 k with h9 | h9
    · have := h.st.f1 (by omega); omega
    · rw [e, v1] at h9; cases h9
theorem hs_cls (h : HS s dv A B) (h23 : s.ph = 2 ∨ s.ph = 3) (ha : ∀ (j : Nat) (D : DeP), dv[j]? = some D → D.sg = 0 ∧ (s.ph = 2 → D.rn = s.fid) ∧ ∀ m, A m → m.k = 0 → m.d.toNat = j → m.b = s.fid → D.fin s.fid = true ∨ m.e < D.ep) (hs : StI (clsP s)) : HS (clsP s) dv A B := by
  have hvf : ¬ s.vd s.fid = none := fun e => by
    rcases h23 with h9 | h9
    · rw [h.st.v2 h9] at e; cases e
    · rw [h.st.v3 h9] at e; cases e
  have hu : ∀ b, Used s b → Used (clsP s) b := fun b hb => hb.up (fun h9 => .inl hvf) (fun _ h => h)
  refine ⟨hs, h.dl, fun v hv => ?_, fun p => absurd rfl p, fun j D hD => ?_, fun m hm' => ?_, fun m hm' => ?_⟩
  · have hv : v ∈ (if s.ph = 2 then s.vs ++ [(s.fid, s.fn)] else s.vs) := hv
    split at hv
    · rename_i h2
      rcases List.mem_append.1 hv with h9 | h9
      · exact h.sv v h9
      · rw [List.mem_singleton.1 h9]; exact .inr (h.st.v2 h2)
    · exact h.sv v hv
  · have d := h.dev j D hD
    obtain ⟨a1, a2, _⟩ := ha j D hD
    refine ⟨d.id, d.ep, .inl ?_, .inl a1, d.fr, d.fs, fun p => by have p : (0 : Int) = 2 := p; omega⟩
    show D.rn = ((if s.ph = 2 then s.vs ++ [(s.fid, s.fn)] else s.vs).getLast?.getD (0, np0)).1 ∧ D.rs = slP ((if s.ph = 2 then s.vs ++ [(s.fid, s.fn)] else s.vs).getLast?.getD (0, np0)).2 j
    split
    · rename_i h2
      rw [List.getLast?_append, List.getLast?_singleton]
      show D.rn = s.fid ∧ D.rs = slP s.fn j
      refine ⟨a2 h2, ?_⟩
      rcases d.rn with h9 | h9
      · exact absurd (h9.1.symm.trans (a2 h2)) (h.sf (by omega) _ (ldV_mem h.st.vl))
      · exact h9.2.2
    · rename_i h2
      rcases d.rn with h9 | h9
      · exact h9
      · exact absurd h9.1 h2
  · obtain ⟨D, a1, h2⟩ := h.dm m hm'
    refine ⟨D, a1, h2.d, h2.e, hu _ h2.u, fun k => .inr ?_, fun _ p => absurd rfl p, fun _ p => absurd rfl p⟩
    rcases h2.k0 k with h9 | h9
    · rw [h9.2.1]; exact (ha _ D a1).2.2 m hm' k rfl h9.2.1
    · exact h9
  · obtain ⟨D, a1, h2⟩ := h.gm m hm'
    exact ⟨D, a1, h2.d, h2.e, hu _ h2.u, fun _ _ p => by have p : (0 : Int) = 1 := p; omega, h2.k5, h2.k6, fun _ p => by have p : (0 : Int) = 2 := p; omega⟩
theorem hs_push {A' : Ms → Prop} (h : HS s dv A B) {g1 : GtP} (hg : g1.st = s) (hsl : s.ph = 1 → ∀ d, d < 16 → g1.sl d = slP s.fn d) (hA : ∀ m, A' m → A m ∨ m ∈ pushP g1) : HS s dv A' B := ⟨h.st, h.dl, h.sv, h.sf, h.dev, fun m hm => by
    rcases hA m hm with h9 | h9
    · exact h.dm m h9
    · obtain ⟨a1, a2, a3, a4, d, a5, a6, a7⟩ := push_mem h9
      rw [hg] at a1 a2 a3 a4
      have hd : m.d.toNat = d := by omega
      obtain ⟨D, hD⟩ : ∃ D, dv[m.d.toNat]? = some D := ⟨_, List.getElem?_eq_getElem (by rw [hd, h.dl]; exact a5)⟩
      refine ⟨D, hD, by omega, by omega, ⟨by rw [a2]; exact h.st.f1 a3, .inl ⟨a3, a2⟩⟩, fun k => .inl ⟨a3, a2, ?_⟩, fun k _ _ => by omega, fun k _ _ => by omega⟩
      rw [a7 k, hd]
      exact hsl (by omega) d a5, h.gm⟩
theorem gu_push {A' : Ms → Prop} {au : Bool} {dn ys : Int} (h : GU s dv A B au dn ys) (ha : au = true → s.ph = 2 ∨ s.ph = 3) {g1 : GtP} (hg : g1.st = s) (hA : ∀ m, A' m → A m ∨ m ∈ pushP g1) : GU s dv A' B au dn ys := ⟨fun a m hm k => by
    rcases hA m hm with h9 | h9
    · exact h.a1 a m h9 k
    · have a4 := (push_mem h9).2.2.2.1
      rw [hg] at a4
      have := ha a
      omega, h.a2, fun j D hD b p => ⟨(h.a3 j D hD b p).1, fun m hm k d e => by
    rcases hA m hm with h9 | h9
    · exact (h.a3 j D hD b p).2 m h9 k d e
    · have a4 := (push_mem h9).2.2.2.1
      rw [hg] at a4
      omega⟩, h.b3, h.a4⟩
/-- what a confirmation says of its device -/
theorem hs_cnf (h : HS s dv A B) {g : GtP} {ys : Int} (hg : g.st = s) (hu : GU s dv A B g.au g.dn ys) {m : Ms} (hm : B m) (hc : CnfW g m) : ∃ D, dv[m.d.toNat]? = some D ∧ (s.ph = 2 → ¬ D.sg = s.fid) ∧ (s.ph = 3 → D.sg = 0 ∧ ∀ x, A x → x.k = 0 → x.d.toNat = m.d.toNat → x.b = s.fid → D.fin s.fid = true ∨ x.e < D.ep) := by
  obtain ⟨D, h1, h2⟩ := h.gm m hm
  have d := h.dev _ D h1
  obtain ⟨⟨_, b1, b2, b3, b4⟩, hc⟩ := hc
  rw [hg] at b1 b3 b4 hc
  have f1 := h.st.f1 b1
  have hfs : D.fin s.fid = true → ¬ D.sg = s.fid := fun e e2 => f1 (d.fs _ e e2)
  have hf0 : D.fin s.fid = true → D.sg = 0 := fun e => by
    rcases d.sg with h9 | h9
    · exact h9
    · exact absurd h9.2.1 (hfs e)
  refine ⟨D, h1, fun p => ?_, fun p => ?_⟩
  · rcases hc with ⟨k, _⟩ | ⟨k, _, _, r, _⟩ | ⟨_, p3, _⟩
    · exact hfs (by rw [← b4]; exact h2.k5 k)
    · have h9 := h2.k7 k p r
      refine hfs ?_
      rcases d.fr with h8 | h8
      · omega
      · rw [← h9]; exact h8
    · omega
  · rcases hc with ⟨k, _⟩ | ⟨_, p2, _⟩ | ⟨k, _, au, r, z⟩
    · have h9 : D.fin s.fid = true := by rw [← b4]; exact h2.k5 k
      exact ⟨hf0 h9, fun _ _ _ _ _ => .inl h9⟩
    · omega
    · exact ⟨hu.a2 au p m D hm h1 k z b3, fun x hx k0 _ _ => .inr (by have := hu.a1 au x hx k0; have := h2.e; omega)⟩
theorem bit_nat {x : Int} {m : Ms} (h0 : 0 ≤ m.d) (h1 : m.d < 16) {j : Nat} (hj : j < 16) : bitIn (orB x (sh1 m.d)) j = (bitIn x j || decide (j = m.d.toNat)) := by
  have h := bit_or (x := x) (d := m.d.toNat) (by omega) hj
  rw [show ((m.d.toNat : Nat) : Int) = m.d by omega] at h
  exact h
theorem dv_lt (h : HS s dv A B) {j : Nat} {D : DeP} (hD : dv[j]? = some D) : j < 16 := by
  have := (List.getElem?_eq_some_iff.1 hD).1
  rw [h.dl] at this; exact this
end

end Go.Proofs.Qxb6500908a

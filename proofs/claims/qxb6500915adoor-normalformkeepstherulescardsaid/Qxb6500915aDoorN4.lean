import Derived.Test.Qxb6500915aDoorN3
namespace Go.Proofs.Qxb6500915aDoor
open Go.Eng
set_option linter.unusedVariables false
set_option linter.unusedSimpArgs false

/-! ## law 6, plain -/
section p6
theorem pw_at {α : Type} {R : α → α → Prop} {l : List α} (h : l.Pairwise R) {i j : Nat} {x y : α} (hi : l[i]? = some x) (hj : l[j]? = some y) (hij : i < j) : R x y := by
  obtain ⟨h1, rfl⟩ := List.getElem?_eq_some_iff.1 hi
  obtain ⟨h2, rfl⟩ := List.getElem?_eq_some_iff.1 hj
  exact List.pairwise_iff_getElem.1 h i j h1 h2 hij
theorem lt6 {lv : ByteArray → Nat} {y x : Ru} (h : cmpQ lv y x < 0) : lv y.p < lv x.p ∨ (lv y.p = lv x.p ∧ cmpR y x < 0) := by
  unfold cmpQ thn cmpI at h
  by_cases h1 : (lv y.p : Int) < lv x.p
  · exact .inl (by omega)
  · by_cases h2 : (lv x.p : Int) < lv y.p
    · simp [h1, h2] at h
    · simp [h1, h2] at h
      exact .inr ⟨by omega, h⟩
structure Nr6 (A : List Ru) (n : NmV) (f : Ft) : Prop where
  c : (¬ f.c = 0 ∧ n.l.length = 0 ∧ n.q.length = 0 ∧ n.s = 0) ∨ (f.c = 0 ∧ ∃ ps' q0 qs, NoO A ps' n.l q0 qs ∧ n.q = drL qs)
/-- all that law 6 asks of a normal form -/
structure Lw6 (A : List Ru) (n : NmV) (s : ByteArray → Nat) : Prop where
  f : ∀ a, a ∈ A → ∃ x, x ∈ n.q ∧ Mat a x.ru
  g : ∀ x, x ∈ n.q → ∃ a, a ∈ A ∧ Mat x.ru a
  l : ∀ p, p ∈ n.l → p.s = s p.n
  h : ∀ x, x ∈ n.q → ∃ p, p ∈ n.l ∧ p.n = x.p
  o : ∀ (i j : Nat) (x y : RV), n.q[i]? = some x → n.q[j]? = some y → i < j → s x.p < s y.p ∨ (s x.p = s y.p ∧ cmpR x.ru y.ru < 0)
  k : ∀ x, x ∈ n.q → x.ru.b.Pairwise fun u v => u.k ≤ v.k
  v : ∀ x, x ∈ n.q → ∃ m, vars x.ru = ints m
  c : ∀ x, x ∈ n.q → ∃ a, a ∈ A ∧ VarR a x.ru
theorem lw6_of {A : List Ru} {n : NmV} {ps' : List Pd} {q0 qs : List RV} (h : NoO A ps' n.l q0 qs) (hq : n.q = drL qs) : ∃ s, Lw6 A n s := by
  obtain ⟨ps, bad, a1, a2, a3, a4⟩ := h.ck
  obtain ⟨s, hs⟩ := lvd_of (tabl_of a1) a4 h.lp
  obtain ⟨hpv, _, hcf⟩ := noo_pv h
  rw [← hq] at hpv hcf
  have hm : ∀ x, x ∈ n.q → x.ru ∈ n.q.map RV.ru := fun x hx => List.mem_map.2 ⟨x, hx, rfl⟩
  have hhas : ∀ x, x ∈ n.q → ∃ m, HasP ps x.p m := fun x hx => by
    obtain ⟨a, ha, hc⟩ := hcf x.ru (hm x hx)
    exact ⟨_, (ckP_has A [] ps 0 a1).2 x.p _ ⟨a, ha, .inl ⟨hc.v.hp.symm, rfl⟩⟩⟩
  refine ⟨s, fun a ha => ?_, fun x hx => ?_, fun p hp => (hs.at_ p hp).1, fun x hx => ?_, fun i j x y hi hj hij => ?_, fun x hx => ?_, fun x hx => ?_, fun x hx => ?_⟩
  · obtain ⟨b, hb, hv⟩ := hpv.f a ha
    obtain ⟨x, hx, rfl⟩ := List.mem_map.1 hb
    exact ⟨x, hx, mat_iff.2 hv⟩
  · obtain ⟨a, ha, hv⟩ := hpv.g x.ru (hm x hx)
    exact ⟨a, ha, mat_iff.2 hv.symm⟩
  · obtain ⟨m, hm9⟩ := hhas x hx
    obtain ⟨p, h1, h2, _⟩ := hs.to _ _ hm9
    exact ⟨p, h1, h2⟩
  · have hst := (drO _ qs rfl h.qs).s
    rw [← hq] at hst
    have h9 := lt6 (pw_at hst (map_at RV.ru hi) (map_at RV.ru hj) hij)
    obtain ⟨m1, hm1⟩ := hhas x (List.mem_of_getElem? hi)
    obtain ⟨m2, hm2⟩ := hhas y (List.mem_of_getElem? hj)
    rw [hs.lv x.ru.p hm1.some, hs.lv y.ru.p hm2.some] at h9
    exact h9
  · obtain ⟨a, ha, hc⟩ := hcf x.ru (hm x hx); exact hc.k
  · obtain ⟨a, ha, hc⟩ := hcf x.ru (hm x hx); exact hc.n
  · obtain ⟨a, ha, hc⟩ := hcf x.ru (hm x hx); exact ⟨a, ha, hc.v⟩
theorem SmI.all {A : List Ru} {n : NmV} {s : ByteArray → Nat} (h6 : Lw6 A n s) {k : Nat} {m : List (ByteArray × Value)} (h : SmI n.l k m) (hk : k = n.l.length) {x : RV} (hx : x ∈ n.q) : sOf m x.p = s x.p := by
  obtain ⟨p, h1, h2⟩ := h6.h x hx
  rw [← h2, h.at_ p (by rw [hk, List.take_length]; exact h1), h6.l p h1]
end p6


theorem norm9_spec (rs : List RV) (rp : Option Addr) (rc : Nat) (RE : List (Nat × Obj)) (hp : Prg rs rp rc RE) (hr9 : rs.length ≤ 15000) (hvs : ∀ r, r ∈ rs → (vars r.ru).length ≤ 1000) : SpK Tryd.prog 14 #[.agg ⟨[.slice rp rs.length rc]⟩] (PrW rs RE) [] (fun v F' => ∃ n f G, n.ok ∧ Nr6 (rs.map RV.ru) n f ∧ v = .tuple #[.agg ⟨[.slice n.lp n.l.length n.lc, .slice n.rp n.q.length n.rc, .int .i64 (n.s : Int)]⟩, .agg ⟨ftc f⟩] ∧ NmG n G ∧ F' = n.lE ++ (n.rE ++ G)) :=
  spk_mono (norm7_spec rs rp rc RE hp hr9 hvs) fun v F h => by
    rcases h with ⟨f, ps, hk, h2, h3⟩ | ⟨⟨ps, hk⟩, n, f, G, h1, h2, h3, h4, h5⟩
    · have hfc := ckP_c _ _ _ _ _ hk
      exact ⟨⟨[], none, 0, [], [], none, 0, [], 0⟩, f, [], nmv0_ok, ⟨.inl ⟨by omega, rfl, rfl, rfl⟩⟩, h2, fun x hx => (by cases hx), h3⟩
    · refine ⟨n, f, G, h1, ⟨?_⟩, h3, h4, h5⟩
      rcases h2.c with ⟨h6, ps', q0, qs, h7, h8, _⟩ | ⟨h6, h7, h8, h9⟩
      · exact .inr ⟨by rw [h6], ps', q0, qs, h7, h8⟩
      · exact .inl ⟨by omega, by rw [h7]; rfl, by rw [h8]; rfl, h9⟩
end Go.Proofs.Qxb6500915aDoor

import Derived.Test.Qxb6500915aGreatDoorI3
namespace Go.Proofs.Qxb6500915aGreatDoor
open Go.Eng
set_option linter.unusedVariables false
set_option linter.unusedSimpArgs false

/-! ## isomorphic rules are searched alike -/
section iso
def Dn (vs : Nat) (t : Tm) : Prop := t.k = 0 → 0 ≤ t.v ∧ t.v < vs
def InjN (N : Nat → Int) (vs : Nat) : Prop := ∀ u v, u < vs → v < vs → N u = N v → u = v
def lbT (N : Nat → Int) (t : Tm) : Tm := chT (fun v => N v.toNat) t
def lab (N : Nat → Int) (l : Lt) : Lt := chL (fun v => N v.toNat) l
structure Cmp2 (N N' : Nat → Int) (vs vs' : Nat) (s s' : Nm) : Prop where
  l : s.1.length = vs
  l' : s'.1.length = vs'
  nx : s'.2 = s.2
  r : ∀ v v', v < vs → v' < vs' → N v = N' v' → fnI s'.1 v' = fnI s.1 v
theorem chT_k (f : Int → Int) (t : Tm) : (chT f t).k = t.k := by unfold chT; split <;> rfl
theorem chT_v {f : Int → Int} {t : Tm} (h : t.k = 0) : chT f t = ⟨t.k, f t.v, t.i, t.s⟩ := by unfold chT; rw [if_pos h]
theorem chT_n {f : Int → Int} {t : Tm} (h : ¬ t.k = 0) : chT f t = t := by unfold chT; rw [if_neg h]
theorem dn_nat {vs : Nat} {t : Tm} (h : Dn vs t) (hk : t.k = 0) : t.v.toNat < vs ∧ t.v = (t.v.toNat : Int) := by have := h hk; omega
theorem sim1 {N N' : Nat → Int} {vs vs' : Nat} (hN : InjN N vs) (hN' : InjN N' vs') {s s' : Nm} (h : Cmp2 N N' vs vs' s s') {t t' : Tm} (ht : Dn vs t) (ht' : Dn vs' t') (e : lbT N t = lbT N' t') : Cmp2 N N' vs vs' (rd1 s t).1 (rd1 s' t').1 ∧ (rd1 s t).2 = (rd1 s' t').2 := by
  have ek : t.k = t'.k := by have := congrArg Tm.k e; unfold lbT at this; rwa [chT_k, chT_k] at this
  by_cases hk : t.k = 0
  · have hk' : t'.k = 0 := by omega
    unfold lbT at e
    rw [chT_v hk, chT_v hk'] at e
    injection e with e1 e2 e3 e4
    obtain ⟨a1, a2⟩ := dn_nat ht hk
    obtain ⟨b1, b2⟩ := dn_nat ht' hk'
    have hr := h.r _ _ a1 b1 e2
    by_cases hf : fnI s.1 t.v.toNat = -1
    · rw [rd1_new hk a2 hf, rd1_new hk' b2 (hr.trans hf)]
      refine ⟨⟨by simp [h.l], by simp [h.l'], by simp [h.nx], fun u u' hu hu' he => ?_⟩, by simp [h.nx, e1, e3, e4]⟩
      simp only
      rw [fnI_set (by rw [h.l']; exact b1), fnI_set (by rw [h.l]; exact a1)]
      by_cases hc : u = t.v.toNat
      · have : u' = t'.v.toNat := hN' _ _ hu' b1 (by rw [← he, hc, e2])
        rw [hc, this, upd_self, upd_self, h.nx]
      · have : ¬ u' = t'.v.toNat := fun h9 => hc (hN _ _ hu a1 (by rw [he, h9, e2]))
        rw [upd_ne hc, upd_ne this, h.r u u' hu hu' he]
    · rw [rd1_old hk a2 hf, rd1_old hk' b2 (by rw [hr]; exact hf)]
      exact ⟨h, by rw [hr, e1, e3, e4]⟩
  · have hk' : ¬ t'.k = 0 := by omega
    unfold lbT at e
    rw [chT_n hk, chT_n hk'] at e
    rw [rd1_no hk, rd1_no hk', e]
    exact ⟨h, rfl⟩
theorem simTs {N N' : Nat → Int} {vs vs' : Nat} (hN : InjN N vs) (hN' : InjN N' vs') : ∀ {ts ts' : List Tm} {s s' : Nm}, Cmp2 N N' vs vs' s s' → (∀ t, t ∈ ts → Dn vs t) → (∀ t, t ∈ ts' → Dn vs' t) → ts.map (lbT N) = ts'.map (lbT N') → Cmp2 N N' vs vs' (rdTs s ts).1 (rdTs s' ts').1 ∧ (rdTs s ts).2 = (rdTs s' ts').2
  | [], [], _, _, h, _, _, _ => ⟨h, rfl⟩
  | [], _ :: _, _, _, _, _, _, e => by cases e
  | _ :: _, [], _, _, _, _, _, e => by cases e
  | t :: ts, t' :: ts', s, s', h, hd, hd', e => by
    rw [List.map_cons, List.map_cons] at e
    injection e with e1 e2
    obtain ⟨h1, h2⟩ := sim1 hN hN' h (hd t (by simp)) (hd' t' (by simp)) e1
    obtain ⟨h3, h4⟩ := simTs hN hN' h1 (fun q hq => hd q (by simp [hq])) (fun q hq => hd' q (by simp [hq])) e2
    exact ⟨h3, by show _ :: _ = _ :: _; rw [h2, h4]⟩
def DnL (vs : Nat) (B : List Lt) : Prop := ∀ l t, l ∈ B → t ∈ l.a → Dn vs t
def Bj (B : List Lt) (j : Nat) : Lt := B.getD j lt0
theorem Bj_at {B : List Lt} {j : Nat} {l : Lt} (h : B[j]? = some l) : Bj B j = l := by unfold Bj; rw [List.getD_eq_getElem?_getD, h]; rfl
theorem Bj_get {B : List Lt} {j : Nat} (h : j < B.length) : B[j]? = some (Bj B j) := by unfold Bj; rw [List.getD_eq_getElem?_getD, List.getElem?_eq_getElem h]; rfl
theorem Bj_dn {vs : Nat} {B : List Lt} (h : DnL vs B) (j : Nat) : ∀ t, t ∈ (Bj B j).a → Dn vs t := by
  intro t ht
  by_cases hj : j < B.length
  · exact h _ t (List.mem_of_getElem? (Bj_get hj)) ht
  · have : Bj B j = lt0 := by unfold Bj; rw [List.getD_eq_getElem?_getD, List.getElem?_eq_none (by omega)]; rfl
    rw [this] at ht; cases ht
theorem lab_a (N : Nat → Int) (l : Lt) : (lab N l).a = l.a.map (lbT N) := rfl
/-- literals with one label are read alike -/
theorem simL {N N' : Nat → Int} {vs vs' : Nat} (hN : InjN N vs) (hN' : InjN N' vs') {l l' : Lt} {s s' : Nm} (h : Cmp2 N N' vs vs' s s') (hd : ∀ t, t ∈ l.a → Dn vs t) (hd' : ∀ t, t ∈ l'.a → Dn vs' t) (e : lab N l = lab N' l') : Cmp2 N N' vs vs' (rdTs s l.a).1 (rdTs s' l'.a).1 ∧ rdL s l = rdL s' l' := by
  have ha : l.a.map (lbT N) = l'.a.map (lbT N') := by rw [← lab_a, ← lab_a, e]
  obtain ⟨h1, h2⟩ := simTs hN hN' h hd hd' ha
  refine ⟨h1, ?_⟩
  unfold lab chL at e
  injection e with e1 e2 e3 e4
  unfold rdL; rw [h2, e1, e2, e3]
/-- what holds of a state -/
structure StI (vs : Nat) (s : Nm) : Prop where
  len : s.1.length = vs
  nx : 0 ≤ s.2
  lt : ∀ u, -1 ≤ fnI s.1 u ∧ fnI s.1 u < s.2
  inj : ∀ u v, fnI s.1 u = fnI s.1 v → ¬ fnI s.1 u = -1 → u = v
theorem StI.r1 {vs : Nat} {s : Nm} (h : StI vs s) {t : Tm} (ht : Dn vs t) : StI vs (rd1 s t).1 := by
  by_cases hk : t.k = 0
  · obtain ⟨a1, a2⟩ := dn_nat ht hk
    by_cases hf : fnI s.1 t.v.toNat = -1
    · rw [rd1_new hk a2 hf]
      have hl := h.len
      have h0 := h.nx
      refine ⟨by simp [hl], by simp only; omega, fun u => ?_, fun u v => ?_⟩
      · simp only
        rw [fnI_set (by omega)]
        by_cases hc : u = t.v.toNat
        · rw [hc, upd_self]; omega
        · rw [upd_ne hc]; have := h.lt u; omega
      · simp only
        rw [fnI_set (by omega)]
        by_cases hc : u = t.v.toNat <;> by_cases hd : v = t.v.toNat
        · intro _ _; omega
        · rw [hc, upd_self, upd_ne hd]; intro h1 _; have := h.lt v; omega
        · rw [hd, upd_self, upd_ne hc]; intro h1 _; have := h.lt u; omega
        · rw [upd_ne hc, upd_ne hd]; exact h.inj u v
    · rw [rd1_old hk a2 hf]; exact h
  · rw [rd1_no hk]; exact h
theorem StI.rd {vs : Nat} : ∀ {ts : List Tm} {s : Nm}, StI vs s → (∀ t, t ∈ ts → Dn vs t) → StI vs (rdTs s ts).1
  | [], _, h, _ => h
  | t :: ts, s, h, hd => StI.rd (ts := ts) (h.r1 (hd t (by simp))) (fun q hq => hd q (by simp [hq]))
theorem rd1_keep {vs : Nat} {s : Nm} (h : StI vs s) {t : Tm} (ht : Dn vs t) {v : Nat} (hv : ¬ fnI s.1 v = -1) : fnI (rd1 s t).1.1 v = fnI s.1 v := by
  by_cases hk : t.k = 0
  · obtain ⟨a1, a2⟩ := dn_nat ht hk
    by_cases hf : fnI s.1 t.v.toNat = -1
    · rw [rd1_new hk a2 hf]
      simp only
      rw [fnI_set (by rw [h.len]; exact a1), upd_ne (fun hc => hv (by rw [hc]; exact hf))]
    · rw [rd1_old hk a2 hf]
  · rw [rd1_no hk]
theorem rd_keep {vs : Nat} : ∀ {ts : List Tm} {s : Nm}, StI vs s → (∀ t, t ∈ ts → Dn vs t) → ∀ {v : Nat}, ¬ fnI s.1 v = -1 → fnI (rdTs s ts).1.1 v = fnI s.1 v
  | [], _, _, _, _, _ => rfl
  | t :: ts, s, h, hd, v, hv => by
    have h1 := rd1_keep h (hd t (by simp)) hv
    show fnI (rdTs (rd1 s t).1 ts).1.1 v = _
    rw [rd_keep (h.r1 (hd t (by simp))) (fun q hq => hd q (by simp [hq])) (by rw [h1]; exact hv), h1]
/-- a reading writes the final numbers -/
theorem rd_val {vs : Nat} : ∀ {ts : List Tm} {s : Nm}, StI vs s → (∀ t, t ∈ ts → Dn vs t) → (rdTs s ts).2 = ts.map (lbT (fnI (rdTs s ts).1.1)) ∧ ∀ v, v ∈ vN ts → ¬ fnI (rdTs s ts).1.1 v = -1
  | [], _, _, _ => ⟨rfl, fun v hv => by cases hv⟩
  | t :: ts, s, h, hd => by
    have hs := h.r1 (hd t (by simp))
    have hd2 : ∀ q, q ∈ ts → Dn vs q := fun q hq => hd q (by simp [hq])
    obtain ⟨h1, h2⟩ := rd_val hs hd2
    have e1 : (rdTs s (t :: ts)).1 = (rdTs (rd1 s t).1 ts).1 := rfl
    have e2 : (rdTs s (t :: ts)).2 = (rd1 s t).2 :: (rdTs (rd1 s t).1 ts).2 := rfl
    rw [e1, e2, List.map_cons]
    have key : (rd1 s t).2 = lbT (fnI (rdTs (rd1 s t).1 ts).1.1) t ∧ (t.k = 0 → ¬ fnI (rdTs (rd1 s t).1 ts).1.1 t.v.toNat = -1) := by
      by_cases hk : t.k = 0
      · obtain ⟨a1, a2⟩ := dn_nat (hd t (by simp)) hk
        have h0 := h.nx
        have hv : ¬ fnI (rd1 s t).1.1 t.v.toNat = -1 ∧ (rd1 s t).2 = ⟨t.k, fnI (rd1 s t).1.1 t.v.toNat, t.i, t.s⟩ := by
          by_cases hf : fnI s.1 t.v.toNat = -1
          · rw [rd1_new hk a2 hf]
            simp only
            rw [fnI_set (by rw [h.len]; exact a1), upd_self]
            exact ⟨by omega, rfl⟩
          · rw [rd1_old hk a2 hf]; exact ⟨hf, rfl⟩
        have hkp := rd_keep hs hd2 hv.1
        refine ⟨?_, fun _ => by rw [hkp]; exact hv.1⟩
        unfold lbT
        rw [chT_v hk, hv.2, hkp]
      · refine ⟨?_, fun h9 => absurd h9 hk⟩
        unfold lbT
        rw [chT_n hk, rd1_no hk]
    refine ⟨by rw [key.1, h1], fun v hv => ?_⟩
    obtain ⟨q, hq, hqk, hqv⟩ := mem_vN.1 hv
    rcases List.mem_cons.1 hq with e | e
    · rw [← hqv, e]; exact key.2 (by rw [← e]; exact hqk)
    · exact h2 v (mem_vN.2 ⟨q, e, hqk, hqv⟩)
theorem rd_fresh {vs : Nat} {ts : List Tm} {s : Nm} (h : StI vs s) (hd : ∀ t, t ∈ ts → Dn vs t) {v : Nat} (hv : v ∈ vN ts) (hf : fnI s.1 v = -1) : s.2 ≤ fnI (rdTs s ts).1.1 v := by
  have h1 := (rdF h.nx ts).inn v hv (by
    obtain ⟨t, ht, hk, e⟩ := mem_vN.1 hv
    rw [← e, h.len]; exact (dn_nat (hd t ht) hk).1)
  rcases h1 with h1 | h1
  · exact h1.2
  · exact absurd hf h1.1
end iso

end Go.Proofs.Qxb6500915aGreatDoor

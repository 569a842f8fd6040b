import Derived.Test.Qxb6500915aGreatDoorK5
namespace Go.Proofs.Qxb6500915aGreatDoor
open Go.Eng
set_option linter.unusedVariables false
set_option linter.unusedSimpArgs false

/-! ## the canonical form is the least of all readings -/
section least
inductive Cpl (B : List Lt) : Core → List Lt → Prop
  | nil {c : Core} : unpl B.length c = [] → Cpl B c []
  | cons {c : Core} {j : Nat} {R : List Lt} : j ∈ unpl B.length c → Cpl B (newC c (Bj B j) j) R → Cpl B c (rdJ B c j :: R)
theorem Cpl.sen {B : List Lt} {vs : Nat} {N N' : Nat → Int} (hn : B.length ≤ 64) (hd : DnL vs B) {c : Core} {R : List Lt} (hc : Cpl B c R) : ∀ {c' : Core}, SEN B B vs vs N N' c c' → Cpl B c' R := by
  induction hc with
  | nil h0 =>
    intro c' h
    refine .nil ?_
    have := h.m.length_eq
    rw [List.length_map, List.length_map, h0] at this
    exact List.eq_nil_of_length_eq_zero this.symm
  | cons hj _ ih =>
    intro c' h
    obtain ⟨p', h1, h2⟩ := h.fnd hj
    rw [h.rd hd hd h2]
    exact .cons h1 (ih (h.pick hn hn hd hd hj h1 h2))
theorem SEN.self {B : List Lt} {vs : Nat} {N : Nat → Int} (hN : InjN N vs) {c : Core} (hs : StI vs c.2) : SEN B B vs vs N N c c :=
  ⟨hN, hN, ⟨hs.len, hs.len, rfl, fun v v' hv hv' e => by rw [hN v v' hv hv' e]⟩, List.Perm.refl _⟩
theorem key_SE {B : List Lt} {oc : List Int} {vs : Nat} (hI : BI B oc vs) {N : Nat → Int} (hN : InjN N vs) {c : Core} (hs : StI vs c.2) {b : Lt} {p p' : Nat} (hp : p ∈ pks B b c) (hp' : p' ∈ pks B b c) (e : keyN oc N B c p = keyN oc N B c p') : SE B B vs vs (newC c (Bj B p) p) (newC c (Bj B p') p') := by
  have h := SEN.self (B := B) hN hs
  have a1 := mem_pks.1 hp
  have a2 := mem_pks.1 hp'
  cases hk : keyN oc N B c p with
  | some x =>
    rw [hk] at e
    exact ⟨N, N, h.pick hI.n hI.n hI.d hI.d a1.1 a2.1 ((keyN_some hk).trans (keyN_some e.symm).symm)⟩
  | none =>
    rw [hk] at e
    by_cases hq : p' = p
    · subst hq
      exact ⟨N, N, h.pick hI.n hI.n hI.d hI.d a1.1 a2.1 rfl⟩
    · have c1 := (prv_iff hI.n hI.d hI.o hI.l (mem_unpl.1 a2.1).1).1 (keyN_none e.symm)
      have c2 := (prv_iff hI.n hI.d hI.o hI.l (mem_unpl.1 a1.1).1).1 (keyN_none hk)
      obtain ⟨N'', d1, d2⟩ := h.twin hI.d hs a2.1 a1.1 hq c1 c2 (a2.2.trans a1.2.symm)
      exact ⟨N, N'', d1.pick hI.n hI.n hI.d hI.d a1.1 a2.1 d2.symm⟩
theorem canP_pre {B : List Lt} {oc : List Int} : ∀ (n : Nat) (cs : List Core) (out res : List Lt), canP B oc n cs out = some res → ∃ T, res = out ++ T
  | 0, cs, out, res, h => ⟨[], by unfold canP at h; injection h with h; rw [List.append_nil, h]⟩
  | n + 1, cs, out, res, h => by
    unfold canP at h
    split at h
    · cases h
    · obtain ⟨T, e⟩ := canP_pre n _ _ res h
      exact ⟨_, by rw [e, List.append_assoc]⟩
theorem Hst.st {B : List Lt} {vs : Nat} (hd : DnL vs B) {h1 : Nm} (hs1 : StI vs h1) {out : List Lt} {c : Core} {S : List Nat} (h : Hst B h1 out c S) : StI vs c.2 := by
  rw [h.s]
  refine rdB_st hs1 fun l t hl ht => ?_
  obtain ⟨j, _, rfl⟩ := List.mem_map.1 hl
  exact Bj_dn hd j t ht
theorem canP_least {B : List Lt} {oc : List Int} {vs : Nat} (hI : BI B oc vs) {h1 : Nm} (hs1 : StI vs h1) : ∀ (n : Nat) (cs : List Core) (out res : List Lt), canP B oc n cs out = some res → cs ≠ [] → (∀ c, c ∈ cs → ∃ S, Hst B h1 out c S) → out.length + n = B.length → ∀ c R, c ∈ cs → Cpl B c R → ∃ T, res = out ++ T ∧ cmpB T R ≤ 0
  | 0, cs, out, res, hc, h0, h, hl, c, R, hcm, hR => by
    have e : out = res := by unfold canP at hc; injection hc
    refine ⟨[], by rw [List.append_nil, e], ?_⟩
    cases R with
    | nil => exact Int.le_refl 0
    | cons x R => show (-1 : Int) ≤ 0; omega
  | n + 1, cs, out, res, hc, h0, h, hl, c, R, hcm, hR => by
    unfold canP at hc
    rw [follow_flat hI.n] at hc
    split at hc
    · cases hc
    · obtain ⟨S, hS⟩ := h c hcm
      cases hR with
      | nil hu =>
        have hp := hS.unp.length_eq
        rw [List.length_append, hS.len, List.length_range, hu, List.length_nil] at hp
        omega
      | @cons _ j R' hj hR' =>
        have hbest := (best_mem hI.n h0 h (by omega)).2 c j hcm hj
        by_cases hz : cmpL (outerP B cs cs.length).1 (rdJ B c j) = 0
        · have hb := cmpL_eq hz
          have hjp : j ∈ pks B (outerP B cs cs.length).1 c := mem_pks.2 ⟨hj, hb.symm⟩
          have hK := kept_pks hI (N := fun v => (v : Int)) (idN _) (outerP B cs cs.length).1 c
          obtain ⟨k, hk, hkey⟩ := List.mem_map.1 (hK.2.2 j hjp)
          have hSE := key_SE hI (idN _) (hS.st hI.d hs1) hjp (hK.2.1 k hk) hkey.symm
          obtain ⟨N, N', hSEN⟩ := hSE
          have hmem : newC c (Bj B k) k ∈ cs.flatMap (nxt B oc (outerP B cs cs.length).1) := List.mem_flatMap.2 ⟨c, hcm, List.mem_map.2 ⟨k, hk, rfl⟩⟩
          obtain ⟨T, e, hT⟩ := canP_least hI hs1 n _ _ res hc (nxt_ne hI h0 h (by omega)) (nxt_hst hI h _) (by rw [List.length_append, List.length_singleton]; omega) _ R' hmem (hR'.sen hI.n hI.d hSEN)
          refine ⟨(outerP B cs cs.length).1 :: T, by rw [e, List.append_assoc]; rfl, ?_⟩
          show thn (cmpL (outerP B cs cs.length).1 (rdJ B c j)) (cmpB T R') ≤ 0
          rw [thn_0 hz]; exact hT
        · obtain ⟨T, e⟩ := canP_pre n _ _ res hc
          refine ⟨(outerP B cs cs.length).1 :: T, by rw [e, List.append_assoc]; rfl, ?_⟩
          show thn (cmpL (outerP B cs cs.length).1 (rdJ B c j)) (cmpB T R') ≤ 0
          rw [thn_1 hz]; exact hbest
theorem cpl_of {B : List Lt} (hn : B.length ≤ 64) : ∀ (S : List Nat) (c : Core), S.Perm (unpl B.length c) → Cpl B c (rdB c.2 (S.map (Bj B))).2
  | [], c, h => .nil (List.nil_perm.1 h)
  | j :: S, c, h => by
    have hj : j ∈ unpl B.length c := h.mem_iff.1 (by simp)
    have hnd : (j :: S).Nodup := h.nodup_iff.2 (unpl_nd _ _)
    rw [List.nodup_cons] at hnd
    have hS : S.Perm (unpl B.length (newC c (Bj B j) j)) := by
      rw [unpl_new hn (mem_unpl.1 hj).1]
      refine (List.perm_ext_iff_of_nodup hnd.2 (List.Pairwise.filter _ (unpl_nd _ _))).2 fun x => ?_
      rw [List.mem_filter, ← h.mem_iff, List.mem_cons]
      constructor
      · intro hx
        exact ⟨.inr hx, by simp only [bne_iff_ne, ne_eq]; exact fun e => hnd.1 (e ▸ hx)⟩
      · rintro ⟨h1, h2⟩
        simp only [bne_iff_ne, ne_eq] at h2
        exact h1.resolve_left h2
    exact .cons hj (cpl_of hn S _ hS)
/-- the canonical form comes before every other reading -/
theorem can_least {r q : Ru} (h64 : r.b.length ≤ 64) (h : canR r = some q) (S : List Nat) (hS : S.Perm (List.range (canI r).B.length)) : cmpB q.b (rdB (canI r).h.1 (S.map (Bj (canI r).B))).2 ≤ 0 := by
  obtain ⟨a0, a1, a2, a3, a4⟩ := canI_v r
  have hI := canI_BI r h64
  have hda : ∀ t, t ∈ r.a.map (chT (dl (vars r))) → Dn (vars r).length t := by
    intro t ht
    obtain ⟨t0, h1, rfl⟩ := List.mem_map.1 ht
    exact dl_dn (a3 t0 h1)
  have hs1 : StI (vars r).length (canI r).h.1 := by
    have hh : (canI r).h = rdTs (List.replicate (vars r).length (-1), 0) (r.a.map (chT (dl (vars r)))) := by
      show rdTs (List.replicate (rnLs (rnTs [] r.a).1 r.b).1.length (-1), 0) (rnTs [] r.a).2 = _
      rw [a0, a1]
    rw [hh]; exact (st0 _).rd hda
  have hu : unpl (canI r).B.length ((0 : Int), (canI r).h.1) = List.range (canI r).B.length := by
    unfold unpl
    rw [List.filter_eq_self]
    intro j _
    simp only
    rw [bt_zero]; rfl
  unfold canR at h
  cases hc : canP (canI r).B (canI r).oc (canI r).B.length [(0, (canI r).h.1)] [] with
  | none => rw [hc] at h; cases h
  | some res =>
    rw [hc] at h
    injection h with h
    subst h
    obtain ⟨T, e, hT⟩ := canP_least hI hs1 _ _ _ _ hc (by simp) (fun c hc => by rw [List.mem_singleton.1 hc]; exact ⟨[], hst0 _ _⟩) (by simp) (0, (canI r).h.1) _ (by simp) (cpl_of hI.n S (0, (canI r).h.1) (by rw [hu]; exact hS))
    rw [List.nil_append] at e
    subst e
    exact hT
end least

end Go.Proofs.Qxb6500915aGreatDoor

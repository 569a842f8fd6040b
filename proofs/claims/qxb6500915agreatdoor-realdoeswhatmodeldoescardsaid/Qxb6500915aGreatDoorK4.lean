import Derived.Test.Qxb6500915aGreatDoorK3
namespace Go.Proofs.Qxb6500915aGreatDoor
open Go.Eng
set_option linter.unusedVariables false
set_option linter.unusedSimpArgs false

/-! ## followers, flat; two searches end alike -/
section iso5
theorem twL_pre {B : List Lt} {oc : List Int} {c : Core} {A D : List (Nat × Nat)} {pk : Nat × Nat} {l : Lt} : ∀ k, k ≤ A.length → twL B oc c (A ++ D) pk l k = twL B oc c A pk l k
  | 0, _ => rfl
  | k + 1, h => by
    have e : (A ++ D)[k]? = A[k]? := List.getElem?_append_left (by omega)
    unfold twL
    rw [e, twL_pre k (by omega)]
theorem fol_pre {B : List Lt} {oc : List Int} {cs : List Core} {A D : List (Nat × Nat)} : ∀ k, k ≤ A.length → followP B oc cs (A ++ D) k = followP B oc cs A k
  | 0, _ => rfl
  | k + 1, h => by
    have e : (A ++ D)[k]? = A[k]? := List.getElem?_append_left (by omega)
    have ih := fol_pre (B := B) (oc := oc) (cs := cs) (A := A) (D := D) k (by omega)
    conv => lhs; unfold followP
    conv => rhs; unfold followP
    rw [e, ih]
    cases hA : A[k]? with
    | none => rfl
    | some pk =>
      simp only
      cases hc : cs[pk.1]? with
      | none => rfl
      | some c =>
        cases hl : B[pk.2]? with
        | none => rfl
        | some l => simp only; rw [twL_pre k (by omega)]
theorem twL_blk {B : List Lt} {oc : List Int} {c : Core} {A : List (Nat × Nat)} {L : List Nat} {m : Nat} (hA : ∀ q, q ∈ A → q.1 ≠ m) (hL : ∀ j, j ∈ L → j < B.length) {pk : Nat × Nat} (hpk : pk.1 = m) {l : Lt} : ∀ s, s ≤ L.length → twL B oc c (A ++ L.map fun j => (m, j)) pk l (A.length + s) = (L.take s).any fun y => twinP oc c.2.1 c.1 y pk.2 (Bj B y) l
  | 0, _ => by
    rw [Nat.add_zero, twL_pre _ (Nat.le_refl _), List.take_zero]
    cases hl : A.length with
    | zero => rfl
    | succ k =>
      obtain ⟨q, hq⟩ : ∃ q, A[k]? = some q := ⟨_, List.getElem?_eq_getElem (by omega)⟩
      unfold twL
      rw [hq]
      simp only
      rw [if_neg (by rw [hpk]; exact hA q (List.mem_of_getElem? hq))]; rfl
  | s + 1, h => by
    have hs : L[s]? = some L[s] := List.getElem?_eq_getElem (by omega)
    have e : (A ++ L.map fun j => (m, j))[A.length + s]? = some (m, L[s]) := by
      rw [List.getElem?_append_right (by omega), Nat.add_sub_cancel_left, List.getElem?_map, hs]; rfl
    have hb := Bj_get (hL L[s] (List.getElem_mem _))
    have ih := twL_blk (oc := oc) (c := c) hA hL hpk (l := l) s (by omega)
    show (match (A ++ L.map fun j => (m, j))[A.length + s]? with | some pr => _ | none => _) = _
    rw [e]
    simp only
    rw [if_pos hpk.symm, hb]
    simp only
    rw [show A.length.add s = A.length + s from rfl, ih, List.take_add_one, hs, List.any_append]
    simp only [Option.toList_some, List.any_cons, List.any_nil, Bool.or_false]
    cases twinP oc c.2.1 c.1 L[s] pk.2 (Bj B L[s]) l <;> simp
theorem fol_blk {B : List Lt} {oc : List Int} {cs : List Core} {A : List (Nat × Nat)} {L : List Nat} {m : Nat} {c : Core} (hA : ∀ q, q ∈ A → q.1 ≠ m) (hL : ∀ j, j ∈ L → j < B.length) (hc : cs[m]? = some c) : ∀ s, s ≤ L.length → followP B oc cs (A ++ L.map fun j => (m, j)) (A.length + s) = followP B oc cs A A.length ++ (keptL (twB B oc c) [] (L.take s)).map fun j => newC c (Bj B j) j
  | 0, _ => by
    rw [Nat.add_zero, fol_pre _ (Nat.le_refl _), List.take_zero]
    show _ = _ ++ []
    rw [List.append_nil]
  | s + 1, h => by
    have hs : L[s]? = some L[s] := List.getElem?_eq_getElem (by omega)
    have e : (A ++ L.map fun j => (m, j))[A.length + s]? = some (m, L[s]) := by
      rw [List.getElem?_append_right (by omega), Nat.add_sub_cancel_left, List.getElem?_map, hs]; rfl
    have hb := Bj_get (hL L[s] (List.getElem_mem _))
    have ih := fol_blk (oc := oc) hA hL hc s (by omega)
    have ht := twL_blk (oc := oc) (c := c) hA hL (pk := (m, L[s])) rfl (l := Bj B L[s]) s (by omega)
    rw [List.take_add_one, hs]
    show followP B oc cs _ (A.length + s + 1) = _ ++ List.map _ (keptL _ [] (L.take s ++ [L[s]]))
    rw [kept_snoc, List.nil_append, List.map_append]
    by_cases hq : ((L.take s).any fun y => twB B oc c y L[s]) = true
    · rw [follow_yes e hc hb (ht.trans hq), ih, if_pos hq, List.map_nil, List.append_nil]
    · have hq' : ((L.take s).any fun y => twB B oc c y L[s]) = false := by simpa using hq
      rw [follow_no e hc hb (ht.trans hq'), ih, if_neg hq, List.append_assoc]; rfl
theorem fol_all {B : List Lt} {oc : List Int} {cs : List Core} {Lf : Core → List Nat} (hL : ∀ c j, j ∈ Lf c → j < B.length) : ∀ m, m ≤ cs.length →
    followP B oc cs ((List.range m).flatMap fun si => match cs[si]? with | some c => (Lf c).map fun j => (si, j) | none => []) ((List.range m).flatMap fun si => match cs[si]? with | some c => (Lf c).map fun j => (si, j) | none => []).length = (cs.take m).flatMap fun c => (keptL (twB B oc c) [] (Lf c)).map fun j => newC c (Bj B j) j
  | 0, _ => rfl
  | m + 1, h => by
    obtain ⟨c, hc⟩ : ∃ c, cs[m]? = some c := ⟨_, List.getElem?_eq_getElem (by omega)⟩
    have ih := fol_all (B := B) (oc := oc) (cs := cs) (Lf := Lf) hL m (by omega)
    rw [List.range_succ, List.flatMap_append, List.flatMap_singleton, hc]
    simp only
    generalize hA : ((List.range m).flatMap fun si => match cs[si]? with | some c => (Lf c).map fun j => (si, j) | none => []) = A at ih
    have hAm : ∀ q, q ∈ A → q.1 ≠ m := by
      intro q hq
      rw [← hA] at hq
      obtain ⟨si, h1, h2⟩ := List.mem_flatMap.1 hq
      rw [List.mem_range] at h1
      cases h3 : cs[si]? with
      | none => rw [h3] at h2; cases h2
      | some c2 =>
        rw [h3] at h2
        obtain ⟨j, _, rfl⟩ := List.mem_map.1 h2
        simp only; omega
    have hb := fol_blk (oc := oc) (cs := cs) hAm (hL c) hc (Lf c).length (Nat.le_refl _)
    rw [List.take_length] at hb
    rw [List.length_append, List.length_map, hb, ih, List.take_add_one, hc, List.flatMap_append]
    simp
theorem follow_flat {B : List Lt} {oc : List Int} (hn : B.length ≤ 64) {cs : List Core} : followP B oc cs (outerP B cs cs.length).2 (outerP B cs cs.length).2.length = cs.flatMap (nxt B oc (outerP B cs cs.length).1) := by
  have h := (outer_flat hn (cs := cs) cs.length (Nat.le_refl _)).p
  rw [h]
  have := fol_all (B := B) (oc := oc) (cs := cs) (Lf := pks B (outerP B cs cs.length).1) (fun c j hj => (mem_unpl.1 (mem_pks.1 hj).1).1) cs.length (Nat.le_refl _)
  refine Eq.trans this ?_
  rw [List.take_length]
  rfl
theorem best_flat {B : List Lt} (hn : B.length ≤ 64) {cs : List Core} : (outerP B cs cs.length).1 = (minL (cs.flatMap (rds B))).getD lt0 := by
  have h := (outer_flat hn (cs := cs) cs.length (Nat.le_refl _)).b
  rwa [List.take_length] at h
/-! ### frontiers matched -/
def FR (B B' : List Lt) (vs vs' : Nat) (cs cs' : List Core) : Prop := ∃ l : List Core, l.Perm cs' ∧ Al (SE B B' vs vs') cs l
theorem Al.lm {α β : Type} {R : α → β → Prop} : ∀ {xs : List α} {bs : List β}, Al R xs bs → ∀ a, a ∈ xs → ∃ b, b ∈ bs ∧ R a b
  | [], [], _, a, ha => by cases ha
  | x :: xs, b :: bs, h, a, ha => by
    rcases List.mem_cons.1 ha with rfl | ha
    · exact ⟨b, by simp, h.1⟩
    · obtain ⟨b2, h1, h2⟩ := Al.lm h.2 a ha
      exact ⟨b2, List.mem_cons_of_mem _ h1, h2⟩
theorem Al.rm {α β : Type} {R : α → β → Prop} : ∀ {xs : List α} {bs : List β}, Al R xs bs → ∀ b, b ∈ bs → ∃ a, a ∈ xs ∧ R a b
  | [], [], _, a, ha => by cases ha
  | x :: xs, b :: bs, h, a, ha => by
    rcases List.mem_cons.1 ha with rfl | ha
    · exact ⟨x, by simp, h.1⟩
    · obtain ⟨b2, h1, h2⟩ := Al.rm h.2 a ha
      exact ⟨b2, List.mem_cons_of_mem _ h1, h2⟩
theorem FR.reads {B B' : List Lt} {vs vs' : Nat} {cs cs' : List Core} (h : FR B B' vs vs' cs cs') (hB : DnL vs B) (hB' : DnL vs' B') (x : Lt) : x ∈ cs.flatMap (rds B) ↔ x ∈ cs'.flatMap (rds B') := by
  obtain ⟨l, h1, h2⟩ := h
  have one : ∀ {B1 B2 : List Lt} {v1 v2 : Nat} {c1 c2 : Core}, DnL v1 B1 → DnL v2 B2 → SE B1 B2 v1 v2 c1 c2 → ∀ y, y ∈ rds B1 c1 → y ∈ rds B2 c2 := by
    rintro B1 B2 v1 v2 c1 c2 d1 d2 ⟨N, N', h⟩ y hy
    obtain ⟨p, hp, rfl⟩ := List.mem_map.1 hy
    obtain ⟨p', h3, h4⟩ := h.fnd hp
    exact List.mem_map.2 ⟨p', h3, (h.rd d1 d2 h4).symm⟩
  constructor
  · intro hx
    obtain ⟨c, hc, hx⟩ := List.mem_flatMap.1 hx
    obtain ⟨c', h3, h4⟩ := h2.lm c hc
    exact List.mem_flatMap.2 ⟨c', h1.mem_iff.1 h3, one hB hB' h4 x hx⟩
  · intro hx
    obtain ⟨c', hc, hx⟩ := List.mem_flatMap.1 hx
    obtain ⟨c, h3, N, N', h4⟩ := h2.rm c' (h1.mem_iff.2 hc)
    exact List.mem_flatMap.2 ⟨c, h3, one hB' hB ⟨N', N, h4.symm⟩ x hx⟩
theorem FR.next {B B' : List Lt} {oc oc' : List Int} {vs vs' : Nat} {cs cs' : List Core} (h : FR B B' vs vs' cs cs') (hI : BI B oc vs) (hI' : BI B' oc' vs') (hs' : ∀ c, c ∈ cs' → StI vs' c.2) (b : Lt) : FR B B' vs vs' (cs.flatMap (nxt B oc b)) (cs'.flatMap (nxt B' oc' b)) := by
  obtain ⟨l, h1, h2⟩ := h
  have key : ∀ (cs l : List Core), Al (SE B B' vs vs') cs l → (∀ c, c ∈ l → StI vs' c.2) → ∃ l2 : List Core, l2.Perm (l.flatMap (nxt B' oc' b)) ∧ Al (SE B B' vs vs') (cs.flatMap (nxt B oc b)) l2 := by
    intro cs
    induction cs with
    | nil => intro l h _; cases l with
      | nil => exact ⟨[], List.Perm.refl _, trivial⟩
      | cons y l => cases h
    | cons c cs ih =>
      intro l h hs
      cases l with
      | nil => cases h
      | cons c' l =>
        obtain ⟨⟨N, N', h3⟩, h4⟩ := h
        obtain ⟨l1, a1, a2⟩ := h3.nxt hI hI' (hs c' (by simp)) b
        obtain ⟨l2, b1, b2⟩ := ih l h4 (fun c hc => hs c (by simp [hc]))
        exact ⟨l1 ++ l2, by rw [List.flatMap_cons]; exact a1.append b1, by rw [List.flatMap_cons]; exact a2.app b2⟩
  obtain ⟨l2, c1, c2⟩ := key cs l h2 (fun c hc => hs' c (h1.mem_iff.1 hc))
  exact ⟨l2, c1.trans (h1.flatMap_right _), c2⟩
theorem FR.len {B B' : List Lt} {vs vs' : Nat} {cs cs' : List Core} (h : FR B B' vs vs' cs cs') : cs.length = cs'.length := by
  obtain ⟨l, h1, h2⟩ := h
  rw [h2.len, h1.length_eq]
theorem nxt_st {B : List Lt} {oc : List Int} {vs : Nat} {b : Lt} {cs : List Core} (hB : DnL vs B) (h : ∀ c, c ∈ cs → StI vs c.2) : ∀ c, c ∈ cs.flatMap (nxt B oc b) → StI vs c.2 := by
  intro c hc
  obtain ⟨c0, h1, h2⟩ := List.mem_flatMap.1 hc
  obtain ⟨j, _, rfl⟩ := List.mem_map.1 h2
  exact (h c0 h1).rd (Bj_dn hB j)
theorem canP_sim {B B' : List Lt} {oc oc' : List Int} {vs vs' : Nat} (hI : BI B oc vs) (hI' : BI B' oc' vs') : ∀ (n : Nat) (cs cs' : List Core) (out : List Lt), FR B B' vs vs' cs cs' → (∀ c, c ∈ cs' → StI vs' c.2) → canP B oc n cs out = canP B' oc' n cs' out
  | 0, _, _, _, _, _ => rfl
  | n + 1, cs, cs', out, h, hs => by
    have hb : (outerP B cs cs.length).1 = (outerP B' cs' cs'.length).1 := by rw [best_flat hI.n, best_flat hI'.n, minL_eq (h.reads hI.d hI'.d)]
    have hf := h.next (oc := oc) (oc' := oc') hI hI' hs (outerP B cs cs.length).1
    unfold canP
    rw [follow_flat hI.n, follow_flat hI'.n, ← hb, hf.len]
    split
    · rfl
    · exact canP_sim hI hI' n _ _ _ hf (nxt_st hI'.d hs)
/-! ### dense rules -/
theorem dpos_app {vs ws : List Int} {v : Int} {d : Nat} (h : dpos vs v = some d) : dpos (vs ++ ws) v = some d := by
  induction vs generalizing d with
  | nil => cases h
  | cons u vs ih =>
    unfold dpos at h
    show (if v = u then some 0 else (dpos (vs ++ ws) v).map (· + 1)) = some d
    split at h
    · rename_i e; rw [if_pos e]; exact h
    · rename_i e
      rw [if_neg e]
      cases hq : dpos vs v with
      | none => rw [hq] at h; cases h
      | some i => rw [hq] at h; rw [ih hq]; exact h
theorem dpos_new {vs : List Int} {v : Int} (h : dpos vs v = none) : dpos (vs ++ [v]) v = some vs.length := by
  induction vs with
  | nil => show (if v = v then some 0 else _) = _; rw [if_pos rfl]; rfl
  | cons u vs ih =>
    unfold dpos at h
    show (if v = u then some 0 else (dpos (vs ++ [v]) v).map (· + 1)) = some (vs.length + 1)
    split at h
    · cases h
    · rename_i e
      rw [if_neg e]
      cases hq : dpos vs v with
      | none => rw [ih hq]; rfl
      | some i => rw [hq] at h; cases h
def dl (V : List Int) (v : Int) : Int := ((dpos V v).getD 0 : Nat)
structure RnV (vs : List Int) (ts : List Tm) (q : List Int × List Tm) : Prop where
  ex : ∃ ws, q.1 = vs ++ ws
  e : ∀ W, q.2 = ts.map (chT (dl (q.1 ++ W)))
  m : ∀ t, t ∈ ts → t.k = 0 → t.v ∈ q.1
theorem rn1_v (vs : List Int) (t : Tm) : (∃ ws, (rn1 vs t).1 = vs ++ ws) ∧ (∀ W, (rn1 vs t).2 = chT (dl ((rn1 vs t).1 ++ W)) t) ∧ (t.k = 0 → t.v ∈ (rn1 vs t).1) := by
  by_cases hk : t.k = 0
  · rcases dpos_cases vs t.v with h | ⟨d, h⟩
    · rw [rn1_new hk h]
      refine ⟨⟨_, rfl⟩, fun W => ?_, fun _ => by simp⟩
      rw [chT_v hk]
      unfold dl
      rw [dpos_app (dpos_new h)]; rfl
    · rw [rn1_old hk h]
      refine ⟨⟨[], by simp⟩, fun W => ?_, fun _ => List.mem_of_getElem? (dpos_lt h)⟩
      rw [chT_v hk]
      unfold dl
      rw [dpos_app h]; rfl
  · rw [rn1_no hk]
    exact ⟨⟨[], by simp⟩, fun W => (chT_n hk).symm, fun h => absurd h hk⟩
theorem rnTs_v : ∀ (ts : List Tm) (vs : List Int), RnV vs ts (rnTs vs ts)
  | [], vs => ⟨⟨[], by simp [rnTs]⟩, fun W => rfl, fun t ht => by cases ht⟩
  | t :: ts, vs => by
    obtain ⟨⟨ws, h1⟩, h2, h3⟩ := rn1_v vs t
    obtain ⟨⟨us, h4⟩, h5, h6⟩ := rnTs_v ts (rn1 vs t).1
    have e1 : (rnTs vs (t :: ts)).1 = (rnTs (rn1 vs t).1 ts).1 := rfl
    have e2 : (rnTs vs (t :: ts)).2 = (rn1 vs t).2 :: (rnTs (rn1 vs t).1 ts).2 := rfl
    refine ⟨⟨ws ++ us, by rw [e1, h4, h1, List.append_assoc]⟩, fun W => ?_, fun q hq hk => ?_⟩
    · rw [e1, e2, List.map_cons, ← h5 W, h4, List.append_assoc, ← h2 (us ++ W)]
    · rw [e1]
      rcases List.mem_cons.1 hq with rfl | hq
      · rw [h4]; exact List.mem_append_left _ (h3 hk)
      · exact h6 q hq hk
structure RnB (vs : List Int) (ls : List Lt) (q : List Int × List Lt) : Prop where
  ex : ∃ ws, q.1 = vs ++ ws
  e : ∀ W, q.2 = ls.map (chL (dl (q.1 ++ W)))
  m : ∀ l t, l ∈ ls → t ∈ l.a → t.k = 0 → t.v ∈ q.1
theorem rnLs_v : ∀ (ls : List Lt) (vs : List Int), RnB vs ls (rnLs vs ls)
  | [], vs => ⟨⟨[], by simp [rnLs]⟩, fun W => rfl, fun l t hl => by cases hl⟩
  | l :: ls, vs => by
    have hT := rnTs_v l.a vs
    obtain ⟨ws, h1⟩ := hT.ex
    have hR := rnLs_v ls (rnTs vs l.a).1
    obtain ⟨us, h4⟩ := hR.ex
    have e1 : (rnLs vs (l :: ls)).1 = (rnLs (rnTs vs l.a).1 ls).1 := rfl
    have e2 : (rnLs vs (l :: ls)).2 = ⟨l.k, l.o, l.p, (rnTs vs l.a).2⟩ :: (rnLs (rnTs vs l.a).1 ls).2 := rfl
    refine ⟨⟨ws ++ us, by rw [e1, h4, h1, List.append_assoc]⟩, fun W => ?_, fun q t hq ht hk => ?_⟩
    · rw [e1, e2, List.map_cons, ← hR.e W, h4, List.append_assoc, hT.e (us ++ W)]; rfl
    · rw [e1]
      rcases List.mem_cons.1 hq with rfl | hq
      · rw [h4]; exact List.mem_append_left _ (hT.m t ht hk)
      · exact hR.m q t hq ht hk
/-- the dense rule, said by the list of its variables -/
theorem canI_v (r : Ru) : (rnLs (rnTs [] r.a).1 r.b).1 = vars r ∧ (rnTs [] r.a).2 = r.a.map (chT (dl (vars r))) ∧ (canI r).B = r.b.map (chL (dl (vars r))) ∧ (∀ t, t ∈ r.a → t.k = 0 → t.v ∈ vars r) ∧ (∀ l t, l ∈ r.b → t ∈ l.a → t.k = 0 → t.v ∈ vars r) := by
  have h0 : (rnLs (rnTs [] r.a).1 r.b).1 = vars r := by rw [rnLs_vs, rnTs_vs]; rfl
  have hT := rnTs_v r.a []
  have hR := rnLs_v r.b (rnTs [] r.a).1
  obtain ⟨us, h4⟩ := hR.ex
  have h4' : vars r = (rnTs [] r.a).1 ++ us := by rw [← h0]; exact h4
  refine ⟨h0, ?_, ?_, fun t ht hk => ?_, fun l t hl ht hk => ?_⟩
  · have := hT.e us; rw [← h4'] at this; exact this
  · have := hR.e []; rw [List.append_nil, h0] at this; exact this
  · rw [h4']; exact List.mem_append_left _ (hT.m t ht hk)
  · rw [← h0]; exact hR.m l t hl ht hk
theorem dpos_mem {vs : List Int} {v : Int} (h : v ∈ vs) : ∃ d, dpos vs v = some d ∧ vs[d]? = some v := by
  cases hq : dpos vs v with
  | none => exact absurd h (dpos_none hq)
  | some d => exact ⟨d, rfl, dpos_lt hq⟩
theorem dl_lab {V : List Int} {g : Int → Int} {t : Tm} (h : t.k = 0 → t.v ∈ V) : lbT (fun i => g (V.getD i 0)) (chT (dl V) t) = chT g t := by
  by_cases hk : t.k = 0
  · obtain ⟨d, h1, h2⟩ := dpos_mem (h hk)
    have hk2 : (chT (dl V) t).k = 0 := by rw [chT_k]; exact hk
    unfold lbT
    rw [chT_v hk2, chT_v hk, chT_v hk]
    simp only
    unfold dl
    rw [h1]
    simp only [Option.getD_some, Int.toNat_natCast]
    rw [List.getD_eq_getElem?_getD, h2]; rfl
  · unfold lbT
    rw [chT_n hk, chT_n hk, chT_n hk]
theorem dl_labL {V : List Int} {g : Int → Int} {l : Lt} (h : ∀ t, t ∈ l.a → t.k = 0 → t.v ∈ V) : lab (fun i => g (V.getD i 0)) (chL (dl V) l) = chL g l := by
  have : (l.a.map (chT (dl V))).map (lbT (fun i => g (V.getD i 0))) = l.a.map (chT g) := by
    rw [List.map_map]
    apply List.map_congr_left
    intro t ht
    exact dl_lab (h t ht)
  show (⟨l.k, l.o, l.p, (l.a.map (chT (dl V))).map (lbT (fun i => g (V.getD i 0)))⟩ : Lt) = ⟨l.k, l.o, l.p, l.a.map (chT g)⟩
  rw [this]
theorem dl_dn {V : List Int} {t : Tm} (h : t.k = 0 → t.v ∈ V) : Dn V.length (chT (dl V) t) := by
  intro hk
  rw [chT_k] at hk
  obtain ⟨d, h1, h2⟩ := dpos_mem (h hk)
  have := (List.getElem?_eq_some_iff.1 h2).1
  rw [chT_v hk]
  simp only
  unfold dl
  rw [h1]
  simp only [Option.getD_some]
  omega
theorem chT_id (t : Tm) : chT id t = t := by
  by_cases hk : t.k = 0
  · rw [chT_v hk]; rfl
  · exact chT_n hk
theorem chL_id (l : Lt) : chL id l = l := by
  have : l.a.map (chT id) = l.a := by
    conv => rhs; rw [← List.map_id l.a]
    apply List.map_congr_left
    intro t _; exact chT_id t
  cases l
  unfold chL
  simp only at this ⊢
  rw [this]
theorem oc1_bt {i : Nat} (hi : i < 64) {oc : List Int} {t : Tm} {v k : Nat} (hv : v < oc.length) (ht : Dn oc.length t) : bt (fnI (oc1 i oc t) v) k = (bt (fnI oc v) k || (decide (i = k) && decide (t.k = 0 ∧ t.v.toNat = v))) := by
  unfold oc1
  by_cases hk : t.k = 0
  · rw [if_pos hk]
    have hl := (dn_nat ht hk).1
    rw [fnI_set hl]
    by_cases e : v = t.v.toNat
    · rw [← e, upd_self, bt_or _ hi]
      simp [hk]
    · have e2 : ¬ t.v.toNat = v := fun h => e h.symm
      rw [upd_ne e]; simp [e2]
  · rw [if_neg hk]; simp [hk]
theorem ocTs_bt {i : Nat} (hi : i < 64) : ∀ (a : List Tm) (oc : List Int) {v k : Nat}, v < oc.length → (∀ t, t ∈ a → Dn oc.length t) → (bt (fnI (ocTs i oc a) v) k = true ↔ bt (fnI oc v) k = true ∨ (i = k ∧ v ∈ vN a))
  | [], oc, v, k, _, _ => by
    show bt (fnI oc v) k = true ↔ _
    exact ⟨.inl, fun h => h.elim id fun h => by cases h.2⟩
  | t :: a, oc, v, k, hv, hd => by
    have h1 := oc1_bt hi (k := k) hv (hd t (by simp))
    have hl := oc1_len i oc t
    have ih := ocTs_bt hi a (oc1 i oc t) (v := v) (k := k) (by rw [hl]; exact hv) (fun q hq => by rw [hl]; exact hd q (by simp [hq]))
    show bt (fnI (ocTs i (oc1 i oc t) a) v) k = true ↔ _
    rw [ih, h1, Bool.or_eq_true, Bool.and_eq_true, decide_eq_true_eq, decide_eq_true_eq]
    have hm : v ∈ vN (t :: a) ↔ (t.k = 0 ∧ t.v.toNat = v) ∨ v ∈ vN a := by
      rw [mem_vN, mem_vN]
      constructor
      · rintro ⟨q, hq, h2, h3⟩
        rcases List.mem_cons.1 hq with rfl | hq
        · exact .inl ⟨h2, h3⟩
        · exact .inr ⟨q, hq, h2, h3⟩
      · rintro (⟨h2, h3⟩ | ⟨q, hq, h2, h3⟩)
        · exact ⟨t, by simp, h2, h3⟩
        · exact ⟨q, by simp [hq], h2, h3⟩
    rw [hm]
    constructor
    · rintro ((h | h) | h)
      · exact .inl h
      · exact .inr ⟨h.1, .inl h.2⟩
      · exact .inr ⟨h.1, .inr h.2⟩
    · rintro (h | ⟨h, h2 | h2⟩)
      · exact .inl (.inl h)
      · exact .inl (.inr ⟨h, h2⟩)
      · exact .inr ⟨h, h2⟩
theorem ocB_bt {B : List Lt} (hn : B.length ≤ 64) {vs : Nat} (hB : DnL vs B) : ∀ n, n ≤ B.length → ∀ {v k : Nat}, v < vs → (bt (fnI (ocB B n (List.replicate vs 0)) v) k = true ↔ k < n ∧ v ∈ vN (Bj B k).a)
  | 0, _, v, k, hv => by
    show bt (fnI (List.replicate vs 0) v) k = true ↔ _
    have : fnI (List.replicate vs 0) v = 0 := by
      have h1 := fnI_get (l := List.replicate vs (0 : Int)) (i := v) (by simpa using hv)
      rw [List.getElem?_replicate, if_pos hv] at h1
      injection h1 with h1; exact h1.symm
    rw [this, bt_zero]
    exact ⟨fun h => (by cases h), fun h => (by omega)⟩
  | n + 1, h, v, k, hv => by
    have hl : (ocB B n (List.replicate vs 0)).length = vs := by rw [ocB_len]; simp
    rw [ocB_succ (Bj_get (show n < B.length by omega)), ocTs_bt (by omega) _ _ (by rw [hl]; exact hv) (by rw [hl]; exact Bj_dn hB n), ocB_bt hn hB n (by omega) hv]
    constructor
    · rintro (⟨h1, h2⟩ | ⟨h1, h2⟩)
      · exact ⟨by omega, h2⟩
      · subst h1; exact ⟨by omega, h2⟩
    · rintro ⟨h1, h2⟩
      by_cases e : n = k
      · subst e; exact .inr ⟨rfl, h2⟩
      · exact .inl ⟨by omega, h2⟩
theorem canI_BI (r : Ru) (h : r.b.length ≤ 64) : BI (canI r).B (canI r).oc (vars r).length := by
  obtain ⟨h0, h1, h2, h3, h4⟩ := canI_v r
  have hl : (canI r).B.length ≤ 64 := by rw [h2, List.length_map]; exact h
  have hd : DnL (vars r).length (canI r).B := by
    rw [h2]
    intro l t hl ht
    obtain ⟨l0, hl0, rfl⟩ := List.mem_map.1 hl
    obtain ⟨t0, ht0, rfl⟩ := List.mem_map.1 (show t ∈ l0.a.map (chT (dl (vars r))) from ht)
    exact dl_dn (h4 l0 t0 hl0 ht0)
  have ho : (canI r).oc = ocB (canI r).B (canI r).B.length (List.replicate (vars r).length 0) := by
    show ocB (rnLs (rnTs [] r.a).1 r.b).2 (rnLs (rnTs [] r.a).1 r.b).2.length (List.replicate (rnLs (rnTs [] r.a).1 r.b).1.length 0) = _
    rw [h0]; rfl
  have hol : (canI r).oc.length = (vars r).length := by rw [ho, ocB_len]; simp
  refine ⟨hl, hd, fun v i hv hi => ?_, hol⟩
  rw [ho]
  exact ocB_bt hl hd _ (Nat.le_refl _) (by rw [hol] at hv; exact hv)
theorem st0 (vs : Nat) : StI vs (List.replicate vs (-1), 0) := ⟨by simp, Int.le_refl _, fun u => by simp only; rw [fn_m1]; omega, fun u v _ h => by simp only at h; rw [fn_m1] at h; exact absurd rfl h⟩
/-! ### isomorphic rules -/
/-- b is a, renamed one to one and reordered -/
def VarR (a b : Ru) : Prop := ∃ f : Int → Int, (∀ x y, x ∈ vars a → y ∈ vars a → f x = f y → x = y) ∧ b.p = a.p ∧ b.a = a.a.map (chT f) ∧ (a.b.map (chL f)).Perm b.b
theorem injV {V : List Int} (hd : V.Nodup) {g : Int → Int} (hg : ∀ x y, x ∈ V → y ∈ V → g x = g y → x = y) : InjN (fun i => g (V.getD i 0)) V.length := by
  intro u v hu hv e
  simp only [List.getD_eq_getElem?_getD, List.getElem?_eq_getElem hu, List.getElem?_eq_getElem hv, Option.getD_some] at e
  have := hg _ _ (List.getElem_mem hu) (List.getElem_mem hv) e
  have h7 := List.pairwise_iff_getElem.1 hd
  rcases Nat.lt_trichotomy u v with h8 | h8 | h8
  · exact absurd this (h7 u v hu hv h8)
  · exact h8
  · exact absurd this.symm (h7 v u hv hu h8)
theorem canon_iso {a b : Ru} (h : VarR a b) (h64 : a.b.length ≤ 64) : canR a = canR b := by
  obtain ⟨f, hf, hp, ha, hb⟩ := h
  have hbl : b.b.length ≤ 64 := by have := hb.length_eq; rw [List.length_map] at this; omega
  have hI := canI_BI a h64
  have hI' := canI_BI b hbl
  obtain ⟨a0, a1, a2, a3, a4⟩ := canI_v a
  obtain ⟨b0, b1, b2, b3, b4⟩ := canI_v b
  have hN : InjN (fun i => f ((vars a).getD i 0)) (vars a).length := injV (vars_nodup a) hf
  have hN' : InjN (fun i => id ((vars b).getD i 0)) (vars b).length := injV (vars_nodup b) (fun x y _ _ h => h)
  have hh : (canI a).h = rdTs (List.replicate (vars a).length (-1), 0) (a.a.map (chT (dl (vars a)))) := by
    show rdTs (List.replicate (rnLs (rnTs [] a.a).1 a.b).1.length (-1), 0) (rnTs [] a.a).2 = _
    rw [a0, a1]
  have hh' : (canI b).h = rdTs (List.replicate (vars b).length (-1), 0) (b.a.map (chT (dl (vars b)))) := by
    show rdTs (List.replicate (rnLs (rnTs [] b.a).1 b.b).1.length (-1), 0) (rnTs [] b.a).2 = _
    rw [b0, b1]
  have hda : ∀ t, t ∈ a.a.map (chT (dl (vars a))) → Dn (vars a).length t := by
    intro t ht
    obtain ⟨t0, h1, rfl⟩ := List.mem_map.1 ht
    exact dl_dn (a3 t0 h1)
  have hdb : ∀ t, t ∈ b.a.map (chT (dl (vars b))) → Dn (vars b).length t := by
    intro t ht
    obtain ⟨t0, h1, rfl⟩ := List.mem_map.1 ht
    exact dl_dn (b3 t0 h1)
  have hc0 : Cmp2 (fun i => f ((vars a).getD i 0)) (fun i => id ((vars b).getD i 0)) (vars a).length (vars b).length (List.replicate (vars a).length (-1), 0) (List.replicate (vars b).length (-1), 0) :=
    ⟨by simp, by simp, rfl, fun v v' _ _ _ => by simp only; rw [fn_m1, fn_m1]⟩
  have hlb : (a.a.map (chT (dl (vars a)))).map (lbT (fun i => f ((vars a).getD i 0))) = (b.a.map (chT (dl (vars b)))).map (lbT (fun i => id ((vars b).getD i 0))) := by
    rw [List.map_map, List.map_map]
    have e1 : a.a.map (lbT (fun i => f ((vars a).getD i 0)) ∘ chT (dl (vars a))) = a.a.map (chT f) := List.map_congr_left fun t ht => dl_lab (a3 t ht)
    have e2 : b.a.map (lbT (fun i => id ((vars b).getD i 0)) ∘ chT (dl (vars b))) = b.a := by
      conv => rhs; rw [← List.map_id b.a]
      exact List.map_congr_left fun t ht => (dl_lab (g := id) (b3 t ht)).trans (chT_id t)
    rw [e1, e2, ha]
  obtain ⟨hc1, hr⟩ := simTs hN hN' hc0 hda hdb hlb
  rw [← hh, ← hh'] at hc1 hr
  have hst : StI (vars b).length (canI b).h.1 := by rw [hh']; exact (st0 _).rd hdb
  have hun : ∀ (n : Nat) (s : Nm), unpl n (0, s) = List.range n := by
    intro n s
    unfold unpl
    rw [List.filter_eq_self]
    intro j _
    simp only
    rw [bt_zero]; rfl
  have hmap : ∀ (B : List Lt) (g : Lt → Lt), (List.range B.length).map (fun j => g (Bj B j)) = B.map g := by
    intro B g
    apply List.ext_getElem?
    intro i
    rw [List.getElem?_map, List.getElem?_map]
    by_cases hi : i < B.length
    · rw [List.getElem?_range hi, Bj_get hi]; rfl
    · rw [List.getElem?_eq_none (by simp; omega), List.getElem?_eq_none (by omega)]; rfl
  have hS : SEN (canI a).B (canI b).B (vars a).length (vars b).length (fun i => f ((vars a).getD i 0)) (fun i => id ((vars b).getD i 0)) (0, (canI a).h.1) (0, (canI b).h.1) := by
    refine ⟨hN, hN', hc1, ?_⟩
    rw [hun, hun, hmap, hmap, a2, b2, List.map_map, List.map_map]
    have e1 : a.b.map (lab (fun i => f ((vars a).getD i 0)) ∘ chL (dl (vars a))) = a.b.map (chL f) := List.map_congr_left fun l hl => dl_labL (a4 l · hl)
    have e2 : b.b.map (lab (fun i => id ((vars b).getD i 0)) ∘ chL (dl (vars b))) = b.b := by
      conv => rhs; rw [← List.map_id b.b]
      exact List.map_congr_left fun l hl => (dl_labL (g := id) (b4 l · hl)).trans (chL_id l)
    rw [e1, e2]; exact hb
  have hfr : FR (canI a).B (canI b).B (vars a).length (vars b).length [(0, (canI a).h.1)] [(0, (canI b).h.1)] := ⟨[(0, (canI b).h.1)], List.Perm.refl _, ⟨_, _, hS⟩, trivial⟩
  have hcan := canP_sim hI hI' (canI a).B.length _ _ [] hfr (fun c hc => by rw [List.mem_singleton.1 hc]; exact hst)
  have hln : (canI a).B.length = (canI b).B.length := by rw [a2, b2, List.length_map, List.length_map, ← hb.length_eq, List.length_map]
  unfold canR
  rw [hcan, hln, hr, hp]
end iso5

end Go.Proofs.Qxb6500915aGreatDoor

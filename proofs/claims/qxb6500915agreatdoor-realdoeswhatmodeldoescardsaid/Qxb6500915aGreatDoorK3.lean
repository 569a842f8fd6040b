import Derived.Test.Qxb6500915aGreatDoorK2
namespace Go.Proofs.Qxb6500915aGreatDoor
open Go.Eng
set_option linter.unusedVariables false
set_option linter.unusedSimpArgs false

/-! ## a round of two searches -/
section iso4
structure BI (B : List Lt) (oc : List Int) (vs : Nat) : Prop where
  n : B.length ≤ 64
  d : DnL vs B
  o : OcI B oc
  l : oc.length = vs
def pks (B : List Lt) (b : Lt) (c : Core) : List Nat := (unpl B.length c).filter fun j => decide (cmpL (rdJ B c j) b = 0)
def nxt (B : List Lt) (oc : List Int) (b : Lt) (c : Core) : List Core := (keptL (twB B oc c) [] (pks B b c)).map fun j => newC c (Bj B j) j
def SE (B B' : List Lt) (vs vs' : Nat) (c c' : Core) : Prop := ∃ N N', SEN B B' vs vs' N N' c c'
theorem mem_pks {B : List Lt} {b : Lt} {c : Core} {j : Nat} : j ∈ pks B b c ↔ j ∈ unpl B.length c ∧ rdJ B c j = b := by
  unfold pks
  rw [List.mem_filter, decide_eq_true_eq]
  exact ⟨fun h => ⟨h.1, cmpL_eq h.2⟩, fun h => ⟨h.1, by rw [h.2]; exact cmpL_self _⟩⟩
theorem kept_pks {B : List Lt} {oc : List Int} {vs : Nat} (hI : BI B oc vs) {N : Nat → Int} (hN : InjN N vs) (b : Lt) (c : Core) : ((keptL (twB B oc c) [] (pks B b c)).map (keyN oc N B c)).Nodup ∧ (∀ j, j ∈ keptL (twB B oc c) [] (pks B b c) → j ∈ pks B b c) ∧ (∀ j, j ∈ pks B b c → keyN oc N B c j ∈ (keptL (twB B oc c) [] (pks B b c)).map (keyN oc N B c)) := by
  have h := kept_keys (twB B oc c) (keyN oc N B c) (pks B b c) [] (by rw [List.nil_append]; exact List.Pairwise.filter _ (unpl_nd _ _)) (by
    intro y x hy hx hne
    rw [List.nil_append] at hy hx
    exact twin_iff hI.n hI.d hI.o hI.l hN (mem_pks.1 hy).1 (mem_pks.1 hx).1 hne)
  exact ⟨h.1, fun j hj => (h.2.1 j hj).1, fun j hj => h.2.2 j hj (by simp)⟩
theorem SEN.key {B B' : List Lt} {oc oc' : List Int} {vs vs' : Nat} {N N' : Nat → Int} {c c' : Core} (h : SEN B B' vs vs' N N' c c') (hI : BI B oc vs) (hI' : BI B' oc' vs') {p p' : Nat} (hp : p ∈ unpl B.length c) (hp' : p' ∈ unpl B'.length c') (e : lab N (Bj B p) = lab N' (Bj B' p')) : keyN oc N B c p = keyN oc' N' B' c' p' := by
  have h1 := prv_iff (c := c) hI.n hI.d hI.o hI.l (mem_unpl.1 hp).1
  have h2 := prv_iff (c := c') hI'.n hI'.d hI'.o hI'.l (mem_unpl.1 hp').1
  have h3 : prvA B c p ↔ prvA B' c' p' := ⟨h.prv hI.d hI'.d hp hp' e, h.symm.prv hI'.d hI.d hp' hp e.symm⟩
  unfold keyN
  by_cases hq : prvP oc c.2.1 c.1 p (Bj B p).a = true
  · rw [if_pos hq, if_pos (h2.2 (h3.1 (h1.1 hq)))]
  · rw [if_neg hq, if_neg (fun h9 => hq (h1.2 (h3.2 (h2.1 h9)))), e]
theorem SEN.keys {B B' : List Lt} {oc oc' : List Int} {vs vs' : Nat} {N N' : Nat → Int} {c c' : Core} (h : SEN B B' vs vs' N N' c c') (hI : BI B oc vs) (hI' : BI B' oc' vs') (b : Lt) {k : Option Lt} (hk : k ∈ (keptL (twB B oc c) [] (pks B b c)).map (keyN oc N B c)) : k ∈ (keptL (twB B' oc' c') [] (pks B' b c')).map (keyN oc' N' B' c') := by
  obtain ⟨p, hp, rfl⟩ := List.mem_map.1 hk
  have hp2 := mem_pks.1 ((kept_pks hI h.i b c).2.1 p hp)
  obtain ⟨p', h1, h2⟩ := h.fnd hp2.1
  rw [h.key hI hI' hp2.1 h1 h2]
  exact (kept_pks hI' h.i' b c').2.2 p' (mem_pks.2 ⟨h1, by rw [← h.rd hI.d hI'.d h2]; exact hp2.2⟩)
theorem keyN_none {oc : List Int} {N : Nat → Int} {B : List Lt} {c : Core} {j : Nat} (h : keyN oc N B c j = none) : prvP oc c.2.1 c.1 j (Bj B j).a = true := by
  unfold keyN at h
  split at h
  · assumption
  · cases h
theorem keyN_some {oc : List Int} {N : Nat → Int} {B : List Lt} {c : Core} {j : Nat} {l : Lt} (h : keyN oc N B c j = some l) : lab N (Bj B j) = l := by
  unfold keyN at h
  split at h
  · cases h
  · injection h
/-- the followers of two like states are matched -/
theorem SEN.nxt {B B' : List Lt} {oc oc' : List Int} {vs vs' : Nat} {N N' : Nat → Int} {c c' : Core} (h : SEN B B' vs vs' N N' c c') (hI : BI B oc vs) (hI' : BI B' oc' vs') (hs' : StI vs' c'.2) (b : Lt) : ∃ l, l.Perm (nxt B' oc' b c') ∧ Al (SE B B' vs vs') (nxt B oc b c) l := by
  have hK := kept_pks hI h.i b c
  have hK' := kept_pks hI' h.i' b c'
  have hp : ((keptL (twB B oc c) [] (pks B b c)).map (keyN oc N B c)).Perm ((keptL (twB B' oc' c') [] (pks B' b c')).map (keyN oc' N' B' c')) :=
    (List.perm_ext_iff_of_nodup hK.1 hK'.1).2 fun k => ⟨h.keys hI hI' b, h.symm.keys hI' hI b⟩
  obtain ⟨l, h1, h2⟩ := perm_maps hp
  refine ⟨l.map fun j => newC c' (Bj B' j) j, h1.map _, ?_⟩
  unfold Qxb6500915aGreatDoor.nxt
  apply Al.maps
  refine (al_of_maps h2).imp fun p p' hp hp' e => ?_
  have a1 := mem_pks.1 (hK.2.1 p hp)
  have a2 := mem_pks.1 (hK'.2.1 p' (h1.mem_iff.1 hp'))
  cases hk : keyN oc N B c p with
  | some x =>
    rw [hk] at e
    exact ⟨N, N', h.pick hI.n hI'.n hI.d hI'.d a1.1 a2.1 ((keyN_some hk).trans (keyN_some e.symm).symm)⟩
  | none =>
    rw [hk] at e
    obtain ⟨q', b1, b2⟩ := h.fnd a1.1
    have hkq := h.key hI hI' a1.1 b1 b2
    rw [hk] at hkq
    by_cases hq : p' = q'
    · subst hq
      exact ⟨N, N', h.pick hI.n hI'.n hI.d hI'.d a1.1 a2.1 b2⟩
    · have c1 := (prv_iff hI'.n hI'.d hI'.o hI'.l (mem_unpl.1 a2.1).1).1 (keyN_none e.symm)
      have c2 := (prv_iff hI'.n hI'.d hI'.o hI'.l (mem_unpl.1 b1).1).1 (keyN_none hkq.symm)
      have c3 : rdJ B' c' q' = b := by rw [← h.rd hI.d hI'.d b2]; exact a1.2
      obtain ⟨N'', d1, d2⟩ := h.twin hI'.d hs' a2.1 b1 hq c1 c2 (a2.2.trans c3.symm)
      exact ⟨N, N'', d1.pick hI.n hI'.n hI.d hI'.d a1.1 a2.1 (b2.trans d2.symm)⟩
/-! ### the least reading -/
def mstep (acc : Option Lt) (x : Lt) : Option Lt := match acc with
  | none => some x
  | some b => if cmpL x b < 0 then some x else some b
def minL (l : List Lt) : Option Lt := l.foldl mstep none
structure IsMin (l : List Lt) (o : Option Lt) : Prop where
  z : o = none ↔ l = []
  m : ∀ b, o = some b → b ∈ l ∧ ∀ x, x ∈ l → cmpL b x ≤ 0
theorem IsMin.snoc {l : List Lt} {o : Option Lt} (h : IsMin l o) (x : Lt) : IsMin (l ++ [x]) (mstep o x) := by
  cases o with
  | none =>
    have h1 := h.z.1 rfl
    subst h1
    exact ⟨⟨fun h9 => (by cases h9), fun h9 => (by cases h9)⟩, fun b hb => by
      have : x = b := by simpa [mstep] using hb
      subst this
      exact ⟨by simp, fun y hy => by have : y = x := by simpa using hy
                                     rw [this, cmpL_self]; omega⟩⟩
  | some b =>
    have h1 := h.m b rfl
    show IsMin (l ++ [x]) (if cmpL x b < 0 then some x else some b)
    by_cases hc : cmpL x b < 0
    · rw [if_pos hc]
      refine ⟨⟨fun h9 => (by cases h9), fun h9 => (by simp at h9)⟩, fun y hy => ?_⟩
      injection hy with hy; subst hy
      refine ⟨by simp, fun y hy => ?_⟩
      rcases List.mem_append.1 hy with h2 | h2
      · exact poL.tr _ _ _ (Int.le_of_lt hc) (h1.2 y h2)
      · have : y = x := by simpa using h2
        rw [this, cmpL_self]; omega
    · rw [if_neg hc]
      refine ⟨⟨fun h9 => (by cases h9), fun h9 => (by simp at h9)⟩, fun y hy => ?_⟩
      injection hy with hy; subst hy
      refine ⟨List.mem_append_left _ h1.1, fun y hy => ?_⟩
      rcases List.mem_append.1 hy with h2 | h2
      · exact h1.2 y h2
      · have e : y = x := by simpa using h2
        rw [e]
        have := poL.sw b x
        omega
theorem isMin (l : List Lt) : IsMin l (minL l) := by
  have key : ∀ (l2 l1 : List Lt) (o : Option Lt), IsMin l1 o → IsMin (l1 ++ l2) (l2.foldl mstep o) := by
    intro l2
    induction l2 with
    | nil => intro l1 o h; rw [List.append_nil]; exact h
    | cons x l2 ih =>
      intro l1 o h
      have := ih (l1 ++ [x]) (mstep o x) (h.snoc x)
      rw [List.append_assoc] at this
      exact this
  have := key l [] none ⟨⟨fun _ => rfl, fun _ => rfl⟩, fun b hb => by cases hb⟩
  rw [List.nil_append] at this
  exact this
theorem minL_eq {l l' : List Lt} (h : ∀ x, x ∈ l ↔ x ∈ l') : minL l = minL l' := by
  have h1 := isMin l
  have h2 := isMin l'
  cases hb : minL l with
  | none =>
    have : l = [] := h1.z.1 hb
    have : l' = [] := by
      cases l' with
      | nil => rfl
      | cons y l' => have := (h y).2 (by simp); subst_vars; cases this
    exact (h2.z.2 this).symm
  | some b =>
    have a1 := h1.m b hb
    cases hb' : minL l' with
    | none =>
      have := h2.z.1 hb'
      rw [this] at h
      exact absurd ((h b).1 a1.1) (by simp)
    | some b' =>
      have a2 := h2.m b' hb'
      have e1 := a1.2 b' ((h b').2 a2.1)
      have e2 := a2.2 b ((h b).1 a1.1)
      have := poL.sw b b'
      rw [cmpL_eq (show cmpL b b' = 0 by omega)]
/-! ### the round, flat -/
theorem flt_t {α : Type} {p : α → Bool} {x : α} (h : p x = true) : [x].filter p = [x] := by simp [List.filter_cons, h]
theorem flt_f {α : Type} {p : α → Bool} {x : α} (h : p x = false) : [x].filter p = [] := by simp [List.filter_cons, h]
def rds (B : List Lt) (c : Core) : List Lt := (unpl B.length c).map (rdJ B c)
def stq (B : List Lt) (si : Nat) (c : Core) (acc : Acc) (j : Nat) : Acc := if acc.2 = [] ∨ cmpL (rdJ B c j) acc.1 < 0 then (rdJ B c j, [(si, j)]) else if cmpL (rdJ B c j) acc.1 = 0 then (acc.1, acc.2 ++ [(si, j)]) else acc
theorem inner_fold {B : List Lt} (hn : B.length ≤ 64) {si : Nat} {c : Core} : ∀ (n : Nat) (acc : Acc), n ≤ B.length → innerP B si c n acc = ((List.range n).filter fun j => !(bt c.1 j)).foldl (stq B si c) acc
  | 0, _, _ => rfl
  | n + 1, acc, h => by
    rw [inner_succ (Bj_get (show n < B.length by omega)), inner_fold hn n acc (by omega), List.range_succ, List.filter_append, List.foldl_append]
    have hb := and_bt c.1 (show n < 64 by omega)
    unfold lstep
    by_cases h1 : bt c.1 n = false
    · rw [if_pos (hb.2 h1), flt_t (by simp [h1])]; rfl
    · have h2 : bt c.1 n = true := by simpa using h1
      rw [if_neg (fun h9 => h1 (hb.1 h9)), flt_f (by simp [h2])]; rfl
structure OuI (B : List Lt) (cs : List Core) (m : Nat) (acc : Acc) : Prop where
  b : acc.1 = (minL ((cs.take m).flatMap (rds B))).getD lt0
  z : acc.2 = [] ↔ (cs.take m).flatMap (rds B) = []
  p : acc.2 = (List.range m).flatMap fun si => match cs[si]? with
    | some c => (pks B acc.1 c).map fun j => (si, j)
    | none => []
/-- inside one state -/
structure InI (B : List Lt) (cs : List Core) (m : Nat) (c : Core) (L : List Nat) (acc : Acc) : Prop where
  b : acc.1 = (minL ((cs.take m).flatMap (rds B) ++ L.map (rdJ B c))).getD lt0
  z : acc.2 = [] ↔ (cs.take m).flatMap (rds B) ++ L.map (rdJ B c) = []
  p : acc.2 = ((List.range m).flatMap fun si => match cs[si]? with
    | some c => (pks B acc.1 c).map fun j => (si, j)
    | none => []) ++ (L.filter fun j => decide (cmpL (rdJ B c j) acc.1 = 0)).map fun j => (m, j)
theorem minL_snoc (l : List Lt) (x : Lt) : minL (l ++ [x]) = mstep (minL l) x := by unfold minL; rw [List.foldl_append]; rfl
theorem pks_nil {B : List Lt} {c : Core} {b : Lt} (h : ∀ x, x ∈ rds B c → ¬ cmpL x b = 0) : pks B b c = [] := by
  unfold pks
  rw [List.filter_eq_nil_iff]
  intro j hj
  rw [decide_eq_true_eq]
  exact h _ (List.mem_map.2 ⟨j, hj, rfl⟩)
theorem InI.next {B : List Lt} {cs : List Core} {m : Nat} {c : Core} {L : List Nat} {acc : Acc} (h : InI B cs m c L acc) (j : Nat) : InI B cs m c (L ++ [j]) (stq B m c acc j) := by
  have hM := isMin ((cs.take m).flatMap (rds B) ++ L.map (rdJ B c))
  have e : (cs.take m).flatMap (rds B) ++ (L ++ [j]).map (rdJ B c) = ((cs.take m).flatMap (rds B) ++ L.map (rdJ B c)) ++ [rdJ B c j] := by rw [List.map_append, List.append_assoc]; rfl
  generalize hG : (cs.take m).flatMap (rds B) ++ L.map (rdJ B c) = G at hM e
  have hb := h.b
  have hz := h.z
  rw [hG] at hb hz
  have hms : minL ((cs.take m).flatMap (rds B) ++ (L ++ [j]).map (rdJ B c)) = mstep (minL G) (rdJ B c j) := by rw [e, minL_snoc]
  have hne : ¬ (cs.take m).flatMap (rds B) ++ (L ++ [j]).map (rdJ B c) = [] := by rw [e]; simp
  have lost : ∀ b : Lt, (∀ x, x ∈ G → 0 < cmpL x b) → ((List.range m).flatMap fun si => match cs[si]? with
    | some c => (pks B b c).map fun j => (si, j)
    | none => []) = [] ∧ (L.filter fun j => decide (cmpL (rdJ B c j) b = 0)) = [] := by
    intro b hb9
    constructor
    · rw [List.flatMap_eq_nil_iff]
      intro si hsi
      rw [List.mem_range] at hsi
      cases hc : cs[si]? with
      | none => rfl
      | some c2 =>
        show (pks B b c2).map _ = []
        rw [pks_nil]
        · rfl
        · intro x hx
          have : x ∈ G := by
            rw [← hG]
            refine List.mem_append_left _ (List.mem_flatMap.2 ⟨c2, ?_, hx⟩)
            exact List.mem_of_getElem? (i := si) (by rw [List.getElem?_take, if_pos hsi]; exact hc)
          have := hb9 x this
          omega
    · rw [List.filter_eq_nil_iff]
      intro k hk
      rw [decide_eq_true_eq]
      have : rdJ B c k ∈ G := by rw [← hG]; exact List.mem_append_right _ (List.mem_map.2 ⟨k, hk, rfl⟩)
      have := hb9 _ this
      omega
  unfold stq
  by_cases h1 : acc.2 = [] ∨ cmpL (rdJ B c j) acc.1 < 0
  · rw [if_pos h1]
    have hlost : ∀ x, x ∈ G → 0 < cmpL x (rdJ B c j) := by
      intro x hx
      rcases h1 with h1 | h1
      · rw [hz.1 h1] at hx; cases hx
      · cases hq : minL G with
        | none => rw [hM.z.1 hq] at hx; cases hx
        | some b =>
          rw [hq] at hb
          have hb2 : acc.1 = b := hb
          have h2 := (hM.m b hq).2 x hx
          have h3 := poL.sw x (rdJ B c j)
          rw [hb2] at h1
          by_cases h4 : cmpL x (rdJ B c j) ≤ 0
          · have h5 := poL.tr _ _ _ h2 h4
            have h6 := poL.sw b (rdJ B c j)
            omega
          · omega
    obtain ⟨g1, g2⟩ := lost _ hlost
    refine ⟨?_, ⟨fun h9 => (by cases h9), fun h9 => absurd h9 hne⟩, ?_⟩
    · simp only
      rw [hms]
      cases hq : minL G with
      | none => rfl
      | some b =>
        rcases h1 with h1 | h1
        · have := hM.z.2 (hz.1 h1); rw [hq] at this; cases this
        · rw [hq] at hb
          have hb2 : acc.1 = b := hb
          rw [hb2] at h1
          show rdJ B c j = (if cmpL (rdJ B c j) b < 0 then some (rdJ B c j) else some b).getD lt0
          rw [if_pos h1]; rfl
    · simp only
      rw [g1, List.nil_append, List.filter_append, g2, List.nil_append, flt_t (by simp [cmpL_self])]
      rfl
  · rw [if_neg h1]
    have hacc : acc.2 ≠ [] := fun h9 => h1 (.inl h9)
    have hlt : ¬ cmpL (rdJ B c j) acc.1 < 0 := fun h9 => h1 (.inr h9)
    have hmin : (mstep (minL G) (rdJ B c j)).getD lt0 = acc.1 := by
      cases hq : minL G with
      | none => exact absurd (hz.2 (hM.z.1 hq)) hacc
      | some b =>
        rw [hq] at hb
        have hb2 : acc.1 = b := hb
        show (if cmpL (rdJ B c j) b < 0 then some (rdJ B c j) else some b).getD lt0 = _
        rw [← hb2, if_neg hlt]; rfl
    by_cases h2 : cmpL (rdJ B c j) acc.1 = 0
    · rw [if_pos h2]
      refine ⟨by simp only; rw [hms, hmin], ⟨fun h9 => (by simp at h9), fun h9 => absurd h9 hne⟩, ?_⟩
      simp only
      rw [List.filter_append, flt_t (by simp [h2]), List.map_append, ← List.append_assoc, ← h.p]
      rfl
    · rw [if_neg h2]
      refine ⟨by rw [hms, hmin], ⟨fun h9 => absurd h9 hacc, fun h9 => absurd h9 hne⟩, ?_⟩
      rw [List.filter_append, flt_f (by simp [h2]), List.append_nil]
      exact h.p
theorem InI.all {B : List Lt} {cs : List Core} {m : Nat} {c : Core} : ∀ (L2 L : List Nat) (acc : Acc), InI B cs m c L acc → InI B cs m c (L ++ L2) (L2.foldl (stq B m c) acc)
  | [], L, acc, h => by rw [List.append_nil]; exact h
  | j :: L2, L, acc, h => by
    have := InI.all L2 (L ++ [j]) (stq B m c acc j) (h.next j)
    rw [List.append_assoc] at this
    exact this
theorem outer_flat {B : List Lt} (hn : B.length ≤ 64) {cs : List Core} : ∀ m, m ≤ cs.length → OuI B cs m (outerP B cs m)
  | 0, _ => ⟨rfl, ⟨fun _ => rfl, fun _ => rfl⟩, rfl⟩
  | m + 1, h => by
    have ih := outer_flat hn (cs := cs) m (by omega)
    obtain ⟨c, hc⟩ : ∃ c, cs[m]? = some c := ⟨_, List.getElem?_eq_getElem (by omega)⟩
    rw [outer_succ hc, inner_fold hn _ _ (Nat.le_refl _)]
    have h0 : InI B cs m c [] (outerP B cs m) := ⟨by rw [List.map_nil, List.append_nil]; exact ih.b, by rw [List.map_nil, List.append_nil]; exact ih.z, by rw [List.filter_nil, List.map_nil, List.append_nil]; exact ih.p⟩
    have h1 := InI.all (unpl B.length c) [] _ h0
    rw [List.nil_append] at h1
    have e : (cs.take (m + 1)).flatMap (rds B) = (cs.take m).flatMap (rds B) ++ (unpl B.length c).map (rdJ B c) := by
      rw [List.take_add_one, hc, List.flatMap_append]; simp [rds]
    refine ⟨by rw [e]; exact h1.b, by rw [e]; exact h1.z, ?_⟩
    rw [List.range_succ, List.flatMap_append, List.flatMap_singleton, hc]
    exact h1.p
end iso4

end Go.Proofs.Qxb6500915aGreatDoor

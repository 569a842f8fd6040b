import Derived.Test.Qxb6500915aGreatDoorF5
namespace Go.Proofs.Qxb6500915aGreatDoor
open Go.Eng
set_option linter.unusedVariables false
set_option linter.unusedSimpArgs false

/-! ## the stratifier's law -/
section law4
structure FtB (f : Ft) : Prop where
  c : 0 ≤ f.c ∧ f.c ≤ 255
  r : -1000000 ≤ f.r ∧ f.r ≤ 1000000
  l : -1000000 ≤ f.l ∧ f.l ≤ 1000000
  a : -1000000 ≤ f.a ∧ f.a ≤ 1000000
theorem bad_lt : ∀ {ts : List Tm} {i : Nat}, bad ts = some i → i < ts.length
  | [], _, h => by cases h
  | t :: ts, i, h => by
    unfold bad at h
    split at h
    · cases hq : bad ts with
      | none => rw [hq] at h; cases h
      | some j =>
        rw [hq] at h
        have h9 : j + 1 = i := by simpa using h
        have := bad_lt hq
        rw [List.length_cons]; omega
    · injection h with h
      rw [List.length_cons]; omega
theorem ckI_bd {ts : List Tm} (h : ts.length ≤ 65536) : -1 ≤ ckI ts ∧ ckI ts ≤ 65536 := by
  cases hq : bad ts with
  | none => rw [(ck_ok hq).2]; omega
  | some i =>
    rw [(ck_bad hq).2]
    have := bad_lt hq
    omega
theorem ckA_bd {ps : List Pd} {p : ByteArray} {ts : List Tm} (h : ts.length ≤ 65536) : -1 ≤ (ckA ps p ts).1.2 ∧ (ckA ps p ts).1.2 ≤ 65536 := by
  have := ckI_bd h
  unfold ckA; repeat' split
  all_goals first | assumption | exact ⟨show (-1 : Int) ≤ -1 from Int.le_refl _, show (-1 : Int) ≤ 65536 by omega⟩
theorem ckL_bd {ps : List Pd} {l : Lt} (h : l.a.length ≤ 65536) : -1 ≤ (ckL ps l).1.2 ∧ (ckL ps l).1.2 ≤ 65536 := by
  have h1 := ckI_bd h
  have h2 := ckA_bd (ps := ps) (p := l.p) h
  unfold ckL; repeat' split
  all_goals first | assumption | exact ⟨show (-1 : Int) ≤ -1 from Int.le_refl _, show (-1 : Int) ≤ 65536 by omega⟩
theorem ckBd_bd {ri : Nat} (hri : ri ≤ 1000000) : ∀ (ls : List Lt) (ps ps' : List Pd) (li : Nat) (f : Ft), (∀ l, l ∈ ls → l.a.length ≤ 65536) → li + ls.length ≤ 1000000 → ckBd ri ps li ls = (some f, ps') → FtB f
  | [], ps, ps', li, f, _, _, h => by cases h
  | l :: ls, ps, ps', li, f, ha, hl, h => by
    unfold ckBd at h
    rw [List.length_cons] at hl
    split at h
    · exact ckBd_bd hri ls _ _ _ f (fun q hq => ha q (List.mem_cons_of_mem _ hq)) (by omega) h
    · injection h with h _
      injection h with h
      rw [← h]
      have h1 := ckL_bd (ps := ps) (ha l (by simp))
      have h2 := ckL_bad (ps := ps) (l := l)
      exact ⟨by simp only; omega, by simp only; omega, by simp only; omega, by simp only; omega⟩
theorem ckP_bd : ∀ (rs : List Ru) (ps ps' : List Pd) (i : Nat) (f : Ft), (∀ r, r ∈ rs → r.a.length ≤ 65536 ∧ r.b.length ≤ 65536 ∧ ∀ l, l ∈ r.b → l.a.length ≤ 65536) → i + rs.length ≤ 1000000 → ckP ps i rs = (some f, ps') → FtB f
  | [], ps, ps', i, f, _, _, h => by cases h
  | r :: rs, ps, ps', i, f, ha, hi, h => by
    unfold ckP at h
    rw [List.length_cons] at hi
    have h0 := ha r (by simp)
    split at h
    · exact ckP_bd rs _ _ _ f (fun q hq => ha q (List.mem_cons_of_mem _ hq)) (by omega) h
    · unfold ckRu at h
      split at h
      · injection h with h _
        injection h with h
        rw [← h]
        exact ⟨by simp only; omega, by simp only; omega, by simp only; omega, by simp only; omega⟩
      · split at h
        · exact ckBd_bd (by omega) r.b _ _ _ f h0.2.2 (by omega) h
        · injection h with h _
          injection h with h
          rw [← h]
          have h1 := ckA_bd (ps := ps) (p := r.p) h0.1
          have h2 := ckA_bad (ps := ps) (p := r.p) (ts := r.a)
          exact ⟨by simp only; omega, by simp only; omega, by simp only; omega, by simp only; omega⟩
def fL (f : Ft) : List Lit := [.int .u8 f.c, .int .i64 f.r, .int .i64 f.l, .int .i64 f.a]
theorem lits49 {f : Ft} (h : FtB f) : LitsFit [.int .u8, .int .i64, .int .i64, .int .i64] (fL f) := by
  have h1 := h.c; have h2 := h.r; have h3 := h.l; have h4 := h.a
  refine ⟨?_⟩
  simp only [fL, LitsOk, litOk, Fits, and_true, true_and]
  exact ⟨by omega, by omega, by omega, by omega⟩
theorem eq49 {f : Ft} (h : FtB f) : eqLits [.int .u8 f.c, .int .i64 f.r, .int .i64 f.l, .int .i64 f.a] [.int .u8 f.c, .int .i64 f.r, .int .i64 f.l, .int .i64 f.a] = true := (eqLits_iff (lits49 h).ok (lits49 h).ok).2 rfl
theorem prw_of {rs : List RV} {RE : List (Nat × Obj)} {w : World} (h : Mem (RE ++ rs.flatMap RV.E) w) : PrW rs RE w := ⟨fun b o m => h b o (List.mem_append_left _ m), fun r hr b o m => h b o (List.mem_append_right _ (List.mem_flatMap.2 ⟨r, hr, m⟩))⟩
theorem RV.inE {rs : List RV} {r : RV} (hr : r ∈ rs) {x : Nat × Obj} (hx : x ∈ r.bE) : x ∈ List.flatMap RV.E rs := List.mem_flatMap.2 ⟨r, hr, List.mem_append_right _ (List.mem_append_left _ hx)⟩
theorem ru_bd {rs : List RV} (h : ∀ r, r ∈ rs → r.ok) : ∀ r, r ∈ rs.map RV.ru → r.a.length ≤ 65536 ∧ r.b.length ≤ 65536 ∧ ∀ l, l ∈ r.b → l.a.length ≤ 65536 := by
  intro q hq
  obtain ⟨r, hr, rfl⟩ := List.mem_map.1 hq
  refine ⟨(h r hr).hd.len, by unfold RV.ru; rw [List.length_map]; exact (h r hr).len, fun l hl => ?_⟩
  obtain ⟨x, hx, rfl⟩ := List.mem_map.1 hl
  exact ((h r hr).ls x hx).ags.len
/-! the two searches agree -/
theorem ix_nm {ps : List Pd} {n : ByteArray} (h : (pos ps n).isSome = true) : ∃ p, ps[ix ps n]? = some p ∧ p.n = n := by
  unfold ix
  cases hq : pos ps n with
  | none => rw [hq] at h; cases h
  | some i => exact pos_lt hq
theorem ix_inj {ps : List Pd} {a b : ByteArray} (ha : (pos ps a).isSome = true) (hb : (pos ps b).isSome = true) (e : ix ps a = ix ps b) : a = b := by
  obtain ⟨p, h1, h2⟩ := ix_nm ha
  obtain ⟨q, h3, h4⟩ := ix_nm hb
  rw [e, h3] at h1
  injection h1 with h1
  rw [← h2, ← h4, h1]
theorem InT.occ {ps : List Pd} {rs : List Ru} (h : InT ps rs) {n : ByteArray} (ho : Occ rs n) : (pos ps n).isSome = true := by
  obtain ⟨r, hr, h1 | ⟨l, hl, hk, h1⟩⟩ := ho
  · rw [← h1]; exact h.h r hr
  · rw [← h1]; exact h.l r l hr hl hk
theorem dep_ne {ps : List Pd} {rs : List Ru} {a b : ByteArray} (h : NE rs a b) : depE ps rs (ix ps a) (ix ps b) := by
  obtain ⟨r, l, hr, hl, hk, rfl, rfl⟩ := h
  exact ⟨_, mem_edP.2 ⟨r, l, hr, hl, hk, rfl⟩⟩
theorem ne_dep {ps : List Pd} {rs : List Ru} (hT : InT ps rs) {a : ByteArray} (ha : (pos ps a).isSome = true) {v : Nat} (h : depE ps rs (ix ps a) v) : ∃ b, NE rs a b ∧ ix ps b = v := by
  obtain ⟨b, hb⟩ := h
  obtain ⟨r, l, hr, hl, hk, e⟩ := mem_edP.1 hb
  injection e with e1 e2
  injection e2 with e2 e3
  have : a = r.p := ix_inj ha (hT.h r hr) e1
  exact ⟨l.p, ⟨r, l, hr, hl, hk, this.symm, rfl⟩, e2.symm⟩
theorem pth_rch {ps : List Pd} {rs : List Ru} {a b : ByteArray} (h : Pth (NE rs) (fun _ => True) a b) : Rch (depE ps rs) (ix ps a) (ix ps b) := by
  induction h with
  | one h => exact .one (dep_ne h)
  | step _ _ h ih => exact .step ih (dep_ne h)
theorem rch_pth {ps : List Pd} {rs : List Ru} (hT : InT ps rs) {a : ByteArray} (ha : (pos ps a).isSome = true) {u v : Nat} (h : Rch (depE ps rs) u v) (hu : u = ix ps a) : v = ix ps a ∨ ∃ b, ix ps b = v ∧ Pth (NE rs) (fun _ => True) a b := by
  induction h with
  | refl => exact .inl hu
  | step h1 h2 ih =>
    rcases ih with ih | ⟨b, e, hp⟩
    · rw [ih] at h2
      obtain ⟨b, h3, h4⟩ := ne_dep hT ha h2
      exact .inr ⟨b, h4, .one h3⟩
    · rw [← e] at h2
      obtain ⟨d, h3, h4⟩ := ne_dep hT (hT.occ hp.occ.2) h2
      exact .inr ⟨d, h4, .step hp trivial h3⟩
theorem bad_eq {ps : List Pd} {rs : List Ru} {bad bad' : ByteArray → ByteArray → Bool} (hT : InT ps rs) (hB : BadOk ps rs bad) (hN : BadN rs bad') : negP bad 0 rs = negP bad' 0 rs := by
  refine negP_congr rs 0 fun r l hr hl hk => ?_
  have h1 := hB.iff r l hr hl hk
  have h2 := hN.iff r.p l.p
  have ha := hT.l r l hr hl (by omega)
  have hb := hT.h r hr
  have h3 : Rch (depE ps rs) (ix ps l.p) (ix ps r.p) ↔ Pth (NE rs) (fun _ => True) l.p r.p := by
    refine ⟨fun h => ?_, pth_rch⟩
    rcases rch_pth hT ha h rfl with e | ⟨b, e, hp⟩
    · have := ix_inj hb ha e
      exact .one ⟨r, l, hr, hl, by omega, this, this.symm⟩
    · have := ix_inj (hT.occ hp.occ.2) hb e
      rw [← this]; exact hp
  have h4 : bad r.p l.p = true ↔ bad' r.p l.p = true := h1.trans (h3.trans h2.symm)
  cases hx : bad r.p l.p <;> cases hy : bad' r.p l.p <;> simp [hx, hy] at h4 ⊢
/-! the levels, by names -/
theorem pos_self : ∀ {ps : List Pd} {i : Nat} {p : Pd}, (ps.map Pd.n).Nodup → ps[i]? = some p → pos ps p.n = some i
  | [], i, p, _, h => by simp at h
  | q :: ps, 0, p, _, h => by
    simp at h; subst h
    unfold pos; rw [if_pos rfl]
  | q :: ps, i + 1, p, hn, h => by
    rw [List.map_cons, List.nodup_cons] at hn
    have h1 : ps[i]? = some p := by simpa using h
    unfold pos
    rw [if_neg (fun e => hn.1 (by rw [← e]; exact List.mem_map.2 ⟨p, List.mem_of_getElem? h1, rfl⟩)), pos_self hn.2 h1]; rfl
def lvN (ps : List Pd) (L : Nat → Int) (n : ByteArray) : Nat := if ix ps n < ps.length then (L (ix ps n)).toNat else 0
theorem lvN_in {ps : List Pd} {L : Nat → Int} {n : ByteArray} (h : ix ps n < ps.length) : lvN ps L n = (L (ix ps n)).toNat := if_pos h
structure Fin4 (rs : List Ru) (l : List Pd) (L : ByteArray → Nat) : Prop where
  st : ∀ p, p ∈ l → p.s = L p.n
  hd : ∀ r, r ∈ rs → ∃ p, p ∈ l ∧ p.n = r.p
  bd : ∀ r x, r ∈ rs → x ∈ r.b → ¬ x.k = 1 → ∃ p, p ∈ l ∧ p.n = x.p
  so : NSol rs L
  lb : ∀ n, L n ≤ 1000000
theorem lv_sol {ps : List Pd} {rs : List Ru} {L : Nat → Int} (hT : Tabl rs ps) (hL : Least ps.length (grp (edP ps rs)) L) : NSol rs (lvN ps L) := by
  intro r x hr hx
  have hh := ix_lt (hT.t.h r hr)
  have key : ¬ x.k = 1 → L (ix ps x.p) + ngv (decide (x.k = 2)) ≤ L (ix ps r.p) ∧ 0 ≤ L (ix ps x.p) := fun hk => by
    have h1 := hL.sol (ix ps r.p) (ix ps x.p, decide (x.k = 2)) hh (mem_grp.2 (mem_edP.2 ⟨r, x, hr, hx, hk, rfl⟩))
    exact ⟨h1, (hL.nn _ (ix_lt (hT.t.l r x hr hx hk))).1⟩
  have e1 : ¬ x.k = 1 → lvN ps L x.p = (L (ix ps x.p)).toNat := fun hk => lvN_in (ix_lt (hT.t.l r x hr hx hk))
  have e2 : lvN ps L r.p = (L (ix ps r.p)).toNat := lvN_in hh
  refine ⟨fun hk => ?_, fun hk => ?_⟩
  · rw [e1 (by omega), e2]
    have h1 := key (by omega)
    rw [show ngv (decide (x.k = 2)) = 0 by unfold ngv; rw [if_neg (by simp; omega)]] at h1
    omega
  · rw [e1 (by omega), e2]
    have h1 := key (by omega)
    rw [show ngv (decide (x.k = 2)) = 1 by unfold ngv; rw [if_pos (by simp; omega)]] at h1
    omega
theorem fin4 {ps ps' l : List Pd} {rs : List Ru} (hT : Tabl rs ps) (hV : Levelled ps rs ps') (hp : l.Perm ps') (hb : ps.length ≤ 1000000) : ∃ L : Nat → Int, Least ps.length (grp (edP ps rs)) L ∧ Fin4 rs l (lvN ps L) := by
  obtain ⟨L, hL, hat⟩ := hV.ex
  have hmem : ∀ p, p ∈ l → ∃ (i : Nat) (q : Pd), ps[i]? = some q ∧ p = ⟨q.n, q.a, (L i).toNat⟩ := fun p hm => by
    obtain ⟨i, hi, e⟩ := List.getElem_of_mem (hp.mem_iff.1 hm)
    have hi' : i < ps.length := by rw [← hV.len]; exact hi
    have h1 := hat i _ (List.getElem?_eq_getElem hi')
    rw [List.getElem?_eq_getElem hi, e] at h1
    injection h1 with h1
    exact ⟨i, _, List.getElem?_eq_getElem hi', h1⟩
  have hback : ∀ n, (pos ps n).isSome = true → ∃ p, p ∈ l ∧ p.n = n := fun n hn => by
    obtain ⟨q, h1, h2⟩ := ix_nm hn
    have h3 := hat _ q h1
    exact ⟨_, hp.mem_iff.2 (List.mem_of_getElem? h3), h2⟩
  refine ⟨L, hL, ⟨fun p hm => ?_, fun r hr => hback _ (hT.t.h r hr), fun r x hr hx hk => hback _ (hT.t.l r x hr hx hk), lv_sol hT hL, fun n => ?_⟩⟩
  · obtain ⟨i, q, h1, h2⟩ := hmem p hm
    have h3 := pos_self hT.nd h1
    have h4 : ix ps q.n = i := by unfold ix; rw [h3]; rfl
    rw [h2]
    show (L i).toNat = lvN ps L q.n
    rw [lvN_in (by rw [h4]; exact (List.getElem?_eq_some_iff.1 h1).1), h4]
  · unfold lvN
    split
    · rename_i hx
      have := hL.nn _ hx; omega
    · omega
theorem st_eq {ps : List Pd} {rs : List Ru} {L : Nat → Int} {m : List (ByteArray × Value)} (hT : Tabl rs ps) (hL : Least ps.length (grp (edP ps rs)) L) (hle : ∀ n, sOf m n ≤ lvN ps L n) (hs : NSol rs (sOf m)) {n : ByteArray} (hn : (pos ps n).isSome = true) : sOf m n = lvN ps L n := by
  have hS : ∀ a, (pos ps a).isSome = true → (match ps[ix ps a]? with | some p => (sOf m p.n : Int) | none => 0) = (sOf m a : Int) := fun a ha => by
    obtain ⟨p, h1, h2⟩ := ix_nm ha
    rw [h1]; simp only; rw [h2]
  have h1 := hL.lst (fun x => match ps[x]? with | some p => (sOf m p.n : Int) | none => 0) (fun x e hx he => by
    obtain ⟨r, l, hr, hl, hk, h2⟩ := mem_edP.1 (mem_grp.1 he)
    injection h2 with h3 h4
    have h5 : e = (ix ps l.p, decide (l.k = 2)) := h4
    rw [h3, h5]
    simp only
    rw [hS _ (hT.t.h r hr), hS _ (hT.t.l r l hr hl hk)]
    have h6 := hs r l hr hl
    rcases hT.k r l hr hl with h7 | h7 | h7
    · have := h6.1 h7
      rw [show ngv (decide (l.k = 2)) = 0 by unfold ngv; rw [if_neg (by simp; omega)]]; omega
    · exact absurd h7 hk
    · have := h6.2 h7
      rw [show ngv (decide (l.k = 2)) = 1 by unfold ngv; rw [if_pos (by simp; omega)]]; omega) (fun x => by
    show (0 : Int) ≤ match ps[x]? with | some p => (sOf m p.n : Int) | none => 0
    split <;> first | exact Int.natCast_nonneg _ | exact Int.le_refl _) (ix ps n) (ix_lt hn)
  rw [hS n hn] at h1
  have h2 := hle n
  rw [lvN_in (ix_lt hn)] at h2 ⊢
  omega
theorem names_eq {ps ps' l : List Pd} {rs : List Ru} {ns : List ByteArray} (hT : Tabl rs ps) (hV : Levelled ps rs ps') (hp : l.Perm ps') (hs : l.Pairwise leP) (hN : NmI rs ns) : l.map Pd.n = ns := by
  have h0 : ps'.map Pd.n = ps.map Pd.n := by
    obtain ⟨L, _, hat⟩ := hV.ex
    refine List.ext_getElem? fun i => ?_
    rw [List.getElem?_map, List.getElem?_map]
    by_cases hi : i < ps.length
    · rw [hat i _ (List.getElem?_eq_getElem hi), List.getElem?_eq_getElem hi]; rfl
    · rw [List.getElem?_eq_none (by rw [hV.len]; omega), List.getElem?_eq_none (by omega)]
  have h1 : (l.map Pd.n).Perm (ps.map Pd.n) := by rw [← h0]; exact hp.map _
  have h2 : (l.map Pd.n).Perm ns := h1.trans ((List.perm_ext_iff_of_nodup hT.nd hN.nd).2 fun a => by
    rw [hN.mem a]
    constructor
    · intro h
      obtain ⟨p, h3, h4⟩ := List.mem_map.1 h
      rw [← h4]; exact hT.oc p h3
    · intro h
      obtain ⟨p, h3, h4⟩ := ix_nm (hT.t.occ h)
      exact List.mem_map.2 ⟨p, List.mem_of_getElem? h3, h4⟩)
  refine List.Perm.eq_of_pairwise (le := fun x y => cmpS x y ≤ 0) (fun a b _ _ h3 h4 => ?_) ?_ hN.so h2
  · have := cmpS_swap a b
    exact cmpS_eq (by omega)
  · rw [List.pairwise_map]; exact hs
/-- the table of strata, built up -/
structure SmI (l : List Pd) (k : Nat) (m : List (ByteArray × Value)) : Prop where
  iv : IntV m
  at_ : ∀ p, p ∈ l.take k → sOf m p.n = p.s
theorem SmI.start (l : List Pd) : SmI l 0 [] := ⟨IntV.nil, fun p h => by cases h⟩
theorem SmI.next {l : List Pd} {k : Nat} {m : List (ByteArray × Value)} {L : ByteArray → Nat} (h : SmI l k m) (hL : ∀ p, p ∈ l → p.s = L p.n) {q : Pd} (hq : l[k]? = some q) : SmI l (k + 1) (mput m q.n (.int .i64 (q.s : Int))) := by
  refine ⟨h.iv.put _ _, fun p hp => ?_⟩
  rw [sO_put]
  by_cases e : p.n = q.n
  · rw [if_pos e, hL q (List.mem_of_getElem? hq), ← e, hL p (List.mem_of_mem_take hp)]
  · rw [if_neg e]
    rcases take_mem hq hp with h1 | h1
    · exact h.at_ p h1
    · rw [h1] at e; exact absurd rfl e
theorem SmI.fin {rs : List Ru} {l : List Pd} {k : Nat} {m : List (ByteArray × Value)} {L : ByteArray → Nat} (h : SmI l k m) (hk : k = l.length) (hF : Fin4 rs l L) {r : Ru} {x : Lt} (hr : r ∈ rs) (hx : x ∈ r.b) : Iq (sOf m) r.p x := by
  have hall : ∀ p, p ∈ l → sOf m p.n = L p.n := fun p hp => by rw [h.at_ p (by rw [take_all hk]; exact hp), hF.st p hp]
  obtain ⟨p, h1, h2⟩ := hF.hd r hr
  have e1 : sOf m r.p = L r.p := by rw [← h2]; exact hall p h1
  have e2 : ¬ x.k = 1 → sOf m x.p = L x.p := fun h9 => by
    obtain ⟨q, h3, h4⟩ := hF.bd r x hr hx h9
    rw [← h4]; exact hall q h3
  have h5 := hF.so r x hr hx
  exact ⟨fun hk9 => by rw [e1, e2 (by omega)]; exact h5.1 hk9, fun hk9 => by rw [e1, e2 (by omega)]; exact h5.2 hk9⟩
structure S4 where
  i : Nat
  m : List (ByteArray × Value)
theorem negB_lt {bad : ByteArray → Bool} : ∀ (ls : List Lt) (j k : Nat), negB bad j ls = some k → k < j + ls.length
  | [], _, _, h => by cases h
  | l :: ls, j, k, h => by
    unfold negB at h
    rw [List.length_cons]
    split at h
    · injection h with h; omega
    · have := negB_lt ls (j + 1) k h; omega
theorem negP_bd {bad : ByteArray → ByteArray → Bool} : ∀ (rs : List Ru) (i a b : Nat), (∀ r, r ∈ rs → r.b.length ≤ 64) → negP bad i rs = some (a, b) → a < i + rs.length ∧ b < 64
  | [], _, _, _, _, h => by cases h
  | r :: rs, i, a, b, hb, h => by
    unfold negP at h
    rw [List.length_cons]
    split at h
    · rename_i j hj
      injection h with h
      injection h with h1 h2
      have := negB_lt r.b 0 j hj
      have := hb r (by simp)
      omega
    · have := negP_bd rs (i + 1) a b (fun q hq => hb q (List.mem_cons_of_mem _ hq)) h; omega
end law4

end Go.Proofs.Qxb6500915aGreatDoor

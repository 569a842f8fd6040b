import Derived.Test.Qxb6500915aGreatDoorK6
namespace Go.Proofs.Qxb6500915aGreatDoor
open Go.Eng
set_option linter.unusedVariables false
set_option linter.unusedSimpArgs false

/-! ## variant programs: the same table, the same rules -/
section pv2
theorem PV.sol {A B : List Ru} (h : PV A B) {s : ByteArray → Nat} (hs : NSol B s) : NSol A s := by
  intro a x ha hx
  obtain ⟨b, hb, hv⟩ := h.f a ha
  obtain ⟨l', h1, h2⟩ := hv.to hx
  have h3 := hs b l' hb h1
  rw [hv.hp] at h3
  exact ⟨fun hk => by have := h3.1 (h2.k.trans hk); rw [h2.p] at this; exact this, fun hk => by have := h3.2 (h2.k.trans hk); rw [h2.p] at this; exact this⟩
theorem lv_le {ps : List Pd} {rs : List Ru} {L : Nat → Int} {s : ByteArray → Nat} (hT : Tabl rs ps) (hL : Least ps.length (grp (edP ps rs)) L) (hs : NSol rs s) {n : ByteArray} (hn : (pos ps n).isSome = true) : lvN ps L n ≤ s n := by
  have hS : ∀ a, (pos ps a).isSome = true → (match ps[ix ps a]? with | some p => (s p.n : Int) | none => 0) = (s a : Int) := fun a ha => by
    obtain ⟨p, h1, h2⟩ := ix_nm ha
    rw [h1]; simp only; rw [h2]
  have h1 := hL.lst (fun x => match ps[x]? with | some p => (s p.n : Int) | none => 0) (fun x e hx he => by
    obtain ⟨r, l, hr, hl, hk, h2⟩ := mem_edP.1 (mem_grp.1 he)
    injection h2 with h3 h4
    have h5 : e = (ix ps l.p, decide (l.k = 2)) := h4
    rw [h3, h5]
    simp only
    rw [hS _ (hT.t.h r hr), hS _ (hT.t.l r l hr hl hk)]
    have h6 := hs r l hr hl
    rcases hT.k r l hr hl with h7 | h7 | h7
    · have := h6.1 h7
      rw [show ngv (decide (l.k = 2)) = 0 by unfold ngv; rw [if_neg (by simp; omega)]]; omega
    · exact absurd h7 hk
    · have := h6.2 h7
      rw [show ngv (decide (l.k = 2)) = 1 by unfold ngv; rw [if_pos (by simp; omega)]]; omega) (fun x => by
    show (0 : Int) ≤ match ps[x]? with | some p => (s p.n : Int) | none => 0
    split <;> first | exact Int.natCast_nonneg _ | exact Int.le_refl _) (ix ps n) (ix_lt hn)
  rw [hS n hn] at h1
  rw [lvN_in (ix_lt hn)]
  omega
/-- a table with its levels, by names -/
structure Lvd (A : List Ru) (ps ps' l : List Pd) (s : ByteArray → Nat) : Prop where
  T : Tabl A ps
  so : NSol A s
  lst : ∀ s', NSol A s' → ∀ n, (pos ps n).isSome = true → s n ≤ s' n
  at_ : ∀ p, p ∈ l → p.s = s p.n ∧ HasP ps p.n p.a
  to : ∀ n m, HasP ps n m → ∃ p, p ∈ l ∧ p.n = n ∧ p.a = m
  nd : (l.map Pd.n).Nodup
  lv : ∀ n, (pos ps n).isSome = true → lvP ps' n = s n
theorem lvd_of {A : List Ru} {ps ps' l : List Pd} (hT : Tabl A ps) (hV : Levelled ps A ps') (hp : l.Perm ps') : ∃ s, Lvd A ps ps' l s := by
  obtain ⟨L, hL, hat⟩ := hV.ex
  refine ⟨lvN ps L, hT, lv_sol hT hL, fun s' hs n hn => lv_le hT hL hs hn, fun p hm => ?_, fun n m h => ?_, ?_, fun n hn => ?_⟩
  · obtain ⟨i, hi, e⟩ := List.getElem_of_mem (hp.mem_iff.1 hm)
    have hi' : i < ps.length := by rw [← hV.len]; exact hi
    have h1 := hat i _ (List.getElem?_eq_getElem hi')
    rw [List.getElem?_eq_getElem hi, e] at h1
    injection h1 with h1
    have h3 := pos_self hT.nd (List.getElem?_eq_getElem hi')
    have h4 : ix ps (ps[i]).n = i := by unfold ix; rw [h3]; rfl
    rw [h1]
    refine ⟨?_, ⟨i, ps[i], h3, List.getElem?_eq_getElem hi', rfl⟩⟩
    show (L i).toNat = lvN ps L (ps[i]).n
    rw [lvN_in (by rw [h4]; exact hi'), h4]
  · obtain ⟨j, q, h1, h2, h3⟩ := h.ex
    obtain ⟨q', h4, h5⟩ := pos_lt h1
    rw [h2] at h4; injection h4 with h4
    have h6 := hat j q h2
    exact ⟨_, hp.mem_iff.2 (List.mem_of_getElem? h6), by rw [← h5, ← h4], h3⟩
  · have h0 : ps'.map Pd.n = ps.map Pd.n := by
      refine List.ext_getElem? fun i => ?_
      rw [List.getElem?_map, List.getElem?_map]
      by_cases hi : i < ps.length
      · rw [hat i _ (List.getElem?_eq_getElem hi), List.getElem?_eq_getElem hi]; rfl
      · rw [List.getElem?_eq_none (by rw [hV.len]; omega), List.getElem?_eq_none (by omega)]
    have h1 : (l.map Pd.n).Perm (ps.map Pd.n) := by rw [← h0]; exact hp.map _
    exact h1.nodup_iff.2 hT.nd
  · cases hq : pos ps n with
    | none => rw [hq] at hn; cases hn
    | some i =>
      obtain ⟨q, h1, h2⟩ := pos_lt hq
      have h3 := hat i q h1
      rw [lvP_at (by rw [lvl_pos hV]; exact hq) h3]
      have h4 : ix ps n = i := by unfold ix; rw [hq]; rfl
      rw [lvN_in (by rw [h4]; exact (List.getElem?_eq_some_iff.1 h1).1), h4]
theorem HasP.oc {ps : List Pd} {rs : List Ru} {n : ByteArray} {m : Nat} (hc : ckP [] 0 rs = (none, ps)) (h : HasP ps n m) : OcA rs n m := by
  obtain ⟨j, q, h1, h2, h3⟩ := h.ex
  obtain ⟨q', h4, h5⟩ := pos_lt h1
  rw [h2] at h4; injection h4 with h4; subst h4
  obtain ⟨r, hr, ho⟩ := (tabl_of hc).oc q (List.mem_of_getElem? h2)
  have key : ∀ m', OcA rs n m' → OcA rs n m := fun m' h9 => by
    have h8 := ((ckP_has rs [] ps 0 hc).2 n m' h9).ar
    have h7 := h.ar
    rw [← h7, h8]; exact h9
  rcases ho with e | ⟨l, hl, hk, e⟩
  · exact key _ ⟨r, hr, .inl ⟨e.trans h5, rfl⟩⟩
  · exact key _ ⟨r, hr, .inr ⟨l, hl, hk, e.trans h5, rfl⟩⟩
theorem HasP.some {ps : List Pd} {n : ByteArray} {m : Nat} (h : HasP ps n m) : (pos ps n).isSome = true := by
  obtain ⟨j, q, h1, _⟩ := h.ex; rw [h1]; rfl
theorem PV.has {A B : List Ru} (h : PV A B) {ps ps2 : List Pd} (hA : ckP [] 0 A = (none, ps)) (hB : ckP [] 0 B = (none, ps2)) {n : ByteArray} {m : Nat} (hh : HasP ps n m) : HasP ps2 n m := (ckP_has B [] ps2 0 hB).2 n m (h.oc (hh.oc hA))
theorem PV.lv {A B : List Ru} (h : PV A B) {ps ps' l ps2 ps2' l2 : List Pd} {s s2 : ByteArray → Nat} (hA : ckP [] 0 A = (none, ps)) (hB : ckP [] 0 B = (none, ps2)) (h1 : Lvd A ps ps' l s) (h2 : Lvd B ps2 ps2' l2 s2) {n : ByteArray} {m : Nat} (hn : HasP ps n m) : s n = s2 n := by
  have a1 := h1.lst s2 (h.sol h2.so) n hn.some
  have a2 := h2.lst s (h.symm.sol h1.so) n (h.has hA hB hn).some
  omega
theorem pd_mem {A B : List Ru} (h : PV A B) {ps ps' l ps2 ps2' l2 : List Pd} {s s2 : ByteArray → Nat} (hA : ckP [] 0 A = (none, ps)) (hB : ckP [] 0 B = (none, ps2)) (h1 : Lvd A ps ps' l s) (h2 : Lvd B ps2 ps2' l2 s2) {p : Pd} (hp : p ∈ l) : p ∈ l2 := by
  obtain ⟨e1, e2⟩ := h1.at_ p hp
  obtain ⟨q, q1, q2, q3⟩ := h2.to _ _ (h.has hA hB e2)
  have e3 := (h2.at_ q q1).1
  have : p = q := by
    have e4 : p.s = q.s := by rw [e1, e3, q2]; exact h.lv hA hB h1 h2 e2
    cases p; cases q
    simp only at q2 q3 e4
    rw [q2, q3, e4]
  rw [this]; exact q1
theorem nd_of_names {l : List Pd} (h : (l.map Pd.n).Nodup) : l.Nodup := by
  have h1 := List.pairwise_map.1 h
  exact h1.imp fun hne e => hne (by rw [e])
theorem names_inj {l : List Pd} (h : (l.map Pd.n).Nodup) {p q : Pd} (hp : p ∈ l) (hq : q ∈ l) (e : p.n = q.n) : p = q := by
  obtain ⟨i, hi, rfl⟩ := List.getElem_of_mem hp
  obtain ⟨j, hj, rfl⟩ := List.getElem_of_mem hq
  have h1 := pos_self h (List.getElem?_eq_getElem hi)
  have h2 := pos_self h (List.getElem?_eq_getElem hj)
  rw [e, h2] at h1
  injection h1 with h1
  subst h1; rfl
theorem pd_eq {A B : List Ru} (h : PV A B) {ps ps' l ps2 ps2' l2 : List Pd} {s s2 : ByteArray → Nat} (hA : ckP [] 0 A = (none, ps)) (hB : ckP [] 0 B = (none, ps2)) (h1 : Lvd A ps ps' l s) (h2 : Lvd B ps2 ps2' l2 s2) (hs : l.Pairwise leP) (hs2 : l2.Pairwise leP) : l = l2 := by
  have hm : ∀ p, p ∈ l ↔ p ∈ l2 := fun p => ⟨pd_mem h hA hB h1 h2, pd_mem h.symm hB hA h2 h1⟩
  refine List.Perm.eq_of_pairwise (le := leP) (fun a b ha hb h3 h4 => ?_) hs hs2 ((List.perm_ext_iff_of_nodup (nd_of_names h1.nd) (nd_of_names h2.nd)).2 hm)
  have := cmpS_swap a.n b.n
  unfold leP at h3 h4
  exact names_inj h1.nd ha ((hm b).2 hb) (cmpS_eq (by omega))
/-! sorted lists without repeats -/
theorem PO.lt {α : Type} {c : α → α → Int} (h : PO c) {x y z : α} (h1 : c x y ≤ 0) (h2 : c y z < 0) : c x z < 0 := by
  have h3 := h.tr x y z h1 (by omega)
  by_cases e : c x z = 0
  · have h4 := h.sw x z
    have h5 := h.tr z x y (by omega) h1
    have h6 := h.sw y z
    omega
  · omega
structure DrO (lv : ByteArray → Nat) (p k : List RV) : Prop where
  s : (k.map RV.ru).Pairwise fun x y => cmpQ lv x y < 0
  m : ∀ x, x ∈ k.map RV.ru ↔ x ∈ p.map RV.ru
  e : k = [] → p = []
theorem DrO.next {lv : ByteArray → Nat} {p k : List RV} {x : RV} (h : DrO lv p k) (hx : ∀ y, y ∈ p → leQ lv y x) : DrO lv (p ++ [x]) (drK k x) := by
  rcases List.eq_nil_or_concat k with rfl | ⟨k0, y, rfl⟩
  · have := h.e rfl
    subst this
    exact ⟨by show ([x].map RV.ru).Pairwise _; simp, fun z => Iff.rfl, fun h9 => by cases h9⟩
  · rw [List.concat_eq_append] at h ⊢
    have hd : drK (k0 ++ [y]) x = if cmpR y.ru x.ru = 0 then k0 ++ [y] else (k0 ++ [y]) ++ [x] := by
      unfold drK; rw [List.getLast?_append]; simp
    rw [hd]
    have hm : ∀ z, z ∈ (k0 ++ [y]) → cmpQ lv z.ru x.ru ≤ 0 := fun z hz => by
      have h1 := (h.m z.ru).1 (List.mem_map.2 ⟨z, hz, rfl⟩)
      obtain ⟨z', h2, h3⟩ := List.mem_map.1 h1
      have := hx z' h2
      unfold leQ at this
      rw [h3] at this; exact this
    by_cases e : cmpR y.ru x.ru = 0
    · rw [if_pos e]
      have e2 := cmpR_eq e
      refine ⟨h.s, fun z => ?_, fun h9 => absurd h9 (by simp)⟩
      rw [h.m z, List.map_append, List.mem_append]
      refine ⟨.inl, fun h9 => h9.elim id fun h9 => ?_⟩
      have h8 : z = x.ru := by simpa using h9
      rw [h8, ← e2]
      exact (h.m y.ru).1 (by simp)
    · rw [if_neg e]
      have hyx : cmpQ lv y.ru x.ru < 0 := by
        have h1 := hm y (by simp)
        have h2 : ¬ cmpQ lv y.ru x.ru = 0 := fun h9 => e (thn_z h9).2
        omega
      refine ⟨?_, fun z => ?_, fun h9 => absurd h9 (by simp)⟩
      · rw [List.map_append, List.pairwise_append]
        refine ⟨h.s, by simp, fun z hz w hw => ?_⟩
        have hw : w = x.ru := by simpa using hw
        rw [hw]
        have hs := h.s
        rw [List.map_append, List.pairwise_append] at hs
        rw [List.map_append] at hz
        rcases List.mem_append.1 hz with h9 | h9
        · have := hs.2.2 z h9 y.ru (by simp)
          exact (poQ lv).lt (by omega) hyx
        · have h9 : z = y.ru := by simpa using h9
          rw [h9]; exact hyx
      · rw [List.map_append, List.mem_append, h.m z, List.map_append, List.mem_append]
theorem drO {lv : ByteArray → Nat} : ∀ (n : Nat) (qs : List RV), qs.length = n → qs.Pairwise (leQ lv) → DrO lv qs (drL qs)
  | 0, qs, hn, _ => by
    have : qs = [] := List.eq_nil_of_length_eq_zero hn
    subst this
    exact ⟨List.Pairwise.nil, fun x => Iff.rfl, fun _ => rfl⟩
  | n + 1, qs, hn, hs => by
    rcases List.eq_nil_or_concat qs with rfl | ⟨p, x, rfl⟩
    · cases hn
    · rw [List.concat_eq_append] at hn hs ⊢
      have hs' := List.pairwise_append.1 hs
      have h1 := drO n p (by simpa using hn) hs'.1
      have h2 : drL (p ++ [x]) = drK (drL p) x := by unfold drL; rw [List.foldl_append]; rfl
      rw [h2]
      exact h1.next fun y hy => hs'.2.2 y hy x (by simp)
theorem NoO.mem {A : List Ru} {ps' l : List Pd} {q0 qs : List RV} (h : NoO A ps' l q0 qs) (x : Ru) : x ∈ (drL qs).map RV.ru ↔ ∃ a, a ∈ A ∧ canR a = some x := by
  rw [(drO _ qs rfl h.qs).m x]
  have h1 : x ∈ qs.map RV.ru ↔ some x ∈ A.map canR := by
    rw [← h.cn]
    constructor
    · intro h9
      obtain ⟨q, h2, h3⟩ := List.mem_map.1 h9
      exact List.mem_map.2 ⟨q, h.qp.mem_iff.1 h2, by rw [h3]⟩
    · intro h9
      obtain ⟨q, h2, h3⟩ := List.mem_map.1 h9
      injection h3 with h3
      exact List.mem_map.2 ⟨q, h.qp.mem_iff.2 h2, h3⟩
  rw [h1, List.mem_map]
theorem PV.form {A B : List Ru} (h : PV A B) (hA : ∀ a, a ∈ A → a.b.length ≤ 64) {x : Ru} (hx : ∃ a, a ∈ A ∧ canR a = some x) : ∃ b, b ∈ B ∧ canR b = some x := by
  obtain ⟨a, ha, e⟩ := hx
  obtain ⟨b, hb, hv⟩ := h.f a ha
  exact ⟨b, hb, by rw [← canon_iso hv (hA a ha)]; exact e⟩
theorem nodup_lt {α : Type} {c : α → α → Int} (hc : PO c) {l : List α} (h : l.Pairwise fun x y => c x y < 0) : l.Nodup := h.imp fun {x y} h1 e => by
  subst e
  have := hc.sw x x; omega
theorem pv_ok {A B : List Ru} (h : PV A B) {ps' l ps2' l2 : List Pd} {q0 qs q02 qs2 : List RV} (hA : NoO A ps' l q0 qs) (hB : NoO B ps2' l2 q02 qs2) : l = l2 ∧ (drL qs).map RV.ru = (drL qs2).map RV.ru := by
  obtain ⟨ps, bad, a1, a2, a3, a4⟩ := hA.ck
  obtain ⟨ps2, bad2, b1, b2, b3, b4⟩ := hB.ck
  have hTA := tabl_of a1
  have hTB := tabl_of b1
  obtain ⟨s, hs⟩ := lvd_of hTA a4 hA.lp
  obtain ⟨s2, hs2⟩ := lvd_of hTB b4 hB.lp
  refine ⟨pd_eq h a1 b1 hs hs2 hA.ls hB.ls, ?_⟩
  have d1 := (drO _ qs rfl hA.qs).s
  have d2 := (drO _ qs2 rfl hB.qs).s
  have hlv : ∀ x, x ∈ (drL qs2).map RV.ru → lvP ps' x.p = lvP ps2' x.p := fun x hx => by
    obtain ⟨b, hb, e⟩ := (hB.mem x).1 hx
    have e2 := canR_p e
    have ho : OcA B x.p b.a.length := ⟨b, hb, .inl ⟨e2.symm, rfl⟩⟩
    have h2 := (ckP_has B [] ps2 0 b1).2 _ _ ho
    have h3 := h.symm.has b1 a1 h2
    rw [hs.lv _ h3.some, hs2.lv _ h2.some]
    exact h.lv a1 b1 hs hs2 h3
  have d3 : ((drL qs2).map RV.ru).Pairwise fun x y => cmpQ (lvP ps') x y < 0 := d2.imp_of_mem fun {x y} hx hy hxy => by
    unfold cmpQ at hxy ⊢
    rw [hlv x hx, hlv y hy]; exact hxy
  refine List.Perm.eq_of_pairwise (le := fun x y => cmpQ (lvP ps') x y < 0) (fun x y _ _ h3 h4 => ?_) d1 d3 ((List.perm_ext_iff_of_nodup (nodup_lt (poQ _) d1) (nodup_lt (poQ _) d3)).2 fun x => ?_)
  · have := (poQ (lvP ps')).sw x y; omega
  · rw [hA.mem x, hB.mem x]
    exact ⟨h.form hTA.t.b, h.symm.form hTB.t.b⟩
end pv2

end Go.Proofs.Qxb6500915aGreatDoor

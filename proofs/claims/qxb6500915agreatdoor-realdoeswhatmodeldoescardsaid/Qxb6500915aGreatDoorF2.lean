import Derived.Test.Qxb6500915aGreatDoorF1
namespace Go.Proofs.Qxb6500915aGreatDoor
open Go.Eng
set_option linter.unusedVariables false
set_option linter.unusedSimpArgs false

/-! ## Reach -/
section reach
structure IR where
  n : ByteArray
  b : Nat
  l : List (ByteArray × Value)
def irk (x : IR) : ByteArray × Value := (x.n, .map (some x.b))
def irB (x : IR) : Nat × Obj := (x.b, MO kStr x.l)
def Rel (irs : List IR) (a b : ByteArray) : Prop := ∃ x, x ∈ irs ∧ x.n = a ∧ b ∈ ks x.l
structure IRI (ns : List ByteArray) (irs : List IR) : Prop where
  nm : irs.map IR.n = ns
  tr : ∀ x p, x ∈ irs → p ∈ x.l → p.2 = Value.bool true
theorem mput_nw {κ : Type} [DecidableEq κ] (l : List (κ × Value)) (a : κ) (v : Value) (h : a ∉ ks l) : mput l a v = l ++ [(a, v)] := by
  induction l with
  | nil => rfl
  | cons p l ih =>
    unfold mput
    rw [if_neg (fun e => h (by rw [e]; simp [ks])), ih (fun hm => h (List.mem_cons_of_mem _ hm))]; rfl
theorem ks_irk (irs : List IR) : ks (irs.map irk) = irs.map IR.n := by unfold ks irk; rw [List.map_map]; rfl
theorem ir_get {irs : List IR} {a : ByteArray} {x : IR} (hnd : (irs.map IR.n).Nodup) (hx : x ∈ irs) (ha : x.n = a) : (mget (irs.map irk) a).getD (.map none) = .map (some x.b) := by
  induction irs with
  | nil => cases hx
  | cons y irs ih =>
    show (mget ((y.n, Value.map (some y.b)) :: irs.map irk) a).getD _ = _
    unfold mget
    rw [List.map_cons, List.nodup_cons] at hnd
    by_cases e : a = y.n
    · rw [if_pos e]
      rcases List.mem_cons.1 hx with h1 | h1
      · rw [h1]; rfl
      · exact absurd (List.mem_map.2 ⟨x, h1, ha.trans e⟩) hnd.1
    · rw [if_neg e]
      rcases List.mem_cons.1 hx with h1 | h1
      · rw [h1] at ha; exact absurd ha.symm e
      · exact ih hnd.2 h1
instance decKs (b : ByteArray) (l : List (ByteArray × Value)) : Decidable (b ∈ ks l) := decidable_of_iff ((mget l b).isSome = true) mget_some
theorem mget_bool {l : List (ByteArray × Value)} (h : ∀ p, p ∈ l → p.2 = Value.bool true) (b : ByteArray) : (mget l b).getD (.bool false) = .bool (decide (b ∈ ks l)) := by
  induction l with
  | nil => rfl
  | cons p l ih =>
    unfold mget
    by_cases e : b = p.1
    · rw [if_pos e, Option.getD_some, h p (by simp)]
      rw [decide_eq_true (by rw [e]; simp [ks])]
    · rw [if_neg e, ih fun q hq => h q (List.mem_cons_of_mem _ hq)]
      congr 1
      exact decide_eq_decide.2 (by simp [ks, e])
theorem mput_bool {l : List (ByteArray × Value)} (h : ∀ p, p ∈ l → p.2 = Value.bool true) (b : ByteArray) : ∀ p, p ∈ mput l b (.bool true) → p.2 = Value.bool true := by
  induction l with
  | nil => intro p hp; rw [List.mem_singleton.1 hp]
  | cons q l ih =>
    unfold mput
    intro p hp
    by_cases e : b = q.1
    · rw [if_pos e] at hp
      rcases List.mem_cons.1 hp with h1 | h1
      · rw [h1]
      · exact h p (List.mem_cons_of_mem _ h1)
    · rw [if_neg e] at hp
      rcases List.mem_cons.1 hp with h1 | h1
      · rw [h1]; exact h q (by simp)
      · exact ih (fun q hq => h q (List.mem_cons_of_mem _ hq)) p h1
theorem mem_ks_mput (l : List (ByteArray × Value)) (a : ByteArray) (v : Value) (b : ByteArray) : b ∈ ks (mput l a v) ↔ b ∈ ks l ∨ b = a := by
  rw [ks_mput]
  by_cases e : a ∈ ks l
  · rw [if_pos e]; exact ⟨.inl, fun h => h.elim id fun h => by rw [h]; exact e⟩
  · rw [if_neg e, List.mem_append, List.mem_singleton]
/-- row i gets an entry -/
def irS (irs : List IR) (i : Nat) (x : IR) (b : ByteArray) : List IR := irs.set i ⟨x.n, x.b, mput x.l b (.bool true)⟩
theorem irS_k {irs : List IR} {i : Nat} {x : IR} {b : ByteArray} (hx : irs[i]? = some x) : (irS irs i x b).map irk = irs.map irk := by
  unfold irS
  rw [List.map_set]
  have : (irs.map irk)[i]? = some (irk x) := by rw [List.getElem?_map, hx]; rfl
  obtain ⟨h1, h2⟩ := List.getElem?_eq_some_iff.1 this
  rw [show irk ⟨x.n, x.b, mput x.l b (.bool true)⟩ = irk x from rfl, ← h2]
  exact List.set_getElem_self h1
theorem IRI.put {ns : List ByteArray} {irs : List IR} (h : IRI ns irs) {i : Nat} {x : IR} (hx : irs[i]? = some x) (b : ByteArray) : IRI ns (irS irs i x b) := by
  refine ⟨?_, fun y p hy hp => ?_⟩
  · unfold irS
    rw [List.map_set, ← h.nm]
    have : (irs.map IR.n)[i]? = some x.n := by rw [List.getElem?_map, hx]; rfl
    obtain ⟨h1, h2⟩ := List.getElem?_eq_some_iff.1 this
    show (irs.map IR.n).set i x.n = _
    rw [← h2]
    exact List.set_getElem_self h1
  · rcases List.mem_or_eq_of_mem_set hy with h1 | h1
    · exact h.tr y p h1 hp
    · rw [h1] at hp
      exact mput_bool (fun q hq => h.tr x q (List.mem_of_getElem? hx) hq) b p hp
theorem rel_put {irs : List IR} {i : Nat} {x : IR} (hx : irs[i]? = some x) (b : ByteArray) (a' b' : ByteArray) : Rel (irS irs i x b) a' b' ↔ Rel irs a' b' ∨ (a' = x.n ∧ b' = b) := by
  have hl := (List.getElem?_eq_some_iff.1 hx).1
  constructor
  · rintro ⟨y, hy, h1, h2⟩
    rcases List.mem_or_eq_of_mem_set hy with h3 | h3
    · exact .inl ⟨y, h3, h1, h2⟩
    · rw [h3] at h1 h2
      simp only at h1 h2
      rcases (mem_ks_mput _ _ _ _).1 h2 with h4 | h4
      · exact .inl ⟨x, List.mem_of_getElem? hx, h1, h4⟩
      · exact .inr ⟨h1.symm, h4⟩
  · have hnew : (⟨x.n, x.b, mput x.l b (.bool true)⟩ : IR) ∈ irS irs i x b := by unfold irS; exact List.mem_set hl _
    rintro (⟨y, hy, h1, h2⟩ | ⟨h1, h2⟩)
    · obtain ⟨j, hj, h3⟩ := List.getElem_of_mem hy
      by_cases e : j = i
      · subst e
        rw [List.getElem?_eq_getElem hj, h3] at hx
        injection hx with hx
        subst hx
        exact ⟨_, hnew, h1, (mem_ks_mput _ _ _ _).2 (.inl h2)⟩
      · refine ⟨y, ?_, h1, h2⟩
        have : (irS irs i x b)[j]? = some y := by unfold irS; rw [List.getElem?_set_ne (fun e9 => e e9.symm), List.getElem?_eq_getElem hj, h3]
        exact List.mem_of_getElem? this
    · exact ⟨_, hnew, h1.symm, (mem_ks_mput _ _ _ _).2 (.inr h2)⟩
theorem ir_split {irs : List IR} {i : Nat} {x : IR} (h : irs[i]? = some x) : ∃ R, (irs.map irB).Perm ((x.b, MO kStr x.l) :: R) ∧ ∀ b, ((x.b, MO kStr (mput x.l b (.bool true))) :: R).Perm ((irS irs i x b).map irB) := by
  obtain ⟨h1, h2⟩ := List.getElem?_eq_some_iff.1 h
  have hs : irs = irs.take i ++ x :: irs.drop (i + 1) := by
    rw [← h2, List.getElem_cons_drop, List.take_append_drop]
  have hl : (irs.take i).length = i := by simp; omega
  refine ⟨(irs.take i).map irB ++ (irs.drop (i + 1)).map irB, ?_, fun b => ?_⟩
  · conv => lhs; rw [hs]
    rw [List.map_append, List.map_cons]
    exact List.perm_middle
  · rw [show irS irs i x b = irs.take i ++ ⟨x.n, x.b, mput x.l b (.bool true)⟩ :: irs.drop (i + 1) by
      unfold irS
      conv => lhs; rw [hs]
      rw [List.set_append_right _ _ (by rw [hl]; exact Nat.le_refl _), hl, Nat.sub_self]; rfl]
    rw [List.map_append, List.map_cons]
    exact List.perm_middle.symm
theorem IRI.at_ {ns : List ByteArray} {irs : List IR} (h : IRI ns irs) {a : ByteArray} (ha : a ∈ ns) : ∃ (i : Nat) (x : IR), irs[i]? = some x ∧ x.n = a := by
  rw [← h.nm] at ha
  obtain ⟨x, hx, h1⟩ := List.mem_map.1 ha
  obtain ⟨i, hi, h2⟩ := List.getElem_of_mem hx
  exact ⟨i, x, by rw [← h2]; exact List.getElem?_eq_getElem hi, h1⟩
theorem IRI.nd {ns : List ByteArray} {irs : List IR} (h : IRI ns irs) (hn : ns.Nodup) : (irs.map IR.n).Nodup := by rw [h.nm]; exact hn
theorem IRI.rel {ns : List ByteArray} {irs : List IR} (h : IRI ns irs) (hn : ns.Nodup) {x : IR} (hx : x ∈ irs) {b : ByteArray} : b ∈ ks x.l ↔ Rel irs x.n b := by
  refine ⟨fun h1 => ⟨x, hx, rfl, h1⟩, ?_⟩
  rintro ⟨y, hy, h1, h2⟩
  have hnd := h.nd hn
  obtain ⟨i, hi, h3⟩ := List.getElem_of_mem hx
  obtain ⟨j, hj, h4⟩ := List.getElem_of_mem hy
  have h7 := List.pairwise_iff_getElem.1 hnd
  have g1 : (irs.map IR.n)[i]'(by simpa using hi) = x.n := by rw [List.getElem_map, h3]
  have g2 : (irs.map IR.n)[j]'(by simpa using hj) = x.n := by rw [List.getElem_map, h4, h1]
  have hij : i = j := by
    rcases Nat.lt_trichotomy i j with h8 | h8 | h8
    · exact absurd (g1.trans g2.symm) (h7 i j (by simpa using hi) (by simpa using hj) h8)
    · exact h8
    · exact absurd (g2.trans g1.symm) (h7 j i (by simpa using hj) (by simpa using hi) h8)
  subst hij
  rw [h3] at h4
  rw [h4]; exact h2
/-- edges between names -/
def NE (rs : List Ru) (a b : ByteArray) : Prop := ∃ r l, r ∈ rs ∧ l ∈ r.b ∧ ¬ l.k = 1 ∧ r.p = a ∧ l.p = b
inductive Pth (E : ByteArray → ByteArray → Prop) (S : ByteArray → Prop) : ByteArray → ByteArray → Prop
  | one {a b} : E a b → Pth E S a b
  | step {a c b} : Pth E S a c → S c → E c b → Pth E S a b
theorem Pth.mono {E : ByteArray → ByteArray → Prop} {S S' : ByteArray → Prop} (h : ∀ c, S c → S' c) {a b : ByteArray} (hp : Pth E S a b) : Pth E S' a b := by
  induction hp with
  | one h1 => exact .one h1
  | step _ h1 h2 ih => exact .step ih (h _ h1) h2
theorem Pth.app {E : ByteArray → ByteArray → Prop} {a c b : ByteArray} (h1 : Pth E (fun _ => True) a c) (h2 : Pth E (fun _ => True) c b) : Pth E (fun _ => True) a b := by
  induction h2 with
  | one h => exact .step h1 trivial h
  | step _ _ h ih => exact .step ih trivial h
theorem Pth.split {E : ByteArray → ByteArray → Prop} {S : ByteArray → Prop} {c a b : ByteArray} (h : Pth E (fun x => S x ∨ x = c) a b) : Pth E S a b ∨ (Pth E S a c ∧ Pth E S c b) := by
  induction h with
  | one h => exact .inl (.one h)
  | step h1 h2 h3 ih =>
    rcases ih with ih | ⟨i1, i2⟩
    · rcases h2 with h2 | h2
      · exact .inl (.step ih h2 h3)
      · rw [h2] at ih h3; exact .inr ⟨ih, .one h3⟩
    · rcases h2 with h2 | h2
      · exact .inr ⟨i1, .step i2 h2 h3⟩
      · rw [h2] at h3; exact .inr ⟨i1, .one h3⟩
theorem NE.occ {rs : List Ru} {a b : ByteArray} (h : NE rs a b) : Occ rs a ∧ Occ rs b := by
  obtain ⟨r, l, hr, hl, hk, h1, h2⟩ := h
  exact ⟨⟨r, hr, .inl h1⟩, ⟨r, hr, .inr ⟨l, hl, hk, h2⟩⟩⟩
theorem Pth.occ {rs : List Ru} {S : ByteArray → Prop} {a b : ByteArray} (h : Pth (NE rs) S a b) : Occ rs a ∧ Occ rs b := by
  induction h with
  | one h => exact h.occ
  | step _ _ h ih => exact ⟨ih.1, h.occ.2⟩
theorem Pth.all {rs : List Ru} {a b : ByteArray} (h : Pth (NE rs) (fun _ => True) a b) : Pth (NE rs) (Occ rs) a b := by
  induction h with
  | one h => exact .one h
  | step _ _ h ih => exact .step ih h.occ.1 h
/-- edges of the rules read so far -/
structure EdI (rs : List Ru) (irs : List IR) : Prop where
  iff : ∀ a b, Rel irs a b ↔ NE rs a b
/-- between two middle names -/
structure WsI (rs : List Ru) (irs : List IR) (S : ByteArray → Prop) : Prop where
  so : ∀ a b, Rel irs a b → Pth (NE rs) (fun _ => True) a b
  co : ∀ a b, Pth (NE rs) S a b → Rel irs a b
structure WsJ (rs : List Ru) (ns : List ByteArray) (base irs : List IR) (c : ByteArray) (i : Nat) : Prop where
  so : ∀ a b, Rel irs a b → Pth (NE rs) (fun _ => True) a b
  mo : ∀ a b, Rel base a b → Rel irs a b
  dn : ∀ a b, a ∈ ns.take i → b ∈ ns → Rel base a c → Rel base c b → Rel irs a b
structure WsK (rs : List Ru) (ns : List ByteArray) (base irs : List IR) (c : ByteArray) (i : Nat) (a0 : ByteArray) (j : Nat) : Prop where
  so : ∀ a b, Rel irs a b → Pth (NE rs) (fun _ => True) a b
  mo : ∀ a b, Rel base a b → Rel irs a b
  dn : ∀ a b, a ∈ ns.take i → b ∈ ns → Rel base a c → Rel base c b → Rel irs a b
  dk : ∀ b, b ∈ ns.take j → Rel base a0 c → Rel base c b → Rel irs a0 b
theorem EdI.ws {rs : List Ru} {irs : List IR} {ns : List ByteArray} (h : EdI rs irs) : WsI rs irs (fun x => x ∈ ns.take 0) := by
  refine ⟨fun a b h1 => .one ((h.iff a b).1 h1), fun a b h1 => ?_⟩
  cases h1 with
  | one h2 => exact (h.iff a b).2 h2
  | step _ h2 _ => cases h2
theorem WsI.into {rs : List Ru} {irs : List IR} {S : ByteArray → Prop} (h : WsI rs irs S) (ns : List ByteArray) (c : ByteArray) : WsJ rs ns irs irs c 0 := ⟨h.so, fun _ _ h => h, fun a b ha => (by cases ha)⟩
theorem WsJ.into {rs : List Ru} {ns : List ByteArray} {base irs : List IR} {c : ByteArray} {i : Nat} (h : WsJ rs ns base irs c i) (a0 : ByteArray) : WsK rs ns base irs c i a0 0 := ⟨h.so, h.mo, h.dn, fun b hb => (by cases hb)⟩
theorem WsK.out {rs : List Ru} {ns : List ByteArray} {base irs : List IR} {c a0 : ByteArray} {i j : Nat} (h : WsK rs ns base irs c i a0 j) (hi : ns[i]? = some a0) (hj : j = ns.length) : WsJ rs ns base irs c (i + 1) := by
  refine ⟨h.so, h.mo, fun a b ha hb h1 h2 => ?_⟩
  rcases take_mem hi ha with h3 | h3
  · exact h.dn a b h3 hb h1 h2
  · rw [h3] at h1 ⊢; exact h.dk b (by rw [take_all hj]; exact hb) h1 h2
theorem WsJ.out {rs : List Ru} {ns : List ByteArray} {base irs : List IR} {c : ByteArray} {k i : Nat} (h : WsJ rs ns base irs c i) (hb : WsI rs base (fun x => x ∈ ns.take k)) (hn : NmI rs ns) (hk : ns[k]? = some c) (hi : i = ns.length) : WsI rs irs (fun x => x ∈ ns.take (k + 1)) := by
  refine ⟨h.so, fun a b h1 => ?_⟩
  have h2 : Pth (NE rs) (fun x => x ∈ ns.take k ∨ x = c) a b := h1.mono fun x hx => take_mem hk hx
  rcases h2.split with h3 | ⟨h3, h4⟩
  · exact h.mo a b (hb.co a b h3)
  · exact h.dn a b (by rw [take_all hi]; exact (hn.mem a).2 h3.occ.1) ((hn.mem b).2 h4.occ.2) (hb.co _ _ h3) (hb.co _ _ h4)
theorem WsK.hit {rs : List Ru} {ns : List ByteArray} {base irs : List IR} {c a0 : ByteArray} {i j m : Nat} {x : IR} {b0 : ByteArray} (h : WsK rs ns base irs c i a0 j) (hx : irs[m]? = some x) (hxn : x.n = a0) (hj : ns[j]? = some b0) (h1 : Rel irs a0 c) (h2 : Rel irs c b0) : WsK rs ns base (irS irs m x b0) c i a0 (j + 1) := by
  refine ⟨fun a b h3 => ?_, fun a b h3 => (rel_put hx _ _ _).2 (.inl (h.mo a b h3)), fun a b ha hb h3 h4 => (rel_put hx _ _ _).2 (.inl (h.dn a b ha hb h3 h4)), fun b hb h3 h4 => ?_⟩
  · rcases (rel_put hx _ _ _).1 h3 with h4 | ⟨h4, h5⟩
    · exact h.so a b h4
    · rw [h4, h5, hxn]; exact (h.so _ _ h1).app (h.so _ _ h2)
  · rcases take_mem hj hb with h5 | h5
    · exact (rel_put hx _ _ _).2 (.inl (h.dk b h5 h3 h4))
    · exact (rel_put hx _ _ _).2 (.inr ⟨hxn.symm, h5⟩)
theorem WsK.miss {rs : List Ru} {ns : List ByteArray} {base irs : List IR} {c a0 : ByteArray} {i j : Nat} {b0 : ByteArray} (h : WsK rs ns base irs c i a0 j) (hj : ns[j]? = some b0) (h1 : ¬ (Rel irs a0 c ∧ Rel irs c b0)) : WsK rs ns base irs c i a0 (j + 1) := by
  refine ⟨h.so, h.mo, h.dn, fun b hb h3 h4 => ?_⟩
  rcases take_mem hj hb with h5 | h5
  · exact h.dk b h5 h3 h4
  · rw [h5] at h4; exact absurd ⟨h.mo _ _ h3, h.mo _ _ h4⟩ h1
theorem WsI.fin {rs : List Ru} {irs : List IR} {ns : List ByteArray} {k : Nat} (h : WsI rs irs (fun x => x ∈ ns.take k)) (hn : NmI rs ns) (hk : k = ns.length) : ∀ a b, Rel irs a b ↔ Pth (NE rs) (fun _ => True) a b := by
  refine fun a b => ⟨h.so a b, fun h1 => h.co a b (h1.all.mono fun x hx => ?_)⟩
  rw [take_all hk]; exact (hn.mem x).2 hx
/-- edges read of a part of the rules -/
def NEk (rs : List Ru) (i : Nat) (r : Ru) (j : Nat) (a b : ByteArray) : Prop := NE (rs.take i) a b ∨ ∃ l, l ∈ r.b.take j ∧ ¬ l.k = 1 ∧ r.p = a ∧ l.p = b
theorem NE_nil (a b : ByteArray) : ¬ NE [] a b := by rintro ⟨r, l, hr, _⟩; cases hr
theorem NE_snoc {rs : List Ru} {i : Nat} {r : Ru} (hr : rs[i]? = some r) {j : Nat} (hj : j = r.b.length) (a b : ByteArray) : NEk rs i r j a b ↔ NE (rs.take (i + 1)) a b := by
  unfold NEk
  rw [take_all hj]
  constructor
  · rintro (⟨q, l, hq, h⟩ | ⟨l, hl, h⟩)
    · refine ⟨q, l, ?_, h⟩
      rw [List.take_add_one]; exact List.mem_append_left _ hq
    · refine ⟨r, l, ?_, hl, h⟩
      rw [List.take_add_one, hr]; simp
  · rintro ⟨q, l, hq, hl, h⟩
    rcases take_mem hr hq with h1 | h1
    · exact .inl ⟨q, l, h1, hl, h⟩
    · rw [h1] at hl h; exact .inr ⟨l, hl, h⟩
structure EdK (rs : List Ru) (i : Nat) (r : Ru) (j : Nat) (irs : List IR) : Prop where
  iff : ∀ a b, Rel irs a b ↔ NEk rs i r j a b
theorem EdI.into {rs : List Ru} {i : Nat} {irs : List IR} (h : EdI (rs.take i) irs) (r : Ru) : EdK rs i r 0 irs := ⟨fun a b => by
  rw [h.iff]; unfold NEk
  exact ⟨.inl, fun h1 => h1.elim id fun ⟨l, hl, _⟩ => by cases hl⟩⟩
theorem EdK.out {rs : List Ru} {i j : Nat} {r : Ru} {irs : List IR} (h : EdK rs i r j irs) (hr : rs[i]? = some r) (hj : j = r.b.length) : EdI (rs.take (i + 1)) irs := ⟨fun a b => by rw [h.iff]; exact NE_snoc hr hj a b⟩
theorem EdK.hit {rs : List Ru} {i j m : Nat} {r : Ru} {irs : List IR} {x : IR} {l : Lt} (h : EdK rs i r j irs) (hl : r.b[j]? = some l) (hk : ¬ l.k = 1) (hx : irs[m]? = some x) (hxn : x.n = r.p) : EdK rs i r (j + 1) (irS irs m x l.p) := ⟨fun a b => by
  rw [rel_put hx, h.iff]; unfold NEk
  constructor
  · rintro ((h1 | ⟨q, hq, h1⟩) | ⟨h1, h2⟩)
    · exact .inl h1
    · exact .inr ⟨q, by rw [List.take_add_one]; exact List.mem_append_left _ hq, h1⟩
    · exact .inr ⟨l, by rw [List.take_add_one, hl]; simp, hk, by rw [h1, hxn], h2.symm⟩
  · rintro (h1 | ⟨q, hq, h1, h2, h3⟩)
    · exact .inl (.inl h1)
    · rcases take_mem hl hq with h4 | h4
      · exact .inl (.inr ⟨q, h4, h1, h2, h3⟩)
      · rw [h4] at h3; exact .inr ⟨by rw [hxn, h2], h3.symm⟩⟩
theorem EdK.miss {rs : List Ru} {i j : Nat} {r : Ru} {irs : List IR} {l : Lt} (h : EdK rs i r j irs) (hl : r.b[j]? = some l) (hk : l.k = 1) : EdK rs i r (j + 1) irs := ⟨fun a b => by
  rw [h.iff]; unfold NEk
  constructor
  · rintro (h1 | ⟨q, hq, h1⟩)
    · exact .inl h1
    · exact .inr ⟨q, by rw [List.take_add_one]; exact List.mem_append_left _ hq, h1⟩
  · rintro (h1 | ⟨q, hq, h1, h2⟩)
    · exact .inl h1
    · rcases take_mem hl hq with h4 | h4
      · exact .inr ⟨q, h4, h1, h2⟩
      · rw [h4] at h1; exact absurd hk h1⟩
structure RI where
  i : Nat
  irs : List IR
structure IR0 (ns : List ByteArray) (i : Nat) (irs : List IR) : Prop where
  nm : irs.map IR.n = ns.take i
  em : ∀ x, x ∈ irs → x.l = []
theorem IR0.next {ns : List ByteArray} {i : Nat} {irs : List IR} (h : IR0 ns i irs) {a : ByteArray} (ha : ns[i]? = some a) (k : Nat) : IR0 ns (i + 1) (irs ++ [⟨a, k, []⟩]) := by
  refine ⟨?_, fun x hx => ?_⟩
  · rw [List.map_append, h.nm, List.take_add_one, ha]; rfl
  · rcases List.mem_append.1 hx with h1 | h1
    · exact h.em x h1
    · rw [List.mem_singleton.1 h1]
theorem IR0.new {ns : List ByteArray} {i : Nat} {irs : List IR} (h : IR0 ns i irs) (hn : ns.Nodup) {a : ByteArray} (ha : ns[i]? = some a) (k : Nat) : mput (irs.map irk) a (.map (some k)) = (irs ++ [IR.mk a k []]).map irk := by
  rw [mput_nw]
  · rw [List.map_append]; rfl
  · rw [ks_irk, h.nm]
    intro hm
    obtain ⟨h1, h2⟩ := List.getElem?_eq_some_iff.1 ha
    have hs : ns = ns.take i ++ a :: ns.drop (i + 1) := by rw [← h2, List.getElem_cons_drop, List.take_append_drop]
    rw [hs, List.nodup_append] at hn
    exact hn.2.2 a hm a (by simp) rfl
theorem IR0.iri {ns : List ByteArray} {i : Nat} {irs : List IR} (h : IR0 ns i irs) (hi : i = ns.length) : IRI ns irs := ⟨by rw [h.nm, take_all hi], fun x p hx hp => by rw [h.em x hx] at hp; cases hp⟩
theorem IR0.edi {ns : List ByteArray} {i : Nat} {irs : List IR} (h : IR0 ns i irs) (rs : List Ru) : EdI (rs.take 0) irs := ⟨fun a b => ⟨fun ⟨x, hx, _, h2⟩ => (by rw [h.em x hx] at h2; cases h2), fun h1 => absurd h1 (NE_nil a b)⟩⟩
theorem ir_perm (irs : List IR) (a : ByteArray) (k : Nat) : ((k, MO kStr []) :: irs.map irB).Perm ((irs ++ [IR.mk a k []]).map irB) := by
  rw [List.map_append]
  exact (List.perm_append_comm (l₁ := [(k, MO kStr [])]) (l₂ := irs.map irB))
end reach

end Go.Proofs.Qxb6500915aGreatDoor

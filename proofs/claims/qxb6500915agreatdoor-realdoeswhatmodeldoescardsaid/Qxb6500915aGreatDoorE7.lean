import Derived.Test.Qxb6500915aGreatDoorE6
namespace Go.Proofs.Qxb6500915aGreatDoor
open Go.Eng
set_option linter.unusedVariables false
set_option linter.unusedSimpArgs false
theorem cal20 : callable Tryz.prog 20 = true := by kernel_rfl
theorem cal22 : callable Tryz.prog 22 = true := by kernel_rfl
theorem cal28 : callable Tryz.prog 28 = true := by kernel_rfl
/-! ## what a table that was accepted says -/
def Occ (rs : List Ru) (n : ByteArray) : Prop := ∃ r, r ∈ rs ∧ (r.p = n ∨ ∃ l, l ∈ r.b ∧ ¬ l.k = 1 ∧ l.p = n)
theorem pos_app {ps qs : List Pd} {n : ByteArray} {i : Nat} (h : pos ps n = some i) : pos (ps ++ qs) n = some i := by
  induction ps generalizing i with
  | nil => cases h
  | cons p ps ih =>
    unfold pos at h
    show (if n = p.n then some 0 else (pos (ps ++ qs) n).map (· + 1)) = some i
    split
    · rename_i e; rw [if_pos e] at h; exact h
    · rename_i e; rw [if_neg e] at h
      cases hq : pos ps n with
      | none => rw [hq] at h; cases h
      | some j => rw [hq] at h; rw [ih hq]; exact h
theorem pos_new (ps : List Pd) (n : ByteArray) (m : Nat) : (pos (ps ++ [⟨n, m, 0⟩]) n).isSome = true := by
  induction ps with
  | nil => show (if n = n then some 0 else _).isSome = true; rw [if_pos rfl]; rfl
  | cons p ps ih =>
    show (if n = p.n then some 0 else (pos (ps ++ [⟨n, m, 0⟩]) n).map (· + 1)).isSome = true
    split
    · rfl
    · rw [Option.isSome_map]; exact ih
theorem pos_none {ps : List Pd} {n : ByteArray} (h : pos ps n = none) : n ∉ ps.map Pd.n := by
  induction ps with
  | nil => intro h9; cases h9
  | cons p ps ih =>
    unfold pos at h
    split at h
    · cases h
    · rename_i e
      have h1 : pos ps n = none := by
        cases hq : pos ps n with
        | none => rfl
        | some j => rw [hq] at h; cases h
      intro h9
      rw [List.map_cons, List.mem_cons] at h9
      rcases h9 with h9 | h9
      · exact e h9
      · exact ih h1 h9
/-- a table that has grown -/
structure Grw (ps ps' : List Pd) (S : ByteArray → Prop) : Prop where
  ex : ∃ qs, ps' = ps ++ qs ∧ ∀ q, q ∈ qs → S q.n
  nd : (ps.map Pd.n).Nodup → (ps'.map Pd.n).Nodup
theorem Grw.refl (ps : List Pd) (S : ByteArray → Prop) : Grw ps ps S := ⟨⟨[], by simp, fun q h => (by cases h)⟩, id⟩
theorem Grw.trans {ps ps' ps'' : List Pd} {S S' S'' : ByteArray → Prop} (h : Grw ps ps' S) (h' : Grw ps' ps'' S') (h1 : ∀ n, S n → S'' n) (h2 : ∀ n, S' n → S'' n) : Grw ps ps'' S'' := by
  obtain ⟨qs, e, hq⟩ := h.ex
  obtain ⟨qs', e', hq'⟩ := h'.ex
  refine ⟨⟨qs ++ qs', by rw [e', e, List.append_assoc], fun q hm => ?_⟩, fun hn => h'.nd (h.nd hn)⟩
  rcases List.mem_append.1 hm with hm | hm
  · exact h1 _ (hq q hm)
  · exact h2 _ (hq' q hm)
theorem Grw.pos {ps ps' : List Pd} {S : ByteArray → Prop} (h : Grw ps ps' S) {n : ByteArray} (hn : (pos ps n).isSome = true) : (pos ps' n).isSome = true := by
  obtain ⟨qs, e, _⟩ := h.ex
  cases hq : Go.Proofs.Qxb6500915aGreatDoor.pos ps n with
  | none => rw [hq] at hn; cases hn
  | some i => rw [e, pos_app hq]; rfl
theorem note_grw (ps : List Pd) (n : ByteArray) (m : Nat) : Grw ps (noteP ps n m).2 (fun x => x = n) ∧ (pos (noteP ps n m).2 n).isSome = true := by
  cases hq : pos ps n with
  | some i =>
    obtain ⟨q, h1, _⟩ := pos_lt hq
    rw [noteP_old hq h1]
    exact ⟨Grw.refl _ _, by rw [hq]; rfl⟩
  | none =>
    rw [noteP_new hq]
    refine ⟨⟨⟨[⟨n, m, 0⟩], rfl, fun q h => by rw [List.mem_singleton.1 h]⟩, fun hn => ?_⟩, pos_new ps n m⟩
    rw [List.map_append, List.nodup_append]
    refine ⟨hn, by simp, fun a ha b hb e => ?_⟩
    have hbn : b = n := by simpa using hb
    rw [e, hbn] at ha
    exact pos_none hq ha
theorem ckA_grw {ps : List Pd} {p : ByteArray} {ts : List Tm} (h : (ckA ps p ts).1.1 = 0) : Grw ps (ckA ps p ts).2 (fun x => x = p) ∧ (pos (ckA ps p ts).2 p).isSome = true := by
  unfold ckA at h ⊢
  split at h
  · cases h
  · rename_i h1
    split at h
    · rename_i h2
      split at h
      · rename_i h3
        rw [if_neg h1, if_pos h2, if_pos h3]; exact note_grw ps p ts.length
      · cases h
    · rename_i h2
      exact absurd h h2
theorem ckL_grw {ps : List Pd} {l : Lt} (h : (ckL ps l).1.1 = 0) : Grw ps (ckL ps l).2 (fun x => ¬ l.k = 1 ∧ x = l.p) ∧ (¬ l.k = 1 → (pos (ckL ps l).2 l.p).isSome = true) ∧ (l.k = 0 ∨ l.k = 1 ∨ l.k = 2) := by
  unfold ckL at h ⊢
  split at h
  · rename_i h1
    split at h
    · rename_i h2
      rw [if_pos h1, if_pos h2]
      have h3 := ckA_grw h
      exact ⟨h3.1.trans (Grw.refl _ (fun _ => False)) (fun n e => ⟨by omega, e⟩) (fun n e => e.elim), fun _ => h3.2, by omega⟩
    · cases h
  · rename_i h1
    split at h
    · rename_i h2
      split at h
      · rename_i h3
        rw [if_neg h1, if_pos h2, if_pos h3]
        exact ⟨Grw.refl _ _, fun h9 => absurd h2 h9, by omega⟩
      · cases h
    · cases h
theorem ckBd_grw {ri : Nat} : ∀ (ls : List Lt) (ps ps' : List Pd) (li : Nat), ckBd ri ps li ls = (none, ps') → Grw ps ps' (fun x => ∃ l, l ∈ ls ∧ ¬ l.k = 1 ∧ x = l.p) ∧ (∀ l, l ∈ ls → (¬ l.k = 1 → (pos ps' l.p).isSome = true) ∧ (l.k = 0 ∨ l.k = 1 ∨ l.k = 2))
  | [], ps, ps', li, h => by
    injection h with _ h
    rw [← h]
    exact ⟨Grw.refl _ _, fun l hl => by cases hl⟩
  | l :: ls, ps, ps', li, h => by
    unfold ckBd at h
    split at h
    · rename_i h0
      have h1 := ckL_grw h0
      have h2 := ckBd_grw ls _ _ _ h
      refine ⟨h1.1.trans h2.1 (fun n e => ⟨l, by simp, e⟩) (fun n ⟨q, hq, e⟩ => ⟨q, List.mem_cons_of_mem _ hq, e⟩), fun q hq => ?_⟩
      rcases List.mem_cons.1 hq with e | e
      · rw [e]; exact ⟨fun h9 => h2.1.pos (h1.2.1 h9), h1.2.2⟩
      · exact h2.2 q e
    · cases h
/-- the first check passed: kinds -/
def KOk (rs : List Ru) : Prop := ∀ r l, r ∈ rs → l ∈ r.b → (l.k = 0 ∨ l.k = 1 ∨ l.k = 2)
theorem ckP_grw : ∀ (rs : List Ru) (ps ps' : List Pd) (i : Nat), ckP ps i rs = (none, ps') → Grw ps ps' (Occ rs) ∧ InT ps' rs ∧ KOk rs
  | [], ps, ps', i, h => by
    injection h with _ h
    rw [← h]
    exact ⟨Grw.refl _ _, ⟨fun r hr => (by cases hr), fun r l hr => (by cases hr), fun r hr => (by cases hr)⟩, fun r l hr => (by cases hr)⟩
  | r :: rs, ps, ps', i, h => by
    unfold ckP at h
    split at h
    · rename_i ps1 h0
      obtain ⟨h2, h3, h4⟩ := ckP_grw rs _ _ _ h
      unfold ckRu at h0
      split at h0
      · cases h0
      · rename_i hb
        split at h0
        · rename_i hA
          have h5 := ckA_grw hA
          have h6 := ckBd_grw r.b _ _ _ h0
          have h7 : Grw ps ps1 (Occ (r :: rs)) := h5.1.trans h6.1 (fun n e => ⟨r, by simp, .inl e.symm⟩) (fun n ⟨l, hl, hk, e⟩ => ⟨r, by simp, .inr ⟨l, hl, hk, e.symm⟩⟩)
          refine ⟨h7.trans h2 (fun _ e => e) (fun n ⟨q, hq, e⟩ => ⟨q, List.mem_cons_of_mem _ hq, e⟩), ⟨fun q hq => ?_, fun q l hq hl hk => ?_, fun q hq => ?_⟩, fun q l hq hl => ?_⟩
          · rcases List.mem_cons.1 hq with e | e
            · rw [e]; exact h2.pos (h6.1.pos h5.2)
            · exact h3.h q e
          · rcases List.mem_cons.1 hq with e | e
            · rw [e] at hl; exact h2.pos ((h6.2 l hl).1 hk)
            · exact h3.l q l e hl hk
          · rcases List.mem_cons.1 hq with e | e
            · rw [e]; omega
            · exact h3.b q e
          · rcases List.mem_cons.1 hq with e | e
            · rw [e] at hl; exact (h6.2 l hl).2
            · exact h4 q l e hl
        · cases h0
    · rename_i h0
      rw [h] at h0
      exact absurd rfl (h0 ps')
structure Tabl (rs : List Ru) (ps : List Pd) : Prop where
  t : InT ps rs
  k : KOk rs
  nd : (ps.map Pd.n).Nodup
  oc : ∀ p, p ∈ ps → Occ rs p.n
theorem tabl_of {rs : List Ru} {ps : List Pd} (h : ckP [] 0 rs = (none, ps)) : Tabl rs ps := by
  obtain ⟨h1, h2, h3⟩ := ckP_grw rs [] ps 0 h
  obtain ⟨qs, e, hq⟩ := h1.ex
  rw [List.nil_append] at e
  exact ⟨h2, h3, h1.nd (by simp), fun p hp => hq p (e ▸ hp)⟩
theorem ckC_nn (ts : List Tm) : ckC ts = 0 ∨ ckC ts = 2 := by
  unfold ckC; split <;> simp
theorem ckA_bad {ps : List Pd} {p : ByteArray} {ts : List Tm} : (ckA ps p ts).1.1 = 0 ∨ (ckA ps p ts).1.1 = 2 ∨ (ckA ps p ts).1.1 = 3 := by
  have := ckC_nn ts
  unfold ckA; repeat' split
  all_goals first | exact .inr (.inl rfl) | exact .inl rfl | exact .inr (.inr rfl) | assumption | (simp only; omega)
theorem ckL_bad {ps : List Pd} {l : Lt} : (ckL ps l).1.1 = 0 ∨ (ckL ps l).1.1 = 2 ∨ (ckL ps l).1.1 = 3 := by
  have := ckC_nn l.a
  have := ckA_bad (ps := ps) (p := l.p) (ts := l.a)
  unfold ckL; repeat' split
  all_goals first | exact .inr (.inl rfl) | exact .inl rfl | exact .inr (.inr rfl) | assumption | (simp only; omega)
theorem ckBd_c {ri : Nat} : ∀ (ls : List Lt) (ps ps' : List Pd) (li : Nat) (f : Ft), ckBd ri ps li ls = (some f, ps') → f.c = 2 ∨ f.c = 3
  | [], ps, ps', li, f, h => by cases h
  | l :: ls, ps, ps', li, f, h => by
    unfold ckBd at h
    split at h
    · exact ckBd_c ls _ _ _ f h
    · rename_i h0
      injection h with h _
      injection h with h
      rw [← h]
      have := ckL_bad (ps := ps) (l := l)
      simp only; omega
theorem ckP_c : ∀ (rs : List Ru) (ps ps' : List Pd) (i : Nat) (f : Ft), ckP ps i rs = (some f, ps') → f.c = 1 ∨ f.c = 2 ∨ f.c = 3
  | [], ps, ps', i, f, h => by cases h
  | r :: rs, ps, ps', i, f, h => by
    unfold ckP at h
    split at h
    · exact ckP_c rs _ _ _ f h
    · unfold ckRu at h
      split at h
      · injection h with h _
        injection h with h
        rw [← h]; exact .inl rfl
      · split at h
        · exact .inr (ckBd_c r.b _ _ _ f h)
        · rename_i h0
          injection h with h _
          injection h with h
          rw [← h]
          have := ckA_bad (ps := ps) (p := r.p) (ts := r.a)
          simp only; omega
theorem apartK {w0 w : World} {F E A G : List (Nat × Obj)} (hh : Has [] w0 F w) (hk : Keeps F A G) (hm : Mem E w0) : ∀ x, x ∈ E → x.1 ∉ A.map Prod.fst := apart0 hh hm fun y hy => hk.perm.mem_iff.2 (List.mem_append_left _ hy)


attribute [local irreducible] RV.E

end Go.Proofs.Qxb6500915aGreatDoor

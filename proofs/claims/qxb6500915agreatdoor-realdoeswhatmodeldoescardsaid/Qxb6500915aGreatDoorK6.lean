import Derived.Test.Qxb6500915aGreatDoorK5
import Derived.Test.Qxb6500915aGreatDoorJ3
namespace Go.Proofs.Qxb6500915aGreatDoor
open Go.Eng
set_option linter.unusedVariables false
set_option linter.unusedSimpArgs false

/-! ## programs with the same rules up to variance -/
section pv
theorem VarR.al {a b : Ru} (h : VarR a b) : b.a.length = a.a.length := by obtain ⟨f, _, _, h2, _⟩ := h; rw [h2, List.length_map]
theorem VarR.bl {a b : Ru} (h : VarR a b) : b.b.length = a.b.length := by obtain ⟨f, _, _, _, h2⟩ := h; rw [← h2.length_eq, List.length_map]
theorem VarR.hp {a b : Ru} (h : VarR a b) : b.p = a.p := by obtain ⟨f, _, h2, _, _⟩ := h; exact h2
structure SmL (l l' : Lt) : Prop where
  k : l'.k = l.k
  o : l'.o = l.o
  p : l'.p = l.p
  a : l'.a.length = l.a.length
theorem sm_ch (f : Int → Int) (l : Lt) : SmL l (chL f l) := ⟨rfl, rfl, rfl, by show (l.a.map (chT f)).length = _; rw [List.length_map]⟩
theorem VarR.to {a b : Ru} (h : VarR a b) {l : Lt} (hl : l ∈ a.b) : ∃ l', l' ∈ b.b ∧ SmL l l' := by
  obtain ⟨f, _, _, _, h2⟩ := h
  exact ⟨chL f l, h2.mem_iff.1 (List.mem_map.2 ⟨l, hl, rfl⟩), sm_ch f l⟩
theorem VarR.fro {a b : Ru} (h : VarR a b) {l' : Lt} (hl : l' ∈ b.b) : ∃ l, l ∈ a.b ∧ SmL l l' := by
  obtain ⟨f, _, _, _, h2⟩ := h
  obtain ⟨l, h3, rfl⟩ := List.mem_map.1 (h2.mem_iff.2 hl)
  exact ⟨l, h3, sm_ch f l⟩
theorem var_a {r : Ru} {t : Tm} (h : t ∈ r.a) (hk : t.k = 0) : t.v ∈ vars r := (canI_v r).2.2.2.1 t h hk
theorem var_b {r : Ru} {l : Lt} {t : Tm} (hl : l ∈ r.b) (h : t ∈ l.a) (hk : t.k = 0) : t.v ∈ vars r := (canI_v r).2.2.2.2 l t hl h hk
/-! variance is symmetric and transitive -/
theorem chT_cg {f g : Int → Int} {t : Tm} (h : t.k = 0 → f t.v = g t.v) : chT f t = chT g t := by
  by_cases hk : t.k = 0
  · rw [chT_v hk, chT_v hk, h hk]
  · rw [chT_n hk, chT_n hk]
theorem chT_comp (f g : Int → Int) (t : Tm) : chT g (chT f t) = chT (fun v => g (f v)) t := by
  by_cases hk : t.k = 0
  · rw [chT_v hk, chT_v (f := g) (by exact hk), chT_v hk]
  · rw [chT_n hk, chT_n hk, chT_n hk]
theorem chTs_comp (f g : Int → Int) (ts : List Tm) : (ts.map (chT f)).map (chT g) = ts.map (chT (fun v => g (f v))) := by
  rw [List.map_map]; exact List.map_congr_left fun t _ => chT_comp f g t
theorem chL_comp (f g : Int → Int) (l : Lt) : chL g (chL f l) = chL (fun v => g (f v)) l := by
  show (⟨l.k, l.o, l.p, (l.a.map (chT f)).map (chT g)⟩ : Lt) = ⟨l.k, l.o, l.p, l.a.map (chT (fun v => g (f v)))⟩
  rw [chTs_comp]
theorem chL_cg {f g : Int → Int} {l : Lt} (h : ∀ t, t ∈ l.a → t.k = 0 → f t.v = g t.v) : chL f l = chL g l := by
  show (⟨l.k, l.o, l.p, l.a.map (chT f)⟩ : Lt) = ⟨l.k, l.o, l.p, l.a.map (chT g)⟩
  rw [List.map_congr_left fun t ht => chT_cg (h t ht)]
theorem VarR.img {a b : Ru} {f : Int → Int} (ha : b.a = a.a.map (chT f)) (hb : (a.b.map (chL f)).Perm b.b) {y : Int} (hy : y ∈ vars b) : ∃ x, x ∈ vars a ∧ f x = y := by
  rcases vars_occ hy with ⟨t, h1, h2, h3⟩ | ⟨l, t, h0, h1, h2, h3⟩
  · rw [ha] at h1
    obtain ⟨u, h4, rfl⟩ := List.mem_map.1 h1
    rw [chT_k] at h2
    rw [chT_v h2] at h3
    exact ⟨u.v, var_a h4 h2, h3⟩
  · obtain ⟨l0, h4, rfl⟩ := List.mem_map.1 (hb.mem_iff.2 h0)
    obtain ⟨u, h5, rfl⟩ := List.mem_map.1 (show t ∈ l0.a.map (chT f) from h1)
    rw [chT_k] at h2
    rw [chT_v h2] at h3
    exact ⟨u.v, var_b h4 h5 h2, h3⟩
theorem VarR.mk' {a b : Ru} {f : Int → Int} (ha : b.a = a.a.map (chT f)) (hb : (a.b.map (chL f)).Perm b.b) {x : Int} (hx : x ∈ vars a) : f x ∈ vars b := by
  rcases vars_occ hx with ⟨t, h1, h2, h3⟩ | ⟨l, t, h0, h1, h2, h3⟩
  · have h4 : chT f t ∈ b.a := by rw [ha]; exact List.mem_map.2 ⟨t, h1, rfl⟩
    have h5 := var_a h4 (by rw [chT_k]; exact h2)
    rw [chT_v h2, h3] at h5; exact h5
  · have h4 : chL f l ∈ b.b := hb.mem_iff.1 (List.mem_map.2 ⟨l, h0, rfl⟩)
    have h5 := var_b h4 (t := chT f t) (List.mem_map.2 ⟨t, h1, rfl⟩) (by rw [chT_k]; exact h2)
    rw [chT_v h2, h3] at h5; exact h5
theorem VarR.refl (a : Ru) : VarR a a := by
  refine ⟨id, fun _ _ _ _ h => h, rfl, ?_, ?_⟩
  · conv => lhs; rw [← List.map_id a.a]
    exact List.map_congr_left fun t _ => (chT_id t).symm
  · have : a.b.map (chL id) = a.b := by
      conv => rhs; rw [← List.map_id a.b]
      exact List.map_congr_left fun l _ => chL_id l
    rw [this]
theorem VarR.trans {a b c : Ru} (h : VarR a b) (h' : VarR b c) : VarR a c := by
  obtain ⟨f, f1, f2, f3, f4⟩ := h
  obtain ⟨g, g1, g2, g3, g4⟩ := h'
  refine ⟨fun v => g (f v), fun x y hx hy e => f1 x y hx hy (g1 _ _ (VarR.mk' f3 f4 hx) (VarR.mk' f3 f4 hy) e), g2.trans f2, ?_, ?_⟩
  · rw [g3, f3, chTs_comp]
  · refine List.Perm.trans ?_ g4
    have e : a.b.map (chL fun v => g (f v)) = (a.b.map (chL f)).map (chL g) := by
      rw [List.map_map]; exact List.map_congr_left fun l _ => (chL_comp f g l).symm
    rw [e]; exact f4.map _
theorem inv_ex {V : List Int} {f : Int → Int} (h : ∀ x y, x ∈ V → y ∈ V → f x = f y → x = y) : ∃ g : Int → Int, ∀ x, x ∈ V → g (f x) = x := by
  refine ⟨fun y => (V.find? fun x => decide (f x = y)).getD 0, fun x hx => ?_⟩
  simp only
  cases hq : V.find? (fun z => decide (f z = f x)) with
  | none =>
    have := List.find?_eq_none.1 hq x hx
    simp at this
  | some z =>
    have h1 := List.mem_of_find?_eq_some hq
    have h2 := List.find?_some hq
    have h3 : f z = f x := by simpa using h2
    rw [Option.getD_some]
    exact h z x h1 hx h3
theorem VarR.symm {a b : Ru} (h : VarR a b) : VarR b a := by
  obtain ⟨f, f1, f2, f3, f4⟩ := h
  obtain ⟨g, hg⟩ := inv_ex f1
  refine ⟨g, fun x y hx hy e => ?_, f2.symm, ?_, ?_⟩
  · obtain ⟨u, h1, rfl⟩ := VarR.img f3 f4 hx
    obtain ⟨v, h2, rfl⟩ := VarR.img f3 f4 hy
    rw [hg u h1, hg v h2] at e; rw [e]
  · rw [f3, chTs_comp]
    conv => lhs; rw [← List.map_id a.a]
    refine List.map_congr_left fun t ht => ?_
    refine (chT_id t).symm.trans (chT_cg fun hk => ?_)
    show t.v = g (f t.v)
    rw [hg _ (var_a ht hk)]
  · refine (f4.symm.map _).trans ?_
    have : (a.b.map (chL f)).map (chL g) = a.b := by
      rw [List.map_map]
      conv => rhs; rw [← List.map_id a.b]
      refine List.map_congr_left fun l hl => ?_
      show chL g (chL f l) = l
      rw [chL_comp]
      refine Eq.trans (chL_cg fun t ht hk => ?_) (chL_id l)
      show g (f t.v) = t.v
      rw [hg _ (var_b hl ht hk)]
    rw [this]
structure PV (A B : List Ru) : Prop where
  f : ∀ a, a ∈ A → ∃ b, b ∈ B ∧ VarR a b
  g : ∀ b, b ∈ B → ∃ a, a ∈ A ∧ VarR a b
theorem PV.symm {A B : List Ru} (h : PV A B) : PV B A := ⟨fun b hb => (h.g b hb).imp fun a x => ⟨x.1, x.2.symm⟩, fun a ha => (h.f a ha).imp fun b x => ⟨x.1, x.2.symm⟩⟩
/-! shape -/
theorem bad_iff : ∀ {ts : List Tm}, bad ts = none ↔ ∀ t, t ∈ ts → fineT t
  | [] => ⟨fun _ t h => (by cases h), fun _ => rfl⟩
  | t :: ts => by
    unfold bad
    by_cases h : fineT t
    · rw [if_pos h]
      constructor
      · intro h1 q hq
        have h2 : bad ts = none := by
          cases hq2 : bad ts with
          | none => rfl
          | some i => rw [hq2] at h1; cases h1
        rcases List.mem_cons.1 hq with rfl | hq
        · exact h
        · exact bad_iff.1 h2 q hq
      · intro h1
        rw [bad_iff.2 fun q hq => h1 q (List.mem_cons_of_mem _ hq)]; rfl
    · rw [if_neg h]
      exact ⟨fun h1 => (by cases h1), fun h1 => absurd (h1 t (by simp)) h⟩
theorem ckC0 {ts : List Tm} : ckC ts = 0 ↔ ∀ t, t ∈ ts → fineT t := by
  rw [← bad_iff]
  unfold ckC
  cases bad ts with
  | none => simp
  | some i => simp
structure ShA (p : ByteArray) (a : List Tm) : Prop where
  p : ¬ p = e0
  a : ∀ t, t ∈ a → fineT t
def ShL (l : Lt) : Prop := ((l.k = 0 ∨ l.k = 2) ∧ l.o = 0 ∧ ShA l.p l.a) ∨ (l.k = 1 ∧ (l.p = e0 ∧ l.o < 6 ∧ l.a.length = 2) ∧ ∀ t, t ∈ l.a → fineT t)
structure ShR (r : Ru) : Prop where
  n : r.b.length ≤ 64
  a : ShA r.p r.a
  b : ∀ l, l ∈ r.b → ShL l
def OcA (rs : List Ru) (n : ByteArray) (m : Nat) : Prop := ∃ r, r ∈ rs ∧ ((r.p = n ∧ r.a.length = m) ∨ ∃ l, l ∈ r.b ∧ ¬ l.k = 1 ∧ l.p = n ∧ l.a.length = m)
structure HasP (ps : List Pd) (n : ByteArray) (m : Nat) : Prop where
  ex : ∃ j q, pos ps n = some j ∧ ps[j]? = some q ∧ q.a = m
theorem HasP.grw {ps ps' : List Pd} {S : ByteArray → Prop} (g : Grw ps ps' S) {n : ByteArray} {m : Nat} (h : HasP ps n m) : HasP ps' n m := by
  obtain ⟨qs, e, _⟩ := g.ex
  obtain ⟨j, q, h1, h2, h3⟩ := h.ex
  refine ⟨j, q, by rw [e]; exact pos_app h1, ?_, h3⟩
  rw [e, List.getElem?_append_left (List.getElem?_eq_some_iff.1 h2).1]; exact h2
theorem pos_snoc {n : ByteArray} {m : Nat} : ∀ {ps : List Pd}, pos ps n = none → pos (ps ++ [⟨n, m, 0⟩]) n = some ps.length
  | [], _ => by show (if n = n then some 0 else _) = _; rw [if_pos rfl]; rfl
  | p :: ps, h => by
    unfold pos at h
    split at h
    · cases h
    · rename_i e
      have h1 : pos ps n = none := by
        cases hq : pos ps n with
        | none => rfl
        | some j => rw [hq] at h; cases h
      show (if n = p.n then some 0 else (pos (ps ++ [⟨n, m, 0⟩]) n).map (· + 1)) = _
      rw [if_neg e, pos_snoc h1]; rfl
theorem note_has {ps : List Pd} {n : ByteArray} {m : Nat} (h : (noteP ps n m).1 = true) : HasP (noteP ps n m).2 n m := by
  cases hq : pos ps n with
  | some i =>
    obtain ⟨q, h1, _⟩ := pos_lt hq
    rw [noteP_old hq h1] at h ⊢
    exact ⟨i, q, hq, h1, of_decide_eq_true h⟩
  | none =>
    rw [noteP_new hq]
    exact ⟨ps.length, ⟨n, m, 0⟩, pos_snoc hq, by simp, rfl⟩
theorem ckA_has {ps : List Pd} {p : ByteArray} {ts : List Tm} (h : (ckA ps p ts).1.1 = 0) : ShA p ts ∧ HasP (ckA ps p ts).2 p ts.length := by
  unfold ckA at h ⊢
  split at h
  · cases h
  · rename_i h1
    split at h
    · rename_i h2
      split at h
      · rename_i h3
        rw [if_neg h1, if_pos h2, if_pos h3]; exact ⟨⟨h1, ckC0.1 h2⟩, note_has h3⟩
      · cases h
    · rename_i h2
      exact absurd h h2
theorem ckL_has {ps : List Pd} {l : Lt} (h : (ckL ps l).1.1 = 0) : ShL l ∧ (¬ l.k = 1 → HasP (ckL ps l).2 l.p l.a.length) := by
  unfold ckL at h ⊢
  split at h
  · rename_i h1
    split at h
    · rename_i h2
      rw [if_pos h1, if_pos h2]
      have h3 := ckA_has h
      exact ⟨.inl ⟨h1, h2, h3.1⟩, fun _ => h3.2⟩
    · cases h
  · rename_i h1
    split at h
    · rename_i h2
      split at h
      · rename_i h3
        exact ⟨.inr ⟨h2, h3, ckC0.1 h⟩, fun h9 => absurd h2 h9⟩
      · cases h
    · cases h
theorem ckBd_has {ri : Nat} : ∀ (ls : List Lt) (ps ps' : List Pd) (li : Nat), ckBd ri ps li ls = (none, ps') → ∀ l, l ∈ ls → ShL l ∧ (¬ l.k = 1 → HasP ps' l.p l.a.length)
  | [], ps, ps', li, h => fun l hl => by cases hl
  | l :: ls, ps, ps', li, h => by
    unfold ckBd at h
    split at h
    · rename_i h0
      have h1 := ckL_has h0
      have h2 := ckBd_has ls _ _ _ h
      have h3 := (ckBd_grw ls _ _ _ h).1
      intro q hq
      rcases List.mem_cons.1 hq with rfl | e
      · exact ⟨h1.1, fun h9 => (h1.2 h9).grw h3⟩
      · exact h2 q e
    · cases h
theorem ckP_has : ∀ (rs : List Ru) (ps ps' : List Pd) (i : Nat), ckP ps i rs = (none, ps') → (∀ r, r ∈ rs → ShR r) ∧ ∀ n m, OcA rs n m → HasP ps' n m
  | [], ps, ps', i, h => ⟨fun r hr => (by cases hr), fun n m ⟨r, hr, _⟩ => (by cases hr)⟩
  | r :: rs, ps, ps', i, h => by
    unfold ckP at h
    split at h
    · rename_i ps1 h0
      obtain ⟨h3, h4⟩ := ckP_has rs _ _ _ h
      have h2 := (ckP_grw rs _ _ _ h).1
      unfold ckRu at h0
      split at h0
      · cases h0
      · rename_i hb
        split at h0
        · rename_i hA
          have h5 := ckA_has hA
          have h6 := ckBd_has r.b _ _ _ h0
          have h7 := (ckBd_grw r.b _ _ _ h0).1
          refine ⟨fun q hq => ?_, fun n m ⟨q, hq, ho⟩ => ?_⟩
          · rcases List.mem_cons.1 hq with rfl | e
            · exact ⟨by omega, h5.1, fun l hl => (h6 l hl).1⟩
            · exact h3 q e
          · rcases List.mem_cons.1 hq with rfl | e
            · rcases ho with ⟨e1, e2⟩ | ⟨l, hl, hk, e1, e2⟩
              · rw [← e1, ← e2]; exact (h5.2.grw h7).grw h2
              · rw [← e1, ← e2]; exact ((h6 l hl).2 hk).grw h2
            · exact h4 n m ⟨q, e, ho⟩
        · cases h0
    · rename_i h0
      rw [h] at h0
      exact absurd rfl (h0 ps')
/-! and back -/
def AI (ps : List Pd) (f : ByteArray → Nat) : Prop := ∀ q, q ∈ ps → f q.n = q.a
theorem note_ai {ps : List Pd} {n : ByteArray} {m : Nat} {f : ByteArray → Nat} (h : AI ps f) (hf : f n = m) : (noteP ps n m).1 = true ∧ AI (noteP ps n m).2 f := by
  cases hq : pos ps n with
  | some i =>
    obtain ⟨q, h1, h2⟩ := pos_lt hq
    rw [noteP_old hq h1]
    have := h q (List.mem_of_getElem? h1)
    exact ⟨decide_eq_true (by rw [← this, h2]; exact hf), h⟩
  | none =>
    rw [noteP_new hq]
    refine ⟨rfl, fun q hq => ?_⟩
    rcases List.mem_append.1 hq with h9 | h9
    · exact h q h9
    · rw [List.mem_singleton.1 h9]; exact hf
theorem ckA_ai {ps : List Pd} {p : ByteArray} {ts : List Tm} {f : ByteArray → Nat} (h : AI ps f) (hf : f p = ts.length) (hs : ShA p ts) : (ckA ps p ts).1.1 = 0 ∧ AI (ckA ps p ts).2 f := by
  have h1 := note_ai h hf
  unfold ckA
  rw [if_neg hs.p, if_pos (ckC0.2 hs.a), if_pos h1.1]
  exact ⟨rfl, h1.2⟩
theorem ckL_ai {ps : List Pd} {l : Lt} {f : ByteArray → Nat} (h : AI ps f) (hf : ¬ l.k = 1 → f l.p = l.a.length) (hs : ShL l) : (ckL ps l).1.1 = 0 ∧ AI (ckL ps l).2 f := by
  unfold ckL
  rcases hs with ⟨h1, h2, h3⟩ | ⟨h1, h2, h3⟩
  · rw [if_pos h1, if_pos h2]; exact ckA_ai h (hf (by omega)) h3
  · rw [if_neg (by omega), if_pos h1, if_pos h2]; exact ⟨ckC0.2 h3, h⟩
theorem ckBd_ai {ri : Nat} {f : ByteArray → Nat} : ∀ (ls : List Lt) (ps : List Pd) (li : Nat), AI ps f → (∀ l, l ∈ ls → ShL l ∧ (¬ l.k = 1 → f l.p = l.a.length)) → ∃ ps', ckBd ri ps li ls = (none, ps') ∧ AI ps' f
  | [], ps, li, h, _ => ⟨ps, rfl, h⟩
  | l :: ls, ps, li, h, hl => by
    have h1 := ckL_ai h (hl l (by simp)).2 (hl l (by simp)).1
    unfold ckBd
    rw [if_pos h1.1]
    exact ckBd_ai ls _ _ h1.2 fun q hq => hl q (List.mem_cons_of_mem _ hq)
theorem ckP_ai {f : ByteArray → Nat} : ∀ (rs : List Ru) (ps : List Pd) (i : Nat), AI ps f → (∀ r, r ∈ rs → ShR r) → (∀ n m, OcA rs n m → f n = m) → ∃ ps', ckP ps i rs = (none, ps')
  | [], ps, i, _, _, _ => ⟨ps, rfl⟩
  | r :: rs, ps, i, h, hs, hf => by
    have h0 := hs r (by simp)
    have h1 := ckA_ai h (hf r.p r.a.length ⟨r, by simp, .inl ⟨rfl, rfl⟩⟩) h0.a
    obtain ⟨ps1, h2, h3⟩ := ckBd_ai (ri := i) r.b (ckA ps r.p r.a).2 0 h1.2 fun l hl => ⟨h0.b l hl, fun hk => hf l.p l.a.length ⟨r, by simp, .inr ⟨l, hl, hk, rfl, rfl⟩⟩⟩
    have h4 : ckRu i ps r = (none, ps1) := by
      unfold ckRu
      rw [if_neg (by have := h0.n; omega), if_pos h1.1]; exact h2
    obtain ⟨ps2, h5⟩ := ckP_ai rs ps1 (i + 1) h3 (fun q hq => hs q (List.mem_cons_of_mem _ hq)) (fun n m ⟨q, hq, ho⟩ => hf n m ⟨q, List.mem_cons_of_mem _ hq, ho⟩)
    refine ⟨ps2, ?_⟩
    unfold ckP
    rw [h4]; exact h5
def arP (ps : List Pd) (n : ByteArray) : Nat := match pos ps n with
  | some j => (match ps[j]? with | some q => q.a | none => 0)
  | none => 0
theorem HasP.ar {ps : List Pd} {n : ByteArray} {m : Nat} (h : HasP ps n m) : arP ps n = m := by
  obtain ⟨j, q, h1, h2, h3⟩ := h.ex
  unfold arP; rw [h1]; simp only [h2]; exact h3
theorem PV.oc {A B : List Ru} (h : PV A B) {n : ByteArray} {m : Nat} (ho : OcA A n m) : OcA B n m := by
  obtain ⟨a, ha, ho⟩ := ho
  obtain ⟨b, hb, hv⟩ := h.f a ha
  refine ⟨b, hb, ?_⟩
  rcases ho with ⟨e1, e2⟩ | ⟨l, hl, hk, e1, e2⟩
  · exact .inl ⟨hv.hp.trans e1, hv.al.trans e2⟩
  · obtain ⟨l', h1, h2⟩ := hv.to hl
    exact .inr ⟨l', h1, by rw [h2.k]; exact hk, h2.p.trans e1, h2.a.trans e2⟩
theorem fine_ch {f : Int → Int} {t : Tm} (h : fineT t) (hv : t.k = 0 → 0 ≤ f t.v) : fineT (chT f t) := by
  by_cases hk : t.k = 0
  · rw [chT_v hk]
    rcases h with h | h | h
    · exact .inl ⟨hk, hv hk, h.2.2⟩
    · omega
    · omega
  · rw [chT_n hk]; exact h
theorem VarR.sh {a b : Ru} (h : VarR a b) (hn : ∀ x, x ∈ vars b → 0 ≤ x) (hs : ShR a) : ShR b := by
  have h1 := h.hp
  have h2 := h.bl
  obtain ⟨f, f1, f2, f3, f4⟩ := h
  refine ⟨by rw [h2]; exact hs.n, ⟨by rw [h1]; exact hs.a.p, fun t ht => ?_⟩, fun l hl => ?_⟩
  · have ht' := ht
    rw [f3] at ht
    obtain ⟨u, h4, rfl⟩ := List.mem_map.1 ht
    refine fine_ch (hs.a.a u h4) fun hk => ?_
    have := hn _ (VarR.mk' f3 f4 (var_a h4 hk)); exact this
  · obtain ⟨l0, h4, rfl⟩ := List.mem_map.1 (f4.mem_iff.2 hl)
    have hfine : (∀ t, t ∈ l0.a → fineT t) → ∀ t, t ∈ (chL f l0).a → fineT t := fun h9 t ht => by
      obtain ⟨u, h5, rfl⟩ := List.mem_map.1 (show t ∈ l0.a.map (chT f) from ht)
      exact fine_ch (h9 u h5) fun hk => hn _ (VarR.mk' f3 f4 (var_b h4 h5 hk))
    rcases hs.b l0 h4 with ⟨g1, g2, g3⟩ | ⟨g1, g2, g3⟩
    · exact .inl ⟨g1, g2, g3.p, hfine g3.a⟩
    · exact .inr ⟨g1, ⟨g2.1, g2.2.1, (sm_ch f l0).a.trans g2.2.2⟩, hfine g3⟩
theorem PV.ck {A B : List Ru} (h : PV A B) (hn : ∀ b, b ∈ B → ∀ x, x ∈ vars b → 0 ≤ x) {ps : List Pd} (hc : ckP [] 0 A = (none, ps)) : ∃ ps2, ckP [] 0 B = (none, ps2) := by
  obtain ⟨h1, h2⟩ := ckP_has A [] ps 0 hc
  refine ckP_ai (f := arP ps) B [] 0 (fun q hq => (by cases hq)) (fun b hb => ?_) (fun n m ho => (h2 n m (h.symm.oc ho)).ar)
  obtain ⟨a, ha, hv⟩ := h.g b hb
  exact hv.sh (hn b hb) (h1 a ha)
/-! safety -/
theorem mem_vS' {ts : List Tm} {v : Int} : v ∈ vS ts ↔ ∃ t, t ∈ ts ∧ t.k = 0 ∧ t.v = v := by
  unfold vS
  constructor
  · intro h
    obtain ⟨t, h1, rfl⟩ := List.mem_map.1 h
    have h2 := List.mem_filter.1 h1
    exact ⟨t, h2.1, of_decide_eq_true h2.2, rfl⟩
  · rintro ⟨t, h1, h2, rfl⟩
    exact mem_vS h1 h2
theorem vS_ch {f : Int → Int} {ts : List Tm} {v : Int} : v ∈ vS (ts.map (chT f)) ↔ ∃ u, u ∈ vS ts ∧ f u = v := by
  rw [mem_vS']
  constructor
  · rintro ⟨t, h1, h2, h3⟩
    obtain ⟨s, h4, rfl⟩ := List.mem_map.1 h1
    rw [chT_k] at h2
    rw [chT_v h2] at h3
    exact ⟨s.v, mem_vS h4 h2, h3⟩
  · rintro ⟨u, h1, h2⟩
    obtain ⟨t, h3, h4, rfl⟩ := mem_vS'.1 h1
    exact ⟨chT f t, List.mem_map.2 ⟨t, h3, rfl⟩, by rw [chT_k]; exact h4, by rw [chT_v h4]; exact h2⟩
theorem mem_posS' {ls : List Lt} {v : Int} : v ∈ posS ls ↔ ∃ l, l ∈ ls ∧ l.k = 0 ∧ v ∈ vS l.a := by
  unfold posS
  rw [List.mem_flatMap]
  constructor
  · rintro ⟨l, h1, h2⟩
    split at h2
    · exact ⟨l, h1, by assumption, h2⟩
    · cases h2
  · rintro ⟨l, h1, h2, h3⟩
    exact ⟨l, h1, by rw [if_pos h2]; exact h3⟩
theorem mem_ngS' {ls : List Lt} {v : Int} : v ∈ ngS ls ↔ ∃ l, l ∈ ls ∧ ¬ l.k = 0 ∧ v ∈ vS l.a := by
  unfold ngS
  rw [List.mem_flatMap]
  constructor
  · rintro ⟨l, h1, h2⟩
    split at h2
    · cases h2
    · exact ⟨l, h1, by assumption, h2⟩
  · rintro ⟨l, h1, h2, h3⟩
    exact ⟨l, h1, by rw [if_neg h2]; exact h3⟩
theorem VarR.safe {a b : Ru} (h : VarR a b) (hs : safeP a = none) : safeP b = none := by
  obtain ⟨f, f1, f2, f3, f4⟩ := h
  rw [safe_iff] at hs ⊢
  intro v hv
  have hpos : ∀ u, u ∈ posS a.b → f u ∈ posS b.b := fun u hu => by
    obtain ⟨l, h1, h2, h3⟩ := mem_posS'.1 hu
    exact mem_posS'.2 ⟨chL f l, f4.mem_iff.1 (List.mem_map.2 ⟨l, h1, rfl⟩), h2, vS_ch.2 ⟨u, h3, rfl⟩⟩
  rcases List.mem_append.1 hv with h1 | h1
  · rw [f3] at h1
    obtain ⟨u, h2, rfl⟩ := vS_ch.1 h1
    exact hpos u (hs u (List.mem_append_left _ h2))
  · obtain ⟨l, h2, h3, h4⟩ := mem_ngS'.1 h1
    obtain ⟨l0, h5, rfl⟩ := List.mem_map.1 (f4.mem_iff.2 h2)
    obtain ⟨u, h6, rfl⟩ := vS_ch.1 (show v ∈ vS (l0.a.map (chT f)) from h4)
    exact hpos u (hs u (List.mem_append_right _ (mem_ngS'.2 ⟨l0, h5, h3, h6⟩)))
theorem PV.safe {A B : List Ru} (h : PV A B) (hs : usP 0 A = none) : usP 0 B = none := by
  rw [usP_none] at hs ⊢
  intro b hb
  obtain ⟨a, ha, hv⟩ := h.g b hb
  exact hv.safe (hs a ha)
/-! stratification -/
theorem PV.ne {A B : List Ru} (h : PV A B) {x y : ByteArray} (hn : NE A x y) : NE B x y := by
  obtain ⟨a, l, ha, hl, hk, e1, e2⟩ := hn
  obtain ⟨b, hb, hv⟩ := h.f a ha
  obtain ⟨l', h1, h2⟩ := hv.to hl
  exact ⟨b, l', hb, h1, by rw [h2.k]; exact hk, hv.hp.trans e1, h2.p.trans e2⟩
theorem pth_e {E E' : ByteArray → ByteArray → Prop} {S : ByteArray → Prop} (h : ∀ x y, E x y → E' x y) {a b : ByteArray} (hp : Pth E S a b) : Pth E' S a b := by
  induction hp with
  | one h1 => exact .one (h _ _ h1)
  | step _ h1 h2 ih => exact .step ih h1 (h _ _ h2)
def NgC (rs : List Ru) : Prop := ∃ r l, r ∈ rs ∧ l ∈ r.b ∧ l.k = 2 ∧ Pth (NE rs) (fun _ => True) l.p r.p
theorem PV.ng {A B : List Ru} (h : PV A B) (hn : NgC A) : NgC B := by
  obtain ⟨a, l, ha, hl, hk, hp⟩ := hn
  obtain ⟨b, hb, hv⟩ := h.f a ha
  obtain ⟨l', h1, h2⟩ := hv.to hl
  exact ⟨b, l', hb, h1, h2.k.trans hk, by rw [h2.p, hv.hp]; exact pth_e (fun x y => h.ne) hp⟩
theorem bad_pth {ps : List Pd} {rs : List Ru} {bad : ByteArray → ByteArray → Bool} (hT : InT ps rs) (hB : BadOk ps rs bad) {r : Ru} {l : Lt} (hr : r ∈ rs) (hl : l ∈ r.b) (hk : l.k = 2) : bad r.p l.p = true ↔ Pth (NE rs) (fun _ => True) l.p r.p := by
  have ha := hT.l r l hr hl (by omega)
  have hb := hT.h r hr
  refine (hB.iff r l hr hl hk).trans ⟨fun h => ?_, pth_rch⟩
  rcases rch_pth hT ha h rfl with e | ⟨b, e, hp⟩
  · have := ix_inj hb ha e
    exact .one ⟨r, l, hr, hl, by omega, this, this.symm⟩
  · have := ix_inj (hT.occ hp.occ.2) hb e
    rw [← this]; exact hp
theorem negB_nn {bad : ByteArray → Bool} : ∀ (ls : List Lt) (j : Nat), negB bad j ls = none ↔ ∀ l, l ∈ ls → l.k = 2 → bad l.p = false
  | [], j => ⟨fun _ l hl => (by cases hl), fun _ => rfl⟩
  | l :: ls, j => by
    unfold negB
    split
    · rename_i h
      exact ⟨fun h9 => (by cases h9), fun h9 => (by have := h9 l (by simp) h.1; rw [h.2] at this; cases this)⟩
    · rename_i h
      rw [negB_nn ls]
      constructor
      · intro h1 q hq hk
        rcases List.mem_cons.1 hq with rfl | hq
        · cases hb : bad q.p with
          | false => rfl
          | true => exact absurd ⟨hk, hb⟩ h
        · exact h1 q hq hk
      · intro h1 q hq; exact h1 q (List.mem_cons_of_mem _ hq)
theorem negP_nn {bad : ByteArray → ByteArray → Bool} : ∀ (rs : List Ru) (i : Nat), negP bad i rs = none ↔ ∀ r l, r ∈ rs → l ∈ r.b → l.k = 2 → bad r.p l.p = false
  | [], j => ⟨fun _ r l hr => (by cases hr), fun _ => rfl⟩
  | r :: rs, i => by
    unfold negP
    cases hq : negB (bad r.p) 0 r.b with
    | some j =>
      refine ⟨fun h9 => (by cases h9), fun h9 => ?_⟩
      have := (negB_nn r.b 0).2 fun l hl hk => h9 r l (by simp) hl hk
      rw [hq] at this; cases this
    | none =>
      simp only
      rw [negP_nn rs]
      constructor
      · intro h1 q l hq' hl hk
        rcases List.mem_cons.1 hq' with rfl | hq'
        · exact (negB_nn q.b 0).1 hq l hl hk
        · exact h1 q l hq' hl hk
      · intro h1 q l hq'; exact h1 q l (List.mem_cons_of_mem _ hq')
theorem neg_ng {ps : List Pd} {rs : List Ru} {bad : ByteArray → ByteArray → Bool} (hT : InT ps rs) (hB : BadOk ps rs bad) : negP bad 0 rs = none ↔ ¬ NgC rs := by
  rw [negP_nn]
  constructor
  · rintro h ⟨r, l, hr, hl, hk, hp⟩
    have := (bad_pth hT hB hr hl hk).2 hp
    rw [h r l hr hl hk] at this; cases this
  · intro h r l hr hl hk
    cases hb : bad r.p l.p with
    | false => rfl
    | true => exact absurd ⟨r, l, hr, hl, hk, (bad_pth hT hB hr hl hk).1 hb⟩ h
/-! the code -/
theorem noC_none : ∀ {rs : List Ru} {i : Nat}, noC i rs = none ↔ ∀ r, r ∈ rs → ¬ canR r = none
  | [], i => ⟨fun _ r hr => absurd hr (by simp), fun _ => rfl⟩
  | r :: rs, i => by
    show (match canR r with | none => some i | some _ => noC (i + 1) rs) = none ↔ _
    cases hs : canR r with
    | none => exact ⟨fun h => (by cases h), fun h => absurd hs (h r (List.mem_cons_self ..))⟩
    | some q =>
      simp only
      rw [noC_none (rs := rs) (i := i + 1)]
      constructor
      · intro h x hx
        rcases List.mem_cons.1 hx with e | e
        · rw [e, hs]; simp
        · exact h x e
      · intro h x hx; exact h x (List.mem_cons_of_mem _ hx)
def Cd (A : List Ru) (c : Int) : Prop := (c = 4 ∧ ¬ usP 0 A = none) ∨ (usP 0 A = none ∧ ((c = 5 ∧ NgC A) ∨ (¬ NgC A ∧ ((c = 6 ∧ ¬ noC 0 A = none) ∨ (c = 0 ∧ noC 0 A = none)))))
theorem cd_fun {A B : List Ru} {c c' : Int} (h : Cd A c) (h' : Cd B c') (hu : usP 0 A = none ↔ usP 0 B = none) (hn : NgC A ↔ NgC B) (hc : noC 0 A = none ↔ noC 0 B = none) : c = c' := by
  unfold Cd at h h'
  rw [← hu, ← hn, ← hc] at h'
  rcases h with ⟨e, h1⟩ | ⟨h1, h2⟩
  · rcases h' with ⟨e', _⟩ | ⟨h3, _⟩
    · rw [e, e']
    · exact absurd h3 h1
  · rcases h' with ⟨_, h3⟩ | ⟨_, h3⟩
    · exact absurd h1 h3
    · rcases h2 with ⟨e, h4⟩ | ⟨h4, h5⟩
      · rcases h3 with ⟨e', _⟩ | ⟨h6, _⟩
        · rw [e, e']
        · exact absurd h4 h6
      · rcases h3 with ⟨_, h6⟩ | ⟨_, h6⟩
        · exact absurd h6 h4
        · rcases h5 with ⟨e, h7⟩ | ⟨e, h7⟩
          · rcases h6 with ⟨e', _⟩ | ⟨_, h8⟩
            · rw [e, e']
            · exact absurd h8 h7
          · rcases h6 with ⟨_, h8⟩ | ⟨e', _⟩
            · exact absurd h7 h8
            · rw [e, e']
theorem nof_cd {A : List Ru} {f : Ft} {ps : List Pd} (hc : ckP [] 0 A = (none, ps)) (h : NoF A f) : Cd A f.c := by
  rcases h with ⟨ps', h⟩ | ⟨ps', h, h1⟩
  · rw [hc] at h; cases h
  · rw [hc] at h; injection h with _ h; subst h
    have hT := (tabl_of hc).t
    rcases h1 with ⟨i, q1, q2, h2, rfl⟩ | ⟨h2, bad, hB, h3⟩
    · exact .inl ⟨rfl, by rw [h2]; simp⟩
    · rcases h3 with ⟨i, j, h4, rfl⟩ | ⟨h4, i, h5, rfl⟩
      · refine .inr ⟨h2, .inl ⟨rfl, ?_⟩⟩
        refine Classical.byContradiction fun h9 => ?_
        rw [(neg_ng hT hB).2 h9] at h4; cases h4
      · exact .inr ⟨h2, .inr ⟨(neg_ng hT hB).1 h4, .inl ⟨rfl, by rw [h5]; simp⟩⟩⟩
theorem noo_cd {A : List Ru} {ps' l : List Pd} {q0 qs : List RV} (h : NoO A ps' l q0 qs) : Cd A 0 := by
  obtain ⟨ps, bad, h1, h2, h3, h4⟩ := h.ck
  have hT := (tabl_of h1).t
  refine .inr ⟨h.us, .inr ⟨(neg_ng hT h2).1 h3, .inr ⟨rfl, noC_none.2 fun r hr e => ?_⟩⟩⟩
  have h5 : canR r ∈ A.map canR := List.mem_map.2 ⟨r, hr, rfl⟩
  rw [← h.cn, e] at h5
  obtain ⟨q, _, h6⟩ := List.mem_map.1 h5
  cases h6
theorem PV.can {A B : List Ru} (h : PV A B) (hA : ∀ a, a ∈ A → a.b.length ≤ 64) (hn : noC 0 A = none) : noC 0 B = none := by
  rw [noC_none] at hn ⊢
  intro b hb
  obtain ⟨a, ha, hv⟩ := h.g b hb
  rw [← canon_iso hv (hA a ha)]; exact hn a ha
theorem PV.cd {A B : List Ru} (h : PV A B) {ps : List Pd} (hc : ckP [] 0 A = (none, ps)) {c c' : Int} (h1 : Cd A c) (h2 : Cd B c') : c = c' := by
  have hA := (tabl_of hc).t.b
  have hB : ∀ b, b ∈ B → b.b.length ≤ 64 := fun b hb => by
    obtain ⟨a, ha, hv⟩ := h.g b hb
    rw [hv.bl]; exact hA a ha
  exact cd_fun h1 h2 ⟨h.safe, h.symm.safe⟩ ⟨h.ng, h.symm.ng⟩ ⟨h.can hA, h.symm.can hB⟩
end pv

end Go.Proofs.Qxb6500915aGreatDoor

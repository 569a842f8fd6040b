import Derived.Test.Qxb6500915aGreatDoorK7
import Derived.Test.Qxb6500915aGreatDoorM0
namespace Go.Proofs.Qxb6500915aGreatDoor
open Go.Eng
set_option linter.unusedVariables false
set_option linter.unusedSimpArgs false

/-! ## the second program of law 7 -/
section v7
theorem pick_range {α : Type} (l : List α) : ∀ k, k ≤ l.length → (List.range k).filterMap (fun i => l[i]?) = l.take k
  | 0, _ => by simp
  | k + 1, h => by
    rw [List.range_succ, List.filterMap_append, pick_range l k (by omega), List.take_add_one]
    congr 1
theorem fmap_congr {α β : Type} {f g : α → Option β} : ∀ {l : List α}, (∀ x, x ∈ l → f x = g x) → l.filterMap f = l.filterMap g
  | [], _ => rfl
  | x :: l, h => by
    rw [List.filterMap_cons, List.filterMap_cons, h x (by simp), fmap_congr fun y hy => h y (List.mem_cons_of_mem _ hy)]
theorem pick_ints {α : Type} (l : List α) : pickL l (ints l.length) = l := by
  unfold pickL ints
  rw [List.filterMap_map]
  have := pick_range l l.length (Nat.le_refl _)
  rw [List.take_length] at this
  exact Eq.trans (fmap_congr fun i _ => rfl) this
theorem pick_perm {α : Type} {l : List α} {od : List Int} (h : od.Perm (ints l.length)) : (pickL l od).Perm l := by
  have h1 : (pickL l od).Perm (pickL l (ints l.length)) := h.filterMap _
  rw [pick_ints] at h1; exact h1
theorem vrt_var {r r' : Ru} (h : Vrt r r') : VarR r r' ∧ ∀ x, x ∈ vars r' → 0 ≤ x := by
  obtain ⟨od, f, h1, h2, h3, rfl⟩ := h
  have hb : (r.b.map (chL f)).Perm ((pickL r.b od).map (chL f)) := (pick_perm h1).symm.map _
  refine ⟨⟨f, h2, rfl, rfl, hb⟩, fun x hx => ?_⟩
  obtain ⟨u, _, rfl⟩ := VarR.img (a := r) (b := rewr r od f) rfl hb hx
  exact h3 u
theorem nodup_le : ∀ {l m : List Int}, l.Nodup → (∀ x, x ∈ l → x ∈ m) → l.length ≤ m.length
  | [], _, _, _ => Nat.zero_le _
  | x :: l, m, h, hm => by
    rw [List.nodup_cons] at h
    have h1 := nodup_le (l := l) (m := m.erase x) h.2 fun y hy => (List.mem_erase_of_ne (fun e : y = x => h.1 (by rw [← e]; exact hy))).2 (hm y (List.mem_cons_of_mem _ hy))
    have h2 := List.length_erase_of_mem (hm x (by simp))
    have h3 : 0 < m.length := List.length_pos_of_mem (hm x (by simp))
    rw [List.length_cons]; omega
theorem VarR.vl {a b : Ru} (h : VarR a b) : (vars b).length ≤ (vars a).length := by
  obtain ⟨f, _, _, f3, f4⟩ := h
  have := nodup_le (m := (vars a).map f) (vars_nodup b) fun y hy => by
    obtain ⟨x, h1, h2⟩ := VarR.img f3 f4 hy
    exact List.mem_map.2 ⟨x, h1, h2⟩
  rw [List.length_map] at this; exact this
structure V7 where
  i : Nat
  x : Int
  out : List RV
  p : Option Addr
  c : Nat
  E : List (Nat × Obj)
def V7.T (z : V7) : List (Nat × Obj) := z.E ++ z.out.flatMap RV.E
structure D7 where
  i : Nat
  x : Int
structure V7I (rs : List RV) (od : List Int) (i : Nat) (out : List RV) : Prop where
  ok : ∀ r, r ∈ out → r.ok
  fro : ∀ r', r' ∈ out → ∃ r, r ∈ rs ∧ Vrt r.ru r'.ru
  to : ∀ k q r, k < i → od[k]? = some q → rs[q.toNat]? = some r → ∃ r', r' ∈ out ∧ Vrt r.ru r'.ru
theorem V7I.start (rs : List RV) (od : List Int) : V7I rs od 0 [] := ⟨fun r h => (by cases h), fun r h => (by cases h), fun k q r h => absurd h (Nat.not_lt_zero _)⟩
theorem V7I.add {rs : List RV} {od : List Int} {i : Nat} {out : List RV} (h : V7I rs od i out) {r r' : RV} (hr : r ∈ rs) (hv : Vrt r.ru r'.ru) (ho : r'.ok) : V7I rs od i (out ++ [r']) := by
  refine ⟨fun x hx => ?_, fun x hx => ?_, fun k q y hk hq hy => ?_⟩
  · rcases List.mem_append.1 hx with h9 | h9
    · exact h.ok x h9
    · rw [List.mem_singleton.1 h9]; exact ho
  · rcases List.mem_append.1 hx with h9 | h9
    · exact h.fro x h9
    · rw [List.mem_singleton.1 h9]; exact ⟨r, hr, hv⟩
  · obtain ⟨z, h1, h2⟩ := h.to k q y hk hq hy
    exact ⟨z, List.mem_append_left _ h1, h2⟩
/-- in the inner loop: with one copy made, the rule is served -/
structure W7I (rs : List RV) (od : List Int) (i j : Nat) (r : RV) (out : List RV) : Prop where
  v : V7I rs od i out
  s : 1 ≤ j → ∃ r', r' ∈ out ∧ Vrt r.ru r'.ru
theorem W7I.add {rs : List RV} {od : List Int} {i j : Nat} {out : List RV} {r r' : RV} (h : W7I rs od i j r out) (hr : r ∈ rs) (hv : Vrt r.ru r'.ru) (ho : r'.ok) : W7I rs od i (j + 1) r (out ++ [r']) := ⟨h.v.add hr hv ho, fun _ => ⟨r', by simp, hv⟩⟩
theorem W7I.next {rs : List RV} {od : List Int} {i j : Nat} {out : List RV} {r : RV} {q : Int} (h : W7I rs od i j r out) (hj : 1 ≤ j) (hq : od[i]? = some q) (hr : rs[q.toNat]? = some r) : V7I rs od (i + 1) out := by
  refine ⟨h.v.ok, h.v.fro, fun k q' r' hk hq' hr' => ?_⟩
  by_cases e : k = i
  · subst e
    rw [hq] at hq'; injection hq' with hq'; subst hq'
    rw [hr] at hr'; injection hr' with hr'; subst hr'
    exact h.s hj
  · exact h.v.to k q' r' (by omega) hq' hr'
theorem V7I.pv {rs : List RV} {od : List Int} {i : Nat} {out : List RV} (h : V7I rs od i out) (hi : i = od.length) (hp : od.Perm (ints rs.length)) : PV (rs.map RV.ru) (out.map RV.ru) ∧ (∀ b, b ∈ out.map RV.ru → ∀ x, x ∈ vars b → 0 ≤ x) := by
  refine ⟨⟨fun a ha => ?_, fun b hb => ?_⟩, fun b hb => ?_⟩
  · obtain ⟨r, hr, rfl⟩ := List.mem_map.1 ha
    obtain ⟨k, hk, rfl⟩ := List.getElem_of_mem hr
    have h1 : (k : Int) ∈ od := hp.mem_iff.2 (mem_ints.2 ⟨by omega, by omega⟩)
    obtain ⟨m, hm, e⟩ := List.getElem_of_mem h1
    obtain ⟨r', h2, h3⟩ := h.to m (k : Int) rs[k] (by omega) (by rw [List.getElem?_eq_getElem hm, e]) (by rw [Int.toNat_natCast]; exact List.getElem?_eq_getElem hk)
    exact ⟨r'.ru, List.mem_map.2 ⟨r', h2, rfl⟩, (vrt_var h3).1⟩
  · obtain ⟨r', hr', rfl⟩ := List.mem_map.1 hb
    obtain ⟨r, h1, h2⟩ := h.fro r' hr'
    exact ⟨r.ru, List.mem_map.2 ⟨r, h1, rfl⟩, (vrt_var h2).1⟩
  · obtain ⟨r', hr', rfl⟩ := List.mem_map.1 hb
    obtain ⟨r, h1, h2⟩ := h.fro r' hr'
    exact (vrt_var h2).2
theorem V7I.vs {rs : List RV} {od : List Int} {i n : Nat} {out : List RV} (h : V7I rs od i out) (hv : ∀ r, r ∈ rs → (vars r.ru).length ≤ n) : ∀ r, r ∈ out → (vars r.ru).length ≤ n := fun r' hr' => by
  obtain ⟨r, h1, h2⟩ := h.fro r' hr'
  have := (vrt_var h2).1.vl
  have := hv r h1
  omega
/-! the table's bounds -/
theorem stMx_bd : ∀ (l : List Pd), (∀ x, x ∈ l → x.s ≤ 99999999) → stMx l ≤ 100000000 := by
  have key : ∀ (l : List Pd) (n : Nat), n ≤ 100000000 → (∀ x, x ∈ l → x.s ≤ 99999999) → l.foldl (fun n p => max n (p.s + 1)) n ≤ 100000000 := by
    intro l
    induction l with
    | nil => intro n hn _; exact hn
    | cons p l ih =>
      intro n hn h
      have h1 := h p (by simp)
      exact ih (max n (p.s + 1)) (by omega) (fun x hx => h x (List.mem_cons_of_mem _ hx))
  intro l h
  exact key l 0 (by omega) h
theorem lv_bd2 {ps ps' l : List Pd} {rus : List Ru} (h : Levelled ps rus ps') (hp : l.Perm ps') : ∀ x, x ∈ l → x.s ≤ l.length := by
  intro x hx
  obtain ⟨i, hi⟩ := List.getElem?_of_mem (hp.mem_iff.1 hx)
  have hil := (List.getElem?_eq_some_iff.1 hi).1
  obtain ⟨L, hL, hat⟩ := h.ex
  have hil2 : i < ps.length := by rw [← h.len]; exact hil
  have h1 := hat i _ (List.getElem?_eq_getElem hil2)
  rw [hi] at h1
  injection h1 with h1
  have h2 := (hL.nn i hil2).2
  have h3 := hp.length_eq
  have h4 := h.len
  rw [h1]
  show (L i).toNat ≤ _
  omega
theorem noo_pdb {rs : List RV} {ps' l : List Pd} {q0 qs : List RV} (hok : ∀ r, r ∈ rs → r.ok) (hn : l.length ≤ 10000000) (h : NoO (rs.map RV.ru) ps' l q0 qs) : (∀ x, x ∈ l → PdB x) ∧ stMx l ≤ 100000000 := by
  obtain ⟨ps, bad, a1, a2, a3, a4⟩ := h.ck
  have hT := tabl_of a1
  obtain ⟨s, hs⟩ := lvd_of hT a4 h.lp
  have hbd := lv_bd2 a4 h.lp
  refine ⟨fun x hx => ?_, stMx_bd l fun x hx => by have := hbd x hx; omega⟩
  have hb := hbd x hx
  obtain ⟨r, hr, ho⟩ := (hs.at_ x hx).2.oc a1
  obtain ⟨r0, hr0, rfl⟩ := List.mem_map.1 hr
  have h0 := hok r0 hr0
  rcases ho with ⟨e1, e2⟩ | ⟨y, hy, _, e1, e2⟩
  · exact ⟨by rw [← e1]; exact h0.p, by rw [← e2]; have := h0.hd.len; show r0.a.length ≤ _; omega, by omega⟩
  · obtain ⟨y0, hy0, rfl⟩ := List.mem_map.1 (show y ∈ r0.ls.map LV.l from hy)
    exact ⟨by rw [← e1]; exact (h0.ls y0 hy0).p, by rw [← e2]; have := (h0.ls y0 hy0).ags.len; omega, by omega⟩
end v7
section n7
theorem drK_mem {k : List RV} {x y : RV} (h : y ∈ drK k x) : y ∈ k ∨ y = x := by
  unfold drK at h
  split at h
  · split at h
    · exact .inl h
    · rcases List.mem_append.1 h with h | h
      · exact .inl h
      · exact .inr (List.mem_singleton.1 h)
  · rcases List.mem_append.1 h with h | h
    · exact .inl h
    · exact .inr (List.mem_singleton.1 h)
theorem drF_mem {y : RV} : ∀ (l k : List RV), y ∈ l.foldl drK k → y ∈ k ∨ y ∈ l
  | [], k, h => .inl h
  | x :: l, k, h => by
    rcases drF_mem l (drK k x) h with h | h
    · rcases drK_mem h with h | h
      · exact .inl h
      · exact .inr (by rw [h]; simp)
    · exact .inr (List.mem_cons_of_mem _ h)
theorem drL_mem {l : List RV} {y : RV} (h : y ∈ drL l) : y ∈ l := (drF_mem l [] h).elim (fun h => by cases h) id
theorem nof_ck {A : List Ru} {f f0 : Ft} {ps : List Pd} (h : NoF A f) (hk : ckP [] 0 A = (some f0, ps)) : f = f0 := by
  rcases h with ⟨ps', h⟩ | ⟨ps', h, _⟩
  · rw [hk] at h; injection h with h _; injection h with h; exact h.symm
  · rw [hk] at h; cases h
theorem nof_rng {A : List Ru} {f : Ft} {ps : List Pd} (hc : ckP [] 0 A = (none, ps)) (h : NoF A f) : 4 ≤ f.c ∧ f.c ≤ 6 := by
  rcases h with ⟨ps', h⟩ | ⟨ps', h, h1⟩
  · rw [hc] at h; cases h
  · rcases h1 with ⟨i, q1, q2, h2, rfl⟩ | ⟨h2, bad, hB, h3⟩
    · exact ⟨by simp only; omega, by simp only; omega⟩
    · rcases h3 with ⟨i, j, h4, rfl⟩ | ⟨h4, i, h5, rfl⟩
      · exact ⟨by simp only; omega, by simp only; omega⟩
      · exact ⟨by simp only; omega, by simp only; omega⟩
end n7


theorem nmv0_ok : NmV.ok ⟨[], none, 0, [], [], none, 0, [], 0⟩ := ⟨Row.nil _ _, Row.nil _ _, fun x h => (by cases h), fun x h => (by cases h), by simp, by simp, by simp⟩
theorem nmv_ok {rs : List RV} {ps' l : List Pd} {q0 qs : List RV} {lp : Option Addr} {lc : Nat} {lE : List (Nat × Obj)} {rp : Option Addr} {rc : Nat} {rE : List (Nat × Obj)} (hok : ∀ r, r ∈ rs → r.ok) (hn : l.length ≤ 1000000 ∧ (drL qs).length ≤ 65536) (h : NoO (rs.map RV.ru) ps' l q0 qs) (h1 : Row (.slice lp l.length lc) l.length (fl pdc l) 3 93 lE) (h2 : Row (.slice rp (drL qs).length rc) (drL qs).length (fl RV.c3 (drL qs)) 3 57 rE) : NmV.ok ⟨l, lp, lc, lE, drL qs, rp, rc, rE, stMx l⟩ := by
  obtain ⟨a1, a2⟩ := noo_pdb hok (by omega) h
  exact ⟨h1, h2, a1, fun x hx => h.ok x (h.qp.mem_iff.1 (drL_mem hx)), by simp only; omega, hn.2, a2⟩
/-- what Normalise gives for a program of good shape -/
structure Nrm (A : List Ru) (n : NmV) (f : Ft) : Prop where
  c : (f = ⟨0, 0, 0, 0⟩ ∧ ∃ ps' q0 qs, NoO A ps' n.l q0 qs ∧ n.q = drL qs ∧ n.s = stMx n.l) ∨ ((4 ≤ f.c ∧ f.c ≤ 6) ∧ n.l = [] ∧ n.q = [] ∧ n.s = 0)
  cd : Cd A f.c
theorem Nrm.rng {A : List Ru} {n : NmV} {f : Ft} (h : Nrm A n f) : f.c = 0 ∨ (4 ≤ f.c ∧ f.c ≤ 6) := by
  rcases h.c with ⟨rfl, _⟩ | ⟨h1, _⟩
  · exact .inl rfl
  · exact .inr h1
def NmG (n : NmV) (G : List (Nat × Obj)) : Prop := ∀ x, x ∈ n.q → ∀ z, z ∈ x.E → z ∈ G
theorem NmG.mem {n : NmV} {G : List (Nat × Obj)} {w : World} (h : NmG n G) (h1 : Mem n.lE w) (h2 : Mem n.rE w) (h3 : Mem G w) : NmM n w := ⟨h1, h2, fun x hx b o m => h3 b o (h x hx _ m)⟩
theorem nrm_eq {A B : List Ru} (h : PV A B) {n n2 : NmV} {f f2 : Ft} (hA : Nrm A n f) (hB : Nrm B n2 f2) (e : f.c = f2.c) : (n.l = n2.l ∧ n.s = n2.s) ∧ n.q.map RV.ru = n2.q.map RV.ru := by
  rcases hA.c with ⟨e1, ps', q0, qs, a1, a2, a3⟩ | ⟨a0, a1, a2, a3⟩
  · rcases hB.c with ⟨e2, ps2', q02, qs2, b1, b2, b3⟩ | ⟨b0, b1, b2, b3⟩
    · obtain ⟨h1, h2⟩ := pv_ok h a1 b1
      rw [a2, b2, a3, b3]
      exact ⟨⟨h1, by rw [h1]⟩, h2⟩
    · rw [e1] at e; simp only at e; omega
  · rcases hB.c with ⟨e2, ps2', q02, qs2, b1, b2, b3⟩ | ⟨b0, b1, b2, b3⟩
    · rw [e2] at e; simp only at e; omega
    · rw [a1, a2, a3, b1, b2, b3]; exact ⟨⟨rfl, rfl⟩, rfl⟩

theorem norm8_spec (rs : List RV) (rp : Option Addr) (rc : Nat) (RE : List (Nat × Obj)) (hp : Prg rs rp rc RE) (hr9 : rs.length ≤ 15000) (hvs : ∀ r, r ∈ rs → (vars r.ru).length ≤ 1000) (hck : ∃ ps, ckP [] 0 (rs.map RV.ru) = (none, ps)) : SpK Tryz.prog 7 #[.agg ⟨[.slice rp rs.length rc]⟩] (PrW rs RE) [] (fun v F' => ∃ n f G, n.ok ∧ Nrm (rs.map RV.ru) n f ∧ v = .tuple #[.agg ⟨[.slice n.lp n.l.length n.lc, .slice n.rp n.q.length n.rc, .int .i64 (n.s : Int)]⟩, .agg ⟨ftc f⟩] ∧ NmG n G ∧ F' = n.lE ++ (n.rE ++ G)) :=
  spk_mono (norm_spec rs rp rc RE hp hr9 hvs) fun v F h => by
    obtain ⟨ps, hk⟩ := hck
    rcases h with ⟨f, h1, h2, h3⟩ | ⟨ps', l, q0, qs, lp, lc, lE, rb, rc2, rE, hno, hbd, rfl, hlr, hrr, rfl⟩
    · exact ⟨⟨[], none, 0, [], [], none, 0, [], 0⟩, f, [], nmv0_ok, ⟨.inr ⟨nof_rng hk h1, rfl, rfl, rfl⟩, nof_cd hk h1⟩, h2, fun x hx => (by cases hx), h3⟩
    · exact ⟨⟨l, lp, lc, lE, drL qs, some ⟨rb, 0, none⟩, rc2, rE, stMx l⟩, ⟨0, 0, 0, 0⟩, q0.flatMap RV.E, nmv_ok hp.ok ⟨by omega, by omega⟩ hno hlr hrr, ⟨.inl ⟨rfl, ps', q0, qs, hno, rfl, rfl⟩, noo_cd hno⟩, rfl, fun x hx z hz => List.mem_flatMap.2 ⟨x, hno.qp.mem_iff.1 (drL_mem hx), hz⟩, rfl⟩
theorem norm7_spec (rs : List RV) (rp : Option Addr) (rc : Nat) (RE : List (Nat × Obj)) (hp : Prg rs rp rc RE) (hr9 : rs.length ≤ 15000) (hvs : ∀ r, r ∈ rs → (vars r.ru).length ≤ 1000) : SpK Tryz.prog 7 #[.agg ⟨[.slice rp rs.length rc]⟩] (PrW rs RE) [] (fun v F' => (∃ f ps, ckP [] 0 (rs.map RV.ru) = (some f, ps) ∧ v = .tuple #[.agg ⟨[.slice none 0 0, .slice none 0 0, .int .i64 0]⟩, .agg ⟨ftc f⟩] ∧ F' = []) ∨ ((∃ ps, ckP [] 0 (rs.map RV.ru) = (none, ps)) ∧ ∃ n f G, n.ok ∧ Nrm (rs.map RV.ru) n f ∧ v = .tuple #[.agg ⟨[.slice n.lp n.l.length n.lc, .slice n.rp n.q.length n.rc, .int .i64 (n.s : Int)]⟩, .agg ⟨ftc f⟩] ∧ NmG n G ∧ F' = n.lE ++ (n.rE ++ G))) := by
  rcases ck_cases (rs.map RV.ru) with ⟨f0, ps, hk⟩ | ⟨ps, hk⟩
  · refine spk_mono (norm_spec rs rp rc RE hp hr9 hvs) fun v F h => ?_
    rcases h with ⟨f, h1, h2, h3⟩ | ⟨ps', l, q0, qs, lp, lc, lE, rb, rc2, rE, hno, _⟩
    · have := nof_ck h1 hk
      subst this
      exact .inl ⟨f, ps, hk, h2, h3⟩
    · obtain ⟨ps1, bad, h9, _⟩ := hno.ck
      rw [hk] at h9; cases h9
  · exact spk_mono (norm8_spec rs rp rc RE hp hr9 hvs ⟨ps, hk⟩) fun v F h => .inr ⟨⟨ps, hk⟩, h⟩
end Go.Proofs.Qxb6500915aGreatDoor

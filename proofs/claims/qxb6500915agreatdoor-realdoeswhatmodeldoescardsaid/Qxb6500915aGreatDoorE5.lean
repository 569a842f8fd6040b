import Derived.Test.Qxb6500915aGreatDoorE4
namespace Go.Proofs.Qxb6500915aGreatDoor
open Go.Eng
set_option linter.unusedVariables false
set_option linter.unusedSimpArgs false

/-! ## stratify: rows and blocks -/
structure GS where
  i : Nat
  ds : List EV
structure LS where
  k : Nat
  lv : List Int
structure PS where
  i : Nat
  l : List Pd
  E : List (Nat × Obj)
structure DsI (n : Nat) (ds : List EV) (es : List Edg) : Prop where
  len : ds.length = n
  ok : DsOk ds es
  rows : ∀ d, d ∈ ds → d.ok
def ev0 : EV := ⟨[], none, 0, []⟩
theorem DsI.nil (n : Nat) : DsI n (List.replicate n ev0) [] := ⟨by simp, ds_nil n, fun d hd => by rw [(List.mem_replicate.1 hd).2]; exact Row.nil _ _⟩
theorem DsI.step {n : Nat} {ds : List EV} {es : List Edg} (h : DsI n ds es) {i : Nat} {d : EV} (hd : ds[i]? = some d) {e : Nat × Bool} {p : Option Addr} {c : Nat} {E : List (Nat × Obj)} (hR : Row (.slice p (d.l.length + 1) c) (d.l.length + 1) (fl edc d.l ++ edc e) 2 120 E) : DsI n (ds.set i ⟨d.l ++ [e], p, c, E⟩) (es ++ [(i, e)]) := by
  refine ⟨by rw [List.length_set]; exact h.len, ds_step h.ok hd, fun q hq => ?_⟩
  rcases List.mem_or_eq_of_mem_set hq with h1 | h1
  · exact h.rows q h1
  · rw [h1]; exact row_snoc hR
theorem fmE_nil (n : Nat) : (List.replicate n ev0).flatMap EV.E = [] := by
  induction n with
  | zero => rfl
  | succ n ih => rw [List.replicate_succ, List.flatMap_cons, ih]; rfl
theorem zeros_ev {n : Nat} {jk : List Value} (h : jk.length = n * 1 ∧ ∀ j, j < n * 1 → jk[j]? = some ((Value.slice none 0 0).cells[j % 1]!)) : jk = fl evc (List.replicate n ev0) := by
  refine List.ext_getElem? fun i => ?_
  by_cases hi : i < n
  · rw [h.2 i (by omega)]
    have := ev_at (ds := List.replicate n ev0) (u := i) (d := ev0) (by rw [List.getElem?_replicate, if_pos hi])
    rw [Nat.zero_add, Nat.mul_one] at this
    rw [this, Nat.mod_one]; rfl
  · rw [List.getElem?_eq_none (by omega), List.getElem?_eq_none (by rw [fl_len evc_len, List.length_replicate]; omega)]
theorem ev_split {ds : List EV} {i : Nat} {d : EV} (h : ds[i]? = some d) : ∃ R, (ds.flatMap EV.E).Perm (d.E ++ R) ∧ ∀ d' : EV, (d'.E ++ R).Perm ((ds.set i d').flatMap EV.E) := by
  obtain ⟨h1, h2⟩ := List.getElem?_eq_some_iff.1 h
  have hs : ds = ds.take i ++ d :: ds.drop (i + 1) := by
    rw [← h2, List.getElem_cons_drop, List.take_append_drop]
  have hl : (ds.take i).length = i := by simp; omega
  refine ⟨(ds.take i).flatMap EV.E ++ (ds.drop (i + 1)).flatMap EV.E, ?_, fun d' => ?_⟩
  · conv => lhs; rw [hs]
    rw [List.flatMap_append, List.flatMap_cons, ← List.append_assoc, ← List.append_assoc]
    exact List.Perm.append_right _ List.perm_append_comm
  · rw [show ds.set i d' = ds.take i ++ d' :: ds.drop (i + 1) by
      conv => lhs; rw [hs]
      rw [List.set_append_right _ _ (by rw [hl]; exact Nat.le_refl _), hl, Nat.sub_self]; rfl]
    rw [List.flatMap_append, List.flatMap_cons, ← List.append_assoc, ← List.append_assoc]
    exact List.Perm.append_right _ List.perm_append_comm
theorem has_sw {D : List Nat} {w0 w : World} {F A A' G : List (Nat × Obj)} (hh : Has D w0 F w) (hk : Keeps F A G) (hp : A.Perm A') : Has D w0 (A' ++ G) w := hh.perm (hk.perm.trans (List.Perm.append_right G hp))
theorem ev_set {ds : List EV} {i : Nat} {d : EV} {e : Nat × Bool} {p : Option Addr} {c : Nat} (E : List (Nat × Obj)) (h : ds[i]? = some d) : setL (fl evc ds) (0 + i * 1) [.slice p (d.l.length + 1) c] = fl evc (ds.set i ⟨d.l ++ [e], p, c, E⟩) := by
  have := fl_set evc_len ds ⟨d.l ++ [e], p, c, E⟩ [] i (List.getElem?_eq_some_iff.1 h).1
  rw [List.append_nil, List.append_nil, show evc ⟨d.l ++ [e], p, c, E⟩ = [.slice p (d.l.length + 1) c] by unfold evc; simp] at this
  exact this
theorem ev_lt {ds : List EV} {i : Nat} (h : i < ds.length) : 0 + i * 1 < (fl evc ds).length := by rw [fl_len evc_len]; omega
theorem pdc_put {l : List Pd} {i : Nat} {q : Pd} {s : Nat} {j : List Value} (h : l[i]? = some q) : setL (fl pdc l ++ j) (0 + i * 3 + 2) [.int .i64 (s : Int)] = fl pdc (l.set i ⟨q.n, q.a, s⟩) ++ j := by
  obtain ⟨h1, h2⟩ := List.getElem?_eq_some_iff.1 h
  have hs : l = l.take i ++ q :: l.drop (i + 1) := by
    rw [← h2, List.getElem_cons_drop, List.take_append_drop]
  have hl : (l.take i).length = i := by simp; omega
  rw [show l.set i ⟨q.n, q.a, s⟩ = l.take i ++ ⟨q.n, q.a, s⟩ :: l.drop (i + 1) by
    conv => lhs; rw [hs]
    rw [List.set_append_right _ _ (by rw [hl]; exact Nat.le_refl _), hl, Nat.sub_self]; rfl]
  conv => lhs; rw [hs]
  simp only [fl_app, fl_cons]
  rw [show fl pdc (List.take i l) ++ (pdc q ++ fl pdc (List.drop (i + 1) l)) ++ j = (fl pdc (List.take i l) ++ [.string q.n, .int .i64 (q.a : Int)]) ++ [.int .i64 (q.s : Int)] ++ (fl pdc (List.drop (i + 1) l) ++ j) by simp [pdc]]
  rw [show 0 + i * 3 + 2 = (fl pdc (List.take i l) ++ [Value.string q.n, .int .i64 (q.a : Int)]).length by rw [List.length_append, fl_len pdc_len, hl]; simp]
  rw [setL_mid (fl pdc (List.take i l) ++ [Value.string q.n, .int .i64 (q.a : Int)]) [.int .i64 (q.s : Int)] (fl pdc (List.drop (i + 1) l) ++ j) [.int .i64 (s : Int)] rfl]
  simp [pdc]
theorem pdc_lt {l : List Pd} {i : Nat} {j : List Value} (h : i < l.length) : 0 + i * 3 + 2 < (fl pdc l ++ j).length := by rw [List.length_append, fl_len pdc_len]; omega
structure PrD (rs : List RV) (RE : List (Nat × Obj)) (D : List Nat) : Prop where
  re : ∀ z, z ∈ RE → z.1 ∉ D
  each : ∀ r, r ∈ rs → ∀ z, z ∈ r.E → z.1 ∉ D
theorem RV.db {r : RV} {D : List Nat} (h : ∀ z, z ∈ r.E → z.1 ∉ D) : ∀ z, z ∈ r.bE → z.1 ∉ D := fun z hz => h z (List.mem_append_right _ (List.mem_append_left _ hz))
theorem max_ite (a b : Int) : (if a < b then b else a) = max a b := by
  by_cases h : a < b
  · rw [if_pos h, Int.max_eq_right (by omega)]
  · rw [if_neg h, Int.max_eq_left (by omega)]
/-- the strata written so far -/
structure SetS (ps l : List Pd) (f : Nat → Nat) (k : Nat) : Prop where
  len : l.length = ps.length
  at' : ∀ i p, ps[i]? = some p → l[i]? = some (if i < k then ⟨p.n, p.a, f i⟩ else p)
theorem SetS.start (ps : List Pd) (f : Nat → Nat) : SetS ps ps f 0 := ⟨rfl, fun i p h => by rw [if_neg (Nat.not_lt_zero _)]; exact h⟩
theorem SetS.next {ps l : List Pd} {f : Nat → Nat} {k : Nat} (h : SetS ps l f k) {q : Pd} (hq : l[k]? = some q) : SetS ps (l.set k ⟨q.n, q.a, f k⟩) f (k + 1) := by
  refine ⟨by rw [List.length_set]; exact h.len, fun i p hi => ?_⟩
  have h1 := h.at' i p hi
  by_cases e : i = k
  · subst e
    rw [hq] at h1
    injection h1 with h1
    rw [if_neg (Nat.lt_irrefl _)] at h1
    rw [List.getElem?_set_self (List.getElem?_eq_some_iff.1 hq).1, if_pos (Nat.lt_succ_self _), h1]
  · rw [List.getElem?_set_ne (fun e9 => e e9.symm), h1]
    by_cases hk : i < k
    · rw [if_pos hk, if_pos (by omega)]
    · rw [if_neg hk, if_neg (by omega)]
theorem SetS.names {ps l : List Pd} {f : Nat → Nat} {k : Nat} (h : SetS ps l f k) : l.map Pd.n = ps.map Pd.n := by
  refine List.ext_getElem? fun i => ?_
  rw [List.getElem?_map, List.getElem?_map]
  by_cases hi : i < ps.length
  · rw [h.at' i _ (List.getElem?_eq_getElem hi), List.getElem?_eq_getElem hi]
    show some (Pd.n (if i < k then _ else _)) = some _
    split <;> rfl
  · rw [List.getElem?_eq_none (by rw [h.len]; omega), List.getElem?_eq_none (by omega)]
theorem SetS.lev {ps l : List Pd} {rs : List Ru} {L : Nat → Int} (h : SetS ps l (fun i => (L i).toNat) ps.length) (hL : Least ps.length (grp (edP ps rs)) L) : Levelled ps rs l := by
  refine ⟨h.len, L, hL, fun i p hi => ?_⟩
  rw [h.at' i p hi, if_pos (List.getElem?_eq_some_iff.1 hi).1]
theorem take_all {α : Type} {l : List α} {n : Nat} (h : n = l.length) : l.take n = l := by rw [h]; exact List.take_length
theorem take_mem {α : Type} {l : List α} {k : Nat} {x y : α} (hy : l[k]? = some y) (h : x ∈ l.take (k + 1)) : x ∈ l.take k ∨ x = y := by
  rw [List.take_add_one, hy] at h
  rcases List.mem_append.1 h with h | h
  · exact .inl h
  · exact .inr (by simpa using h)
theorem od_le {n : Nat} {dp : Nat → List Nat} {cp : List Int} {od : List Nat} (hc : Cmps n dp cp od) {k x u : Nat} (hu : od[k]? = some u) (hx : x ∈ od.take k) : fnI cp x ≤ fnI cp u := by
  obtain ⟨h1, h2⟩ := List.getElem?_eq_some_iff.1 hu
  have h3 := hc.ods
  have hs : od = od.take k ++ u :: od.drop (k + 1) := by
    rw [← h2, List.getElem_cons_drop, List.take_append_drop]
  rw [hs, List.pairwise_append] at h3
  exact h3.2.2 x hx u (by simp)
abbrev LvP (od : List Nat) (k : Nat) (g : Nat → List (Nat × Bool)) : Nat → Nat × Bool → Prop := fun x e => x ∈ od.take k ∧ e ∈ g x
abbrev LvQ (od : List Nat) (k : Nat) (g : Nat → List (Nat × Bool)) (u j : Nat) : Nat → Nat × Bool → Prop := fun x e => (x ∈ od.take k ∧ e ∈ g x) ∨ (x = u ∧ e ∈ (g u).take j)
theorem lv_in {n : Nat} {g : Nat → List (Nat × Bool)} {cp lv : List Int} {od : List Nat} {k u : Nat} (h : LvI n g cp lv (LvP od k g)) : LvI n g cp lv (LvQ od k g u 0) := h.mono fun x e h => by
  rcases h with h | ⟨_, h⟩
  · exact h
  · cases h
theorem lv_out {n : Nat} {g : Nat → List (Nat × Bool)} {cp lv : List Int} {od : List Nat} {k u j : Nat} (hu : od[k]? = some u) (hj : j = (g u).length) (h : LvI n g cp lv (LvQ od k g u j)) : LvI n g cp lv (LvP od (k + 1) g) := h.mono fun x e h => by
  rcases take_mem hu h.1 with h1 | h1
  · exact .inl ⟨h1, h.2⟩
  · exact .inr ⟨h1, by rw [take_all hj, ← h1]; exact h.2⟩
theorem lv_skip {n : Nat} {g : Nat → List (Nat × Bool)} {cp lv : List Int} {od : List Nat} {k u j : Nat} {e : Nat × Bool} (he : (g u)[j]? = some e) (h : LvI n g cp lv (LvQ od k g u j)) (hq : fnI cp e.1 = fnI cp u) : LvI n g cp lv (LvQ od k g u (j + 1)) := (h.skip hq).mono fun x e' h => by
  rcases h with h | ⟨h1, h2⟩
  · exact .inl (.inl h)
  · rcases take_mem he h2 with h3 | h3
    · exact .inl (.inr ⟨h1, h3⟩)
    · exact .inr ⟨h1, h3⟩
theorem lv_step {n : Nat} {g : Nat → List (Nat × Bool)} {cp lv : List Int} {od : List Nat} {dp : Nat → List Nat} {k u j : Nat} {e : Nat × Bool} (hc : Cmps n dp cp od) (hg : ∀ x v, x < n → v ∈ dp x → v < n ∧ ∃ b, (v, b) ∈ g x) (hg2 : ∀ x e, x < n → e ∈ g x → e.1 ∈ dp x) (hu : od[k]? = some u) (he : (g u)[j]? = some e) (h : LvI n g cp lv (LvQ od k g u j)) (hq : ¬ fnI cp e.1 = fnI cp u) :
    LvI n g cp (lv.set (cpn cp u) (max (fnI lv (cpn cp u)) (fnI lv (cpn cp e.1) + ngv e.2))) (LvQ od k g u (j + 1)) := by
  have hun := (hc.odm u).1 (List.mem_of_getElem? hu)
  refine (h.step hc hg hg2 hun (List.mem_of_getElem? he) hq fun x e' h9 => ?_).mono fun x e' h => ?_
  · rcases h9 with h9 | ⟨h8, h9⟩
    · exact ⟨(hc.odm x).1 (List.mem_of_mem_take h9.1), h9.2, od_le hc hu h9.1⟩
    · rw [h8]; exact ⟨hun, List.mem_of_mem_take h9, Int.le_refl _⟩
  · rcases h with h | ⟨h1, h2⟩
    · exact .inl (.inl h)
    · rcases take_mem he h2 with h3 | h3
      · exact .inl (.inr ⟨h1, h3⟩)
      · exact .inr ⟨h1, h3⟩
/-- what the graph's blocks say -/
theorem DsI.dpi {ps : List Pd} {rs : List Ru} {ds : List EV} {db : Nat} (h : DsI ps.length ds (edP ps rs)) (hT : InT ps rs) (hr : rs.length ≤ 100000) (hp : ps.length ≤ 1000000) : DpI ds db ((db, C (fl evc ds) 118) :: ds.flatMap EV.E) := by
  have hl := edP_len ps rs hT.b
  refine ⟨by simp, fun d hd => ⟨h.rows d hd, fun x hx => List.mem_cons_of_mem _ (List.mem_flatMap.2 ⟨d, hd, hx⟩)⟩, fun d e hd he => ?_, ?_, by rw [h.len]; exact hp, fun d hd => ?_⟩
  · obtain ⟨i, hi, rfl⟩ := List.getElem_of_mem hd
    have := h.ok i _ (List.getElem?_eq_getElem hi)
    rw [this] at he
    rw [h.len]; exact (hT.eh (mem_grp.1 he)).2
  · rw [rem_sum h.ok _ (Nat.le_refl _)]
    have := sumG_le (edP ps rs) ds.length
    omega
  · obtain ⟨i, hi, rfl⟩ := List.getElem_of_mem hd
    rw [h.ok i _ (List.getElem?_eq_getElem hi)]
    have := grp_len (edP ps rs) i
    omega
theorem DsI.skip {n : Nat} {ds : List EV} {es fs : List Edg} (h : DsI n ds es) (hf : fs = []) : DsI n ds (es ++ fs) := by rw [hf, List.append_nil]; exact h

end Go.Proofs.Qxb6500915aGreatDoor

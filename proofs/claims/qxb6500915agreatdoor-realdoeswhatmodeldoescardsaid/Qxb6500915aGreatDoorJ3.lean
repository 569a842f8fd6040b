import Derived.Test.Qxb6500915aGreatDoorI3
import Derived.Test.Qxb6500915aGreatDoorG0
import Derived.Test.Qxb6500915aGreatDoorByt
namespace Go.Proofs.Qxb6500915aGreatDoor
open Go.Eng
set_option linter.unusedVariables false
set_option linter.unusedSimpArgs false

/-! ## law 3 -/
structure BT (l : List (Int × Value)) (xs : List Int) : Prop where
  nd : (ks l).Nodup
  mem : ∀ n, n ∈ ks l ↔ n ∈ xs
  len : l.length ≤ xs.length
  bm : BM l xs
theorem BT.nil : BT [] [] := ⟨List.nodup_nil, fun n => Iff.rfl, Nat.le_refl _, BM.nil⟩
theorem BT.put {l : List (Int × Value)} {xs : List Int} (h : BT l xs) (n : Int) : BT (mput l n (.bool true)) (xs ++ [n]) := by
  refine ⟨?_, fun m => ?_, ?_, h.bm.put n⟩
  · rw [ks_mput]
    by_cases e : n ∈ ks l
    · rw [if_pos e]; exact h.nd
    · rw [if_neg e, List.nodup_append]
      refine ⟨h.nd, by simp, fun a ha b hb e9 => ?_⟩
      rw [List.mem_singleton] at hb
      exact e (hb ▸ e9 ▸ ha)
  · rw [ks_mput]
    by_cases e : n ∈ ks l
    · rw [if_pos e, h.mem m, List.mem_append, List.mem_singleton]
      exact ⟨.inl, fun h9 => h9.elim id fun h8 => by rw [h8]; exact (h.mem n).1 e⟩
    · rw [if_neg e, List.mem_append, List.mem_append, h.mem m]
  · have := mput_len l n (.bool true)
    have := h.len
    rw [List.length_append, List.length_singleton]; omega
structure CB where
  i : Nat
  l : List (Int × Value)
theorem vS_all {ts : List Tm} {i : Nat} (h : i = ts.length) : vS (ts.take i) = vS ts := by rw [h, List.take_length]
theorem bt_1 {l : List (Int × Value)} {xs : List Int} {ts : List Tm} {i : Nat} {t : Tm} (h : BT l (xs ++ vS (ts.take i))) (ht : ts[i]? = some t) (hk : t.k = 0) : BT (mput l t.v (.bool true)) (xs ++ vS (ts.take (i + 1))) := by
  rw [vS_1 ht hk, ← List.append_assoc]; exact h.put t.v
theorem bt_0 {l : List (Int × Value)} {xs : List Int} {ts : List Tm} {i : Nat} {t : Tm} (h : BT l (xs ++ vS (ts.take i))) (ht : ts[i]? = some t) (hk : ¬ t.k = 0) : BT l (xs ++ vS (ts.take (i + 1))) := by
  rw [vS_0 ht hk]; exact h
/-- the variables that must be bound -/
def ngS (ls : List Lt) : List Int := ls.flatMap fun l => if l.k = 0 then [] else vS l.a
theorem ngS_snoc {ls : List Lt} {i : Nat} {l : Lt} (h : ls[i]? = some l) : ngS (ls.take (i + 1)) = ngS (ls.take i) ++ (if l.k = 0 then [] else vS l.a) := by
  unfold ngS; rw [List.take_add_one, h, List.flatMap_append]; simp
structure S31 where
  j : Nat
  lp : List (Int × Value)
  ln : List (Int × Value)
structure S3I (r : RV) (z : S31) : Prop where
  j : z.j ≤ r.ls.length
  p : BT z.lp (posS ((r.ls.map LV.l).take z.j))
  n : BT z.ln (vS r.a ++ ngS ((r.ls.map LV.l).take z.j))
theorem S3I.pos {r : RV} {z : S31} (h : S3I r z) {x : LV} (hx : r.ls[z.j]? = some x) (hk : x.l.k = 0) {l' : List (Int × Value)} (hl : BT l' (posS ((r.ls.map LV.l).take z.j) ++ vS x.l.a)) : S3I r ⟨z.j + 1, l', z.ln⟩ :=
  ⟨(List.getElem?_eq_some_iff.1 hx).1, by simp only; rw [posS_snoc (lt_at hx), if_pos hk]; exact hl, by simp only; rw [ngS_snoc (lt_at hx), if_pos hk, List.append_nil]; exact h.n⟩
theorem S3I.neg {r : RV} {z : S31} (h : S3I r z) {x : LV} (hx : r.ls[z.j]? = some x) (hk : ¬ x.l.k = 0) {l' : List (Int × Value)} (hl : BT l' (vS r.a ++ ngS ((r.ls.map LV.l).take z.j) ++ vS x.l.a)) : S3I r ⟨z.j + 1, z.lp, l'⟩ :=
  ⟨(List.getElem?_eq_some_iff.1 hx).1, by simp only; rw [posS_snoc (lt_at hx), if_neg hk, List.append_nil]; exact h.p, by simp only; rw [ngS_snoc (lt_at hx), if_neg hk, ← List.append_assoc]; exact hl⟩
/-- ranging over the needed -/
structure R3 where
  seen : List Nat
  w : Bool
structure R3I (l : List (Int × Value)) (S : List Int) (y : R3) : Prop where
  sd : y.seen.Nodup
  sl : ∀ j, j ∈ y.seen → j < l.length
  w : y.w = true ↔ ∀ j p, j ∈ y.seen → l[j]? = some p → p.1 ∈ S
theorem R3I.start (l : List (Int × Value)) (S : List Int) : R3I l S ⟨[], true⟩ := ⟨List.nodup_nil, fun j h => (by cases h), ⟨fun _ j p h => (by cases h), fun _ => rfl⟩⟩
theorem nodup_sub_len {l : List Nat} {n : Nat} (hd : l.Nodup) (hl : ∀ j, j ∈ l → j < n) : l.length ≤ n := by
  have h := List.Nodup.length_le_of_subset (l₁ := l) (l₂ := List.range n) hd (fun j hj => List.mem_range.2 (hl j hj))
  simpa using h
theorem R3I.next {l : List (Int × Value)} {S : List Int} {y : R3} (h : R3I l S y) {j : Nat} {p : Int × Value} (hj : l[j]? = some p) (hn : j ∉ y.seen) {w' : Bool} (hw : w' = (y.w && decide (p.1 ∈ S))) : R3I l S ⟨y.seen ++ [j], w'⟩ := by
  refine ⟨?_, fun i hi => ?_, ?_⟩
  · show (y.seen ++ [j]).Nodup
    rw [List.nodup_append]
    refine ⟨h.sd, by simp, fun a ha b hb e => ?_⟩
    rw [List.mem_singleton] at hb
    exact hn (hb ▸ e ▸ ha)
  · rcases List.mem_append.1 hi with h1 | h1
    · exact h.sl i h1
    · rw [List.mem_singleton.1 h1]; exact (List.getElem?_eq_some_iff.1 hj).1
  · subst hw
    simp only [Bool.and_eq_true, decide_eq_true_eq]
    constructor
    · rintro ⟨h1, h2⟩ i q hi hq
      rcases List.mem_append.1 hi with h3 | h3
      · exact h.w.1 h1 i q h3 hq
      · rw [List.mem_singleton.1 h3, hj] at hq; injection hq with hq; subst hq; exact h2
    · intro h1
      exact ⟨h.w.2 fun i q hi hq => h1 i q (List.mem_append_left _ hi) hq, h1 j p (by simp) hj⟩
theorem R3I.done {l : List (Int × Value)} {S N : List Int} {y : R3} (h : R3I l S y) (hl : BT l N) (ha : ∀ j, j < l.length → j ∈ y.seen) : y.w = true ↔ ∀ v, v ∈ N → v ∈ S := by
  rw [h.w]
  constructor
  · intro h1 v hv
    have h2 := (hl.mem v).2 hv
    obtain ⟨p, hp, rfl⟩ := List.mem_map.1 h2
    obtain ⟨j, hj⟩ := List.getElem?_of_mem hp
    exact h1 j p (ha j (List.getElem?_eq_some_iff.1 hj).1) hj
  · intro h1 j p _ hp
    exact h1 p.1 ((hl.mem p.1).1 (List.mem_map.2 ⟨p, List.mem_of_getElem? hp, rfl⟩))
theorem ub_iff {S : List Int} : ∀ {ts : List Tm}, ub S ts = none ↔ ∀ v, v ∈ vS ts → v ∈ S
  | [] => ⟨fun _ v h => (by cases h), fun _ => rfl⟩
  | t :: ts => by
    show (if t.k = 0 ∧ t.v ∉ S then some 0 else (ub S ts).map (· + 1)) = none ↔ _
    have ih := ub_iff (S := S) (ts := ts)
    by_cases hk : t.k = 0
    · have e : vS (t :: ts) = t.v :: vS ts := by unfold vS; simp [List.filter_cons, hk]
      rw [e]
      by_cases hm : t.v ∈ S
      · rw [if_neg (fun h => h.2 hm), Option.map_eq_none_iff, ih]
        exact ⟨fun h v hv => (List.mem_cons.1 hv).elim (fun e => e ▸ hm) (h v), fun h v hv => h v (List.mem_cons_of_mem _ hv)⟩
      · rw [if_pos ⟨hk, hm⟩]
        exact ⟨fun h => (by cases h), fun h => absurd (h _ (List.mem_cons_self ..)) hm⟩
    · have e : vS (t :: ts) = vS ts := by unfold vS; simp [List.filter_cons, hk]
      rw [e, if_neg (fun h => hk h.1), Option.map_eq_none_iff, ih]
theorem sfB_iff {S : List Int} : ∀ {ls : List Lt} {i : Nat}, sfB S i ls = none ↔ ∀ v, v ∈ ngS ls → v ∈ S
  | [], i => ⟨fun _ v h => (by cases h), fun _ => rfl⟩
  | l :: ls, i => by
    have ih := sfB_iff (S := S) (ls := ls) (i := i + 1)
    have e : ngS (l :: ls) = (if l.k = 0 then [] else vS l.a) ++ ngS ls := rfl
    rw [e]
    show (if l.k = 0 then sfB S (i + 1) ls else match ub S l.a with | some j => some ((i : Int), (j : Int)) | none => sfB S (i + 1) ls) = none ↔ _
    by_cases hk : l.k = 0
    · rw [if_pos hk, if_pos hk, List.nil_append]; exact ih
    · rw [if_neg hk, if_neg hk]
      cases hu : ub S l.a with
      | some j =>
        refine ⟨fun h => (by cases h), fun h => ?_⟩
        have := ub_iff.2 (fun v hv => h v (List.mem_append_left _ hv))
        rw [hu] at this; cases this
      | none =>
        simp only
        rw [ih]
        have h1 := ub_iff.1 hu
        exact ⟨fun h v hv => (List.mem_append.1 hv).elim (h1 v) (h v), fun h v hv => h v (List.mem_append_right _ hv)⟩
theorem safe_iff {r : Ru} : safeP r = none ↔ ∀ v, v ∈ vS r.a ++ ngS r.b → v ∈ posS r.b := by
  unfold safeP
  cases hu : ub (posS r.b) r.a with
  | some i =>
    refine ⟨fun h => (by cases h), fun h => ?_⟩
    have := ub_iff.2 (fun v hv => h v (List.mem_append_left _ hv))
    rw [hu] at this; cases this
  | none =>
    simp only
    rw [sfB_iff]
    have h1 := ub_iff.1 hu
    exact ⟨fun h v hv => (List.mem_append.1 hv).elim (h1 v) (h v), fun h v hv => h v (List.mem_append_right _ hv)⟩
structure S3 where
  i : Nat
  b : Bool
structure S3A (rus : List Ru) (z : S3) : Prop where
  i : z.i ≤ rus.length
  b : z.b = true ↔ ∀ r, r ∈ rus.take z.i → safeP r = none
theorem S3A.next {rus : List Ru} {z : S3} (h : S3A rus z) {r : Ru} (hr : rus[z.i]? = some r) {b' : Bool} {w : Bool} (hw : w = true ↔ safeP r = none) (hb : b' = (z.b && w)) : S3A rus ⟨z.i + 1, b'⟩ := by
  refine ⟨(List.getElem?_eq_some_iff.1 hr).1, ?_⟩
  subst hb
  simp only [Bool.and_eq_true]
  rw [h.b, hw, List.take_add_one, hr]
  constructor
  · rintro ⟨h1, h2⟩ x hx
    rcases List.mem_append.1 hx with h3 | h3
    · exact h1 x h3
    · have : x = r := by simpa using h3
      rw [this]; exact h2
  · intro h1
    exact ⟨fun x hx => h1 x (List.mem_append_left _ hx), h1 r (by simp)⟩
theorem S3A.us {rus : List Ru} {z : S3} (h : S3A rus z) (he : z.i = rus.length) : z.b = true ↔ usP 0 rus = none := by
  rw [h.b, he, List.take_length, usP_none]
theorem no_4 {rus : List Ru} {f : Ft} {ps : List Pd} (h : NoF rus f) (hk : ckP [] 0 rus = (none, ps)) : f.c = 4 ↔ ¬ usP 0 rus = none := by
  rcases h with ⟨p2, h⟩ | ⟨p2, h, h1⟩
  · rw [hk] at h; cases h
  · rcases h1 with ⟨i, q1, q2, h2, rfl⟩ | ⟨h2, bad, hB, h3⟩
    · exact ⟨fun _ h9 => (by rw [h2] at h9; cases h9), fun _ => rfl⟩
    · refine ⟨fun h9 => ?_, fun h9 => absurd h2 h9⟩
      rcases h3 with ⟨i, j, _, rfl⟩ | ⟨_, i, _, rfl⟩
      · exact absurd (show (5 : Int) = 4 from h9) (by omega)
      · exact absurd (show (6 : Int) = 4 from h9) (by omega)
theorem ck_cases (rus : List Ru) : (∃ f ps, ckP [] 0 rus = (some f, ps)) ∨ ∃ ps, ckP [] 0 rus = (none, ps) := by
  cases h : ckP [] 0 rus with
  | mk a b => cases a with
    | none => exact .inr ⟨b, rfl⟩
    | some f => exact .inl ⟨f, b, rfl⟩
theorem bool_cases (b : Bool) : b = true ∨ b = false := by cases b <;> simp
theorem fin3 {P : Prop} {c : Int} {b : Bool} (h : b = true ↔ P) (h4 : c = 4 ↔ ¬ P) : (decide (c = 4) == !b) = true := by
  cases b with
  | true => rw [decide_eq_false (fun h9 => h4.1 h9 (h.1 rfl))]; rfl
  | false => rw [decide_eq_true (h4.2 fun h9 => absurd (h.2 h9) (by simp))]; rfl
theorem fin3o {P : Prop} {c : Int} {b : Bool} (h : b = true ↔ P) (hp : P) (hc : c = 0) : (decide (c = 4) == !b) = true := by
  rw [h.2 hp, hc]; rfl


attribute [local irreducible] RV.E

end Go.Proofs.Qxb6500915aGreatDoor

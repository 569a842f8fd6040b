import Derived.Test.Qxb6500915aGreatDoorE5
namespace Go.Proofs.Qxb6500915aGreatDoor
open Go.Eng
set_option linter.unusedVariables false
set_option linter.unusedSimpArgs false

/-! ## reading, plain -/
section rding
abbrev Nm := List Int × Int
def rd1 (s : Nm) (t : Tm) : Nm × Tm :=
  if t.k = 0 then (if fnI s.1 t.v.toNat = -1 then ((s.1.set t.v.toNat s.2, s.2 + 1), ⟨t.k, s.2, t.i, t.s⟩) else (s, ⟨t.k, fnI s.1 t.v.toNat, t.i, t.s⟩)) else (s, t)
def rdTs (s : Nm) : List Tm → Nm × List Tm
  | [] => (s, [])
  | t :: ts => ((rdTs (rd1 s t).1 ts).1, (rd1 s t).2 :: (rdTs (rd1 s t).1 ts).2)
theorem rdTs_snoc (s : Nm) (l : List Tm) (t : Tm) : rdTs s (l ++ [t]) = ((rd1 (rdTs s l).1 t).1, (rdTs s l).2 ++ [(rd1 (rdTs s l).1 t).2]) := by
  induction l generalizing s with
  | nil => rfl
  | cons x l ih => simp only [List.cons_append, rdTs, ih]
theorem rdTs_len (s : Nm) (l : List Tm) : (rdTs s l).2.length = l.length := by
  induction l generalizing s with
  | nil => rfl
  | cons x l ih => simp only [rdTs, List.length_cons, ih]
theorem rd1_new {s : Nm} {t : Tm} {v : Nat} (hk : t.k = 0) (hv : t.v = (v : Int)) (h : fnI s.1 v = -1) : rd1 s t = ((s.1.set v s.2, s.2 + 1), ⟨t.k, s.2, t.i, t.s⟩) := by
  unfold rd1; rw [if_pos hk, hv, Int.toNat_natCast, if_pos h]
theorem rd1_old {s : Nm} {t : Tm} {v : Nat} (hk : t.k = 0) (hv : t.v = (v : Int)) (h : ¬ fnI s.1 v = -1) : rd1 s t = (s, ⟨t.k, fnI s.1 v, t.i, t.s⟩) := by
  unfold rd1; rw [if_pos hk, hv, Int.toNat_natCast, if_neg h]
theorem rd1_no {s : Nm} {t : Tm} (hk : ¬ t.k = 0) : rd1 s t = (s, t) := by unfold rd1; rw [if_neg hk]
theorem rd1_nl (s : Nm) (t : Tm) : (rd1 s t).1.1.length = s.1.length ∧ s.2 ≤ (rd1 s t).1.2 ∧ (rd1 s t).1.2 ≤ s.2 + 1 := by
  unfold rd1; repeat' split
  all_goals (simp; try omega)
theorem rdTs_nl (s : Nm) (l : List Tm) : (rdTs s l).1.1.length = s.1.length ∧ s.2 ≤ (rdTs s l).1.2 ∧ (rdTs s l).1.2 ≤ s.2 + l.length := by
  induction l generalizing s with
  | nil => exact ⟨rfl, Int.le_refl _, by simp [rdTs]⟩
  | cons x l ih =>
    have h1 := rd1_nl s x
    have h2 := ih (rd1 s x).1
    simp only [rdTs, List.length_cons]
    refine ⟨h2.1.trans h1.1, by omega, by omega⟩
def vN (ts : List Tm) : List Nat := (ts.filter fun t => decide (t.k = 0)).map fun t => t.v.toNat
theorem vN_snoc (l : List Tm) (t : Tm) : vN (l ++ [t]) = vN l ++ (if t.k = 0 then [t.v.toNat] else []) := by
  unfold vN; rw [List.filter_append, List.map_append]
  by_cases h : t.k = 0 <;> simp [h]
theorem mem_vN {ts : List Tm} {v : Nat} : v ∈ vN ts ↔ ∃ t, t ∈ ts ∧ t.k = 0 ∧ t.v.toNat = v := by
  unfold vN; rw [List.mem_map]
  constructor
  · rintro ⟨t, h, e⟩
    rw [List.mem_filter, decide_eq_true_eq] at h
    exact ⟨t, h.1, h.2, e⟩
  · rintro ⟨t, h, hk, e⟩
    exact ⟨t, by rw [List.mem_filter, decide_eq_true_eq]; exact ⟨h, hk⟩, e⟩
/-- what reading does to the numbers -/
structure RdF (s : Nm) (ts : List Tm) (s' : Nm) : Prop where
  out : ∀ v, v ∉ vN ts → fnI s'.1 v = fnI s.1 v
  inn : ∀ v, v ∈ vN ts → v < s.1.length → (fnI s.1 v = -1 ∧ s.2 ≤ fnI s'.1 v) ∨ (¬ fnI s.1 v = -1 ∧ fnI s'.1 v = fnI s.1 v)
  pos : ∀ v, v ∈ vN ts → v < s.1.length → (∀ u, 0 ≤ fnI s.1 u ∨ fnI s.1 u = -1) → 0 ≤ fnI s'.1 v
theorem rdF {s : Nm} (h0 : 0 ≤ s.2) : ∀ (ts : List Tm), RdF s ts (rdTs s ts).1 := by
  intro ts
  induction ts generalizing s with
  | nil => exact ⟨fun _ _ => rfl, fun v h => (by cases h), fun v h => (by cases h)⟩
  | cons t ts ih =>
    have h1 := rd1_nl s t
    have hI := ih (s := (rd1 s t).1) (by omega)
    have hcons : vN (t :: ts) = (if t.k = 0 then [t.v.toNat] else []) ++ vN ts := by
      have := vN_snoc [] t
      show (List.filter _ (t :: ts)).map _ = _
      unfold vN
      by_cases h : t.k = 0 <;> simp [h]
    -- one step
    have hst : ∀ u, u < s.1.length → (u ∈ (if t.k = 0 then [t.v.toNat] else []) → (fnI s.1 u = -1 ∧ fnI (rd1 s t).1.1 u = s.2) ∨ (¬ fnI s.1 u = -1 ∧ fnI (rd1 s t).1.1 u = fnI s.1 u)) := fun u hu hm => by
      split at hm
      · rename_i hk
        have e : u = t.v.toNat := by simpa using hm
        unfold rd1; rw [if_pos hk]
        by_cases h : fnI s.1 t.v.toNat = -1
        · rw [if_pos h]
          refine .inl ⟨by rw [e]; exact h, ?_⟩
          show fnI (s.1.set t.v.toNat s.2) u = _
          rw [fnI_set (by omega), e, upd_self]
        · rw [if_neg h]; exact .inr ⟨by rw [e]; exact h, rfl⟩
      · cases hm
    have hno : ∀ u, u ∉ (if t.k = 0 then [t.v.toNat] else []) → fnI (rd1 s t).1.1 u = fnI s.1 u := fun u hm => by
      unfold rd1
      split
      · rename_i hk
        rw [if_pos hk] at hm
        have e : ¬ u = t.v.toNat := by simpa using hm
        split
        · show fnI (s.1.set t.v.toNat s.2) u = _
          by_cases hl : t.v.toNat < s.1.length
          · rw [fnI_set hl, upd_ne e]
          · rw [List.set_eq_of_length_le (by omega)]
        · rfl
      · rfl
    refine ⟨fun v hv => ?_, fun v hv hl => ?_, fun v hv hl hp => ?_⟩
    · rw [hcons, List.mem_append] at hv
      show fnI (rdTs (rd1 s t).1 ts).1.1 v = _
      rw [hI.out v (fun h => hv (.inr h)), hno v (fun h => hv (.inl h))]
    · show (fnI s.1 v = -1 ∧ s.2 ≤ fnI (rdTs (rd1 s t).1 ts).1.1 v) ∨ (¬ fnI s.1 v = -1 ∧ fnI (rdTs (rd1 s t).1 ts).1.1 v = fnI s.1 v)
      rw [hcons, List.mem_append] at hv
      by_cases ha : v ∈ (if t.k = 0 then [t.v.toNat] else [])
      · rcases hst v hl ha with ⟨h2, h3⟩ | ⟨h2, h3⟩
        · by_cases hb : v ∈ vN ts
          · rcases hI.inn v hb (by rw [h1.1]; exact hl) with ⟨h4, _⟩ | ⟨h4, h5⟩
            · rw [h3] at h4; omega
            · exact .inl ⟨h2, by rw [h5, h3]; exact Int.le_refl _⟩
          · exact .inl ⟨h2, by rw [hI.out v hb, h3]; exact Int.le_refl _⟩
        · by_cases hb : v ∈ vN ts
          · rcases hI.inn v hb (by rw [h1.1]; exact hl) with ⟨h4, _⟩ | ⟨h4, h5⟩
            · rw [h3] at h4; exact absurd h4 h2
            · exact .inr ⟨h2, by rw [h5, h3]⟩
          · exact .inr ⟨h2, by rw [hI.out v hb, h3]⟩
      · have hb := hv.resolve_left ha
        have h3 := hno v ha
        rcases hI.inn v hb (by rw [h1.1]; exact hl) with ⟨h4, h5⟩ | ⟨h4, h5⟩
        · exact .inl ⟨by rw [← h3]; exact h4, by omega⟩
        · exact .inr ⟨by rw [← h3]; exact h4, by rw [h5, h3]⟩
    · show 0 ≤ fnI (rdTs (rd1 s t).1 ts).1.1 v
      rw [hcons, List.mem_append] at hv
      by_cases hb : v ∈ vN ts
      · refine hI.pos v hb (by rw [h1.1]; exact hl) fun u => ?_
        by_cases ha : u ∈ (if t.k = 0 then [t.v.toNat] else [])
        · by_cases hu : u < s.1.length
          · rcases hst u hu ha with ⟨_, h3⟩ | ⟨_, h3⟩
            · rw [h3]; omega
            · rw [h3]; exact hp u
          · exact .inr (fnI_out (by rw [h1.1]; omega))
        · rw [hno u ha]; exact hp u
      · have ha := hv.resolve_right hb
        rw [hI.out v hb]
        rcases hst v hl ha with ⟨_, h3⟩ | ⟨h2, h3⟩
        · rw [h3]; omega
        · rw [h3]; have := hp v; omega
/-- taking the numbers back -/
structure Unr (num nm : List Int) (ts : List Tm) (i : Nat) (cur : List Int) : Prop where
  len : cur.length = num.length
  at_ : ∀ v, fnI cur v = if v ∈ vN (ts.take i) then fnI num v else fnI nm v
theorem Unr.start {num nm : List Int} {ts : List Tm} (h : nm.length = num.length) : Unr num nm ts 0 nm := ⟨h, fun v => by rw [List.take_zero]; rfl⟩
theorem Unr.skip {num nm cur : List Int} {ts : List Tm} {i : Nat} (h : Unr num nm ts i cur) {t : Tm} (ht : ts[i]? = some t) (hk : ¬ t.k = 0) : Unr num nm ts (i + 1) cur := ⟨h.len, fun v => by
  rw [h.at_ v, List.take_add_one, ht]
  show _ = if v ∈ vN (ts.take i ++ [t]) then _ else _
  rw [vN_snoc, if_neg hk, List.append_nil]⟩
theorem Unr.go {num nm cur cur' : List Int} {ts : List Tm} {i : Nat} (h : Unr num nm ts i cur) {t : Tm} {v : Nat} (ht : ts[i]? = some t) (hk : t.k = 0) (hv : t.v = (v : Int)) (hl : cur'.length = cur.length) (h1 : fnI cur' v = fnI num v) (h2 : ∀ u, ¬ u = v → fnI cur' u = fnI cur u) : Unr num nm ts (i + 1) cur' := ⟨hl.trans h.len, fun u => by
  rw [List.take_add_one, ht]
  show _ = if u ∈ vN (ts.take i ++ [t]) then _ else _
  rw [vN_snoc, if_pos hk, hv, Int.toNat_natCast]
  by_cases e : u = v
  · subst e; rw [h1, if_pos (by simp)]
  · rw [h2 u e, h.at_ u]
    by_cases hm : u ∈ vN (ts.take i)
    · rw [if_pos hm, if_pos (List.mem_append_left _ hm)]
    · rw [if_neg hm, if_neg (by rw [List.mem_append, List.mem_singleton]; exact fun h9 => h9.elim hm e)]⟩
theorem list_fn {a b : List Int} (hl : a.length = b.length) (h : ∀ v, fnI a v = fnI b v) : a = b := by
  refine List.ext_getElem? fun i => ?_
  by_cases hi : i < a.length
  · rw [fnI_get hi, fnI_get (by omega), h i]
  · rw [List.getElem?_eq_none (by omega), List.getElem?_eq_none (by omega)]
theorem Unr.done {num nm cur : List Int} {nx ny : Int} {ts : List Tm} {i : Nat} (h : Unr num nm ts i cur) (hi : i = ts.length) (hR : RdF (num, nx) ts (nm, ny)) : cur = num := by
  refine list_fn h.len fun v => ?_
  rw [h.at_ v, take_all hi]
  by_cases hm : v ∈ vN ts
  · rw [if_pos hm]
  · rw [if_neg hm]; exact hR.out v hm
structure RR5 where
  i : Nat
  num : List Int
  nx : Int
  out : List Tm
  jo : List Value
structure RRI (num : List Int) (nx : Int) (ts : List Tm) (s : RR5) : Prop where
  i : s.i ≤ ts.length
  st : rdTs (num, nx) (ts.take s.i) = ((s.num, s.nx), s.out)
  ol : s.out.length = s.i
  nl : s.num.length = num.length
  nb : nx ≤ s.nx ∧ s.nx ≤ nx + s.i
  jl : (fl tmc s.out ++ s.jo).length = ts.length * 4
theorem app_gen {α : Type} {f : α → List Value} {s : Nat} (hs : ∀ a, (f a).length = s) (l : List α) (x : α) (jo : List Value) (i : Nat) (hi : l.length = i) (hj : s ≤ jo.length) : setL (fl f l ++ jo) (0 + i * s) (f x) = fl f (l ++ [x]) ++ jo.drop s := by
  have h1 : jo = jo.take s ++ jo.drop s := (List.take_append_drop _ _).symm
  conv => lhs; rw [h1]
  rw [← List.append_assoc, Nat.zero_add, ← hi, ← fl_len hs l]
  rw [setL_mid (fl f l) (jo.take s) (jo.drop s) (f x) (by rw [hs, List.length_take]; omega), fl_app, fl_sing]
theorem app_gl {α : Type} {f : α → List Value} {s : Nat} (hs : ∀ a, (f a).length = s) (l : List α) (x : α) (jo : List Value) (hj : s ≤ jo.length) : (fl f (l ++ [x]) ++ jo.drop s).length = (fl f l ++ jo).length := by
  rw [List.length_append, List.length_append, fl_app, fl_sing, List.length_append, hs, List.length_drop]; omega
theorem fcJ {l : List Int} {i : Nat} (h : i < l.length) (j : List Value) : (fl iI l ++ j)[0 + i * 1]? = some (.int .i64 (fnI l i)) := fl_cell1 (f := iI) (g := .int .i64) (fun _ => rfl) (fnI_get h) j
theorem fsJ {l : List Int} {i : Nat} {x : Int} (h : i < l.length) (j : List Value) : setL (fl iI l ++ j) (0 + i * 1) [.int .i64 x] = fl iI (l.set i x) ++ j := fl_set iI_len l x j i h
theorem fmJ {l : List Int} {i : Nat} (h : i < l.length) (j : List Value) : 0 + i * 1 < (fl iI l ++ j).length := by rw [List.length_append, fl_len iI_len]; omega
theorem RRI.next {num : List Int} {nx : Int} {ts : List Tm} {s : RR5} (h : RRI num nx ts s) {t t' : Tm} {nm' : List Int} {nx' : Int} (ht : ts[s.i]? = some t) (hr : rd1 (s.num, s.nx) t = ((nm', nx'), t')) (hj : 4 ≤ s.jo.length) :
    RRI num nx ts ⟨s.i + 1, nm', nx', s.out ++ [t'], s.jo.drop 4⟩ := by
  have h1 := rd1_nl (s.num, s.nx) t
  rw [hr] at h1
  simp only at h1
  have h2 := h.nb
  have hl := (List.getElem?_eq_some_iff.1 ht).1
  refine ⟨by simp only; omega, ?_, by simp [h.ol], h1.1.trans h.nl, by simp only; omega, (app_gl tmc_len _ _ _ hj).trans h.jl⟩
  show rdTs (num, nx) (ts.take (s.i + 1)) = _
  rw [List.take_add_one, ht]
  show rdTs (num, nx) (ts.take s.i ++ [t]) = _
  rw [rdTs_snoc, h.st]
  simp only
  rw [hr]
theorem rd_ok {s : Nm} {ts : List Tm} (h : ∀ t, t ∈ ts → t.ok) (h0 : 0 ≤ s.2 ∧ s.2 ≤ 1000000000) (hl : ts.length ≤ 65536) (hf : ∀ v, -1 ≤ fnI s.1 v ∧ fnI s.1 v ≤ 1000000000) : ∀ t, t ∈ (rdTs s ts).2 → t.ok := by
  have gen : ∀ (ts : List Tm) (s : Nm), (∀ t, t ∈ ts → t.ok) → 0 ≤ s.2 → s.2 + ts.length ≤ 2000000000 → (∀ v, -1 ≤ fnI s.1 v ∧ fnI s.1 v ≤ 2000000000) → ∀ t, t ∈ (rdTs s ts).2 → t.ok := by
    intro ts
    induction ts with
    | nil => intro s _ _ _ _ t ht; cases ht
    | cons x ts ih =>
      intro s h h0 hl hf t ht
      rw [List.length_cons] at hl
      have hx := h x (by simp)
      have h1 := rd1_nl s x
      have h2 : (rd1 s x).2.ok := by
        have := hf x.v.toNat
        unfold rd1; repeat' split
        · exact ⟨hx.k, ⟨by simp only; omega, by simp only; omega⟩, hx.i, hx.s⟩
        · exact ⟨hx.k, ⟨by simp only; omega, by simp only; omega⟩, hx.i, hx.s⟩
        · exact hx
      have h3 : ∀ v, -1 ≤ fnI (rd1 s x).1.1 v ∧ fnI (rd1 s x).1.1 v ≤ 2000000000 := fun v => by
        have hv := hf v
        unfold rd1; repeat' split
        · show -1 ≤ fnI (s.1.set x.v.toNat s.2) v ∧ fnI (s.1.set x.v.toNat s.2) v ≤ _
          by_cases hl9 : x.v.toNat < s.1.length
          · rw [fnI_set hl9]
            by_cases e : v = x.v.toNat
            · rw [e, upd_self]; omega
            · rw [upd_ne e]; exact hv
          · rw [List.set_eq_of_length_le (by omega)]; exact hv
        · exact hv
        · exact hv
      rcases List.mem_cons.1 ht with e | e
      · rw [e]; exact h2
      · exact ih (rd1 s x).1 (fun q hq => h q (List.mem_cons_of_mem _ hq)) (by omega) (by omega) h3 t e
  exact gen ts s h h0.1 (by omega) fun v => ⟨(hf v).1, by have := (hf v).2; omega⟩
end rding
/-! ## where the numbers of a state lie -/
def nbE (np : Option Addr) (jn : List Value) (num : List Int) : List (Nat × Obj) := match np with
  | some a => [(a.block, C (fl iI num ++ jn) 3)]
  | none => []
def NOk (np : Option Addr) (nc : Nat) (jn : List Value) (m : Nat) : Prop := (np = none ∧ m = 0 ∧ nc = 0 ∧ jn = []) ∨ ∃ b, np = some ⟨b, 0, none⟩ ∧ m + jn.length = nc
theorem NOk.pos {np : Option Addr} {nc m : Nat} {jn : List Value} (h : NOk np nc jn m) (h0 : 0 < m) : ∃ b, np = some ⟨b, 0, none⟩ ∧ m + jn.length = nc := by
  rcases h with ⟨_, h1, _⟩ | h
  · omega
  · exact h
theorem NOk.row {np : Option Addr} {nc : Nat} {jn : List Value} {num : List Int} (h : NOk np nc jn num.length) : Row (.slice np num.length nc) num.length (fl iI num) 1 3 (nbE np jn num) := by
  rcases h with ⟨rfl, h1, rfl, rfl⟩ | ⟨b, rfl, h1⟩
  · have : num = [] := List.eq_nil_of_length_eq_zero h1
    subst this
    exact Row.nil _ _
  · exact .inr ⟨b, nc, jn, rfl, fl_len iI_len _, by rw [List.length_append, fl_len iI_len]; omega, by omega, rfl⟩
theorem unr_ge {num nm cur : List Int} {nx ny : Int} {ts : List Tm} {i : Nat} {t : Tm} {v : Nat} (hU : Unr num nm ts i cur) (hR : RdF (num, nx) ts (nm, ny)) (hnum : ∀ u, fnI num u < nx) (ht : t ∈ ts) (hk : t.k = 0) (hv : t.v = (v : Int)) (hl : v < num.length) (h : nx ≤ fnI cur v) : fnI num v = -1 := by
  have hm : v ∈ vN ts := mem_vN.2 ⟨t, ht, hk, by rw [hv, Int.toNat_natCast]⟩
  rw [hU.at_ v] at h
  have := hnum v
  split at h
  · omega
  · rcases hR.inn v hm hl with ⟨h1, _⟩ | ⟨_, h2⟩
    · exact h1
    · simp only at h2; omega
theorem unr_lt {num nm cur : List Int} {nx ny : Int} {ts : List Tm} {i : Nat} {t : Tm} {v : Nat} (hU : Unr num nm ts i cur) (hR : RdF (num, nx) ts (nm, ny)) (ht : t ∈ ts) (hk : t.k = 0) (hv : t.v = (v : Int)) (hl : v < num.length) (h : fnI cur v < nx) : fnI cur v = fnI num v := by
  have hm : v ∈ vN ts := mem_vN.2 ⟨t, ht, hk, by rw [hv, Int.toNat_natCast]⟩
  rw [hU.at_ v] at h ⊢
  split
  · rfl
  · rename_i h9
    rw [if_neg h9] at h
    rcases hR.inn v hm hl with ⟨_, h1⟩ | ⟨_, h2⟩
    · simp only at h1; omega
    · exact h2
structure RB where
  i : Nat
  cur : List Int

end Go.Proofs.Qxb6500915aGreatDoor

import Derived.Test.Qxb6500915aGreatDoorH4
namespace Go.Proofs.Qxb6500915aGreatDoor
open Go.Eng
set_option linter.unusedVariables false
set_option linter.unusedSimpArgs false

/-! ## dense numbers for the variables -/
section dense
def dnM : Nat → List Int → List (Int × Value)
  | _, [] => []
  | o, v :: vs => (v, .int .i64 (o : Int)) :: dnM (o + 1) vs
def dpos : List Int → Int → Option Nat
  | [], _ => none
  | u :: vs, v => if v = u then some 0 else (dpos vs v).map (· + 1)
theorem dn_get (v : Int) : ∀ (vs : List Int) (o : Nat), mget (dnM o vs) v = (dpos vs v).map fun i => Value.int .i64 ((o + i : Nat) : Int)
  | [], _ => rfl
  | u :: vs, o => by
    show mget ((u, _) :: dnM (o + 1) vs) v = _
    unfold mget dpos
    split
    · rfl
    · rw [dn_get v vs (o + 1), Option.map_map]
      congr 1; funext i
      show _ = Value.int .i64 ((o + (i + 1) : Nat) : Int)
      rw [show o + 1 + i = o + (i + 1) by omega]
theorem dn_len : ∀ (vs : List Int) (o : Nat), (dnM o vs).length = vs.length
  | [], _ => rfl
  | u :: vs, o => by show (dnM (o + 1) vs).length + 1 = vs.length + 1; rw [dn_len vs]
theorem dn_put (v : Int) : ∀ (vs : List Int) (o : Nat), dpos vs v = none → mput (dnM o vs) v (.int .i64 ((o + vs.length : Nat) : Int)) = dnM o (vs ++ [v])
  | [], o, _ => rfl
  | u :: vs, o, h => by
    unfold dpos at h
    split at h
    · cases h
    · rename_i hn
      have h1 : dpos vs v = none := by
        cases hq : dpos vs v with
        | none => rfl
        | some j => rw [hq] at h; cases h
      show mput ((u, _) :: dnM (o + 1) vs) v _ = (u, _) :: dnM (o + 1) (vs ++ [v])
      unfold mput
      rw [if_neg hn, ← dn_put v vs (o + 1) h1]
      rw [show o + (u :: vs).length = o + 1 + vs.length by simp; omega]
theorem dn_put0 {v : Int} {vs : List Int} (h : dpos vs v = none) : mput (dnM 0 vs) v (.int .i64 (vs.length : Int)) = dnM 0 (vs ++ [v]) := by
  have := dn_put v vs 0 h
  rw [Nat.zero_add] at this; exact this
theorem dpos_lt : ∀ {vs : List Int} {v : Int} {i : Nat}, dpos vs v = some i → vs[i]? = some v
  | [], _, _, h => by cases h
  | u :: vs, v, i, h => by
    unfold dpos at h
    split at h
    · rename_i e; injection h with h; subst h; rw [e]; rfl
    · cases hq : dpos vs v with
      | none => rw [hq] at h; cases h
      | some j =>
        rw [hq] at h
        have h9 : j + 1 = i := by simpa using h
        subst h9
        have := dpos_lt hq
        simpa using this
theorem dpos_cases (vs : List Int) (v : Int) : dpos vs v = none ∨ ∃ d, dpos vs v = some d := by
  cases h : dpos vs v with
  | none => exact .inl rfl
  | some d => exact .inr ⟨d, rfl⟩
def rn1 (vs : List Int) (t : Tm) : List Int × Tm :=
  if t.k = 0 then (match dpos vs t.v with
    | some d => (vs, ⟨t.k, (d : Int), t.i, t.s⟩)
    | none => (vs ++ [t.v], ⟨t.k, (vs.length : Int), t.i, t.s⟩)) else (vs, t)
def rnTs (vs : List Int) : List Tm → List Int × List Tm
  | [] => (vs, [])
  | t :: ts => ((rnTs (rn1 vs t).1 ts).1, (rn1 vs t).2 :: (rnTs (rn1 vs t).1 ts).2)
theorem rnTs_snoc (s : List Int) (l : List Tm) (t : Tm) : rnTs s (l ++ [t]) = ((rn1 (rnTs s l).1 t).1, (rnTs s l).2 ++ [(rn1 (rnTs s l).1 t).2]) := by
  induction l generalizing s with
  | nil => rfl
  | cons x l ih => simp only [List.cons_append, rnTs, ih]
theorem rnTs_len (s : List Int) (l : List Tm) : (rnTs s l).2.length = l.length := by
  induction l generalizing s with
  | nil => rfl
  | cons x l ih => simp only [rnTs, List.length_cons, ih]
theorem rn1_new {vs : List Int} {t : Tm} (hk : t.k = 0) (h : dpos vs t.v = none) : rn1 vs t = (vs ++ [t.v], ⟨t.k, (vs.length : Int), t.i, t.s⟩) := by unfold rn1; rw [if_pos hk, h]
theorem rn1_old {vs : List Int} {t : Tm} {d : Nat} (hk : t.k = 0) (h : dpos vs t.v = some d) : rn1 vs t = (vs, ⟨t.k, (d : Int), t.i, t.s⟩) := by unfold rn1; rw [if_pos hk, h]
theorem rn1_no {vs : List Int} {t : Tm} (hk : ¬ t.k = 0) : rn1 vs t = (vs, t) := by unfold rn1; rw [if_neg hk]
theorem rn1_bd (vs : List Int) (t : Tm) : (vs.length ≤ (rn1 vs t).1.length ∧ (rn1 vs t).1.length ≤ vs.length + 1) ∧ ((rn1 vs t).2.k = 0 → 0 ≤ (rn1 vs t).2.v ∧ (rn1 vs t).2.v < (rn1 vs t).1.length) ∧ (t.ok → vs.length ≤ 1000000000000 → (rn1 vs t).2.ok) := by
  by_cases hk : t.k = 0
  · rcases dpos_cases vs t.v with h | ⟨d, h⟩
    · rw [rn1_new hk h]
      refine ⟨by simp, fun _ => ⟨by simp only; omega, by simp; omega⟩, fun ht hl => ⟨ht.k, ⟨by simp only; omega, by simp only; omega⟩, ht.i, ht.s⟩⟩
    · rw [rn1_old hk h]
      have hl := (List.getElem?_eq_some_iff.1 (dpos_lt h)).1
      refine ⟨by simp only; omega, fun _ => ⟨by simp only; omega, by simp only; omega⟩, fun ht _ => ⟨ht.k, ⟨by simp only; omega, by simp only; omega⟩, ht.i, ht.s⟩⟩
  · rw [rn1_no hk]
    exact ⟨⟨Nat.le_refl _, Nat.le_succ _⟩, fun h => absurd h hk, fun ht _ => ht⟩
theorem rnTs_bd (vs : List Int) (ts : List Tm) : (vs.length ≤ (rnTs vs ts).1.length ∧ (rnTs vs ts).1.length ≤ vs.length + ts.length) ∧ (∀ t, t ∈ (rnTs vs ts).2 → t.k = 0 → 0 ≤ t.v ∧ t.v < (rnTs vs ts).1.length) ∧ ((∀ t, t ∈ ts → t.ok) → vs.length + ts.length ≤ 1000000000000 → ∀ t, t ∈ (rnTs vs ts).2 → t.ok) := by
  induction ts generalizing vs with
  | nil => exact ⟨⟨Nat.le_refl _, Nat.le_refl _⟩, fun t ht => (by cases ht), fun _ _ t ht => (by cases ht)⟩
  | cons x ts ih =>
    obtain ⟨h1, h2, h3⟩ := rn1_bd vs x
    obtain ⟨h4, h5, h6⟩ := ih (rn1 vs x).1
    simp only [rnTs, List.length_cons]
    refine ⟨by omega, fun t ht hk => ?_, fun ho hl t ht => ?_⟩
    · rcases List.mem_cons.1 ht with e | e
      · rw [e] at hk ⊢; have := h2 hk; omega
      · exact h5 t e hk
    · rcases List.mem_cons.1 ht with e | e
      · rw [e]; exact h3 (ho x (by simp)) (by omega)
      · exact h6 (fun q hq => ho q (List.mem_cons_of_mem _ hq)) (by omega) t e
structure RN6 where
  i : Nat
  vs : List Int
  out : List Tm
  jo : List Value
structure RNI (vs : List Int) (ts : List Tm) (s : RN6) : Prop where
  i : s.i ≤ ts.length
  st : rnTs vs (ts.take s.i) = (s.vs, s.out)
  ol : s.out.length = s.i
  vl : s.vs.length ≤ vs.length + s.i
  jl : (fl tmc s.out ++ s.jo).length = ts.length * 4
theorem RNI.next {vs : List Int} {ts : List Tm} {s : RN6} (h : RNI vs ts s) {t t' : Tm} {vs' : List Int} (ht : ts[s.i]? = some t) (hr : rn1 s.vs t = (vs', t')) (hj : 4 ≤ s.jo.length) : RNI vs ts ⟨s.i + 1, vs', s.out ++ [t'], s.jo.drop 4⟩ := by
  have h1 := (rn1_bd s.vs t).1
  rw [hr] at h1
  simp only at h1
  have h2 := h.vl
  have hl := (List.getElem?_eq_some_iff.1 ht).1
  refine ⟨by simp only; omega, ?_, by simp [h.ol], by simp only; omega, (app_gl tmc_len _ _ _ hj).trans h.jl⟩
  show rnTs vs (ts.take (s.i + 1)) = _
  rw [List.take_add_one, ht]
  show rnTs vs (ts.take s.i ++ [t]) = _
  rw [rnTs_snoc, h.st]
  simp only
  rw [hr]
def rnL (vs : List Int) (l : Lt) : List Int × Lt := ((rnTs vs l.a).1, ⟨l.k, l.o, l.p, (rnTs vs l.a).2⟩)
def rnLs (vs : List Int) : List Lt → List Int × List Lt
  | [] => (vs, [])
  | l :: ls => ((rnLs (rnL vs l).1 ls).1, (rnL vs l).2 :: (rnLs (rnL vs l).1 ls).2)
theorem rnLs_snoc (s : List Int) (l : List Lt) (t : Lt) : rnLs s (l ++ [t]) = ((rnL (rnLs s l).1 t).1, (rnLs s l).2 ++ [(rnL (rnLs s l).1 t).2]) := by
  induction l generalizing s with
  | nil => rfl
  | cons x l ih => simp only [List.cons_append, rnLs, ih]
/-- where the variables occur -/
def oc1 (i : Nat) (oc : List Int) (t : Tm) : List Int := if t.k = 0 then oc.set t.v.toNat (bitsOf .or .u64 (fnI oc t.v.toNat) (sh64 i)) else oc
def ocTs (i : Nat) (oc : List Int) (a : List Tm) : List Int := a.foldl (oc1 i) oc
theorem ocTs_snoc {i : Nat} {oc : List Int} {a : List Tm} {j : Nat} {t : Tm} (h : a[j]? = some t) : ocTs i oc (a.take (j + 1)) = oc1 i (ocTs i oc (a.take j)) t := by
  unfold ocTs; rw [List.take_add_one, h, List.foldl_append]; rfl
theorem oc1_len (i : Nat) (oc : List Int) (t : Tm) : (oc1 i oc t).length = oc.length := by unfold oc1; split <;> simp
theorem ocTs_len (i : Nat) (a : List Tm) : ∀ oc : List Int, (ocTs i oc a).length = oc.length := by
  induction a with
  | nil => intro oc; rfl
  | cons t a ih => intro oc; show (ocTs i (oc1 i oc t) a).length = _; rw [ih, oc1_len]
def ocB (B : List Lt) : Nat → List Int → List Int
  | 0, oc => oc
  | n + 1, oc => match B[n]? with
    | some l => ocTs n (ocB B n oc) l.a
    | none => ocB B n oc
theorem ocB_succ {B : List Lt} {n : Nat} {oc : List Int} {l : Lt} (h : B[n]? = some l) : ocB B (n + 1) oc = ocTs n (ocB B n oc) l.a := by
  show (match B[n]? with | some l => ocTs n (ocB B n oc) l.a | none => ocB B n oc) = _
  rw [h]
theorem ocB_len (B : List Lt) (oc : List Int) : ∀ n, (ocB B n oc).length = oc.length
  | 0 => rfl
  | n + 1 => by
    show (match B[n]? with | some l => ocTs n (ocB B n oc) l.a | none => ocB B n oc).length = _
    split
    · rw [ocTs_len, ocB_len B oc n]
    · exact ocB_len B oc n
end dense


set_option maxHeartbeats 8000000 in
theorem ren_spec (kd mb : Nat) (vs : List Int) (ts : List Tm) (p : Option Addr) (c : Nat) (Et : List (Nat × Obj)) (hA : Ags (.slice p ts.length c) ts Et) (hne : ∀ z, z ∈ Et → z.1 ∉ List.map Prod.fst [(kd, C [.map (some mb)] 103), (mb, MO (kInt .i64) (dnM 0 vs))]) (hvl : vs.length ≤ 100000000) : SpK Tryz.prog 86 #[.slice p ts.length c, .pointer (some ⟨kd, 0, none⟩)] (Mem Et) [(kd, C [.map (some mb)] 103), (mb, MO (kInt .i64) (dnM 0 vs))] (fun u F' => ∃ Eo, Row u ts.length (fl tmc (rnTs vs ts).2) 4 54 Eo ∧ F' = (kd, C [.map (some mb)] 103) :: (mb, MO (kInt .i64) (dnM 0 (rnTs vs ts).1)) :: Eo) := by
  refine f_enter (args := [.slice p ts.length c, .pointer (some ⟨kd, 0, none⟩)]) Tryz.func86 rfl Tryz.ntmps86 rfl ?_
  intro w0 w a hpre hl hh
  have htl := hA.len
  generalize hDD : List.map Prod.fst [(kd, C [.map (some mb)] 103), (mb, MO (kInt .i64) (dnM 0 vs))] = D at hh hne ⊢
  simp only [slotsFrom, Nat.reduceAdd] at hl
  refine c_seq ?_
  refine c_region ?_
  refine wl (wl_val hl rfl trivial (r_assign hl rfl) ?_)
  clear hl a; intro a hl
  refine w_nil ?_
  have hl2 := hl.add (t := 0) (hl.add (t := 1) (hl.nil) rfl) rfl; clear hl; have hl := hl2; clear hl2
  refine then_normal ?_
  refine c_seq ?_
  refine c_region ?_
  refine wl (wl_val hl rfl trivial (r_move hl rfl) ?_)
  clear hl a; intro a hl
  refine wl (wl_val hl rfl trivial (r_lenS hl rfl slc42) ?_)
  clear hl a; intro a hl
  refine wl (w_makeSliceN hl hh rfl trivial app42 zero54 rfl rfl (by omega) (by decide) ?_)
  clear hl hh a w; intro k11 jk11 a w hjk11 hl hh
  refine wl (wl_val hl rfl trivial (r_assign hl rfl) ?_)
  clear hl a; intro a hl
  refine w_nil ?_
  have hl2 := hl.add (t := 0) (hl.add (t := 1) (hl.add (t := 4) (hl.nil) rfl) rfl) rfl; clear hl; have hl := hl2; clear hl2
  refine then_normal ?_
  refine c_seq ?_
  refine c_seq ?_
  refine c_region ?_
  refine wl (wl_val hl rfl trivial (r_move hl rfl) ?_)
  clear hl a; intro a hl
  refine wl (wl_val hl rfl trivial (r_lenS hl rfl slc42) ?_)
  clear hl a; intro a hl
  refine wl (wl_val hl rfl trivial (r_move hl rfl) ?_)
  clear hl a; intro a hl
  refine w_nil ?_
  have hl2 := hl.add (t := 1) (hl.add (t := 4) (hl.add (t := 12) (hl.add (t := 13) (hl.add (t := 14) (hl.nil) rfl) rfl) rfl) rfl) rfl; clear hl; have hl := hl2; clear hl2
  refine then_normal ?_
  refine wp_block ?_
  obtain ⟨KS0, hKS0, hk⟩ := (hl.add (t := 1) (hl.add (t := 4) (hl.add (t := 12) (hl.add (t := 13) (hl.nil) rfl) rfl) rfl) rfl).name
  obtain ⟨HS0, hHS0, hh2⟩ := hh.name (keeps_cons (b := k11) (o' := C jk11 54) (by repeat (first | exact find_head | apply find_tail | apply find_skip)) (by first | rfl) (keeps_cons (b := mb) (o' := MO (kInt .i64) (dnM 0 vs)) (by repeat (first | exact find_head | apply find_tail | apply find_skip)) (by first | rfl) (keeps_nil)))
  refine c_loop (α := RN6) (fun s => ts.length - s.i) (fun s a w => (RNI vs ts s) ∧ Sl 45 ([(14, .int .i64 (s.i : Int))] ++ KS0) a ∧ Has _ w0 ([(k11, C (fl tmc s.out ++ s.jo) 54), (mb, MO (kInt .i64) (dnM 0 s.vs))] ++ HS0) w) ⟨0, vs, [], jk11⟩ ⟨⟨Nat.zero_le _, rfl, rfl, Nat.le_refl _, hjk11.1⟩, hl.addE (t := 14) (hk) rfl (by first | rfl), hh2⟩ ?_
  clear hk hh2 hl hh a w
  intro s a w hI
  obtain ⟨hI, hl, hh⟩ := hI
  subst hKS0; subst hHS0
  simp only [List.cons_append, List.nil_append, List.append_nil, List.append_assoc] at hl hh
  have hIi := hI.i; have hIo := hI.ol; have hIv := hI.vl
  refine c_seq ?_
  refine c_region ?_
  refine wl (wl_val hl rfl trivial (r_lss hl rfl rfl) ?_)
  clear hl a; intro a hl
  refine w_nil ?_
  have hl2 := hl.add (t := 1) (hl.add (t := 4) (hl.add (t := 12) (hl.add (t := 13) (hl.add (t := 14) (hl.add (t := 15) (hl.nil) rfl) rfl) rfl) rfl) rfl) rfl; clear hl; have hl := hl2; clear hl2
  refine then_normal ?_
  refine c_seq ?_
  refine c_cond hl rfl ?_ ?_
  · intro hc0
    try simp only [decide_eq_true_eq, decide_eq_false_iff_not, Bool.not_eq_true', Bool.not_eq_false', Bool.not_eq_true, Bool.not_eq_false, Bool.and_eq_true, Bool.or_eq_true, Bool.and_eq_false_iff, Bool.or_eq_false_iff, Bool.not_not, ne_eq, Int.not_lt, Int.not_le, Decidable.not_not, beq_iff_eq, bne_iff_ne] at hc0
    obtain ⟨t, htt⟩ : ∃ t, ts[s.i]? = some t := ⟨_, List.getElem?_eq_getElem (by omega)⟩
    have htm := List.mem_of_getElem? htt
    have hto := hA.ok t htm
    obtain ⟨b3, j3, hq3, hE3, hm3⟩ := row_mem hA.row (by omega) hpre
    rw [hq3] at hl
    have hd3 := fl_at tmc_len htt j3
    simp only [tmc] at hd3
    have hD3 : b3 ∉ D := hne _ (by rw [hE3]; exact List.mem_singleton.2 rfl)
    have hj4 : 4 ≤ s.jo.length := by have h9 := hI.jl; rw [List.length_append, fl_len tmc_len, hIo] at h9; omega
    refine wp_skip ?_
    refine then_normal ?_
    refine c_seq ?_
    refine wp_block ?_
    refine c_seq ?_
    refine c_region ?_
    refine wl (wl_val hl rfl trivial (r_move hl rfl) ?_)
    clear hl a; intro a hl
    refine wl (wl_val hl rfl trivial (r_indexS hl rfl rfl slc42 (by omega) (by omega) (by first | (simp only [Int.reduceToNat]; rfl) | exact toNat_add1 _ | exact toNat_add2 _ _ | exact toNat_emod _ _ | exact Int.toNat_natCast _ | rfl)) ?_)
    clear hl a; intro a hl
    first | refine wl (w_loadA hl hh rfl trivial agg54 rfl (by repeat (first | exact find_head | apply find_tail | apply find_skip)) (by first | (simp only [List.getElem?_cons_zero, List.getElem?_cons_succ, Value.cells, List.take_zero, List.take_succ_cons, List.take_nil, List.drop_zero, List.drop_succ_cons, List.drop_nil, List.length_cons, List.length_nil, List.cons_append, List.nil_append, List.append_nil, Nat.zero_add, Nat.add_zero, Nat.reduceAdd, Nat.reduceBEq, Nat.reduceEqDiff, Nat.ble, BEq.rfl, Bool.and_true, Bool.and_self, cond_true, beq_self_eq_true]; rfl)) (by first | rfl | (simp; done)) ?_) | refine wl (w_loadRA hl hh rfl trivial agg54 rfl hm3 hD3 hd3 rfl ?_)
    clear hl a; intro a hl
    refine wl (w_alloc hl hh rfl trivial zero54 rfl ?_)
    clear hl hh a w; intro k6 a w hl hh
    refine wl (wl_val hl rfl trivial (r_assign hl rfl) ?_)
    clear hl a; intro a hl
    refine wl (w_storeA hl hh trivial agg54 rfl rfl (by repeat (first | exact find_head | apply find_tail | apply find_skip)) (by first | rfl | (simp; done)) (by first | (simp; done) | (simp; omega) | (rw [hI.jl]; omega)) (by first | rfl | (simp; done) | rfl) (by first | exact app_gen tmc_len s.out ⟨t.k, (s.vs.length : Int), t.i, t.s⟩ s.jo s.i hIo hj4 | exact app_gen tmc_len s.out ⟨t.k, (d : Int), t.i, t.s⟩ s.jo s.i hIo hj4 | exact app_gen tmc_len s.out t s.jo s.i hIo hj4 | (simp only [setL, List.getElem?_cons_zero, List.getElem?_cons_succ, Value.cells, List.take_zero, List.take_succ_cons, List.take_nil, List.drop_zero, List.drop_succ_cons, List.drop_nil, List.length_cons, List.length_nil, List.cons_append, List.nil_append, List.append_nil, Nat.zero_add, Nat.add_zero, Nat.reduceAdd, Nat.reduceBEq, Nat.reduceEqDiff, Nat.ble, BEq.rfl, Bool.and_true, Bool.and_self, cond_true, beq_self_eq_true]; rfl)) ?_)
    clear hh w; intro w hh
    refine w_nil ?_
    have hl2 := hl.add (t := 1) (hl.add (t := 4) (hl.add (t := 5) (hl.add (t := 6) (hl.add (t := 12) (hl.add (t := 13) (hl.add (t := 14) (hl.nil) rfl) rfl) rfl) rfl) rfl) rfl) rfl; clear hl; have hl := hl2; clear hl2
    refine then_normal ?_
    refine c_seq ?_
    refine c_seq ?_
    refine c_region ?_
    refine wl (wl_val hl rfl trivial (r_field hl rfl fld54_0) ?_)
    clear hl a; intro a hl
    refine wl (w_load hl hh rfl trivial one52 rfl (by repeat (first | exact find_head | apply find_tail | apply find_skip)) (by first | rfl) ?_)
    clear hl a; intro a hl
    refine wl (wl_val hl rfl trivial (r_eql hl rfl rfl) ?_)
    clear hl a; intro a hl
    refine w_nil ?_
    have hl2 := hl.add (t := 1) (hl.add (t := 4) (hl.add (t := 5) (hl.add (t := 6) (hl.add (t := 12) (hl.add (t := 13) (hl.add (t := 14) (hl.add (t := 21) (hl.nil) rfl) rfl) rfl) rfl) rfl) rfl) rfl) rfl; clear hl; have hl := hl2; clear hl2
    refine then_normal ?_
    refine c_cond hl rfl ?_ ?_
    · intro hc1
      try simp only [decide_eq_true_eq, decide_eq_false_iff_not, Bool.not_eq_true', Bool.not_eq_false', Bool.not_eq_true, Bool.not_eq_false, Bool.and_eq_true, Bool.or_eq_true, Bool.and_eq_false_iff, Bool.or_eq_false_iff, Bool.not_not, ne_eq, Int.not_lt, Int.not_le, Decidable.not_not, beq_iff_eq, bne_iff_ne] at hc1
      refine c_seq ?_
      rcases dpos_cases s.vs t.v with hdp | ⟨d, hdp⟩
      ·
        have hmg : mget (dnM 0 s.vs) t.v = none := by rw [dn_get, hdp]; rfl
        refine c_region ?_
        refine wl (w_load hl hh rfl trivial one103 rfl (by repeat (first | exact find_head | apply find_tail | apply find_skip)) (by first | rfl) ?_)
        clear hl a; intro a hl
        refine wl (wl_val hl rfl trivial (r_field hl rfl fld54_1) ?_)
        clear hl a; intro a hl
        refine wl (w_load hl hh rfl trivial one3 rfl (by repeat (first | exact find_head | apply find_tail | apply find_skip)) (by first | rfl) ?_)
        clear hl a; intro a hl
        refine wl (w_lookup2 (keyInt Tryz.underlying3) Tryz.underlying103 zero3 hl hh rfl trivial rfl rfl (by repeat (first | exact find_head | apply find_tail | apply find_skip)) ?_)
        clear hl a; intro a hl
        rw [hmg] at hl
        refine wl (wl_val hl rfl trivial (r_move hl rfl) ?_)
        clear hl a; intro a hl
        refine wl (wl_val hl rfl trivial (r_extract hl rfl (by simp only [List.getElem?_toArray, List.getElem?_cons_zero, List.getElem?_cons_succ]; rfl)) ?_)
        clear hl a; intro a hl
        refine wl (wl_val hl rfl trivial (r_extract hl rfl (by simp only [List.getElem?_toArray, List.getElem?_cons_zero, List.getElem?_cons_succ]; rfl)) ?_)
        clear hl a; intro a hl
        refine wl (wl_val hl rfl trivial (r_assign hl rfl) ?_)
        clear hl a; intro a hl
        refine wl (wl_val hl rfl trivial (r_assign hl rfl) ?_)
        clear hl a; intro a hl
        refine w_nil ?_
        have hl2 := hl.add (t := 1) (hl.add (t := 4) (hl.add (t := 5) (hl.add (t := 6) (hl.add (t := 7) (hl.add (t := 8) (hl.add (t := 12) (hl.add (t := 13) (hl.add (t := 14) (hl.nil) rfl) rfl) rfl) rfl) rfl) rfl) rfl) rfl) rfl; clear hl; have hl := hl2; clear hl2
        refine then_normal ?_
        refine c_seq ?_
        refine c_seq ?_
        refine c_region ?_
        refine wl (wl_val hl rfl trivial (r_move hl rfl) ?_)
        clear hl a; intro a hl
        refine wl (wl_val hl rfl trivial (r_not hl rfl) ?_)
        clear hl a; intro a hl
        refine w_nil ?_
        have hl2 := hl.add (t := 1) (hl.add (t := 4) (hl.add (t := 5) (hl.add (t := 6) (hl.add (t := 7) (hl.add (t := 12) (hl.add (t := 13) (hl.add (t := 14) (hl.add (t := 30) (hl.nil) rfl) rfl) rfl) rfl) rfl) rfl) rfl) rfl) rfl; clear hl; have hl := hl2; clear hl2
        refine then_normal ?_
        refine c_condT hl rfl ?_
        refine c_seq ?_
        refine c_region ?_
        refine wl (w_load hl hh rfl trivial one103 rfl (by repeat (first | exact find_head | apply find_tail | apply find_skip)) (by first | rfl) ?_)
        clear hl a; intro a hl
        refine wl (w_lenM Tryz.underlying103 hl hh rfl trivial rfl (by repeat (first | exact find_head | apply find_tail | apply find_skip)) ?_)
        clear hl a; intro a hl
        rw [dn_len] at hl
        refine wl (wl_val hl rfl trivial (r_assign hl rfl) ?_)
        clear hl a; intro a hl
        refine w_nil ?_
        have hl2 := hl.add (t := 1) (hl.add (t := 4) (hl.add (t := 5) (hl.add (t := 6) (hl.add (t := 7) (hl.add (t := 12) (hl.add (t := 13) (hl.add (t := 14) (hl.nil) rfl) rfl) rfl) rfl) rfl) rfl) rfl) rfl; clear hl; have hl := hl2; clear hl2
        refine then_normal ?_
        refine c_region ?_
        refine wl (w_load hl hh rfl trivial one103 rfl (by repeat (first | exact find_head | apply find_tail | apply find_skip)) (by first | rfl) ?_)
        clear hl a; intro a hl
        refine wl (wl_val hl rfl trivial (r_field hl rfl fld54_1) ?_)
        clear hl a; intro a hl
        refine wl (w_load hl hh rfl trivial one3 rfl (by repeat (first | exact find_head | apply find_tail | apply find_skip)) (by first | rfl) ?_)
        clear hl a; intro a hl
        refine wl (wl_val hl rfl trivial (r_move hl rfl) ?_)
        clear hl a; intro a hl
        refine wl (w_mapUpdate (keyInt Tryz.underlying3) Tryz.underlying103 hl hh trivial rfl rfl rfl (by repeat (first | exact find_head | apply find_tail | apply find_skip)) ?_)
        clear hh w; intro w hh
        refine w_nil ?_
        have hl2 := hl.add (t := 1) (hl.add (t := 4) (hl.add (t := 5) (hl.add (t := 6) (hl.add (t := 7) (hl.add (t := 12) (hl.add (t := 13) (hl.add (t := 14) (hl.nil) rfl) rfl) rfl) rfl) rfl) rfl) rfl) rfl; clear hl; have hl := hl2; clear hl2
        rw [dn_put0 hdp] at hh
        refine then_normal ?_
        refine c_region ?_
        refine wl (wl_val hl rfl trivial (r_move hl rfl) ?_)
        clear hl a; intro a hl
        refine wl (wl_val hl rfl trivial (r_field hl rfl fld54_1) ?_)
        clear hl a; intro a hl
        refine wl (w_store hl hh trivial one3 rfl rfl (by repeat (first | exact find_head | apply find_tail | apply find_skip)) (by first | (simp; done) | (simp; omega) | (rw [hI.jl]; omega)) (by first | rfl | assumption | (apply Row.one; assumption)) (by first | exact app_gen tmc_len s.out ⟨t.k, (s.vs.length : Int), t.i, t.s⟩ s.jo s.i hIo hj4 | exact app_gen tmc_len s.out ⟨t.k, (d : Int), t.i, t.s⟩ s.jo s.i hIo hj4 | exact app_gen tmc_len s.out t s.jo s.i hIo hj4 | (simp only [setL, List.getElem?_cons_zero, List.getElem?_cons_succ, Value.cells, List.take_zero, List.take_succ_cons, List.take_nil, List.drop_zero, List.drop_succ_cons, List.drop_nil, List.length_cons, List.length_nil, List.cons_append, List.nil_append, List.append_nil, Nat.zero_add, Nat.add_zero, Nat.reduceAdd, Nat.reduceBEq, Nat.reduceEqDiff, Nat.ble, BEq.rfl, Bool.and_true, Bool.and_self, cond_true, beq_self_eq_true]; rfl)) ?_)
        clear hh w; intro w hh
        refine w_nil ?_
        have hl2 := hl.add (t := 1) (hl.add (t := 4) (hl.add (t := 5) (hl.add (t := 6) (hl.add (t := 12) (hl.add (t := 13) (hl.add (t := 14) (hl.nil) rfl) rfl) rfl) rfl) rfl) rfl) rfl; clear hl; have hl := hl2; clear hl2
        refine then_normal ?_
        refine c_region ?_
        refine wl (wl_val hl rfl trivial (r_move hl rfl) ?_)
        clear hl a; intro a hl
        refine wl (wl_val hl rfl trivial (r_move hl rfl) ?_)
        clear hl a; intro a hl
        first | refine wl (w_loadA hl hh rfl trivial agg54 rfl (by repeat (first | exact find_head | apply find_tail | apply find_skip)) (by first | (simp only [List.getElem?_cons_zero, List.getElem?_cons_succ, Value.cells, List.take_zero, List.take_succ_cons, List.take_nil, List.drop_zero, List.drop_succ_cons, List.drop_nil, List.length_cons, List.length_nil, List.cons_append, List.nil_append, List.append_nil, Nat.zero_add, Nat.add_zero, Nat.reduceAdd, Nat.reduceBEq, Nat.reduceEqDiff, Nat.ble, BEq.rfl, Bool.and_true, Bool.and_self, cond_true, beq_self_eq_true]; rfl)) (by first | rfl | (simp; done)) ?_) | refine wl (w_loadRA hl hh rfl trivial agg54 rfl hm3 hD3 hd3 rfl ?_)
        clear hl a; intro a hl
        refine wl (wl_val hl rfl trivial (r_indexS hl rfl rfl slc42 (by omega) (by omega) (by first | (simp only [Int.reduceToNat]; rfl) | exact toNat_add1 _ | exact toNat_add2 _ _ | exact toNat_emod _ _ | exact Int.toNat_natCast _ | rfl)) ?_)
        clear hl a; intro a hl
        refine wl (w_storeA hl hh trivial agg54 rfl rfl (by repeat (first | exact find_head | apply find_tail | apply find_skip)) (by first | rfl | (simp; done)) (by first | (simp; done) | (simp; omega) | (rw [hI.jl]; omega)) (by first | rfl | (simp; done) | rfl) (by first | exact app_gen tmc_len s.out ⟨t.k, (s.vs.length : Int), t.i, t.s⟩ s.jo s.i hIo hj4 | exact app_gen tmc_len s.out ⟨t.k, (d : Int), t.i, t.s⟩ s.jo s.i hIo hj4 | exact app_gen tmc_len s.out t s.jo s.i hIo hj4 | (simp only [setL, List.getElem?_cons_zero, List.getElem?_cons_succ, Value.cells, List.take_zero, List.take_succ_cons, List.take_nil, List.drop_zero, List.drop_succ_cons, List.drop_nil, List.length_cons, List.length_nil, List.cons_append, List.nil_append, List.append_nil, Nat.zero_add, Nat.add_zero, Nat.reduceAdd, Nat.reduceBEq, Nat.reduceEqDiff, Nat.ble, BEq.rfl, Bool.and_true, Bool.and_self, cond_true, beq_self_eq_true]; rfl)) ?_)
        clear hh w; intro w hh
        refine w_nil ?_
        have hl2 := hl.add (t := 1) (hl.add (t := 4) (hl.add (t := 12) (hl.add (t := 13) (hl.add (t := 14) (hl.nil) rfl) rfl) rfl) rfl) rfl; clear hl; have hl := hl2; clear hl2
        refine blk_normal ?_
        refine then_normal ?_
        refine c_region ?_
        first | refine wl (wl_val hl rfl trivial (r_add hl rfl rfl (by simp only [Fits]; omega)) ?_) | refine wl (wl_val hl rfl trivial (r_addW hl rfl rfl) ?_)
        clear hl a; intro a hl
        refine wl (wl_val hl rfl trivial (r_move hl rfl) ?_)
        clear hl a; intro a hl
        refine w_nil ?_
        have hl2 := hl.add (t := 1) (hl.add (t := 4) (hl.add (t := 12) (hl.add (t := 13) (hl.add (t := 14) (hl.nil) rfl) rfl) rfl) rfl) rfl; clear hl; have hl := hl2; clear hl2
        refine then_normal ?_
        refine ⟨⟨s.i + 1, s.vs ++ [t.v], s.out ++ [⟨t.k, (s.vs.length : Int), t.i, t.s⟩], s.jo.drop 4⟩, (by simp only; omega), hI.next htt (rn1_new hc1 hdp) hj4, hl.addE (t := 14) (hl.addE (t := 1) (hl.addE (t := 4) (hl.addE (t := 12) (hl.addE (t := 13) (hl.nil) rfl (by first | rfl | exact congrArg (Value.int .i64) (show (s.i : Int) + 1 = ((s.i + 1 : Nat) : Int) by omega) | (rw [hq3]))) rfl (by first | rfl | exact congrArg (Value.int .i64) (show (s.i : Int) + 1 = ((s.i + 1 : Nat) : Int) by omega) | (rw [hq3]))) rfl (by first | rfl | exact congrArg (Value.int .i64) (show (s.i : Int) + 1 = ((s.i + 1 : Nat) : Int) by omega) | (rw [hq3]))) rfl (by first | rfl | exact congrArg (Value.int .i64) (show (s.i : Int) + 1 = ((s.i + 1 : Nat) : Int) by omega) | (rw [hq3]))) rfl (by first | rfl | exact congrArg (Value.int .i64) (show (s.i : Int) + 1 = ((s.i + 1 : Nat) : Int) by omega) | (rw [hq3])), hh.keep (by repeat (first | exact keeps_nil | apply keeps_cons (by repeat (first | exact find_head | apply find_tail | apply find_skip)) (by first  | rfl) | exact keeps_self | exact keeps_left | apply keeps_app | apply keeps_mv | apply keeps_skip))⟩
      ·
        have hmg : mget (dnM 0 s.vs) t.v = some (.int .i64 (d : Int)) := by rw [dn_get, hdp]; simp
        refine c_region ?_
        refine wl (w_load hl hh rfl trivial one103 rfl (by repeat (first | exact find_head | apply find_tail | apply find_skip)) (by first | rfl) ?_)
        clear hl a; intro a hl
        refine wl (wl_val hl rfl trivial (r_field hl rfl fld54_1) ?_)
        clear hl a; intro a hl
        refine wl (w_load hl hh rfl trivial one3 rfl (by repeat (first | exact find_head | apply find_tail | apply find_skip)) (by first | rfl) ?_)
        clear hl a; intro a hl
        refine wl (w_lookup2 (keyInt Tryz.underlying3) Tryz.underlying103 zero3 hl hh rfl trivial rfl rfl (by repeat (first | exact find_head | apply find_tail | apply find_skip)) ?_)
        clear hl a; intro a hl
        rw [hmg] at hl
        refine wl (wl_val hl rfl trivial (r_move hl rfl) ?_)
        clear hl a; intro a hl
        refine wl (wl_val hl rfl trivial (r_extract hl rfl (by simp only [List.getElem?_toArray, List.getElem?_cons_zero, List.getElem?_cons_succ]; rfl)) ?_)
        clear hl a; intro a hl
        refine wl (wl_val hl rfl trivial (r_extract hl rfl (by simp only [List.getElem?_toArray, List.getElem?_cons_zero, List.getElem?_cons_succ]; rfl)) ?_)
        clear hl a; intro a hl
        refine wl (wl_val hl rfl trivial (r_assign hl rfl) ?_)
        clear hl a; intro a hl
        refine wl (wl_val hl rfl trivial (r_assign hl rfl) ?_)
        clear hl a; intro a hl
        refine w_nil ?_
        have hl2 := hl.add (t := 1) (hl.add (t := 4) (hl.add (t := 5) (hl.add (t := 6) (hl.add (t := 7) (hl.add (t := 8) (hl.add (t := 12) (hl.add (t := 13) (hl.add (t := 14) (hl.nil) rfl) rfl) rfl) rfl) rfl) rfl) rfl) rfl) rfl; clear hl; have hl := hl2; clear hl2
        refine then_normal ?_
        refine c_seq ?_
        refine c_seq ?_
        refine c_region ?_
        refine wl (wl_val hl rfl trivial (r_move hl rfl) ?_)
        clear hl a; intro a hl
        refine wl (wl_val hl rfl trivial (r_not hl rfl) ?_)
        clear hl a; intro a hl
        refine w_nil ?_
        have hl2 := hl.add (t := 1) (hl.add (t := 4) (hl.add (t := 5) (hl.add (t := 6) (hl.add (t := 7) (hl.add (t := 12) (hl.add (t := 13) (hl.add (t := 14) (hl.add (t := 30) (hl.nil) rfl) rfl) rfl) rfl) rfl) rfl) rfl) rfl) rfl; clear hl; have hl := hl2; clear hl2
        refine then_normal ?_
        refine c_condF hl rfl ?_
        refine wp_skip ?_
        refine then_normal ?_
        refine c_region ?_
        refine wl (wl_val hl rfl trivial (r_move hl rfl) ?_)
        clear hl a; intro a hl
        refine wl (wl_val hl rfl trivial (r_field hl rfl fld54_1) ?_)
        clear hl a; intro a hl
        refine wl (w_store hl hh trivial one3 rfl rfl (by repeat (first | exact find_head | apply find_tail | apply find_skip)) (by first | (simp; done) | (simp; omega) | (rw [hI.jl]; omega)) (by first | rfl | assumption | (apply Row.one; assumption)) (by first | exact app_gen tmc_len s.out ⟨t.k, (s.vs.length : Int), t.i, t.s⟩ s.jo s.i hIo hj4 | exact app_gen tmc_len s.out ⟨t.k, (d : Int), t.i, t.s⟩ s.jo s.i hIo hj4 | exact app_gen tmc_len s.out t s.jo s.i hIo hj4 | (simp only [setL, List.getElem?_cons_zero, List.getElem?_cons_succ, Value.cells, List.take_zero, List.take_succ_cons, List.take_nil, List.drop_zero, List.drop_succ_cons, List.drop_nil, List.length_cons, List.length_nil, List.cons_append, List.nil_append, List.append_nil, Nat.zero_add, Nat.add_zero, Nat.reduceAdd, Nat.reduceBEq, Nat.reduceEqDiff, Nat.ble, BEq.rfl, Bool.and_true, Bool.and_self, cond_true, beq_self_eq_true]; rfl)) ?_)
        clear hh w; intro w hh
        refine w_nil ?_
        have hl2 := hl.add (t := 1) (hl.add (t := 4) (hl.add (t := 5) (hl.add (t := 6) (hl.add (t := 12) (hl.add (t := 13) (hl.add (t := 14) (hl.nil) rfl) rfl) rfl) rfl) rfl) rfl) rfl; clear hl; have hl := hl2; clear hl2
        refine then_normal ?_
        refine c_region ?_
        refine wl (wl_val hl rfl trivial (r_move hl rfl) ?_)
        clear hl a; intro a hl
        refine wl (wl_val hl rfl trivial (r_move hl rfl) ?_)
        clear hl a; intro a hl
        first | refine wl (w_loadA hl hh rfl trivial agg54 rfl (by repeat (first | exact find_head | apply find_tail | apply find_skip)) (by first | (simp only [List.getElem?_cons_zero, List.getElem?_cons_succ, Value.cells, List.take_zero, List.take_succ_cons, List.take_nil, List.drop_zero, List.drop_succ_cons, List.drop_nil, List.length_cons, List.length_nil, List.cons_append, List.nil_append, List.append_nil, Nat.zero_add, Nat.add_zero, Nat.reduceAdd, Nat.reduceBEq, Nat.reduceEqDiff, Nat.ble, BEq.rfl, Bool.and_true, Bool.and_self, cond_true, beq_self_eq_true]; rfl)) (by first | rfl | (simp; done)) ?_) | refine wl (w_loadRA hl hh rfl trivial agg54 rfl hm3 hD3 hd3 rfl ?_)
        clear hl a; intro a hl
        refine wl (wl_val hl rfl trivial (r_indexS hl rfl rfl slc42 (by omega) (by omega) (by first | (simp only [Int.reduceToNat]; rfl) | exact toNat_add1 _ | exact toNat_add2 _ _ | exact toNat_emod _ _ | exact Int.toNat_natCast _ | rfl)) ?_)
        clear hl a; intro a hl
        refine wl (w_storeA hl hh trivial agg54 rfl rfl (by repeat (first | exact find_head | apply find_tail | apply find_skip)) (by first | rfl | (simp; done)) (by first | (simp; done) | (simp; omega) | (rw [hI.jl]; omega)) (by first | rfl | (simp; done) | rfl) (by first | exact app_gen tmc_len s.out ⟨t.k, (s.vs.length : Int), t.i, t.s⟩ s.jo s.i hIo hj4 | exact app_gen tmc_len s.out ⟨t.k, (d : Int), t.i, t.s⟩ s.jo s.i hIo hj4 | exact app_gen tmc_len s.out t s.jo s.i hIo hj4 | (simp only [setL, List.getElem?_cons_zero, List.getElem?_cons_succ, Value.cells, List.take_zero, List.take_succ_cons, List.take_nil, List.drop_zero, List.drop_succ_cons, List.drop_nil, List.length_cons, List.length_nil, List.cons_append, List.nil_append, List.append_nil, Nat.zero_add, Nat.add_zero, Nat.reduceAdd, Nat.reduceBEq, Nat.reduceEqDiff, Nat.ble, BEq.rfl, Bool.and_true, Bool.and_self, cond_true, beq_self_eq_true]; rfl)) ?_)
        clear hh w; intro w hh
        refine w_nil ?_
        have hl2 := hl.add (t := 1) (hl.add (t := 4) (hl.add (t := 12) (hl.add (t := 13) (hl.add (t := 14) (hl.nil) rfl) rfl) rfl) rfl) rfl; clear hl; have hl := hl2; clear hl2
        refine blk_normal ?_
        refine then_normal ?_
        refine c_region ?_
        first | refine wl (wl_val hl rfl trivial (r_add hl rfl rfl (by simp only [Fits]; omega)) ?_) | refine wl (wl_val hl rfl trivial (r_addW hl rfl rfl) ?_)
        clear hl a; intro a hl
        refine wl (wl_val hl rfl trivial (r_move hl rfl) ?_)
        clear hl a; intro a hl
        refine w_nil ?_
        have hl2 := hl.add (t := 1) (hl.add (t := 4) (hl.add (t := 12) (hl.add (t := 13) (hl.add (t := 14) (hl.nil) rfl) rfl) rfl) rfl) rfl; clear hl; have hl := hl2; clear hl2
        refine then_normal ?_
        refine ⟨⟨s.i + 1, s.vs, s.out ++ [⟨t.k, (d : Int), t.i, t.s⟩], s.jo.drop 4⟩, (by simp only; omega), hI.next htt (rn1_old hc1 hdp) hj4, hl.addE (t := 14) (hl.addE (t := 1) (hl.addE (t := 4) (hl.addE (t := 12) (hl.addE (t := 13) (hl.nil) rfl (by first | rfl | exact congrArg (Value.int .i64) (show (s.i : Int) + 1 = ((s.i + 1 : Nat) : Int) by omega) | (rw [hq3]))) rfl (by first | rfl | exact congrArg (Value.int .i64) (show (s.i : Int) + 1 = ((s.i + 1 : Nat) : Int) by omega) | (rw [hq3]))) rfl (by first | rfl | exact congrArg (Value.int .i64) (show (s.i : Int) + 1 = ((s.i + 1 : Nat) : Int) by omega) | (rw [hq3]))) rfl (by first | rfl | exact congrArg (Value.int .i64) (show (s.i : Int) + 1 = ((s.i + 1 : Nat) : Int) by omega) | (rw [hq3]))) rfl (by first | rfl | exact congrArg (Value.int .i64) (show (s.i : Int) + 1 = ((s.i + 1 : Nat) : Int) by omega) | (rw [hq3])), hh.keep (by repeat (first | exact keeps_nil | apply keeps_cons (by repeat (first | exact find_head | apply find_tail | apply find_skip)) (by first  | rfl) | exact keeps_self | exact keeps_left | apply keeps_app | apply keeps_mv | apply keeps_skip))⟩
    · intro hc1
      try simp only [decide_eq_true_eq, decide_eq_false_iff_not, Bool.not_eq_true', Bool.not_eq_false', Bool.not_eq_true, Bool.not_eq_false, Bool.and_eq_true, Bool.or_eq_true, Bool.and_eq_false_iff, Bool.or_eq_false_iff, Bool.not_not, ne_eq, Int.not_lt, Int.not_le, Decidable.not_not, beq_iff_eq, bne_iff_ne] at hc1
      refine wp_skip ?_
      refine then_normal ?_
      refine c_region ?_
      refine wl (wl_val hl rfl trivial (r_move hl rfl) ?_)
      clear hl a; intro a hl
      refine wl (wl_val hl rfl trivial (r_move hl rfl) ?_)
      clear hl a; intro a hl
      first | refine wl (w_loadA hl hh rfl trivial agg54 rfl (by repeat (first | exact find_head | apply find_tail | apply find_skip)) (by first | (simp only [List.getElem?_cons_zero, List.getElem?_cons_succ, Value.cells, List.take_zero, List.take_succ_cons, List.take_nil, List.drop_zero, List.drop_succ_cons, List.drop_nil, List.length_cons, List.length_nil, List.cons_append, List.nil_append, List.append_nil, Nat.zero_add, Nat.add_zero, Nat.reduceAdd, Nat.reduceBEq, Nat.reduceEqDiff, Nat.ble, BEq.rfl, Bool.and_true, Bool.and_self, cond_true, beq_self_eq_true]; rfl)) (by first | rfl | (simp; done)) ?_) | refine wl (w_loadRA hl hh rfl trivial agg54 rfl hm3 hD3 hd3 rfl ?_)
      clear hl a; intro a hl
      refine wl (wl_val hl rfl trivial (r_indexS hl rfl rfl slc42 (by omega) (by omega) (by first | (simp only [Int.reduceToNat]; rfl) | exact toNat_add1 _ | exact toNat_add2 _ _ | exact toNat_emod _ _ | exact Int.toNat_natCast _ | rfl)) ?_)
      clear hl a; intro a hl
      refine wl (w_storeA hl hh trivial agg54 rfl rfl (by repeat (first | exact find_head | apply find_tail | apply find_skip)) (by first | rfl | (simp; done)) (by first | (simp; done) | (simp; omega) | (rw [hI.jl]; omega)) (by first | rfl | (simp; done) | rfl) (by first | exact app_gen tmc_len s.out ⟨t.k, (s.vs.length : Int), t.i, t.s⟩ s.jo s.i hIo hj4 | exact app_gen tmc_len s.out ⟨t.k, (d : Int), t.i, t.s⟩ s.jo s.i hIo hj4 | exact app_gen tmc_len s.out t s.jo s.i hIo hj4 | (simp only [setL, List.getElem?_cons_zero, List.getElem?_cons_succ, Value.cells, List.take_zero, List.take_succ_cons, List.take_nil, List.drop_zero, List.drop_succ_cons, List.drop_nil, List.length_cons, List.length_nil, List.cons_append, List.nil_append, List.append_nil, Nat.zero_add, Nat.add_zero, Nat.reduceAdd, Nat.reduceBEq, Nat.reduceEqDiff, Nat.ble, BEq.rfl, Bool.and_true, Bool.and_self, cond_true, beq_self_eq_true]; rfl)) ?_)
      clear hh w; intro w hh
      refine w_nil ?_
      have hl2 := hl.add (t := 1) (hl.add (t := 4) (hl.add (t := 12) (hl.add (t := 13) (hl.add (t := 14) (hl.nil) rfl) rfl) rfl) rfl) rfl; clear hl; have hl := hl2; clear hl2
      refine blk_normal ?_
      refine then_normal ?_
      refine c_region ?_
      first | refine wl (wl_val hl rfl trivial (r_add hl rfl rfl (by simp only [Fits]; omega)) ?_) | refine wl (wl_val hl rfl trivial (r_addW hl rfl rfl) ?_)
      clear hl a; intro a hl
      refine wl (wl_val hl rfl trivial (r_move hl rfl) ?_)
      clear hl a; intro a hl
      refine w_nil ?_
      have hl2 := hl.add (t := 1) (hl.add (t := 4) (hl.add (t := 12) (hl.add (t := 13) (hl.add (t := 14) (hl.nil) rfl) rfl) rfl) rfl) rfl; clear hl; have hl := hl2; clear hl2
      refine then_normal ?_
      refine ⟨⟨s.i + 1, s.vs, s.out ++ [t], s.jo.drop 4⟩, (by simp only; omega), hI.next htt (rn1_no hc1) hj4, hl.addE (t := 14) (hl.addE (t := 1) (hl.addE (t := 4) (hl.addE (t := 12) (hl.addE (t := 13) (hl.nil) rfl (by first | rfl | exact congrArg (Value.int .i64) (show (s.i : Int) + 1 = ((s.i + 1 : Nat) : Int) by omega) | (rw [hq3]))) rfl (by first | rfl | exact congrArg (Value.int .i64) (show (s.i : Int) + 1 = ((s.i + 1 : Nat) : Int) by omega) | (rw [hq3]))) rfl (by first | rfl | exact congrArg (Value.int .i64) (show (s.i : Int) + 1 = ((s.i + 1 : Nat) : Int) by omega) | (rw [hq3]))) rfl (by first | rfl | exact congrArg (Value.int .i64) (show (s.i : Int) + 1 = ((s.i + 1 : Nat) : Int) by omega) | (rw [hq3]))) rfl (by first | rfl | exact congrArg (Value.int .i64) (show (s.i : Int) + 1 = ((s.i + 1 : Nat) : Int) by omega) | (rw [hq3])), hh.keep (by repeat (first | exact keeps_nil | apply keeps_cons (by repeat (first | exact find_head | apply find_tail | apply find_skip)) (by first  | rfl) | exact keeps_self | exact keeps_left | apply keeps_app | apply keeps_mv | apply keeps_skip))⟩
  · intro hc0
    try simp only [decide_eq_true_eq, decide_eq_false_iff_not, Bool.not_eq_true', Bool.not_eq_false', Bool.not_eq_true, Bool.not_eq_false, Bool.and_eq_true, Bool.or_eq_true, Bool.and_eq_false_iff, Bool.or_eq_false_iff, Bool.not_not, ne_eq, Int.not_lt, Int.not_le, Decidable.not_not, beq_iff_eq, bne_iff_ne] at hc0
    have hit : s.i = ts.length := by omega
    have hst := hI.st
    rw [hit, List.take_length] at hst
    refine wp_exit ?_
    refine then_exit ?_
    refine then_exit ?_
    refine blk_exit ?_
    refine then_normal ?_
    refine c_seq ?_
    refine c_region ?_
    refine wl (wl_val hl rfl trivial (r_move hl rfl) ?_)
    clear hl a; intro a hl
    refine wl (wl_val hl rfl trivial (r_assign hl rfl) ?_)
    clear hl a; intro a hl
    refine w_nil ?_
    have hl2 := hl.add (t := 3) (hl.nil) rfl; clear hl; have hl := hl2; clear hl2
    refine then_normal ?_
    refine wp_ret ?_
    refine f_ret1 (F' := (kd, C [.map (some mb)] 103) :: (mb, MO (kInt .i64) (dnM 0 s.vs)) :: [(k11, C (fl tmc s.out ++ s.jo) 54)]) hl hh rfl rfl (by repeat (first | exact keeps_nil | apply keeps_cons (by repeat (first | exact find_head | apply find_tail | apply find_skip)) (by first  | rfl) | exact keeps_self | exact keeps_left | apply keeps_app | apply keeps_mv | apply keeps_skip)) ?_
    exact ⟨[(k11, C (fl tmc s.out ++ s.jo) 54)], .inr ⟨k11, ts.length, s.jo, rfl, by rw [hst, fl_len tmc_len]; show s.out.length * 4 = _; rw [hIo, hit], by rw [hst]; exact hI.jl, Nat.le_refl _, by rw [hst]⟩, by rw [hst]⟩
end Go.Proofs.Qxb6500915aGreatDoor

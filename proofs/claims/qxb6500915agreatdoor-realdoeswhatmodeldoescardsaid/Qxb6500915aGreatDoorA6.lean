import Derived.Test.Qxb6500915aGreatDoorA5
namespace Go.Proofs.Qxb6500915aGreatDoor
open Go.Eng
set_option linter.unusedVariables false
set_option linter.unusedSimpArgs false
theorem one103 : oneOk Tryz.prog 103 = true := by kernel_rfl
/-! ## renaming and reordering -/
def mm (e : List (Int × Int)) : List (Int × Value) := e.map fun q => (q.1, .int .i64 q.2)
def tof (e : List (Int × Int)) (x : Int) : Int := match e with
  | [] => 0
  | q :: e => if x = q.1 then q.2 else tof e x
theorem mget_mm (e : List (Int × Int)) (x : Int) : (mget (mm e) x).getD (.int .i64 0) = .int .i64 (tof e x) := by
  induction e with
  | nil => rfl
  | cons q e ih =>
    show (if x = q.1 then some (Value.int .i64 q.2) else mget (mm e) x).getD _ = _
    unfold tof
    split
    · rfl
    · exact ih
theorem tof_mem {e : List (Int × Int)} {x : Int} : (∃ q, q ∈ e ∧ tof e x = q.2) ∨ tof e x = 0 := by
  induction e with
  | nil => exact .inr rfl
  | cons q e ih =>
    unfold tof
    split
    · exact .inl ⟨q, List.mem_cons_self, rfl⟩
    · rcases ih with ⟨p, hp, h⟩ | h
      · exact .inl ⟨p, List.mem_cons_of_mem _ hp, h⟩
      · exact .inr h
def chT (f : Int → Int) (t : Tm) : Tm := if t.k = 0 then { t with v := f t.v } else t
def chL (f : Int → Int) (l : Lt) : Lt := { l with a := l.a.map (chT f) }
def pickL {α : Type} (l : List α) (od : List Int) : List α := od.filterMap fun i => l[i.toNat]?
def rewr (r : Ru) (od : List Int) (f : Int → Int) : Ru := ⟨r.p, r.a.map (chT f), (pickL r.b od).map (chL f)⟩
theorem chT_ok {f : Int → Int} (hf : ∀ x, I64 (f x)) {t : Tm} (h : t.ok) : (chT f t).ok := by
  unfold chT; split
  · exact ⟨h.k, hf _, h.i, h.s⟩
  · exact h
theorem chT_1 {f : Int → Int} {t : Tm} (h : t.k = 0) : chT f t = { t with v := f t.v } := if_pos h
theorem chT_0 {f : Int → Int} {t : Tm} (h : ¬ t.k = 0) : chT f t = t := if_neg h
theorem take_map_snoc {α β : Type} {f : α → β} {l : List α} {i : Nat} {x : α} (h : l[i]? = some x) : (l.take (i + 1)).map f = (l.take i).map f ++ [f x] := by
  rw [List.take_add_one, h, List.map_append]; rfl
theorem pick_snoc {α : Type} {l : List α} {od : List Int} {i : Nat} {x : Int} {y : α} (h : od[i]? = some x) (h2 : l[x.toNat]? = some y) : pickL l (od.take (i + 1)) = pickL l (od.take i) ++ [y] := by
  unfold pickL
  rw [List.take_add_one, h, List.filterMap_append]
  simp [h2]
theorem pick_len {α : Type} (l : List α) (od : List Int) : (pickL l od).length ≤ od.length := List.length_filterMap_le _ _
theorem mput_new {κ : Type} [DecidableEq κ] {l : List (κ × Value)} {x : κ} {v : Value} (h : x ∉ l.map Prod.fst) : mput l x v = l ++ [(x, v)] := by
  induction l with
  | nil => rfl
  | cons p l ih =>
    rw [List.map_cons, List.mem_cons, not_or] at h
    unfold mput
    rw [if_neg h.1, ih h.2]; rfl
theorem mput_mm {e : List (Int × Int)} {x n : Int} (h : x ∉ e.map Prod.fst) : mput (mm e) x (.int .i64 n) = mm (e ++ [(x, n)]) := by
  rw [mput_new (by unfold mm; rw [List.map_map]; exact h)]
  unfold mm; rw [List.map_append]; rfl
theorem nvs_nodup {vs : List Int} (h : vs.Nodup) : ∀ ts : List Tm, (nvs vs ts).Nodup
  | [] => h
  | t :: ts => by
    refine nvs_nodup (vs := nvS vs t) ?_ ts
    unfold nvS; split
    · rename_i hc
      rw [List.nodup_append]
      exact ⟨h, by simp, fun a ha b hb e => by rw [List.mem_singleton] at hb; rw [e, hb] at ha; exact hc.2 ha⟩
    · exact h
theorem lvars_nodup {vs : List Int} (h : vs.Nodup) : ∀ ls : List Lt, (lvars vs ls).Nodup
  | [] => h
  | l :: ls => lvars_nodup (nvs_nodup h l.a) ls
theorem vars_nodup (r : Ru) : (vars r).Nodup := lvars_nodup (nvs_nodup List.nodup_nil _) _
/-- how a variant renames -/
def vmap (vs ks : List Int) (b s : Int) (i : Nat) : List (Int × Int) := ((vs.zip ks).take i).map fun q => (q.1, b + s * q.2)
theorem vmap_snoc {vs ks : List Int} {b s : Int} {i : Nat} {x k : Int} (h1 : vs[i]? = some x) (h2 : ks[i]? = some k) : vmap vs ks b s (i + 1) = vmap vs ks b s i ++ [(x, b + s * k)] := by
  unfold vmap
  rw [take_map_snoc (x := (x, k))]
  rw [List.getElem?_zip_eq_some]; exact ⟨h1, h2⟩
theorem vmap_fst {vs ks : List Int} {b s : Int} {i : Nat} (h : vs.length ≤ ks.length) : (vmap vs ks b s i).map Prod.fst = vs.take i := by
  unfold vmap
  rw [List.map_map]
  have : (Prod.fst ∘ fun q : Int × Int => (q.1, b + s * q.2)) = Prod.fst := rfl
  rw [this, List.map_take, List.map_fst_zip h]
theorem nodup_take_not {l : List Int} (h : l.Nodup) {i : Nat} {x : Int} (hx : l[i]? = some x) : x ∉ l.take i := fun hm => by
  obtain ⟨j, hj, e⟩ := List.getElem_of_mem hm
  rw [List.length_take] at hj
  obtain ⟨hi, e2⟩ := List.getElem?_eq_some_iff.1 hx
  rw [List.getElem_take] at e
  exact List.pairwise_iff_getElem.1 h j i (by omega) hi (by omega) (e.trans e2.symm)
theorem tof_zip : ∀ {vs ks : List Int} {b s : Int} {i : Nat} {x k : Int}, vs.Nodup → vs[i]? = some x → ks[i]? = some k → tof ((vs.zip ks).map fun q => (q.1, b + s * q.2)) x = b + s * k
  | [], _, _, _, _, _, _, _, h, _ => by simp at h
  | v :: vs, [], _, _, _, _, _, _, _, h => by simp at h
  | v :: vs, k' :: ks, b, s, i, x, k, hn, h1, h2 => by
    show (if x = v then b + s * k' else tof ((vs.zip ks).map fun q => (q.1, b + s * q.2)) x) = _
    cases i with
    | zero =>
      simp at h1 h2
      rw [if_pos h1.symm, h2]
    | succ i =>
      simp at h1 h2
      have hx := List.mem_of_getElem? h1
      rw [if_neg (fun e => (List.nodup_cons.1 hn).1 (by rw [← e]; exact hx))]
      exact tof_zip (List.nodup_cons.1 hn).2 h1 h2
/-- what a variant is: renamed one to one, reordered -/
def Vrt (r : Ru) (r' : Ru) : Prop := ∃ (od : List Int) (f : Int → Int), od.Perm (ints r.b.length) ∧ (∀ x y, x ∈ vars r → y ∈ vars r → f x = f y → x = y) ∧ (∀ x, 0 ≤ f x) ∧ r' = rewr r od f
structure RW where
  i : Nat
  ls : List LV
  v : Value
  E : List (Nat × Obj)
def RW.T (s : RW) : List (Nat × Obj) := s.E ++ s.ls.flatMap LV.E


set_option maxHeartbeats 4000000 in
theorem chg_spec (k5 mb : Nat) (e : List (Int × Int)) (he : ∀ x, I64 (tof e x)) (ts : List Tm) (p1 : Option Addr) (c1 : Nat) (E1 : List (Nat × Obj)) (h1 : Ags (.slice p1 ts.length c1) ts E1) : SpK Tryz.prog 83 #[.slice p1 ts.length c1, .pointer (some ⟨k5, 0, none⟩)] (fun w => w.heap[k5]? = some (C [.map (some mb)] 103) ∧ w.heap[mb]? = some (MO (kInt .i64) (mm e)) ∧ Mem E1 w) [] (fun v F' => ∃ p c, v = .slice p (ts.map (chT (tof e))).length c ∧ Ags (.slice p (ts.map (chT (tof e))).length c) (ts.map (chT (tof e))) F') := by
  refine f_enter (args := [.slice p1 ts.length c1, .pointer (some ⟨k5, 0, none⟩)]) Tryz.func83 rfl Tryz.ntmps83 rfl ?_
  intro w0 w a hpre hl hh
  have hl1 := h1.len
  obtain ⟨hk5, hmb, hE1⟩ := hpre
  simp only [slotsFrom, Nat.reduceAdd] at hl
  refine c_seq ?_
  refine c_region ?_
  refine wl (wl_val hl rfl trivial (r_assign hl rfl) ?_)
  clear hl a; intro a hl
  refine w_nil ?_
  have hl2 := hl.add (t := 0) (hl.add (t := 1) (hl.nil) rfl) rfl; clear hl; have hl := hl2; clear hl2
  refine then_normal ?_
  refine c_seq ?_
  refine c_region ?_
  refine wl (w_buildSlice0 hl hh rfl trivial app42 ?_)
  clear hl hh a w; intro k7 a w hl hh
  refine wl (wl_val hl rfl trivial (r_assign hl rfl) ?_)
  clear hl a; intro a hl
  refine w_nil ?_
  have hl2 := hl.add (t := 0) (hl.add (t := 1) (hl.add (t := 4) (hl.nil) rfl) rfl) rfl; clear hl; have hl := hl2; clear hl2
  refine then_normal ?_
  refine c_seq ?_
  refine c_seq ?_
  refine c_region ?_
  refine wl (wl_val hl rfl trivial (r_move hl rfl) ?_)
  clear hl a; intro a hl
  refine wl (wl_val hl rfl trivial (r_lenS hl rfl slc42) ?_)
  clear hl a; intro a hl
  refine wl (wl_val hl rfl trivial (r_move hl rfl) ?_)
  clear hl a; intro a hl
  refine w_nil ?_
  have hl2 := hl.add (t := 1) (hl.add (t := 4) (hl.add (t := 8) (hl.add (t := 9) (hl.add (t := 10) (hl.nil) rfl) rfl) rfl) rfl) rfl; clear hl; have hl := hl2; clear hl2
  refine then_normal ?_
  refine wp_block ?_
  obtain ⟨KS0, hKS0, hk⟩ := (hl.add (t := 1) (hl.add (t := 8) (hl.add (t := 9) (hl.nil) rfl) rfl) rfl).name
  obtain ⟨HS0, hHS0, hh2⟩ := hh.nameT (A := []) (U := [(k7, C [] 54)]) ((by repeat (first | exact keeps_nil | exact keeps_self | exact keeps_swap | apply keeps_mv)))
  refine c_loop (α := VS) (fun s => ts.length - s.i) (fun s a w => (s.i ≤ ts.length ∧ Row s.v ((ts.take s.i).map (chT (tof e))).length (fl tmc ((ts.take s.i).map (chT (tof e)))) 4 54 s.E) ∧ Sl 28 ([(10, .int .i64 (s.i : Int)), (4, s.v)] ++ KS0) a ∧ Has _ w0 ([] ++ (HS0 ++ s.E)) w) ⟨0, .slice (some ⟨k7, 0, none⟩) 0 0, [(k7, C [] 54)]⟩ ⟨⟨Nat.zero_le _, buildN_row⟩, hl.addE (t := 10) (hl.addE (t := 4) (hk) rfl (by first | rfl)) rfl (by first | rfl), hh2⟩ ?_
  clear hk hh2 hl hh a w
  intro s a w hI
  obtain ⟨⟨hi, hrow⟩, hl, hh⟩ := hI
  subst hKS0; subst hHS0
  simp only [List.cons_append, List.nil_append, List.append_nil] at hl hh
  have hnl : ((ts.take s.i).map (chT (tof e))).length ≤ 65536 := by rw [List.length_map, List.length_take]; omega
  refine c_seq ?_
  refine c_region ?_
  refine wl (wl_val hl rfl trivial (r_lss hl rfl rfl) ?_)
  clear hl a; intro a hl
  refine w_nil ?_
  have hl2 := hl.add (t := 1) (hl.add (t := 4) (hl.add (t := 8) (hl.add (t := 9) (hl.add (t := 10) (hl.add (t := 11) (hl.nil) rfl) rfl) rfl) rfl) rfl) rfl; clear hl; have hl := hl2; clear hl2
  refine then_normal ?_
  refine c_seq ?_
  refine c_cond hl rfl ?_ ?_
  · intro hc0
    try simp only [decide_eq_true_eq, decide_eq_false_iff_not, Bool.not_eq_true', Bool.not_eq_false', Bool.not_eq_true, Bool.not_eq_false, Bool.and_eq_true, Bool.or_eq_true, Bool.and_eq_false_iff, Bool.or_eq_false_iff, Bool.not_not, ne_eq, Int.not_lt, Int.not_le, Decidable.not_not, beq_iff_eq, bne_iff_ne] at hc0
    obtain ⟨x, hx⟩ : ∃ x, ts[s.i]? = some x := ⟨_, List.getElem?_eq_getElem (by omega)⟩
    obtain ⟨b1, j1, hq1, rfl, hm1⟩ := row_mem h1.row (by omega) hE1
    subst hq1
    have hd1 := fl_at tmc_len hx j1
    simp only [tmc] at hd1
    refine wp_skip ?_
    refine then_normal ?_
    refine c_seq ?_
    refine wp_block ?_
    refine c_seq ?_
    refine c_region ?_
    refine wl (wl_val hl rfl trivial (r_indexS hl rfl rfl slc42 (by omega) (by omega) (by first | (simp only [Int.reduceToNat]; rfl) | exact toNat_add1 _ | exact toNat_add2 _ _ | exact toNat_emod _ _ | exact Int.toNat_natCast _ | rfl)) ?_)
    clear hl a; intro a hl
    first | refine wl (w_loadA hl hh rfl trivial agg54 rfl (by repeat (first | exact find_head | apply find_tail)) (by first | (simp only [List.getElem?_cons_zero, List.getElem?_cons_succ, Value.cells, List.take_zero, List.take_succ_cons, List.take_nil, List.drop_zero, List.drop_succ_cons, List.drop_nil, List.length_cons, List.length_nil, List.cons_append, List.nil_append, List.append_nil, Nat.zero_add, Nat.add_zero, Nat.reduceAdd, Nat.reduceBEq, Nat.reduceEqDiff, Nat.ble, BEq.rfl, Bool.and_true, Bool.and_self, cond_true, beq_self_eq_true]; rfl)) (by first | rfl | (simp; done)) ?_) | refine wl (w_loadRA hl hh rfl trivial agg54 rfl hm1 (by simp) hd1 rfl ?_)
    clear hl a; intro a hl
    refine wl (w_alloc hl hh rfl trivial zero54 rfl ?_)
    clear hl hh a w; intro k6 a w hl hh
    refine wl (w_storeA hl hh trivial agg54 rfl rfl (by repeat (first | exact find_head | apply find_tail)) (by first | rfl | (simp; done)) (by first | (simp; done) | (simp; omega)) (by first | rfl | (simp; done) | rfl) (by first | (simp only [setL, List.getElem?_cons_zero, List.getElem?_cons_succ, Value.cells, List.take_zero, List.take_succ_cons, List.take_nil, List.drop_zero, List.drop_succ_cons, List.drop_nil, List.length_cons, List.length_nil, List.cons_append, List.nil_append, List.append_nil, Nat.zero_add, Nat.add_zero, Nat.reduceAdd, Nat.reduceBEq, Nat.reduceEqDiff, Nat.ble, BEq.rfl, Bool.and_true, Bool.and_self, cond_true, beq_self_eq_true]; rfl)) ?_)
    clear hh w; intro w hh
    refine w_nil ?_
    have hl2 := hl.add (t := 1) (hl.add (t := 4) (hl.add (t := 6) (hl.add (t := 8) (hl.add (t := 9) (hl.add (t := 10) (hl.nil) rfl) rfl) rfl) rfl) rfl) rfl; clear hl; have hl := hl2; clear hl2
    refine then_normal ?_
    refine c_seq ?_
    refine c_seq ?_
    refine c_region ?_
    refine wl (wl_val hl rfl trivial (r_field hl rfl fld54_0) ?_)
    clear hl a; intro a hl
    first | refine wl (w_load hl hh rfl trivial one52 rfl (by repeat (first | exact find_head | apply find_tail)) (by first | rfl) ?_) | refine wl (w_loadR hl hh rfl trivial one52 rfl hk5 (by simp) rfl ?_)
    clear hl a; intro a hl
    refine wl (wl_val hl rfl trivial (r_eql hl rfl rfl) ?_)
    clear hl a; intro a hl
    refine w_nil ?_
    have hl2 := hl.add (t := 1) (hl.add (t := 4) (hl.add (t := 6) (hl.add (t := 8) (hl.add (t := 9) (hl.add (t := 10) (hl.add (t := 16) (hl.nil) rfl) rfl) rfl) rfl) rfl) rfl) rfl; clear hl; have hl := hl2; clear hl2
    refine then_normal ?_
    refine c_cond hl rfl ?_ ?_
    · intro hc1
      try simp only [decide_eq_true_eq, decide_eq_false_iff_not, Bool.not_eq_true', Bool.not_eq_false', Bool.not_eq_true, Bool.not_eq_false, Bool.and_eq_true, Bool.or_eq_true, Bool.and_eq_false_iff, Bool.or_eq_false_iff, Bool.not_not, ne_eq, Int.not_lt, Int.not_le, Decidable.not_not, beq_iff_eq, bne_iff_ne] at hc1
      refine c_region ?_
      first | refine wl (w_load hl hh rfl trivial one103 rfl (by repeat (first | exact find_head | apply find_tail)) (by first | rfl) ?_) | refine wl (w_loadR hl hh rfl trivial one103 rfl hk5 (by simp) rfl ?_)
      clear hl a; intro a hl
      refine wl (wl_val hl rfl trivial (r_field hl rfl fld54_1) ?_)
      clear hl a; intro a hl
      first | refine wl (w_load hl hh rfl trivial one3 rfl (by repeat (first | exact find_head | apply find_tail)) (by first | rfl) ?_) | refine wl (w_loadR hl hh rfl trivial one3 rfl hk5 (by simp) rfl ?_)
      clear hl a; intro a hl
      refine wl (wl_val hl rfl trivial (r_lookup (keyInt Tryz.underlying3) Tryz.underlying103 zero3 hl rfl rfl (heap_keep hh hmb)) ?_)
      clear hl a; intro a hl
      rw [mget_mm] at hl
      refine wl (wl_val hl rfl trivial (r_field hl rfl fld54_1) ?_)
      clear hl a; intro a hl
      refine wl (w_store hl hh trivial one3 rfl rfl (by repeat (first | exact find_head | apply find_tail)) (by first | (simp; done) | (simp; omega)) (by first | rfl | assumption | (apply Row.one; assumption)) (by first | (simp only [setL, List.getElem?_cons_zero, List.getElem?_cons_succ, Value.cells, List.take_zero, List.take_succ_cons, List.take_nil, List.drop_zero, List.drop_succ_cons, List.drop_nil, List.length_cons, List.length_nil, List.cons_append, List.nil_append, List.append_nil, Nat.zero_add, Nat.add_zero, Nat.reduceAdd, Nat.reduceBEq, Nat.reduceEqDiff, Nat.ble, BEq.rfl, Bool.and_true, Bool.and_self, cond_true, beq_self_eq_true]; rfl)) ?_)
      clear hh w; intro w hh
      refine w_nil ?_
      have hl2 := hl.add (t := 1) (hl.add (t := 4) (hl.add (t := 6) (hl.add (t := 8) (hl.add (t := 9) (hl.add (t := 10) (hl.nil) rfl) rfl) rfl) rfl) rfl) rfl; clear hl; have hl := hl2; clear hl2
      refine then_normal ?_
      refine c_region ?_
      refine wl (wl_val hl rfl trivial (r_move hl rfl) ?_)
      clear hl a; intro a hl
      first | refine wl (w_loadA hl hh rfl trivial agg54 rfl (by repeat (first | exact find_head | apply find_tail)) (by first | (simp only [List.getElem?_cons_zero, List.getElem?_cons_succ, Value.cells, List.take_zero, List.take_succ_cons, List.take_nil, List.drop_zero, List.drop_succ_cons, List.drop_nil, List.length_cons, List.length_nil, List.cons_append, List.nil_append, List.append_nil, Nat.zero_add, Nat.add_zero, Nat.reduceAdd, Nat.reduceBEq, Nat.reduceEqDiff, Nat.ble, BEq.rfl, Bool.and_true, Bool.and_self, cond_true, beq_self_eq_true]; rfl)) (by first | rfl | (simp; done)) ?_) | refine wl (w_loadRA hl hh rfl trivial agg54 rfl hm1 (by simp) hd1 rfl ?_)
      clear hl a; intro a hl
      refine wl (w_buildSlice hl hh rfl trivial app42 zero54 rfl rfl rfl rfl rfl (by simp only [fillL, arrPl, List.range_succ, List.range_zero, List.map_cons, List.map_nil, List.map_append, List.nil_append, List.replicate_succ, List.replicate_zero, List.flatten_cons, List.flatten_nil, Nat.zero_mul, Nat.mul_one, Nat.one_mul, Nat.reduceMul, setL, List.getElem?_cons_zero, List.getElem?_cons_succ, Value.cells, List.take_zero, List.take_succ_cons, List.take_nil, List.drop_zero, List.drop_succ_cons, List.drop_nil, List.length_cons, List.length_nil, List.cons_append, List.nil_append, List.append_nil, Nat.zero_add, Nat.add_zero, Nat.reduceAdd, Nat.reduceBEq, Nat.reduceEqDiff, Nat.ble, BEq.rfl, Bool.and_true, Bool.and_self, cond_true, beq_self_eq_true]; rfl) ?_)
      clear hl hh a w; intro k24 a w hl hh
      refine wl (w_append (news := (tmc (chT (tof e) x))) hl hh rfl trivial app42 rfl rfl rfl hrow (by repeat (first | exact keeps_nil | apply keeps_cons (by repeat (first | exact find_head | apply find_tail)) (by first  | rfl) | exact keeps_self | exact keeps_left | exact keeps_right | exact keeps_swap | apply keeps_mv)) (hh.mem _ _ (Find.mem (by repeat (first | exact find_head | apply find_tail)))) (by first | (rw [chT_1 (by assumption)]; rfl) | (rw [chT_0 (by assumption)]; rfl)) rfl (tmc_one _) (by omega) (by omega) (by omega) (by decide) ?_)
      clear hl hh a w; intro rv2 E2 a w hR2 hl hh
      have hh3 := hh.comm; clear hh; have hh := hh3; clear hh3
      simp only [List.cons_append, List.nil_append] at hh
      refine wl (wl_val hl rfl trivial (r_assign hl rfl) ?_)
      clear hl a; intro a hl
      refine w_nil ?_
      have hl2 := hl.add (t := 1) (hl.add (t := 4) (hl.add (t := 8) (hl.add (t := 9) (hl.add (t := 10) (hl.nil) rfl) rfl) rfl) rfl) rfl; clear hl; have hl := hl2; clear hl2
      refine blk_normal ?_
      refine then_normal ?_
      refine c_region ?_
      first | refine wl (wl_val hl rfl trivial (r_add hl rfl rfl (by simp only [Fits]; omega)) ?_) | refine wl (wl_val hl rfl trivial (r_addW hl rfl rfl) ?_)
      clear hl a; intro a hl
      refine wl (wl_val hl rfl trivial (r_move hl rfl) ?_)
      clear hl a; intro a hl
      refine w_nil ?_
      have hl2 := hl.add (t := 1) (hl.add (t := 4) (hl.add (t := 8) (hl.add (t := 9) (hl.add (t := 10) (hl.nil) rfl) rfl) rfl) rfl) rfl; clear hl; have hl := hl2; clear hl2
      refine then_normal ?_
      refine ⟨⟨s.i + 1, rv2, E2⟩, (by simp only; omega), ⟨by simp only; omega, by simp only; rw [take_map_snoc hx, List.length_append, fl_app, fl_sing]; exact hR2⟩, hl.addE (t := 10) (hl.addE (t := 4) (hl.addE (t := 1) (hl.addE (t := 8) (hl.addE (t := 9) (hl.nil) rfl (by first | rfl | exact congrArg (Value.int .i64) (show (s.i : Int) + 1 = ((s.i + 1 : Nat) : Int) by omega))) rfl (by first | rfl | exact congrArg (Value.int .i64) (show (s.i : Int) + 1 = ((s.i + 1 : Nat) : Int) by omega))) rfl (by first | rfl | exact congrArg (Value.int .i64) (show (s.i : Int) + 1 = ((s.i + 1 : Nat) : Int) by omega))) rfl (by first | rfl | exact congrArg (Value.int .i64) (show (s.i : Int) + 1 = ((s.i + 1 : Nat) : Int) by omega))) rfl (by first | rfl | exact congrArg (Value.int .i64) (show (s.i : Int) + 1 = ((s.i + 1 : Nat) : Int) by omega)), hh.keep (by repeat (first | exact keeps_nil | apply keeps_cons (by repeat (first | exact find_head | apply find_tail)) (by first  | rfl) | exact keeps_self | exact keeps_left | exact keeps_right | exact keeps_swap | apply keeps_mv))⟩
    · intro hc1
      try simp only [decide_eq_true_eq, decide_eq_false_iff_not, Bool.not_eq_true', Bool.not_eq_false', Bool.not_eq_true, Bool.not_eq_false, Bool.and_eq_true, Bool.or_eq_true, Bool.and_eq_false_iff, Bool.or_eq_false_iff, Bool.not_not, ne_eq, Int.not_lt, Int.not_le, Decidable.not_not, beq_iff_eq, bne_iff_ne] at hc1
      refine wp_skip ?_
      refine then_normal ?_
      refine c_region ?_
      refine wl (wl_val hl rfl trivial (r_move hl rfl) ?_)
      clear hl a; intro a hl
      first | refine wl (w_loadA hl hh rfl trivial agg54 rfl (by repeat (first | exact find_head | apply find_tail)) (by first | (simp only [List.getElem?_cons_zero, List.getElem?_cons_succ, Value.cells, List.take_zero, List.take_succ_cons, List.take_nil, List.drop_zero, List.drop_succ_cons, List.drop_nil, List.length_cons, List.length_nil, List.cons_append, List.nil_append, List.append_nil, Nat.zero_add, Nat.add_zero, Nat.reduceAdd, Nat.reduceBEq, Nat.reduceEqDiff, Nat.ble, BEq.rfl, Bool.and_true, Bool.and_self, cond_true, beq_self_eq_true]; rfl)) (by first | rfl | (simp; done)) ?_) | refine wl (w_loadRA hl hh rfl trivial agg54 rfl hm1 (by simp) hd1 rfl ?_)
      clear hl a; intro a hl
      refine wl (w_buildSlice hl hh rfl trivial app42 zero54 rfl rfl rfl rfl rfl (by simp only [fillL, arrPl, List.range_succ, List.range_zero, List.map_cons, List.map_nil, List.map_append, List.nil_append, List.replicate_succ, List.replicate_zero, List.flatten_cons, List.flatten_nil, Nat.zero_mul, Nat.mul_one, Nat.one_mul, Nat.reduceMul, setL, List.getElem?_cons_zero, List.getElem?_cons_succ, Value.cells, List.take_zero, List.take_succ_cons, List.take_nil, List.drop_zero, List.drop_succ_cons, List.drop_nil, List.length_cons, List.length_nil, List.cons_append, List.nil_append, List.append_nil, Nat.zero_add, Nat.add_zero, Nat.reduceAdd, Nat.reduceBEq, Nat.reduceEqDiff, Nat.ble, BEq.rfl, Bool.and_true, Bool.and_self, cond_true, beq_self_eq_true]; rfl) ?_)
      clear hl hh a w; intro k24 a w hl hh
      refine wl (w_append (news := (tmc (chT (tof e) x))) hl hh rfl trivial app42 rfl rfl rfl hrow (by repeat (first | exact keeps_nil | apply keeps_cons (by repeat (first | exact find_head | apply find_tail)) (by first  | rfl) | exact keeps_self | exact keeps_left | exact keeps_right | exact keeps_swap | apply keeps_mv)) (hh.mem _ _ (Find.mem (by repeat (first | exact find_head | apply find_tail)))) (by first | (rw [chT_1 (by assumption)]; rfl) | (rw [chT_0 (by assumption)]; rfl)) rfl (tmc_one _) (by omega) (by omega) (by omega) (by decide) ?_)
      clear hl hh a w; intro rv2 E2 a w hR2 hl hh
      have hh3 := hh.comm; clear hh; have hh := hh3; clear hh3
      simp only [List.cons_append, List.nil_append] at hh
      refine wl (wl_val hl rfl trivial (r_assign hl rfl) ?_)
      clear hl a; intro a hl
      refine w_nil ?_
      have hl2 := hl.add (t := 1) (hl.add (t := 4) (hl.add (t := 8) (hl.add (t := 9) (hl.add (t := 10) (hl.nil) rfl) rfl) rfl) rfl) rfl; clear hl; have hl := hl2; clear hl2
      refine blk_normal ?_
      refine then_normal ?_
      refine c_region ?_
      first | refine wl (wl_val hl rfl trivial (r_add hl rfl rfl (by simp only [Fits]; omega)) ?_) | refine wl (wl_val hl rfl trivial (r_addW hl rfl rfl) ?_)
      clear hl a; intro a hl
      refine wl (wl_val hl rfl trivial (r_move hl rfl) ?_)
      clear hl a; intro a hl
      refine w_nil ?_
      have hl2 := hl.add (t := 1) (hl.add (t := 4) (hl.add (t := 8) (hl.add (t := 9) (hl.add (t := 10) (hl.nil) rfl) rfl) rfl) rfl) rfl; clear hl; have hl := hl2; clear hl2
      refine then_normal ?_
      refine ⟨⟨s.i + 1, rv2, E2⟩, (by simp only; omega), ⟨by simp only; omega, by simp only; rw [take_map_snoc hx, List.length_append, fl_app, fl_sing]; exact hR2⟩, hl.addE (t := 10) (hl.addE (t := 4) (hl.addE (t := 1) (hl.addE (t := 8) (hl.addE (t := 9) (hl.nil) rfl (by first | rfl | exact congrArg (Value.int .i64) (show (s.i : Int) + 1 = ((s.i + 1 : Nat) : Int) by omega))) rfl (by first | rfl | exact congrArg (Value.int .i64) (show (s.i : Int) + 1 = ((s.i + 1 : Nat) : Int) by omega))) rfl (by first | rfl | exact congrArg (Value.int .i64) (show (s.i : Int) + 1 = ((s.i + 1 : Nat) : Int) by omega))) rfl (by first | rfl | exact congrArg (Value.int .i64) (show (s.i : Int) + 1 = ((s.i + 1 : Nat) : Int) by omega))) rfl (by first | rfl | exact congrArg (Value.int .i64) (show (s.i : Int) + 1 = ((s.i + 1 : Nat) : Int) by omega)), hh.keep (by repeat (first | exact keeps_nil | apply keeps_cons (by repeat (first | exact find_head | apply find_tail)) (by first  | rfl) | exact keeps_self | exact keeps_left | exact keeps_right | exact keeps_swap | apply keeps_mv))⟩
  · intro hc0
    try simp only [decide_eq_true_eq, decide_eq_false_iff_not, Bool.not_eq_true', Bool.not_eq_false', Bool.not_eq_true, Bool.not_eq_false, Bool.and_eq_true, Bool.or_eq_true, Bool.and_eq_false_iff, Bool.or_eq_false_iff, Bool.not_not, ne_eq, Int.not_lt, Int.not_le, Decidable.not_not, beq_iff_eq, bne_iff_ne] at hc0
    have hie : s.i = ts.length := by omega
    rw [hie, List.take_length] at hrow
    obtain ⟨p9, c9, hv9⟩ := row_val hrow
    rw [hv9] at hl hrow
    refine wp_exit ?_
    refine then_exit ?_
    refine then_exit ?_
    refine blk_exit ?_
    refine then_normal ?_
    refine c_seq ?_
    refine c_region ?_
    refine wl (wl_val hl rfl trivial (r_move hl rfl) ?_)
    clear hl a; intro a hl
    refine wl (wl_val hl rfl trivial (r_assign hl rfl) ?_)
    clear hl a; intro a hl
    refine w_nil ?_
    have hl2 := hl.add (t := 3) (hl.nil) rfl; clear hl; have hl := hl2; clear hl2
    refine then_normal ?_
    refine wp_ret ?_
    refine f_ret1 (F' := s.E) hl hh rfl rfl (by repeat (first | exact keeps_nil | apply keeps_cons (by repeat (first | exact find_head | apply find_tail)) (by first  | rfl) | exact keeps_self | exact keeps_left | exact keeps_right | exact keeps_swap | apply keeps_mv)) ?_
    exact ⟨p9, c9, rfl, ⟨hrow, by rw [List.length_map]; omega, fun t ht => by
      obtain ⟨z, hz, rfl⟩ := List.mem_map.1 ht
      exact chT_ok he (h1.ok z hz)⟩⟩
end Go.Proofs.Qxb6500915aGreatDoor

import Derived.Test.Qxb6500915aGreatDoorT1
import Derived.Test.Qxb6500915aGreatDoorN3
namespace Go.Proofs.Qxb6500915aGreatDoor
open Go.Eng
set_option linter.unusedVariables false
set_option linter.unusedSimpArgs false

/-! ## the model's canonical form, step by step -/
section zc
theorem vars_len {r : RV} (hr : r.ok) : (vars r.ru).length ≤ 4295032832 := by
  have h := vars_bd hr r.ls.length
  rw [List.take_of_length_le (by rw [List.length_map]; exact Nat.le_refl _)] at h
  exact h
def idA (r : Ru) : List (Int × Int) := (vars r).map fun v => (v, v)
theorem idA_snoc {r : Ru} {i : Nat} {v : Int} (h : (vars r)[i]? = some v) : (idA r).take (i + 1) = (idA r).take i ++ [(v, v)] := by
  unfold idA
  rw [List.take_add_one, List.getElem?_map, h]; rfl
theorem idA_new {r : Ru} {i : Nat} {v : Int} (h : (vars r)[i]? = some v) : v ∉ ((idA r).take i).map Prod.fst := by
  unfold idA
  rw [List.map_take, List.map_map]
  have : (vars r).map (Prod.fst ∘ fun v : Int => (v, v)) = vars r := by
    conv => rhs; rw [← List.map_id (vars r)]
    rfl
  rw [this]
  exact nodup_take_not (vars_nodup r) h
theorem tof_id : ∀ {vs : List Int} {x : Int}, x ∈ vs → tof (vs.map fun v => (v, v)) x = x
  | [], _, h => by cases h
  | v :: vs, x, h => by
    show (if x = v then v else tof (vs.map fun v => (v, v)) x) = x
    by_cases e : x = v
    · rw [if_pos e, e]
    · rw [if_neg e]
      exact tof_id ((List.mem_cons.1 h).resolve_left e)
theorem rewr_id {r : Ru} {od : List Int} : rewr r od (tof (idA r)) = ordR r od := by
  have e1 : r.a.map (chT (tof (idA r))) = r.a := by
    conv => rhs; rw [← List.map_id r.a]
    refine List.map_congr_left fun t ht => ?_
    exact (chT_cg (g := id) fun hk => tof_id (var_a ht hk)).trans (chT_id t)
  have e2 : (pickL r.b od).map (chL (tof (idA r))) = pickL r.b od := by
    conv => rhs; rw [← List.map_id (pickL r.b od)]
    refine List.map_congr_left fun l hl => ?_
    obtain ⟨i, _, h2⟩ := List.mem_filterMap.1 hl
    exact (chL_cg (g := id) fun t ht hk => tof_id (var_b (List.mem_of_getElem? h2) ht hk)).trans (chL_id l)
  show (⟨r.p, r.a.map (chT (tof (idA r))), (pickL r.b od).map (chL (tof (idA r)))⟩ : Ru) = ⟨r.p, r.a, pickL r.b od⟩
  rw [e1, e2]
def zpN (vs : List Int) : List (Int × Int) := vs.zip (ints vs.length)
theorem zpN_snoc {vs : List Int} {j : Nat} {v : Int} (h1 : vs[j]? = some v) : (zpN vs).take (j + 1) = (zpN vs).take j ++ [(v, (j : Int))] := by
  have : (zpN vs)[j]? = some (v, (j : Int)) := by unfold zpN; rw [List.getElem?_zip_eq_some]; exact ⟨h1, ints_at (List.getElem?_eq_some_iff.1 h1).1⟩
  rw [List.take_add_one, this]; rfl
theorem zpN_new {vs : List Int} (hn : vs.Nodup) {j : Nat} {v : Int} (h1 : vs[j]? = some v) : v ∉ ((zpN vs).take j).map Prod.fst := by
  unfold zpN
  rw [List.map_take, List.map_fst_zip (by rw [ints_len]; exact Nat.le_refl _)]
  exact nodup_take_not hn h1
theorem zpN_end {vs : List Int} {j : Nat} (h : j = vs.length) : (zpN vs).take j = zpN vs := by
  refine List.take_of_length_le ?_
  unfold zpN
  rw [List.length_zip]; omega
theorem zpN_i64 {vs : List Int} (hl : vs.length ≤ 4611686018427387904) (y : Int) : I64 (tof (zpN vs) y) := by
  rcases tof_mem (e := zpN vs) (x := y) with ⟨q, hq, h⟩ | h
  · rw [h]
    have h1 := mem_ints.1 (List.of_mem_zip hq).2
    exact ⟨by omega, by omega⟩
  · rw [h]; exact ⟨by omega, by omega⟩
theorem idA_i64 {t : RV} (ht : t.ok) (y : Int) : I64 (tof (idA t.ru) y) := by
  rcases tof_mem (e := idA t.ru) (x := y) with ⟨q, hq, h⟩ | h
  · rw [h]
    obtain ⟨v, h1, rfl⟩ := List.mem_map.1 hq
    exact vars_i64 ht _ h1
  · rw [h]; exact ⟨by omega, by omega⟩
structure CMz where
  i : Nat
  q : RV
def RV0 : RV := ⟨⟨#[]⟩, [], none, 0, [], [], none, 0, []⟩
theorem rv0_E : RV0.E = [] := rfl
theorem rv0_ok : RV0.ok := ⟨⟨Row.nil _ _, Nat.zero_le _, fun t h => (by cases h)⟩, Row.nil _ _, fun x h => (by cases h), Nat.zero_le _, e0_len⟩
structure CMI (r : Ru) (z : CMz) : Prop where
  ok : z.q.ok
  n : z.q.ls.length ≤ 64
  e : 0 < z.i → ∃ od, od ∈ ordN r.b.length ∧ z.q.ru = numR r od
  l : 0 < z.i → ∀ od, od ∈ (ordN r.b.length).take z.i → cmpR z.q.ru (numR r od) ≤ 0
theorem CMI.new {r : Ru} {z : CMz} (h : CMI r z) {q : RV} {od : List Int} (hq : q.ok) (hn : q.ls.length ≤ 64) (ho : (ordN r.b.length)[z.i]? = some od) (e : q.ru = numR r od) (hl : z.i = 0 ∨ cmpR q.ru z.q.ru < 0) : CMI r ⟨z.i + 1, q⟩ := by
  refine ⟨hq, hn, fun _ => ⟨od, List.mem_of_getElem? ho, e⟩, fun _ o h9 => ?_⟩
  rw [List.take_add_one, ho] at h9
  rcases List.mem_append.1 h9 with h8 | h8
  · rcases hl with h7 | h7
    · rw [h7] at h8; cases h8
    · have hz : 0 < z.i := Nat.pos_of_ne_zero fun e => by rw [e] at h8; cases h8
      exact poR.tr _ _ _ (Int.le_of_lt h7) (h.l hz o h8)
  · have h8 : o = od := by simpa using h8
    rw [h8, ← e]
    show cmpR q.ru q.ru ≤ 0
    rw [cmpR_self]; exact Int.le_refl 0
theorem CMI.keep {r : Ru} {z : CMz} (h : CMI r z) {q : RV} {od : List Int} (ho : (ordN r.b.length)[z.i]? = some od) (e : q.ru = numR r od) (hz : ¬ z.i = 0) (hl : ¬ cmpR q.ru z.q.ru < 0) : CMI r ⟨z.i + 1, z.q⟩ := by
  have hz' : 0 < z.i := Nat.pos_of_ne_zero hz
  refine ⟨h.ok, h.n, fun _ => h.e hz', fun _ o h9 => ?_⟩
  rw [List.take_add_one, ho] at h9
  rcases List.mem_append.1 h9 with h8 | h8
  · exact h.l hz' o h8
  · have h8 : o = od := by simpa using h8
    rw [h8, ← e]
    have := poR.sw q.ru z.q.ru
    show cmpR z.q.ru q.ru ≤ 0
    omega
theorem ord_ne (n : Nat) : 0 < (ordN n).length := List.length_pos_of_mem ((mem_ord n (ints n)).2 (List.Perm.refl _))
theorem CMI.fin {r q : Ru} {z : CMz} (h : CMI r z) (hz : z.i = (ordN r.b.length).length) (h64 : r.b.length ≤ 64) (hc : canR r = some q) : z.q.ru = q := by
  have hp : 0 < z.i := by rw [hz]; exact ord_ne _
  obtain ⟨od, h1, h2⟩ := h.e hp
  refine canM_eq h64 hc ((mem_ord _ _).1 h1) h2 fun od' h3 => ?_
  refine h.l hp od' ?_
  rw [hz, List.take_length]
  exact (mem_ord _ _).2 h3
end zc


attribute [local irreducible] RV.E

set_option maxHeartbeats 4000000 in
theorem ident_spec (r : RV) (hr : r.ok) : SpK Tryz.prog 70 #[.agg ⟨[.string r.p, .slice r.hp r.a.length r.hc, .slice r.bp r.ls.length r.bc]⟩] (Mem r.E) [] (fun v F' => ∃ mb, v = .map (some mb) ∧ F' = [(mb, MO (kInt .i64) (mm (idA r.ru)))]) := by
  refine f_enter (args := [.agg ⟨[.string r.p, .slice r.hp r.a.length r.hc, .slice r.bp r.ls.length r.bc]⟩]) Tryz.func70 rfl Tryz.ntmps70 rfl ?_
  intro w0 w a hpre hl hh
  have hnb := vars_len hr
  simp only [slotsFrom, Nat.reduceAdd] at hl
  refine c_seq ?_
  refine c_region ?_
  refine wl (w_box hl hh rfl trivial rfl rfl ?_)
  clear hl hh a w; intro k1 a w hl hh
  refine wl (wl_val hl rfl trivial (r_assign hl rfl) ?_)
  clear hl a; intro a hl
  refine w_nil ?_
  have hl2 := hl.add (t := 1) (hl.nil) rfl; clear hl; have hl := hl2; clear hl2
  refine then_normal ?_
  refine c_seq ?_
  refine c_region ?_
  refine wl (w_makeMap (kInt .i64) hl hh rfl trivial ?_)
  clear hl hh a w; intro k6 a w hl hh
  refine wl (wl_val hl rfl trivial (r_assign hl rfl) ?_)
  clear hl a; intro a hl
  refine w_nil ?_
  have hl2 := hl.add (t := 1) (hl.add (t := 3) (hl.nil) rfl) rfl; clear hl; have hl := hl2; clear hl2
  refine then_normal ?_
  refine c_seq ?_
  refine c_seq ?_
  refine c_region ?_
  refine wl (w_loadA hl hh rfl trivial agg57 rfl (by repeat (first | exact find_head | apply find_tail | apply find_skip)) (by first | (simp only [List.getElem?_cons_zero, List.getElem?_cons_succ, Value.cells, List.take_zero, List.take_succ_cons, List.take_nil, List.drop_zero, List.drop_succ_cons, List.drop_nil, List.length_cons, List.length_nil, List.cons_append, List.nil_append, List.append_nil, Nat.zero_add, Nat.add_zero, Nat.reduceAdd, Nat.reduceBEq, Nat.reduceEqDiff, Nat.ble, BEq.rfl, Bool.and_true, Bool.and_self, cond_true, beq_self_eq_true]; rfl)) (by first | rfl | (simp; done)) ?_)
  clear hl a; intro a hl
  refine wl (w_call hl hh rfl trivial rfl cal12 rfl (vars_spec r hr) (by repeat (first | exact keeps_nil | apply keeps_cons (by repeat (first | exact find_head | apply find_tail | apply find_skip)) (by first  | rfl) | exact keeps_self | exact keeps_left | apply keeps_app | apply keeps_mv | apply keeps_skip)) (mem_keep hh hpre) ?_)
  clear hl hh a w; intro vc Fc a w hR hl hh
  obtain ⟨vp, vc, rfl, hRv⟩ := hR
  try simp only [List.cons_append, List.nil_append, List.append_assoc, List.append_nil] at hh
  generalize Fc = Ev at hh hRv
  replace hh := hh.comm
  simp only [List.cons_append, List.nil_append, List.append_nil, List.append_assoc] at hh
  refine wl (wl_val hl rfl trivial (r_lenS hl rfl slc58) ?_)
  clear hl a; intro a hl
  refine wl (wl_val hl rfl trivial (r_move hl rfl) ?_)
  clear hl a; intro a hl
  refine w_nil ?_
  have hl2 := hl.add (t := 3) (hl.add (t := 8) (hl.add (t := 9) (hl.add (t := 10) (hl.nil) rfl) rfl) rfl) rfl; clear hl; have hl := hl2; clear hl2
  refine then_normal ?_
  refine wp_block ?_
  obtain ⟨KS0, hKS0, hk⟩ := (hl.add (t := 3) (hl.add (t := 8) (hl.add (t := 9) (hl.nil) rfl) rfl) rfl).name
  obtain ⟨HS0, hHS0, hh2⟩ := hh.name (keeps_cons (b := k6) (o' := MO (kInt .i64) []) (by repeat (first | exact find_head | apply find_tail | apply find_skip)) (by first | rfl) (keeps_nil))
  refine c_loop (α := Nat) (fun i => (vars r.ru).length - i) (fun i a w => (i ≤ (vars r.ru).length) ∧ Sl 19 ([(10, .int .i64 (i : Int))] ++ KS0) a ∧ Has _ w0 ([(k6, MO (kInt .i64) (mm ((idA r.ru).take i)))] ++ HS0) w) 0 ⟨Nat.zero_le _, hl.addE (t := 10) (hk) rfl (by first | rfl), hh2⟩ ?_
  clear hk hh2 hl hh a w
  intro i a w hI
  obtain ⟨hi, hl, hh⟩ := hI
  subst hKS0; subst hHS0
  simp only [List.cons_append, List.nil_append, List.append_nil, List.append_assoc] at hl hh
  refine c_seq ?_
  refine c_region ?_
  refine wl (wl_val hl rfl trivial (r_lss hl rfl rfl) ?_)
  clear hl a; intro a hl
  refine w_nil ?_
  have hl2 := hl.add (t := 3) (hl.add (t := 8) (hl.add (t := 9) (hl.add (t := 10) (hl.add (t := 11) (hl.nil) rfl) rfl) rfl) rfl) rfl; clear hl; have hl := hl2; clear hl2
  refine then_normal ?_
  refine c_seq ?_
  refine c_cond hl rfl ?_ ?_
  · intro hc0
    try simp only [decide_eq_true_eq, decide_eq_false_iff_not, Bool.not_eq_true', Bool.not_eq_false', Bool.not_eq_true, Bool.not_eq_false, Bool.and_eq_true, Bool.or_eq_true, Bool.and_eq_false_iff, Bool.or_eq_false_iff, Bool.not_not, ne_eq, Int.not_lt, Int.not_le, Decidable.not_not, beq_iff_eq, bne_iff_ne] at hc0
    obtain ⟨v, hvv⟩ : ∃ v, (vars r.ru)[i]? = some v := ⟨_, List.getElem?_eq_getElem (by omega)⟩
    have hnew := idA_new hvv
    obtain ⟨b2, j2, hq2, _, _, hq2E⟩ := row_pos hRv (by omega)
    have hb2m : (b2, C (fl iI (vars r.ru) ++ j2) 3) ∈ Ev := by rw [hq2E]; exact List.mem_singleton.2 rfl
    rw [hq2] at hl
    have hd2 := fl_cell1 (f := iI) (g := .int .i64) (fun _ => rfl) hvv j2
    refine wp_skip ?_
    refine then_normal ?_
    refine c_seq ?_
    refine wp_block ?_
    refine c_seq ?_
    refine c_region ?_
    refine wl (wl_val hl rfl trivial (r_indexS hl rfl rfl slc58 (by omega) (by omega) (by first | (simp only [Int.reduceToNat]; rfl) | exact toNat_add1 _ | exact toNat_add2 _ _ | exact toNat_emod _ _ | exact Int.toNat_natCast _ | rfl)) ?_)
    clear hl a; intro a hl
    first | refine wl (w_load hl hh rfl trivial one3 rfl (by repeat (first | exact find_head | apply find_tail | apply find_skip)) (by first | rfl) ?_) | refine wl (wl_val hl rfl trivial (r_load hl rfl one3 (hh.mem _ _ (by repeat (first | exact hb2m | exact List.mem_append_left _ hb2m | apply List.mem_cons_of_mem | apply List.mem_append_right))) (List.getElem?_toArray.trans hd2)) ?_)
    clear hl a; intro a hl
    refine wl (wl_val hl rfl trivial (r_assign hl rfl) ?_)
    clear hl a; intro a hl
    refine w_nil ?_
    have hl2 := hl.add (t := 3) (hl.add (t := 5) (hl.add (t := 8) (hl.add (t := 9) (hl.add (t := 10) (hl.nil) rfl) rfl) rfl) rfl) rfl; clear hl; have hl := hl2; clear hl2
    refine then_normal ?_
    refine c_region ?_
    refine wl (wl_val hl rfl trivial (r_move hl rfl) ?_)
    clear hl a; intro a hl
    refine wl (wl_val hl rfl trivial (r_move hl rfl) ?_)
    clear hl a; intro a hl
    refine wl (wl_val hl rfl trivial (r_move hl rfl) ?_)
    clear hl a; intro a hl
    refine wl (w_mapUpdate (keyInt Tryz.underlying3) Tryz.underlying103 hl hh trivial rfl rfl rfl (by repeat (first | exact find_head | apply find_tail | apply find_skip)) ?_)
    clear hh w; intro w hh
    refine w_nil ?_
    have hl2 := hl.add (t := 3) (hl.add (t := 8) (hl.add (t := 9) (hl.add (t := 10) (hl.nil) rfl) rfl) rfl) rfl; clear hl; have hl := hl2; clear hl2
    rw [mput_mm hnew, ← idA_snoc hvv] at hh
    refine blk_normal ?_
    refine then_normal ?_
    refine c_region ?_
    first | refine wl (wl_val hl rfl trivial (r_add hl rfl rfl (by simp only [Fits]; omega)) ?_) | refine wl (wl_val hl rfl trivial (r_addW hl rfl rfl) ?_)
    clear hl a; intro a hl
    refine wl (wl_val hl rfl trivial (r_move hl rfl) ?_)
    clear hl a; intro a hl
    refine w_nil ?_
    have hl2 := hl.add (t := 3) (hl.add (t := 8) (hl.add (t := 9) (hl.add (t := 10) (hl.nil) rfl) rfl) rfl) rfl; clear hl; have hl := hl2; clear hl2
    refine then_normal ?_
    refine ⟨i + 1, (by omega), (by omega), hl.addE (t := 10) (hl.addE (t := 3) (hl.addE (t := 8) (hl.addE (t := 9) (hl.nil) rfl (by first | rfl | exact congrArg (Value.int .i64) (show (i : Int) + 1 = ((i + 1 : Nat) : Int) by omega) | (rw [hq2]))) rfl (by first | rfl | exact congrArg (Value.int .i64) (show (i : Int) + 1 = ((i + 1 : Nat) : Int) by omega) | (rw [hq2]))) rfl (by first | rfl | exact congrArg (Value.int .i64) (show (i : Int) + 1 = ((i + 1 : Nat) : Int) by omega) | (rw [hq2]))) rfl (by first | rfl | exact congrArg (Value.int .i64) (show (i : Int) + 1 = ((i + 1 : Nat) : Int) by omega) | (rw [hq2])), hh.keep (by repeat (first | exact keeps_nil | apply keeps_cons (by repeat (first | exact find_head | apply find_tail | apply find_skip)) (by first  | rfl) | exact keeps_self | exact keeps_left | apply keeps_app | apply keeps_mv | apply keeps_skip))⟩
  · intro hc0
    try simp only [decide_eq_true_eq, decide_eq_false_iff_not, Bool.not_eq_true', Bool.not_eq_false', Bool.not_eq_true, Bool.not_eq_false, Bool.and_eq_true, Bool.or_eq_true, Bool.and_eq_false_iff, Bool.or_eq_false_iff, Bool.not_not, ne_eq, Int.not_lt, Int.not_le, Decidable.not_not, beq_iff_eq, bne_iff_ne] at hc0
    have hie : i = (idA r.ru).length := by unfold idA; rw [List.length_map]; omega
    rw [hie, List.take_length] at hh
    refine wp_exit ?_
    refine then_exit ?_
    refine then_exit ?_
    refine blk_exit ?_
    refine then_normal ?_
    refine c_seq ?_
    refine c_region ?_
    refine wl (wl_val hl rfl trivial (r_move hl rfl) ?_)
    clear hl a; intro a hl
    refine wl (wl_val hl rfl trivial (r_assign hl rfl) ?_)
    clear hl a; intro a hl
    refine w_nil ?_
    have hl2 := hl.add (t := 2) (hl.nil) rfl; clear hl; have hl := hl2; clear hl2
    refine then_normal ?_
    refine wp_ret ?_
    refine f_ret1 (F' := [(k6, MO (kInt .i64) (mm (idA r.ru)))]) hl hh rfl rfl (by repeat (first | exact keeps_nil | apply keeps_cons (by repeat (first | exact find_head | apply find_tail | apply find_skip)) (by first  | rfl) | exact keeps_self | exact keeps_left | apply keeps_app | apply keeps_mv | apply keeps_skip)) ?_
    exact ⟨k6, rfl, rfl⟩
end Go.Proofs.Qxb6500915aGreatDoor

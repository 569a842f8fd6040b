import Derived.Test.Qxb6500915aGreatDoorJ3
namespace Go.Proofs.Qxb6500915aGreatDoor
open Go.Eng
set_option linter.unusedVariables false
set_option linter.unusedSimpArgs false
theorem cal114 : callable Tryz.prog 114 = true := by kernel_rfl
theorem cal79 : callable Tryz.prog 79 = true := by kernel_rfl
theorem cal81 : callable Tryz.prog 81 = true := by kernel_rfl
theorem cal80 : callable Tryz.prog 80 = true := by kernel_rfl
theorem cal46 : callable Tryz.prog 46 = true := by kernel_rfl
theorem shp93 : shapeT Tryz.prog 8 93 = some [.string, .int .i64, .int .i64] := by kernel_rfl
theorem eqf93 : eqOk Tryz.prog 8 93 = true := by kernel_rfl
theorem fld33_0 : fieldOk Tryz.prog 33 0 0 = true := by kernel_rfl
theorem cal44 : callable Tryz.prog 44 = true := by kernel_rfl
theorem fld33_2 : fieldOk Tryz.prog 33 2 2 = true := by kernel_rfl
theorem fld33_1 : fieldOk Tryz.prog 33 1 1 = true := by kernel_rfl
theorem cal45 : callable Tryz.prog 45 = true := by kernel_rfl
/-! ## equal in every part -/
noncomputable instance decTm : DecidableEq Tm := fun _ _ => Classical.propDecidable _
noncomputable instance decLt : DecidableEq Lt := fun _ _ => Classical.propDecidable _
noncomputable instance decRu : DecidableEq Ru := fun _ _ => Classical.propDecidable _
noncomputable instance decPd : DecidableEq Pd := fun _ _ => Classical.propDecidable _
theorem take_snoc_eq {α : Type} {a b : List α} {i : Nat} {x y : α} (h : a.take i = b.take i) (hx : a[i]? = some x) (hy : b[i]? = some y) (e : x = y) : a.take (i + 1) = b.take (i + 1) := by
  rw [List.take_add_one, List.take_add_one, hx, hy, h, e]
theorem ne_at {α : Type} {a b : List α} {i : Nat} {x y : α} (hx : a[i]? = some x) (hy : b[i]? = some y) (e : ¬ x = y) : ¬ a = b := fun h => e (by rw [h, hy] at hx; injection hx with hx; exact hx.symm)
theorem all_eq {α : Type} {a b : List α} {i : Nat} (h : a.take i = b.take i) (ha : i = a.length) (hl : a.length = b.length) : a = b := by
  rw [ha, List.take_length, hl, List.take_length] at h; exact h
theorem eqTm {x y : Tm} (hx : x.ok) (hy : y.ok) : eqLits [.int .u8 x.k, .int .i64 x.v, .int .i64 x.i, .string x.s.data.toList] [.int .u8 y.k, .int .i64 y.v, .int .i64 y.i, .string y.s.data.toList] = true ↔ x = y := by
  rw [eqK hx.k hx.v hx.i hy.k hy.v hy.i hx.s hy.s]
  constructor
  · rintro ⟨h1, h2, h3, h4⟩
    cases x; cases y
    simp only at h1 h2 h3 h4
    rw [h1, h2, h3, h4]
  · rintro rfl; exact ⟨rfl, rfl, rfl, rfl⟩
structure PdB (x : Pd) : Prop where
  n : x.n.data.toList.length ≤ maxLen
  a : x.a ≤ 100000000
  s : x.s ≤ 100000000
theorem litsP {x : Pd} (h : PdB x) : LitsFit [.string, .int .i64, .int .i64] [.string x.n.data.toList, .int .i64 (x.a : Int), .int .i64 (x.s : Int)] := by
  have h1 := h.n; have h2 := h.a; have h3 := h.s
  refine ⟨?_⟩
  simp only [LitsOk, litOk, Fits, and_true, true_and]
  exact ⟨h1, by omega, by omega⟩
theorem eqPd {x y : Pd} (hx : PdB x) (hy : PdB y) : eqLits [.string x.n.data.toList, .int .i64 (x.a : Int), .int .i64 (x.s : Int)] [.string y.n.data.toList, .int .i64 (y.a : Int), .int .i64 (y.s : Int)] = true ↔ x = y := by
  rw [eqLits_iff (litsP hx).ok (litsP hy).ok]
  constructor
  · intro h
    injection h with h1 h
    injection h with h2 h
    injection h with h3 h
    injection h1 with h1
    injection h2 with _ h2
    injection h3 with _ h3
    obtain ⟨⟨⟨d⟩⟩, a, s⟩ := x; obtain ⟨⟨⟨d'⟩⟩, a', s'⟩ := y
    simp only at h1 h2 h3
    rw [h1, Int.ofNat_inj.1 h2, Int.ofNat_inj.1 h3]
  · rintro rfl; rfl
theorem lt_eq {x y : Lt} : x = y ↔ x.k = y.k ∧ x.o = y.o ∧ x.p = y.p ∧ x.a = y.a := by
  constructor
  · rintro rfl; exact ⟨rfl, rfl, rfl, rfl⟩
  · rintro ⟨h1, h2, h3, h4⟩
    cases x; cases y
    simp only at h1 h2 h3 h4
    rw [h1, h2, h3, h4]
theorem ru_eq {x y : Ru} : x = y ↔ (x.p = y.p ∧ x.a = y.a) ∧ x.b = y.b := by
  constructor
  · rintro rfl; exact ⟨⟨rfl, rfl⟩, rfl⟩
  · rintro ⟨⟨h1, h2⟩, h3⟩
    cases x; cases y
    simp only at h1 h2 h3
    rw [h1, h2, h3]
theorem map_at {α β : Type} (f : α → β) {l : List α} {i : Nat} {x : α} (h : l[i]? = some x) : (l.map f)[i]? = some (f x) := by rw [List.getElem?_map, h]; rfl


set_option maxHeartbeats 1000000 in
theorem eqTs_spec (ts us : List Tm) (p1 p2 : Option Addr) (c1 c2 : Nat) (E1 E2 : List (Nat × Obj)) (h1 : Ags (.slice p1 ts.length c1) ts E1) (h2 : Ags (.slice p2 us.length c2) us E2) : SpK Tryz.prog 114 #[.slice p1 ts.length c1, .slice p2 us.length c2] (fun w => Mem E1 w ∧ Mem E2 w) [] (fun v F' => v = .bool (decide (ts = us)) ∧ F' = []) := by
  refine f_enter (args := [.slice p1 ts.length c1, .slice p2 us.length c2]) Tryz.func114 rfl Tryz.ntmps114 rfl ?_
  intro w0 w a hpre hl hh
  have hl1 := h1.len; have hl2 := h2.len
  simp only [slotsFrom, Nat.reduceAdd] at hl
  refine c_seq ?_
  refine c_region ?_
  refine wl (wl_val hl rfl trivial (r_assign hl rfl) ?_)
  clear hl a; intro a hl
  refine w_nil ?_
  have hl2 := hl.add (t := 0) (hl.add (t := 1) (hl.nil) rfl) rfl; clear hl; have hl := hl2; clear hl2
  refine then_normal ?_
  refine c_seq ?_
  refine c_seq ?_
  refine c_region ?_
  refine wl (wl_val hl rfl trivial (r_move hl rfl) ?_)
  clear hl a; intro a hl
  refine wl (wl_val hl rfl trivial (r_lenS hl rfl slc42) ?_)
  clear hl a; intro a hl
  refine wl (wl_val hl rfl trivial (r_move hl rfl) ?_)
  clear hl a; intro a hl
  refine wl (wl_val hl rfl trivial (r_lenS hl rfl slc42) ?_)
  clear hl a; intro a hl
  refine wl (wl_val hl rfl trivial (r_neq hl rfl rfl) ?_)
  clear hl a; intro a hl
  refine w_nil ?_
  have hl2 := hl.add (t := 0) (hl.add (t := 1) (hl.add (t := 10) (hl.nil) rfl) rfl) rfl; clear hl; have hl := hl2; clear hl2
  refine then_normal ?_
  refine c_cond hl rfl ?_ ?_
  · intro hc0
    try simp only [decide_eq_true_eq, decide_eq_false_iff_not, Bool.not_eq_true', Bool.not_eq_false', Bool.not_eq_true, Bool.not_eq_false, Bool.and_eq_true, Bool.or_eq_true, Bool.and_eq_false_iff, Bool.or_eq_false_iff, Bool.not_not, ne_eq, Int.not_lt, Int.not_le, Decidable.not_not, beq_iff_eq, bne_iff_ne] at hc0
    refine c_seq ?_
    refine c_region ?_
    refine wl (wl_val hl rfl trivial (r_assign hl rfl) ?_)
    clear hl a; intro a hl
    refine w_nil ?_
    have hl2 := hl.add (t := 4) (hl.nil) rfl; clear hl; have hl := hl2; clear hl2
    refine then_normal ?_
    refine wp_ret ?_
    refine then_ret ?_
    refine f_ret1 (F' := []) hl hh rfl rfl (by repeat (first | exact keeps_nil | apply keeps_cons (by repeat (first | exact find_head | apply find_tail)) (by first  | rfl) | exact keeps_self | apply keeps_mv)) ?_
    exact ⟨congrArg Value.bool (decide_eq_false (fun h9 => by rw [h9] at hc0; omega)).symm, rfl⟩
  · intro hc0
    try simp only [decide_eq_true_eq, decide_eq_false_iff_not, Bool.not_eq_true', Bool.not_eq_false', Bool.not_eq_true, Bool.not_eq_false, Bool.and_eq_true, Bool.or_eq_true, Bool.and_eq_false_iff, Bool.or_eq_false_iff, Bool.not_not, ne_eq, Int.not_lt, Int.not_le, Decidable.not_not, beq_iff_eq, bne_iff_ne] at hc0
    have hab : ts.length = us.length := by omega
    refine wp_skip ?_
    refine then_normal ?_
    refine c_seq ?_
    refine c_seq ?_
    refine c_region ?_
    refine wl (wl_val hl rfl trivial (r_move hl rfl) ?_)
    clear hl a; intro a hl
    refine wl (wl_val hl rfl trivial (r_lenS hl rfl slc42) ?_)
    clear hl a; intro a hl
    refine wl (wl_val hl rfl trivial (r_move hl rfl) ?_)
    clear hl a; intro a hl
    refine w_nil ?_
    have hl2 := hl.add (t := 0) (hl.add (t := 1) (hl.add (t := 12) (hl.add (t := 13) (hl.nil) rfl) rfl) rfl) rfl; clear hl; have hl := hl2; clear hl2
    refine then_normal ?_
    refine wp_block ?_
    obtain ⟨KS0, hKS0, hk⟩ := (hl.add (t := 0) (hl.add (t := 1) (hl.add (t := 12) (hl.nil) rfl) rfl) rfl).name
    obtain ⟨HS0, hHS0, hh2⟩ := hh.name (keeps_nil)
    refine c_loop (α := Nat) (fun i => ts.length - i) (fun i a w => (i ≤ ts.length ∧ ts.take i = us.take i) ∧ Sl 26 ([(13, .int .i64 (i : Int))] ++ KS0) a ∧ Has _ w0 ([] ++ HS0) w) 0 ⟨⟨Nat.zero_le _, rfl⟩, hl.addE (t := 13) (hk) rfl (by first | rfl), hh2⟩ ?_
    clear hk hh2 hl hh a w
    intro i a w hI
    obtain ⟨⟨hi, hI⟩, hl, hh⟩ := hI
    subst hKS0; subst hHS0
    simp only [List.cons_append, List.nil_append, List.append_nil] at hl hh
    refine c_seq ?_
    refine c_region ?_
    refine wl (wl_val hl rfl trivial (r_lss hl rfl rfl) ?_)
    clear hl a; intro a hl
    refine w_nil ?_
    have hl2 := hl.add (t := 0) (hl.add (t := 1) (hl.add (t := 12) (hl.add (t := 13) (hl.add (t := 14) (hl.nil) rfl) rfl) rfl) rfl) rfl; clear hl; have hl := hl2; clear hl2
    refine then_normal ?_
    refine c_seq ?_
    refine c_cond hl rfl ?_ ?_
    · intro hc1
      try simp only [decide_eq_true_eq, decide_eq_false_iff_not, Bool.not_eq_true', Bool.not_eq_false', Bool.not_eq_true, Bool.not_eq_false, Bool.and_eq_true, Bool.or_eq_true, Bool.and_eq_false_iff, Bool.or_eq_false_iff, Bool.not_not, ne_eq, Int.not_lt, Int.not_le, Decidable.not_not, beq_iff_eq, bne_iff_ne] at hc1
      obtain ⟨x, hx⟩ : ∃ x, ts[i]? = some x := ⟨_, List.getElem?_eq_getElem (by omega)⟩
      obtain ⟨y, hy⟩ : ∃ y, us[i]? = some y := ⟨_, List.getElem?_eq_getElem (by omega)⟩
      obtain ⟨b1, j1, hq1, rfl, hm1⟩ := row_mem h1.row (by omega) hpre.1
      obtain ⟨b2, j2, hq2, rfl, hm2⟩ := row_mem h2.row (by omega) hpre.2
      subst hq1; subst hq2
      have hd1 := fl_at tmc_len hx j1
      have hd2 := fl_at tmc_len hy j2
      simp only [tmc] at hd1 hd2
      have hxo := h1.ok x (List.mem_of_getElem? hx)
      have hyo := h2.ok y (List.mem_of_getElem? hy)
      have hxk := hxo.k; have hxv := hxo.v; have hxi := hxo.i; have hyk := hyo.k; have hyv := hyo.v; have hyi := hyo.i
      have hM9 : Mem [(b1, C (fl tmc ts ++ j1) 54), (b2, C (fl tmc us ++ j2) 54)] w0 := fun b o m => by
        simp only [List.mem_cons, List.not_mem_nil, or_false] at m
        rcases m with m | m <;> cases m
        · exact hm1
        · exact hm2
      refine wp_skip ?_
      refine then_normal ?_
      refine c_seq ?_
      refine wp_block ?_
      refine c_seq ?_
      refine c_region ?_
      refine wl (wl_val hl rfl trivial (r_move hl rfl) ?_)
      clear hl a; intro a hl
      refine wl (wl_val hl rfl trivial (r_assign hl rfl) ?_)
      clear hl a; intro a hl
      refine w_nil ?_
      have hl2 := hl.add (t := 0) (hl.add (t := 1) (hl.add (t := 5) (hl.add (t := 12) (hl.add (t := 13) (hl.nil) rfl) rfl) rfl) rfl) rfl; clear hl; have hl := hl2; clear hl2
      refine then_normal ?_
      refine c_seq ?_
      refine c_draw [(b1, C (fl tmc ts ++ j1) 54), (b2, C (fl tmc us ++ j2) 54)] [8] mixed hh ?_
      clear hh w; intro w hh
      have hM : Mem [(b1, C (fl tmc ts ++ j1) 54), (b2, C (fl tmc us ++ j2) 54)] w := (mem_keep hh hM9)
      refine d_take (i := 0) hl rfl (by kernel_rfl) (by kernel_rfl) (by kernel_rfl) (by kernel_rfl) (by kernel_rfl) rfl trivial (fun _ _ _ h => h) hM (fun w hC => r_move hl rfl) rfl ?_
      clear hl a; intro a hl
      refine d_take (i := 1) hl rfl (by kernel_rfl) (by kernel_rfl) (by kernel_rfl) (by kernel_rfl) (by kernel_rfl) rfl trivial (fun _ _ _ h => h) hM (fun w hC => r_move hl rfl) rfl ?_
      clear hl a; intro a hl
      refine d_take (i := 2) hl rfl (by kernel_rfl) (by kernel_rfl) (by kernel_rfl) (by kernel_rfl) (by kernel_rfl) rfl trivial (fun _ _ _ h => h) hM (fun w hC => r_indexS hl rfl rfl slc42 (by omega) (by omega) (by first | (simp only [Int.reduceToNat]; rfl) | exact toNat_add1 _ | exact toNat_add2 _ _ | exact toNat_emod _ _ | exact Int.toNat_natCast _ | rfl)) rfl ?_
      clear hl a; intro a hl
      refine d_take (i := 3) hl rfl (by kernel_rfl) (by kernel_rfl) (by kernel_rfl) (by kernel_rfl) (by kernel_rfl) rfl trivial (fun _ _ _ h => h) hM (fun w hC => r_loadCA hl rfl agg54 hC (by repeat (first | exact find_head | apply find_tail)) (by first | exact hd1 | exact hd2 | (simp only [List.getElem?_cons_zero, List.getElem?_cons_succ, Value.cells, List.take_zero, List.take_succ_cons, List.take_nil, List.drop_zero, List.drop_succ_cons, List.drop_nil, List.length_cons, List.length_nil, List.cons_append, List.nil_append, List.append_nil, Nat.zero_add, Nat.add_zero, Nat.reduceAdd, Nat.reduceBEq, Nat.reduceEqDiff, Nat.ble, BEq.rfl, Bool.and_true, Bool.and_self, cond_true, beq_self_eq_true]; rfl)) (by first | rfl | (simp; done))) rfl ?_
      clear hl a; intro a hl
      refine d_take (i := 4) hl rfl (by kernel_rfl) (by kernel_rfl) (by kernel_rfl) (by kernel_rfl) (by kernel_rfl) rfl trivial (fun _ _ _ h => h) hM (fun w hC => r_move hl rfl) rfl ?_
      clear hl a; intro a hl
      refine d_take (i := 5) hl rfl (by kernel_rfl) (by kernel_rfl) (by kernel_rfl) (by kernel_rfl) (by kernel_rfl) rfl trivial (fun _ _ _ h => h) hM (fun w hC => r_move hl rfl) rfl ?_
      clear hl a; intro a hl
      refine d_take (i := 6) hl rfl (by kernel_rfl) (by kernel_rfl) (by kernel_rfl) (by kernel_rfl) (by kernel_rfl) rfl trivial (fun _ _ _ h => h) hM (fun w hC => r_indexS hl rfl rfl slc42 (by omega) (by omega) (by first | (simp only [Int.reduceToNat]; rfl) | exact toNat_add1 _ | exact toNat_add2 _ _ | exact toNat_emod _ _ | exact Int.toNat_natCast _ | rfl)) rfl ?_
      clear hl a; intro a hl
      refine d_take (i := 7) hl rfl (by kernel_rfl) (by kernel_rfl) (by kernel_rfl) (by kernel_rfl) (by kernel_rfl) rfl trivial (fun _ _ _ h => h) hM (fun w hC => r_loadCA hl rfl agg54 hC (by repeat (first | exact find_head | apply find_tail)) (by first | exact hd1 | exact hd2 | (simp only [List.getElem?_cons_zero, List.getElem?_cons_succ, Value.cells, List.take_zero, List.take_succ_cons, List.take_nil, List.drop_zero, List.drop_succ_cons, List.drop_nil, List.length_cons, List.length_nil, List.cons_append, List.nil_append, List.append_nil, Nat.zero_add, Nat.add_zero, Nat.reduceAdd, Nat.reduceBEq, Nat.reduceEqDiff, Nat.ble, BEq.rfl, Bool.and_true, Bool.and_self, cond_true, beq_self_eq_true]; rfl)) (by first | rfl | (simp; done))) rfl ?_
      clear hl a; intro a hl
      refine d_takeL (i := 8) hl rfl (by kernel_rfl) (by kernel_rfl) (by kernel_rfl) (by kernel_rfl) (by kernel_rfl) rfl trivial (fun _ _ _ h => h) (fun w => r_neqA hl rfl rfl eqf54 shp54 (by simp only [unlitL, unlit]; rfl) (by simp only [unlitL, unlit]; rfl) (by first | exact litsK (by omega) (by omega) (by omega) hxo.s | exact litsK (by omega) (by omega) (by omega) hyo.s | exact ⟨trivial⟩ | (refine ⟨?_⟩; simp [LitsOk, litOk, Fits]; done) | (refine ⟨?_⟩; simp [LitsOk, litOk, Fits]; omega)) (by first | exact litsK (by omega) (by omega) (by omega) hxo.s | exact litsK (by omega) (by omega) (by omega) hyo.s | exact ⟨trivial⟩ | (refine ⟨?_⟩; simp [LitsOk, litOk, Fits]; done) | (refine ⟨?_⟩; simp [LitsOk, litOk, Fits]; omega))) rfl ?_
      clear hl a; intro a hl
      refine d_done (by kernel_rfl) ?_
      try clear hM
      have hl2 := hl.add (t := 0) (hl.add (t := 1) (hl.add (t := 12) (hl.add (t := 13) (hl.add (t := 24) (hl.nil) rfl) rfl) rfl) rfl) rfl; clear hl; have hl := hl2; clear hl2
      refine then_normal ?_
      refine c_cond hl rfl ?_ ?_
      · intro hc2
        try simp only [decide_eq_true_eq, decide_eq_false_iff_not, Bool.not_eq_true', Bool.not_eq_false', Bool.not_eq_true, Bool.not_eq_false, Bool.and_eq_true, Bool.or_eq_true, Bool.and_eq_false_iff, Bool.or_eq_false_iff, Bool.not_not, ne_eq, Int.not_lt, Int.not_le, Decidable.not_not, beq_iff_eq, bne_iff_ne] at hc2
        have hxy : ¬ x = y := fun h9 => by simp [(eqTm hxo hyo).2 h9] at hc2
        refine c_seq ?_
        refine c_region ?_
        refine wl (wl_val hl rfl trivial (r_assign hl rfl) ?_)
        clear hl a; intro a hl
        refine w_nil ?_
        have hl2 := hl.add (t := 4) (hl.nil) rfl; clear hl; have hl := hl2; clear hl2
        refine then_normal ?_
        refine wp_ret ?_
        refine blk_ret ?_
        refine then_ret ?_
        refine then_ret ?_
        refine blk_ret ?_
        refine then_ret ?_
        refine f_ret1 (F' := []) hl hh rfl rfl (by repeat (first | exact keeps_nil | apply keeps_cons (by repeat (first | exact find_head | apply find_tail)) (by first  | rfl) | exact keeps_self | apply keeps_mv)) ?_
        exact ⟨congrArg Value.bool (decide_eq_false (ne_at hx hy hxy)).symm, rfl⟩
      · intro hc2
        try simp only [decide_eq_true_eq, decide_eq_false_iff_not, Bool.not_eq_true', Bool.not_eq_false', Bool.not_eq_true, Bool.not_eq_false, Bool.and_eq_true, Bool.or_eq_true, Bool.and_eq_false_iff, Bool.or_eq_false_iff, Bool.not_not, ne_eq, Int.not_lt, Int.not_le, Decidable.not_not, beq_iff_eq, bne_iff_ne] at hc2
        have hxy : x = y := (eqTm hxo hyo).1 hc2
        refine wp_skip ?_
        refine blk_normal ?_
        refine then_normal ?_
        refine c_region ?_
        first | refine wl (wl_val hl rfl trivial (r_add hl rfl rfl (by simp only [Fits]; omega)) ?_) | refine wl (wl_val hl rfl trivial (r_addW hl rfl rfl) ?_)
        clear hl a; intro a hl
        refine wl (wl_val hl rfl trivial (r_move hl rfl) ?_)
        clear hl a; intro a hl
        refine w_nil ?_
        have hl2 := hl.add (t := 0) (hl.add (t := 1) (hl.add (t := 12) (hl.add (t := 13) (hl.nil) rfl) rfl) rfl) rfl; clear hl; have hl := hl2; clear hl2
        refine then_normal ?_
        refine ⟨i + 1, (by omega), ⟨by omega, take_snoc_eq hI hx hy hxy⟩, hl.addE (t := 13) (hl.addE (t := 0) (hl.addE (t := 1) (hl.addE (t := 12) (hl.nil) rfl (by first | rfl | rfl)) rfl (by first | rfl | rfl)) rfl (by first | rfl | rfl)) rfl (by first | rfl | rfl), hh.keep (by repeat (first | exact keeps_nil | apply keeps_cons (by repeat (first | exact find_head | apply find_tail)) (by first  | rfl) | exact keeps_self | apply keeps_mv))⟩
    · intro hc1
      try simp only [decide_eq_true_eq, decide_eq_false_iff_not, Bool.not_eq_true', Bool.not_eq_false', Bool.not_eq_true, Bool.not_eq_false, Bool.and_eq_true, Bool.or_eq_true, Bool.and_eq_false_iff, Bool.or_eq_false_iff, Bool.not_not, ne_eq, Int.not_lt, Int.not_le, Decidable.not_not, beq_iff_eq, bne_iff_ne] at hc1
      have hie : i = ts.length := by omega
      refine wp_exit ?_
      refine then_exit ?_
      refine then_exit ?_
      refine blk_exit ?_
      refine then_normal ?_
      refine c_seq ?_
      refine c_region ?_
      refine wl (wl_val hl rfl trivial (r_assign hl rfl) ?_)
      clear hl a; intro a hl
      refine w_nil ?_
      have hl2 := hl.add (t := 4) (hl.nil) rfl; clear hl; have hl := hl2; clear hl2
      refine then_normal ?_
      refine wp_ret ?_
      refine f_ret1 (F' := []) hl hh rfl rfl (by repeat (first | exact keeps_nil | apply keeps_cons (by repeat (first | exact find_head | apply find_tail)) (by first  | rfl) | exact keeps_self | apply keeps_mv)) ?_
      exact ⟨congrArg Value.bool (decide_eq_true (all_eq hI hie hab)).symm, rfl⟩

set_option maxHeartbeats 1000000 in
theorem same53 (p q : ByteArray) (ts us : List Tm) (p1 p2 : Option Addr) (c1 c2 : Nat) (E1 E2 : List (Nat × Obj)) (h1 : Ags (.slice p1 ts.length c1) ts E1) (h2 : Ags (.slice p2 us.length c2) us E2) : SpK Tryz.prog 79 #[.agg ⟨[.string p, .slice p1 ts.length c1]⟩, .agg ⟨[.string q, .slice p2 us.length c2]⟩] (fun w => Mem E1 w ∧ Mem E2 w) [] (fun v F' => v = .bool (decide (p = q ∧ ts = us)) ∧ F' = []) := by
  refine f_enter (args := [.agg ⟨[.string p, .slice p1 ts.length c1]⟩, .agg ⟨[.string q, .slice p2 us.length c2]⟩]) Tryz.func79 rfl Tryz.ntmps79 rfl ?_
  intro w0 w a hpre hl hh
  simp only [slotsFrom, Nat.reduceAdd] at hl
  refine c_seq ?_
  refine c_region ?_
  refine wl (w_box hl hh rfl trivial rfl rfl ?_)
  clear hl hh a w; intro k2 a w hl hh
  refine wl (w_box hl hh rfl trivial rfl rfl ?_)
  clear hl hh a w; intro k3 a w hl hh
  refine wl (wl_val hl rfl trivial (r_assign hl rfl) ?_)
  clear hl a; intro a hl
  refine w_nil ?_
  have hl2 := hl.add (t := 2) (hl.add (t := 3) (hl.nil) rfl) rfl; clear hl; have hl := hl2; clear hl2
  refine then_normal ?_
  refine c_seq ?_
  refine c_region ?_
  refine wl (wl_val hl rfl trivial (r_field hl rfl fld46_0) ?_)
  clear hl a; intro a hl
  refine wl (w_load hl hh rfl trivial one9 rfl (by repeat (first | exact find_head | apply find_tail)) (by first | rfl) ?_)
  clear hl a; intro a hl
  refine wl (wl_val hl rfl trivial (r_field hl rfl fld46_0) ?_)
  clear hl a; intro a hl
  refine wl (w_load hl hh rfl trivial one9 rfl (by repeat (first | exact find_head | apply find_tail)) (by first | rfl) ?_)
  clear hl a; intro a hl
  refine wl (wl_val hl rfl trivial (r_eql_string hl rfl rfl) ?_)
  clear hl a; intro a hl
  refine wl (wl_val hl rfl trivial (r_move hl rfl) ?_)
  clear hl a; intro a hl
  refine sl_split (t := 10) hl rfl ?_ ?_
  · intro hg1; clear hl; intro hl
    try simp only [decide_eq_true_eq, decide_eq_false_iff_not, Bool.not_eq_true', Bool.not_eq_false', Bool.not_eq_true, Bool.not_eq_false, Bool.and_eq_true, Bool.or_eq_true, Bool.and_eq_false_iff, Bool.or_eq_false_iff, Bool.not_not, ne_eq, Int.not_lt, Int.not_le, Decidable.not_not, beq_iff_eq, bne_iff_ne] at hg1
    refine wl (wl_val hl rfl ⟨_, _, rfl, rfl, rfl⟩ (r_field hl rfl fld46_1) ?_)
    clear hl a; intro a hl
    refine wl (w_load hl hh rfl ⟨_, _, rfl, rfl, rfl⟩ one42 rfl (by repeat (first | exact find_head | apply find_tail)) (by first | rfl) ?_)
    clear hl a; intro a hl
    refine wl (wl_val hl rfl ⟨_, _, rfl, rfl, rfl⟩ (r_field hl rfl fld46_1) ?_)
    clear hl a; intro a hl
    refine wl (w_load hl hh rfl ⟨_, _, rfl, rfl, rfl⟩ one42 rfl (by repeat (first | exact find_head | apply find_tail)) (by first | rfl) ?_)
    clear hl a; intro a hl
    refine wl (w_call hl hh rfl ⟨_, _, rfl, rfl, rfl⟩ rfl cal114 rfl (eqTs_spec _ _ _ _ _ _ _ _ h1 h2) (by repeat (first | exact keeps_nil | apply keeps_cons (by repeat (first | exact find_head | apply find_tail)) (by first  | rfl) | exact keeps_self | apply keeps_mv)) ⟨mem_keep hh hpre.1, mem_keep hh hpre.2⟩ ?_)
    clear hl hh a w; intro vc Fc a w hR hl hh
    obtain ⟨rfl, rfl⟩ := hR
    try simp only [List.cons_append, List.nil_append] at hh
    refine wl (wl_val hl rfl trivial (r_pickT hl rfl rfl) ?_)
    clear hl a; intro a hl
    refine wl (wl_val hl rfl trivial (r_assign hl rfl) ?_)
    clear hl a; intro a hl
    refine w_nil ?_
    have hl2 := hl.add (t := 4) (hl.nil) rfl; clear hl; have hl := hl2; clear hl2
    refine then_normal ?_
    refine wp_ret ?_
    refine f_ret1 (F' := []) hl hh rfl rfl (by repeat (first | exact keeps_nil | apply keeps_cons (by repeat (first | exact find_head | apply find_tail)) (by first  | rfl) | exact keeps_self | apply keeps_mv)) ?_
    first | exact ⟨congrArg Value.bool (decide_eq_decide.2 ⟨fun h => ⟨by_t hg1, h⟩, And.right⟩), rfl⟩ | exact ⟨congrArg Value.bool (decide_eq_false (fun h => by_f hg1 h.1)).symm, rfl⟩
  · intro hg1; clear hl; intro hl
    try simp only [decide_eq_true_eq, decide_eq_false_iff_not, Bool.not_eq_true', Bool.not_eq_false', Bool.not_eq_true, Bool.not_eq_false, Bool.and_eq_true, Bool.or_eq_true, Bool.and_eq_false_iff, Bool.or_eq_false_iff, Bool.not_not, ne_eq, Int.not_lt, Int.not_le, Decidable.not_not, beq_iff_eq, bne_iff_ne] at hg1
    refine wl (wl_skip hl rfl ⟨_, _, rfl, rfl, rfl⟩ ?_)
    clear hl a; intro a hl
    refine wl (wl_skip hl rfl ⟨_, _, rfl, rfl, rfl⟩ ?_)
    clear hl a; intro a hl
    refine wl (wl_skip hl rfl ⟨_, _, rfl, rfl, rfl⟩ ?_)
    clear hl a; intro a hl
    refine wl (wl_skip hl rfl ⟨_, _, rfl, rfl, rfl⟩ ?_)
    clear hl a; intro a hl
    refine wl (wl_skip hl rfl ⟨_, _, rfl, rfl, rfl⟩ ?_)
    clear hl a; intro a hl
    refine wl (wl_val hl rfl trivial (r_pickF hl rfl rfl) ?_)
    clear hl a; intro a hl
    refine wl (wl_val hl rfl trivial (r_assign hl rfl) ?_)
    clear hl a; intro a hl
    refine w_nil ?_
    have hl2 := hl.add (t := 4) (hl.nil) rfl; clear hl; have hl := hl2; clear hl2
    refine then_normal ?_
    refine wp_ret ?_
    refine f_ret1 (F' := []) hl hh rfl rfl (by repeat (first | exact keeps_nil | apply keeps_cons (by repeat (first | exact find_head | apply find_tail)) (by first  | rfl) | exact keeps_self | apply keeps_mv)) ?_
    first | exact ⟨congrArg Value.bool (decide_eq_decide.2 ⟨fun h => ⟨by_t hg1, h⟩, And.right⟩), rfl⟩ | exact ⟨congrArg Value.bool (decide_eq_false (fun h => by_f hg1 h.1)).symm, rfl⟩

set_option maxHeartbeats 1000000 in
theorem same55 (x y : LV) (hx : x.ok) (hy : y.ok) : SpK Tryz.prog 81 #[.agg ⟨[.int .u8 x.l.k, .int .u8 x.l.o, .string x.l.p, .slice x.p x.l.a.length x.c]⟩, .agg ⟨[.int .u8 y.l.k, .int .u8 y.l.o, .string y.l.p, .slice y.p y.l.a.length y.c]⟩] (fun w => Mem x.E w ∧ Mem y.E w) [] (fun v F' => v = .bool (decide (x.l = y.l)) ∧ F' = []) := by
  refine f_enter (args := [.agg ⟨[.int .u8 x.l.k, .int .u8 x.l.o, .string x.l.p, .slice x.p x.l.a.length x.c]⟩, .agg ⟨[.int .u8 y.l.k, .int .u8 y.l.o, .string y.l.p, .slice y.p y.l.a.length y.c]⟩]) Tryz.func81 rfl Tryz.ntmps81 rfl ?_
  intro w0 w a hpre hl hh
  simp only [slotsFrom, Nat.reduceAdd] at hl
  refine c_seq ?_
  refine c_region ?_
  refine wl (w_box hl hh rfl trivial rfl rfl ?_)
  clear hl hh a w; intro k2 a w hl hh
  refine wl (w_box hl hh rfl trivial rfl rfl ?_)
  clear hl hh a w; intro k3 a w hl hh
  refine wl (wl_val hl rfl trivial (r_assign hl rfl) ?_)
  clear hl a; intro a hl
  refine w_nil ?_
  have hl2 := hl.add (t := 2) (hl.add (t := 3) (hl.nil) rfl) rfl; clear hl; have hl := hl2; clear hl2
  refine then_normal ?_
  refine c_seq ?_
  refine c_region ?_
  refine wl (wl_val hl rfl trivial (r_field hl rfl fld48_0) ?_)
  clear hl a; intro a hl
  refine wl (w_load hl hh rfl trivial one44 rfl (by repeat (first | exact find_head | apply find_tail)) (by first | rfl) ?_)
  clear hl a; intro a hl
  refine wl (wl_val hl rfl trivial (r_field hl rfl fld48_0) ?_)
  clear hl a; intro a hl
  refine wl (w_load hl hh rfl trivial one44 rfl (by repeat (first | exact find_head | apply find_tail)) (by first | rfl) ?_)
  clear hl a; intro a hl
  refine wl (wl_val hl rfl trivial (r_eql hl rfl rfl) ?_)
  clear hl a; intro a hl
  refine wl (wl_val hl rfl trivial (r_move hl rfl) ?_)
  clear hl a; intro a hl
  refine sl_split (t := 10) hl rfl ?_ ?_
  · intro hg1; clear hl; intro hl
    try simp only [decide_eq_true_eq, decide_eq_false_iff_not, Bool.not_eq_true', Bool.not_eq_false', Bool.not_eq_true, Bool.not_eq_false, Bool.and_eq_true, Bool.or_eq_true, Bool.and_eq_false_iff, Bool.or_eq_false_iff, Bool.not_not, ne_eq, Int.not_lt, Int.not_le, Decidable.not_not, beq_iff_eq, bne_iff_ne] at hg1
    refine wl (wl_val hl rfl ⟨_, _, rfl, rfl, rfl⟩ (r_field hl rfl fld48_1) ?_)
    clear hl a; intro a hl
    refine wl (w_load hl hh rfl ⟨_, _, rfl, rfl, rfl⟩ one43 rfl (by repeat (first | exact find_head | apply find_tail)) (by first | rfl) ?_)
    clear hl a; intro a hl
    refine wl (wl_val hl rfl ⟨_, _, rfl, rfl, rfl⟩ (r_field hl rfl fld48_1) ?_)
    clear hl a; intro a hl
    refine wl (w_load hl hh rfl ⟨_, _, rfl, rfl, rfl⟩ one43 rfl (by repeat (first | exact find_head | apply find_tail)) (by first | rfl) ?_)
    clear hl a; intro a hl
    refine wl (wl_val hl rfl ⟨_, _, rfl, rfl, rfl⟩ (r_eql hl rfl rfl) ?_)
    clear hl a; intro a hl
    refine wl (wl_val hl rfl trivial (r_pickT hl rfl rfl) ?_)
    clear hl a; intro a hl
    refine wl (wl_val hl rfl trivial (r_move hl rfl) ?_)
    clear hl a; intro a hl
    refine sl_split (t := 17) hl rfl ?_ ?_
    · intro hg2; clear hl; intro hl
      try simp only [decide_eq_true_eq, decide_eq_false_iff_not, Bool.not_eq_true', Bool.not_eq_false', Bool.not_eq_true, Bool.not_eq_false, Bool.and_eq_true, Bool.or_eq_true, Bool.and_eq_false_iff, Bool.or_eq_false_iff, Bool.not_not, ne_eq, Int.not_lt, Int.not_le, Decidable.not_not, beq_iff_eq, bne_iff_ne] at hg2
      refine wl (wl_val hl rfl ⟨_, _, rfl, rfl, rfl⟩ (r_field hl rfl fld48_2) ?_)
      clear hl a; intro a hl
      refine wl (w_loadA hl hh rfl ⟨_, _, rfl, rfl, rfl⟩ agg46 rfl (by repeat (first | exact find_head | apply find_tail)) (by first | (simp only [List.getElem?_cons_zero, List.getElem?_cons_succ, Value.cells, List.take_zero, List.take_succ_cons, List.take_nil, List.drop_zero, List.drop_succ_cons, List.drop_nil, List.length_cons, List.length_nil, List.cons_append, List.nil_append, List.append_nil, Nat.zero_add, Nat.add_zero, Nat.reduceAdd, Nat.reduceBEq, Nat.reduceEqDiff, Nat.ble, BEq.rfl, Bool.and_true, Bool.and_self, cond_true, beq_self_eq_true]; rfl)) (by first | rfl | (simp; done)) ?_)
      clear hl a; intro a hl
      refine wl (wl_val hl rfl ⟨_, _, rfl, rfl, rfl⟩ (r_field hl rfl fld48_2) ?_)
      clear hl a; intro a hl
      refine wl (w_loadA hl hh rfl ⟨_, _, rfl, rfl, rfl⟩ agg46 rfl (by repeat (first | exact find_head | apply find_tail)) (by first | (simp only [List.getElem?_cons_zero, List.getElem?_cons_succ, Value.cells, List.take_zero, List.take_succ_cons, List.take_nil, List.drop_zero, List.drop_succ_cons, List.drop_nil, List.length_cons, List.length_nil, List.cons_append, List.nil_append, List.append_nil, Nat.zero_add, Nat.add_zero, Nat.reduceAdd, Nat.reduceBEq, Nat.reduceEqDiff, Nat.ble, BEq.rfl, Bool.and_true, Bool.and_self, cond_true, beq_self_eq_true]; rfl)) (by first | rfl | (simp; done)) ?_)
      clear hl a; intro a hl
      refine wl (w_call hl hh rfl ⟨_, _, rfl, rfl, rfl⟩ rfl cal79 rfl (same53 _ _ _ _ _ _ _ _ _ _ hx.ags hy.ags) (by repeat (first | exact keeps_nil | apply keeps_cons (by repeat (first | exact find_head | apply find_tail)) (by first  | rfl) | exact keeps_self | apply keeps_mv)) ⟨mem_keep hh hpre.1, mem_keep hh hpre.2⟩ ?_)
      clear hl hh a w; intro vc Fc a w hR hl hh
      obtain ⟨rfl, rfl⟩ := hR
      try simp only [List.cons_append, List.nil_append] at hh
      refine wl (wl_val hl rfl trivial (r_pickT hl rfl rfl) ?_)
      clear hl a; intro a hl
      refine wl (wl_val hl rfl trivial (r_assign hl rfl) ?_)
      clear hl a; intro a hl
      refine w_nil ?_
      have hl2 := hl.add (t := 4) (hl.nil) rfl; clear hl; have hl := hl2; clear hl2
      refine then_normal ?_
      refine wp_ret ?_
      refine f_ret1 (F' := []) hl hh rfl rfl (by repeat (first | exact keeps_nil | apply keeps_cons (by repeat (first | exact find_head | apply find_tail)) (by first  | rfl) | exact keeps_self | apply keeps_mv)) ?_
      first | exact ⟨congrArg Value.bool (decide_eq_decide.2 (Iff.trans ⟨fun h => ⟨hg1, hg2, h.1, h.2⟩, fun h => ⟨h.2.2.1, h.2.2.2⟩⟩ lt_eq.symm)), rfl⟩ | exact ⟨congrArg Value.bool (decide_eq_false (fun h => hg1 (by rw [h]))).symm, rfl⟩ | exact ⟨congrArg Value.bool (decide_eq_false (fun h => hg2 (by rw [h]))).symm, rfl⟩
    · intro hg2; clear hl; intro hl
      try simp only [decide_eq_true_eq, decide_eq_false_iff_not, Bool.not_eq_true', Bool.not_eq_false', Bool.not_eq_true, Bool.not_eq_false, Bool.and_eq_true, Bool.or_eq_true, Bool.and_eq_false_iff, Bool.or_eq_false_iff, Bool.not_not, ne_eq, Int.not_lt, Int.not_le, Decidable.not_not, beq_iff_eq, bne_iff_ne] at hg2
      refine wl (wl_skip hl rfl ⟨_, _, rfl, rfl, rfl⟩ ?_)
      clear hl a; intro a hl
      refine wl (wl_skip hl rfl ⟨_, _, rfl, rfl, rfl⟩ ?_)
      clear hl a; intro a hl
      refine wl (wl_skip hl rfl ⟨_, _, rfl, rfl, rfl⟩ ?_)
      clear hl a; intro a hl
      refine wl (wl_skip hl rfl ⟨_, _, rfl, rfl, rfl⟩ ?_)
      clear hl a; intro a hl
      refine wl (wl_skip hl rfl ⟨_, _, rfl, rfl, rfl⟩ ?_)
      clear hl a; intro a hl
      refine wl (wl_val hl rfl trivial (r_pickF hl rfl rfl) ?_)
      clear hl a; intro a hl
      refine wl (wl_val hl rfl trivial (r_assign hl rfl) ?_)
      clear hl a; intro a hl
      refine w_nil ?_
      have hl2 := hl.add (t := 4) (hl.nil) rfl; clear hl; have hl := hl2; clear hl2
      refine then_normal ?_
      refine wp_ret ?_
      refine f_ret1 (F' := []) hl hh rfl rfl (by repeat (first | exact keeps_nil | apply keeps_cons (by repeat (first | exact find_head | apply find_tail)) (by first  | rfl) | exact keeps_self | apply keeps_mv)) ?_
      first | exact ⟨congrArg Value.bool (decide_eq_decide.2 (Iff.trans ⟨fun h => ⟨hg1, hg2, h.1, h.2⟩, fun h => ⟨h.2.2.1, h.2.2.2⟩⟩ lt_eq.symm)), rfl⟩ | exact ⟨congrArg Value.bool (decide_eq_false (fun h => hg1 (by rw [h]))).symm, rfl⟩ | exact ⟨congrArg Value.bool (decide_eq_false (fun h => hg2 (by rw [h]))).symm, rfl⟩
  · intro hg1; clear hl; intro hl
    try simp only [decide_eq_true_eq, decide_eq_false_iff_not, Bool.not_eq_true', Bool.not_eq_false', Bool.not_eq_true, Bool.not_eq_false, Bool.and_eq_true, Bool.or_eq_true, Bool.and_eq_false_iff, Bool.or_eq_false_iff, Bool.not_not, ne_eq, Int.not_lt, Int.not_le, Decidable.not_not, beq_iff_eq, bne_iff_ne] at hg1
    refine wl (wl_skip hl rfl ⟨_, _, rfl, rfl, rfl⟩ ?_)
    clear hl a; intro a hl
    refine wl (wl_skip hl rfl ⟨_, _, rfl, rfl, rfl⟩ ?_)
    clear hl a; intro a hl
    refine wl (wl_skip hl rfl ⟨_, _, rfl, rfl, rfl⟩ ?_)
    clear hl a; intro a hl
    refine wl (wl_skip hl rfl ⟨_, _, rfl, rfl, rfl⟩ ?_)
    clear hl a; intro a hl
    refine wl (wl_skip hl rfl ⟨_, _, rfl, rfl, rfl⟩ ?_)
    clear hl a; intro a hl
    refine wl (wl_val hl rfl trivial (r_pickF hl rfl rfl) ?_)
    clear hl a; intro a hl
    refine wl (wl_val hl rfl trivial (r_move hl rfl) ?_)
    clear hl a; intro a hl
    refine wl (wl_skip hl rfl ⟨_, _, rfl, rfl, rfl⟩ ?_)
    clear hl a; intro a hl
    refine wl (wl_skip hl rfl ⟨_, _, rfl, rfl, rfl⟩ ?_)
    clear hl a; intro a hl
    refine wl (wl_skip hl rfl ⟨_, _, rfl, rfl, rfl⟩ ?_)
    clear hl a; intro a hl
    refine wl (wl_skip hl rfl ⟨_, _, rfl, rfl, rfl⟩ ?_)
    clear hl a; intro a hl
    refine wl (wl_skip hl rfl ⟨_, _, rfl, rfl, rfl⟩ ?_)
    clear hl a; intro a hl
    refine wl (wl_val hl rfl trivial (r_pickF hl rfl rfl) ?_)
    clear hl a; intro a hl
    refine wl (wl_val hl rfl trivial (r_assign hl rfl) ?_)
    clear hl a; intro a hl
    refine w_nil ?_
    have hl2 := hl.add (t := 4) (hl.nil) rfl; clear hl; have hl := hl2; clear hl2
    refine then_normal ?_
    refine wp_ret ?_
    refine f_ret1 (F' := []) hl hh rfl rfl (by repeat (first | exact keeps_nil | apply keeps_cons (by repeat (first | exact find_head | apply find_tail)) (by first  | rfl) | exact keeps_self | apply keeps_mv)) ?_
    first | exact ⟨congrArg Value.bool (decide_eq_decide.2 (Iff.trans ⟨fun h => ⟨hg1, hg2, h.1, h.2⟩, fun h => ⟨h.2.2.1, h.2.2.2⟩⟩ lt_eq.symm)), rfl⟩ | exact ⟨congrArg Value.bool (decide_eq_false (fun h => hg1 (by rw [h]))).symm, rfl⟩ | exact ⟨congrArg Value.bool (decide_eq_false (fun h => hg2 (by rw [h]))).symm, rfl⟩

structure Two (E1 E2 : List (Nat × Obj)) (F1 F2 : List (List (Nat × Obj))) (w : World) : Prop where
  a : Mem E1 w
  b : Mem E2 w
  c : ∀ E, E ∈ F1 → Mem E w
  d : ∀ E, E ∈ F2 → Mem E w
attribute [local irreducible] RV.E

set_option maxHeartbeats 2000000 in
theorem same54 (l1 l2 : List LV) (p1 p2 : Option Addr) (c1 c2 : Nat) (E1 E2 : List (Nat × Obj)) (h1 : Row (.slice p1 l1.length c1) l1.length (fl LV.c4 l1) 4 48 E1) (h2 : Row (.slice p2 l2.length c2) l2.length (fl LV.c4 l2) 4 48 E2) (ho1 : ∀ x, x ∈ l1 → x.ok) (ho2 : ∀ x, x ∈ l2 → x.ok) (hl1 : l1.length ≤ 65536) (hl2 : l2.length ≤ 65536) : SpK Tryz.prog 80 #[.slice p1 l1.length c1, .slice p2 l2.length c2, .func (.func 81) #[] #[]] (Two E1 E2 (l1.map LV.E) (l2.map LV.E)) [] (fun v F' => v = .bool (decide (l1.map LV.l = l2.map LV.l)) ∧ F' = []) := by
  refine f_enter (args := [.slice p1 l1.length c1, .slice p2 l2.length c2, .func (.func 81) #[] #[]]) Tryz.func80 rfl Tryz.ntmps80 rfl ?_
  intro w0 w a hpre hl hh
  simp only [slotsFrom, Nat.reduceAdd] at hl
  refine c_seq ?_
  refine c_region ?_
  refine wl (wl_val hl rfl trivial (r_assign hl rfl) ?_)
  clear hl a; intro a hl
  refine w_nil ?_
  have hl2 := hl.add (t := 0) (hl.add (t := 1) (hl.add (t := 2) (hl.nil) rfl) rfl) rfl; clear hl; have hl := hl2; clear hl2
  refine then_normal ?_
  refine c_seq ?_
  refine c_seq ?_
  refine c_region ?_
  refine wl (wl_val hl rfl trivial (r_move hl rfl) ?_)
  clear hl a; intro a hl
  refine wl (wl_val hl rfl trivial (r_lenS hl rfl slc55) ?_)
  clear hl a; intro a hl
  refine wl (wl_val hl rfl trivial (r_move hl rfl) ?_)
  clear hl a; intro a hl
  refine wl (wl_val hl rfl trivial (r_lenS hl rfl slc55) ?_)
  clear hl a; intro a hl
  refine wl (wl_val hl rfl trivial (r_neq hl rfl rfl) ?_)
  clear hl a; intro a hl
  refine w_nil ?_
  have hl2 := hl.add (t := 0) (hl.add (t := 1) (hl.add (t := 2) (hl.add (t := 14) (hl.nil) rfl) rfl) rfl) rfl; clear hl; have hl := hl2; clear hl2
  refine then_normal ?_
  refine c_cond hl rfl ?_ ?_
  · intro hc0
    try simp only [decide_eq_true_eq, decide_eq_false_iff_not, Bool.not_eq_true', Bool.not_eq_false', Bool.not_eq_true, Bool.not_eq_false, Bool.and_eq_true, Bool.or_eq_true, Bool.and_eq_false_iff, Bool.or_eq_false_iff, Bool.not_not, ne_eq, Int.not_lt, Int.not_le, Decidable.not_not, beq_iff_eq, bne_iff_ne] at hc0
    refine c_seq ?_
    refine c_region ?_
    refine wl (wl_val hl rfl trivial (r_assign hl rfl) ?_)
    clear hl a; intro a hl
    refine w_nil ?_
    have hl2 := hl.add (t := 6) (hl.nil) rfl; clear hl; have hl := hl2; clear hl2
    refine then_normal ?_
    refine wp_ret ?_
    refine then_ret ?_
    refine f_ret1 (F' := []) hl hh rfl rfl (by repeat (first | exact keeps_nil | apply keeps_cons (by repeat (first | exact find_head | apply find_tail)) (by first  | rfl) | exact keeps_self | apply keeps_mv)) ?_
    exact ⟨congrArg Value.bool (decide_eq_false (fun h9 => by have h8 := congrArg List.length h9; rw [List.length_map, List.length_map] at h8; omega)).symm, rfl⟩
  · intro hc0
    try simp only [decide_eq_true_eq, decide_eq_false_iff_not, Bool.not_eq_true', Bool.not_eq_false', Bool.not_eq_true, Bool.not_eq_false, Bool.and_eq_true, Bool.or_eq_true, Bool.and_eq_false_iff, Bool.or_eq_false_iff, Bool.not_not, ne_eq, Int.not_lt, Int.not_le, Decidable.not_not, beq_iff_eq, bne_iff_ne] at hc0
    have hab : l1.length = l2.length := by omega
    refine wp_skip ?_
    refine then_normal ?_
    refine c_seq ?_
    refine c_seq ?_
    refine c_region ?_
    refine wl (wl_val hl rfl trivial (r_move hl rfl) ?_)
    clear hl a; intro a hl
    refine wl (wl_val hl rfl trivial (r_lenS hl rfl slc55) ?_)
    clear hl a; intro a hl
    refine wl (wl_val hl rfl trivial (r_move hl rfl) ?_)
    clear hl a; intro a hl
    refine w_nil ?_
    have hl2 := hl.add (t := 1) (hl.add (t := 2) (hl.add (t := 15) (hl.add (t := 16) (hl.add (t := 17) (hl.nil) rfl) rfl) rfl) rfl) rfl; clear hl; have hl := hl2; clear hl2
    refine then_normal ?_
    refine wp_block ?_
    obtain ⟨KS0, hKS0, hk⟩ := (hl.add (t := 1) (hl.add (t := 2) (hl.add (t := 15) (hl.add (t := 16) (hl.nil) rfl) rfl) rfl) rfl).name
    obtain ⟨HS0, hHS0, hh2⟩ := hh.name (keeps_nil)
    refine c_loop (α := Nat) (fun i => l1.length - i) (fun i a w => (i ≤ l1.length ∧ (l1.map LV.l).take i = (l2.map LV.l).take i) ∧ Sl 32 ([(17, .int .i64 (i : Int))] ++ KS0) a ∧ Has _ w0 ([] ++ HS0) w) 0 ⟨⟨Nat.zero_le _, rfl⟩, hl.addE (t := 17) (hk) rfl (by first | rfl), hh2⟩ ?_
    clear hk hh2 hl hh a w
    intro i a w hI
    obtain ⟨⟨hi, hI⟩, hl, hh⟩ := hI
    subst hKS0; subst hHS0
    simp only [List.cons_append, List.nil_append, List.append_nil] at hl hh
    refine c_seq ?_
    refine c_region ?_
    refine wl (wl_val hl rfl trivial (r_lss hl rfl rfl) ?_)
    clear hl a; intro a hl
    refine w_nil ?_
    have hl2 := hl.add (t := 1) (hl.add (t := 2) (hl.add (t := 15) (hl.add (t := 16) (hl.add (t := 17) (hl.add (t := 18) (hl.nil) rfl) rfl) rfl) rfl) rfl) rfl; clear hl; have hl := hl2; clear hl2
    refine then_normal ?_
    refine c_seq ?_
    refine c_cond hl rfl ?_ ?_
    · intro hc1
      try simp only [decide_eq_true_eq, decide_eq_false_iff_not, Bool.not_eq_true', Bool.not_eq_false', Bool.not_eq_true, Bool.not_eq_false, Bool.and_eq_true, Bool.or_eq_true, Bool.and_eq_false_iff, Bool.or_eq_false_iff, Bool.not_not, ne_eq, Int.not_lt, Int.not_le, Decidable.not_not, beq_iff_eq, bne_iff_ne] at hc1
      obtain ⟨x, hx⟩ : ∃ x, l1[i]? = some x := ⟨_, List.getElem?_eq_getElem (by omega)⟩
      obtain ⟨y, hy⟩ : ∃ y, l2[i]? = some y := ⟨_, List.getElem?_eq_getElem (by omega)⟩
      have hxm := List.mem_of_getElem? hx; have hym := List.mem_of_getElem? hy
      obtain ⟨b1, j1, hq1, hE1, hm1⟩ := row_mem h1 (by omega) hpre.a
      obtain ⟨b2, j2, hq2, hE2, hm2⟩ := row_mem h2 (by omega) hpre.b
      rw [hq1, hq2] at hl
      have hd1 := fl_at c4_len hx j1
      have hd2 := fl_at c4_len hy j2
      simp only [LV.c4] at hd1 hd2
      refine wp_skip ?_
      refine then_normal ?_
      refine c_seq ?_
      refine wp_block ?_
      refine c_seq ?_
      refine c_region ?_
      refine wl (wl_val hl rfl trivial (r_move hl rfl) ?_)
      clear hl a; intro a hl
      refine wl (wl_val hl rfl trivial (r_indexS hl rfl rfl slc55 (by omega) (by omega) (by first | (simp only [Int.reduceToNat]; rfl) | exact toNat_add1 _ | exact toNat_add2 _ _ | exact toNat_emod _ _ | exact Int.toNat_natCast _ | rfl)) ?_)
      clear hl a; intro a hl
      first | refine wl (w_loadA hl hh rfl trivial agg48 rfl (by repeat (first | exact find_head | apply find_tail)) (by first | (simp only [List.getElem?_cons_zero, List.getElem?_cons_succ, Value.cells, List.take_zero, List.take_succ_cons, List.take_nil, List.drop_zero, List.drop_succ_cons, List.drop_nil, List.length_cons, List.length_nil, List.cons_append, List.nil_append, List.append_nil, Nat.zero_add, Nat.add_zero, Nat.reduceAdd, Nat.reduceBEq, Nat.reduceEqDiff, Nat.ble, BEq.rfl, Bool.and_true, Bool.and_self, cond_true, beq_self_eq_true]; rfl)) (by first | rfl | (simp; done)) ?_) | refine wl (w_loadRA hl hh rfl trivial agg48 rfl hm1 (by simp) hd1 rfl ?_) | refine wl (w_loadRA hl hh rfl trivial agg48 rfl hm2 (by simp) hd2 rfl ?_)
      clear hl a; intro a hl
      refine wl (w_alloc hl hh rfl trivial zero48 rfl ?_)
      clear hl hh a w; intro k8 a w hl hh
      refine wl (wl_val hl rfl trivial (r_assign hl rfl) ?_)
      clear hl a; intro a hl
      refine wl (w_storeA hl hh trivial agg48 rfl rfl (by repeat (first | exact find_head | apply find_tail)) (by first | rfl | (simp; done)) (by first | (simp; done) | (simp; omega)) (by first | rfl | (simp; done)) (by first | (simp only [setL, List.getElem?_cons_zero, List.getElem?_cons_succ, Value.cells, List.take_zero, List.take_succ_cons, List.take_nil, List.drop_zero, List.drop_succ_cons, List.drop_nil, List.length_cons, List.length_nil, List.cons_append, List.nil_append, List.append_nil, Nat.zero_add, Nat.add_zero, Nat.reduceAdd, Nat.reduceBEq, Nat.reduceEqDiff, Nat.ble, BEq.rfl, Bool.and_true, Bool.and_self, cond_true, beq_self_eq_true]; rfl)) ?_)
      clear hh w; intro w hh
      refine w_nil ?_
      have hl2 := hl.add (t := 1) (hl.add (t := 2) (hl.add (t := 7) (hl.add (t := 8) (hl.add (t := 15) (hl.add (t := 16) (hl.add (t := 17) (hl.nil) rfl) rfl) rfl) rfl) rfl) rfl) rfl; clear hl; have hl := hl2; clear hl2
      refine then_normal ?_
      refine c_seq ?_
      refine c_region ?_
      refine wl (wl_val hl rfl trivial (r_move hl rfl) ?_)
      clear hl a; intro a hl
      refine wl (wl_val hl rfl trivial (r_move hl rfl) ?_)
      clear hl a; intro a hl
      refine wl (wl_val hl rfl trivial (r_indexS hl rfl rfl slc55 (by omega) (by omega) (by first | (simp only [Int.reduceToNat]; rfl) | exact toNat_add1 _ | exact toNat_add2 _ _ | exact toNat_emod _ _ | exact Int.toNat_natCast _ | rfl)) ?_)
      clear hl a; intro a hl
      first | refine wl (w_loadA hl hh rfl trivial agg48 rfl (by repeat (first | exact find_head | apply find_tail)) (by first | (simp only [List.getElem?_cons_zero, List.getElem?_cons_succ, Value.cells, List.take_zero, List.take_succ_cons, List.take_nil, List.drop_zero, List.drop_succ_cons, List.drop_nil, List.length_cons, List.length_nil, List.cons_append, List.nil_append, List.append_nil, Nat.zero_add, Nat.add_zero, Nat.reduceAdd, Nat.reduceBEq, Nat.reduceEqDiff, Nat.ble, BEq.rfl, Bool.and_true, Bool.and_self, cond_true, beq_self_eq_true]; rfl)) (by first | rfl | (simp; done)) ?_) | refine wl (w_loadRA hl hh rfl trivial agg48 rfl hm1 (by simp) hd1 rfl ?_) | refine wl (w_loadRA hl hh rfl trivial agg48 rfl hm2 (by simp) hd2 rfl ?_)
      clear hl a; intro a hl
      refine wl (w_alloc hl hh rfl trivial zero48 rfl ?_)
      clear hl hh a w; intro k9 a w hl hh
      refine wl (w_storeA hl hh trivial agg48 rfl rfl (by repeat (first | exact find_head | apply find_tail)) (by first | rfl | (simp; done)) (by first | (simp; done) | (simp; omega)) (by first | rfl | (simp; done)) (by first | (simp only [setL, List.getElem?_cons_zero, List.getElem?_cons_succ, Value.cells, List.take_zero, List.take_succ_cons, List.take_nil, List.drop_zero, List.drop_succ_cons, List.drop_nil, List.length_cons, List.length_nil, List.cons_append, List.nil_append, List.append_nil, Nat.zero_add, Nat.add_zero, Nat.reduceAdd, Nat.reduceBEq, Nat.reduceEqDiff, Nat.ble, BEq.rfl, Bool.and_true, Bool.and_self, cond_true, beq_self_eq_true]; rfl)) ?_)
      clear hh w; intro w hh
      refine w_nil ?_
      have hl2 := hl.add (t := 1) (hl.add (t := 2) (hl.add (t := 8) (hl.add (t := 9) (hl.add (t := 15) (hl.add (t := 16) (hl.add (t := 17) (hl.nil) rfl) rfl) rfl) rfl) rfl) rfl) rfl; clear hl; have hl := hl2; clear hl2
      refine then_normal ?_
      refine c_seq ?_
      refine c_region ?_
      refine wl (wl_val hl rfl trivial (r_move hl rfl) ?_)
      clear hl a; intro a hl
      first | refine wl (w_loadA hl hh rfl trivial agg48 rfl (by repeat (first | exact find_head | apply find_tail)) (by first | (simp only [List.getElem?_cons_zero, List.getElem?_cons_succ, Value.cells, List.take_zero, List.take_succ_cons, List.take_nil, List.drop_zero, List.drop_succ_cons, List.drop_nil, List.length_cons, List.length_nil, List.cons_append, List.nil_append, List.append_nil, Nat.zero_add, Nat.add_zero, Nat.reduceAdd, Nat.reduceBEq, Nat.reduceEqDiff, Nat.ble, BEq.rfl, Bool.and_true, Bool.and_self, cond_true, beq_self_eq_true]; rfl)) (by first | rfl | (simp; done)) ?_) | refine wl (w_loadRA hl hh rfl trivial agg48 rfl hm1 (by simp) hd1 rfl ?_) | refine wl (w_loadRA hl hh rfl trivial agg48 rfl hm2 (by simp) hd2 rfl ?_)
      clear hl a; intro a hl
      first | refine wl (w_loadA hl hh rfl trivial agg48 rfl (by repeat (first | exact find_head | apply find_tail)) (by first | (simp only [List.getElem?_cons_zero, List.getElem?_cons_succ, Value.cells, List.take_zero, List.take_succ_cons, List.take_nil, List.drop_zero, List.drop_succ_cons, List.drop_nil, List.length_cons, List.length_nil, List.cons_append, List.nil_append, List.append_nil, Nat.zero_add, Nat.add_zero, Nat.reduceAdd, Nat.reduceBEq, Nat.reduceEqDiff, Nat.ble, BEq.rfl, Bool.and_true, Bool.and_self, cond_true, beq_self_eq_true]; rfl)) (by first | rfl | (simp; done)) ?_) | refine wl (w_loadRA hl hh rfl trivial agg48 rfl hm1 (by simp) hd1 rfl ?_) | refine wl (w_loadRA hl hh rfl trivial agg48 rfl hm2 (by simp) hd2 rfl ?_)
      clear hl a; intro a hl
      refine wl (w_call hl hh rfl trivial rfl cal81 rfl (same55 x y (ho1 x hxm) (ho2 y hym)) (by repeat (first | exact keeps_nil | apply keeps_cons (by repeat (first | exact find_head | apply find_tail)) (by first  | rfl) | exact keeps_self | apply keeps_mv)) ⟨mem_keep hh (hpre.c _ (List.mem_map.2 ⟨x, hxm, rfl⟩)), mem_keep hh (hpre.d _ (List.mem_map.2 ⟨y, hym, rfl⟩))⟩ ?_)
      clear hl hh a w; intro vc Fc a w hR hl hh
      obtain ⟨rfl, rfl⟩ := hR
      try simp only [List.cons_append, List.nil_append] at hh
      refine wl (wl_val hl rfl trivial (r_not hl rfl) ?_)
      clear hl a; intro a hl
      refine w_nil ?_
      have hl2 := hl.add (t := 1) (hl.add (t := 2) (hl.add (t := 15) (hl.add (t := 16) (hl.add (t := 17) (hl.add (t := 30) (hl.nil) rfl) rfl) rfl) rfl) rfl) rfl; clear hl; have hl := hl2; clear hl2
      refine then_normal ?_
      refine c_cond hl rfl ?_ ?_
      · intro hc2
        try simp only [decide_eq_true_eq, decide_eq_false_iff_not, Bool.not_eq_true', Bool.not_eq_false', Bool.not_eq_true, Bool.not_eq_false, Bool.and_eq_true, Bool.or_eq_true, Bool.and_eq_false_iff, Bool.or_eq_false_iff, Bool.not_not, ne_eq, Int.not_lt, Int.not_le, Decidable.not_not, beq_iff_eq, bne_iff_ne] at hc2
        have hxy : ¬ LV.l x = LV.l y := by simpa using hc2
        refine c_seq ?_
        refine c_region ?_
        refine wl (wl_val hl rfl trivial (r_assign hl rfl) ?_)
        clear hl a; intro a hl
        refine w_nil ?_
        have hl2 := hl.add (t := 6) (hl.nil) rfl; clear hl; have hl := hl2; clear hl2
        refine then_normal ?_
        refine wp_ret ?_
        refine blk_ret ?_
        refine then_ret ?_
        refine then_ret ?_
        refine blk_ret ?_
        refine then_ret ?_
        refine f_ret1 (F' := []) hl hh rfl rfl (by repeat (first | exact keeps_nil | apply keeps_cons (by repeat (first | exact find_head | apply find_tail)) (by first  | rfl) | exact keeps_self | apply keeps_mv)) ?_
        exact ⟨congrArg Value.bool (decide_eq_false (ne_at (map_at LV.l hx) (map_at LV.l hy) hxy)).symm, rfl⟩
      · intro hc2
        try simp only [decide_eq_true_eq, decide_eq_false_iff_not, Bool.not_eq_true', Bool.not_eq_false', Bool.not_eq_true, Bool.not_eq_false, Bool.and_eq_true, Bool.or_eq_true, Bool.and_eq_false_iff, Bool.or_eq_false_iff, Bool.not_not, ne_eq, Int.not_lt, Int.not_le, Decidable.not_not, beq_iff_eq, bne_iff_ne] at hc2
        have hxy : LV.l x = LV.l y := by simpa using hc2
        refine wp_skip ?_
        refine blk_normal ?_
        refine then_normal ?_
        refine c_region ?_
        first | refine wl (wl_val hl rfl trivial (r_add hl rfl rfl (by simp only [Fits]; omega)) ?_) | refine wl (wl_val hl rfl trivial (r_addW hl rfl rfl) ?_)
        clear hl a; intro a hl
        refine wl (wl_val hl rfl trivial (r_move hl rfl) ?_)
        clear hl a; intro a hl
        refine w_nil ?_
        have hl2 := hl.add (t := 1) (hl.add (t := 2) (hl.add (t := 15) (hl.add (t := 16) (hl.add (t := 17) (hl.nil) rfl) rfl) rfl) rfl) rfl; clear hl; have hl := hl2; clear hl2
        refine then_normal ?_
        refine ⟨i + 1, (by omega), ⟨by omega, take_snoc_eq hI (map_at LV.l hx) (map_at LV.l hy) hxy⟩, hl.addE (t := 17) (hl.addE (t := 1) (hl.addE (t := 2) (hl.addE (t := 15) (hl.addE (t := 16) (hl.nil) rfl (by first | rfl | rfl | (rw [hq1]) | (rw [hq2]))) rfl (by first | rfl | rfl | (rw [hq1]) | (rw [hq2]))) rfl (by first | rfl | rfl | (rw [hq1]) | (rw [hq2]))) rfl (by first | rfl | rfl | (rw [hq1]) | (rw [hq2]))) rfl (by first | rfl | rfl | (rw [hq1]) | (rw [hq2])), hh.keep (by repeat (first | exact keeps_nil | apply keeps_cons (by repeat (first | exact find_head | apply find_tail)) (by first  | rfl) | exact keeps_self | apply keeps_mv))⟩
    · intro hc1
      try simp only [decide_eq_true_eq, decide_eq_false_iff_not, Bool.not_eq_true', Bool.not_eq_false', Bool.not_eq_true, Bool.not_eq_false, Bool.and_eq_true, Bool.or_eq_true, Bool.and_eq_false_iff, Bool.or_eq_false_iff, Bool.not_not, ne_eq, Int.not_lt, Int.not_le, Decidable.not_not, beq_iff_eq, bne_iff_ne] at hc1
      have hie : i = l1.length := by omega
      refine wp_exit ?_
      refine then_exit ?_
      refine then_exit ?_
      refine blk_exit ?_
      refine then_normal ?_
      refine c_seq ?_
      refine c_region ?_
      refine wl (wl_val hl rfl trivial (r_assign hl rfl) ?_)
      clear hl a; intro a hl
      refine w_nil ?_
      have hl2 := hl.add (t := 6) (hl.nil) rfl; clear hl; have hl := hl2; clear hl2
      refine then_normal ?_
      refine wp_ret ?_
      refine f_ret1 (F' := []) hl hh rfl rfl (by repeat (first | exact keeps_nil | apply keeps_cons (by repeat (first | exact find_head | apply find_tail)) (by first  | rfl) | exact keeps_self | apply keeps_mv)) ?_
      exact ⟨congrArg Value.bool (decide_eq_true (all_eq hI (by rw [List.length_map]; exact hie) (by rw [List.length_map, List.length_map]; exact hab))).symm, rfl⟩

set_option maxHeartbeats 2000000 in
theorem same20 (r t : RV) (hr : r.ok) (ht : t.ok) : SpK Tryz.prog 46 #[.agg ⟨[.string r.p, .slice r.hp r.a.length r.hc, .slice r.bp r.ls.length r.bc]⟩, .agg ⟨[.string t.p, .slice t.hp t.a.length t.hc, .slice t.bp t.ls.length t.bc]⟩] (fun w => Mem r.E w ∧ Mem t.E w) [] (fun v F' => v = .bool (decide (r.ru = t.ru)) ∧ F' = []) := by
  refine f_enter (args := [.agg ⟨[.string r.p, .slice r.hp r.a.length r.hc, .slice r.bp r.ls.length r.bc]⟩, .agg ⟨[.string t.p, .slice t.hp t.a.length t.hc, .slice t.bp t.ls.length t.bc]⟩]) Tryz.func46 rfl Tryz.ntmps46 rfl ?_
  intro w0 w a hpre hl hh
  simp only [slotsFrom, Nat.reduceAdd] at hl
  refine c_seq ?_
  refine c_region ?_
  refine wl (w_box hl hh rfl trivial rfl rfl ?_)
  clear hl hh a w; intro k2 a w hl hh
  refine wl (w_box hl hh rfl trivial rfl rfl ?_)
  clear hl hh a w; intro k3 a w hl hh
  refine wl (wl_val hl rfl trivial (r_assign hl rfl) ?_)
  clear hl a; intro a hl
  refine w_nil ?_
  have hl2 := hl.add (t := 2) (hl.add (t := 3) (hl.nil) rfl) rfl; clear hl; have hl := hl2; clear hl2
  refine then_normal ?_
  refine c_seq ?_
  refine c_region ?_
  refine wl (wl_val hl rfl trivial (r_field hl rfl fld57_0) ?_)
  clear hl a; intro a hl
  refine wl (w_loadA hl hh rfl trivial agg46 rfl (by repeat (first | exact find_head | apply find_tail)) (by first | (simp only [List.getElem?_cons_zero, List.getElem?_cons_succ, Value.cells, List.take_zero, List.take_succ_cons, List.take_nil, List.drop_zero, List.drop_succ_cons, List.drop_nil, List.length_cons, List.length_nil, List.cons_append, List.nil_append, List.append_nil, Nat.zero_add, Nat.add_zero, Nat.reduceAdd, Nat.reduceBEq, Nat.reduceEqDiff, Nat.ble, BEq.rfl, Bool.and_true, Bool.and_self, cond_true, beq_self_eq_true]; rfl)) (by first | rfl | (simp; done)) ?_)
  clear hl a; intro a hl
  refine wl (wl_val hl rfl trivial (r_field hl rfl fld57_0) ?_)
  clear hl a; intro a hl
  refine wl (w_loadA hl hh rfl trivial agg46 rfl (by repeat (first | exact find_head | apply find_tail)) (by first | (simp only [List.getElem?_cons_zero, List.getElem?_cons_succ, Value.cells, List.take_zero, List.take_succ_cons, List.take_nil, List.drop_zero, List.drop_succ_cons, List.drop_nil, List.length_cons, List.length_nil, List.cons_append, List.nil_append, List.append_nil, Nat.zero_add, Nat.add_zero, Nat.reduceAdd, Nat.reduceBEq, Nat.reduceEqDiff, Nat.ble, BEq.rfl, Bool.and_true, Bool.and_self, cond_true, beq_self_eq_true]; rfl)) (by first | rfl | (simp; done)) ?_)
  clear hl a; intro a hl
  refine wl (w_call hl hh rfl trivial rfl cal79 rfl (same53 _ _ _ _ _ _ _ _ _ _ hr.hd ht.hd) (by repeat (first | exact keeps_nil | apply keeps_cons (by repeat (first | exact find_head | apply find_tail)) (by first  | rfl) | exact keeps_self | apply keeps_mv)) ⟨mem_keep hh (RV.mh hpre.1), mem_keep hh (RV.mh hpre.2)⟩ ?_)
  clear hl hh a w; intro vc Fc a w hR hl hh
  obtain ⟨rfl, rfl⟩ := hR
  try simp only [List.cons_append, List.nil_append] at hh
  refine wl (wl_val hl rfl trivial (r_move hl rfl) ?_)
  clear hl a; intro a hl
  refine sl_split (t := 10) hl rfl ?_ ?_
  · intro hg1; clear hl; intro hl
    try simp only [decide_eq_true_eq, decide_eq_false_iff_not, Bool.not_eq_true', Bool.not_eq_false', Bool.not_eq_true, Bool.not_eq_false, Bool.and_eq_true, Bool.or_eq_true, Bool.and_eq_false_iff, Bool.or_eq_false_iff, Bool.not_not, ne_eq, Int.not_lt, Int.not_le, Decidable.not_not, beq_iff_eq, bne_iff_ne] at hg1
    refine wl (wl_val hl rfl ⟨_, _, rfl, rfl, rfl⟩ (r_field hl rfl fld57_1) ?_)
    clear hl a; intro a hl
    refine wl (w_load hl hh rfl ⟨_, _, rfl, rfl, rfl⟩ one55 rfl (by repeat (first | exact find_head | apply find_tail)) (by first | rfl) ?_)
    clear hl a; intro a hl
    refine wl (wl_val hl rfl ⟨_, _, rfl, rfl, rfl⟩ (r_field hl rfl fld57_1) ?_)
    clear hl a; intro a hl
    refine wl (w_load hl hh rfl ⟨_, _, rfl, rfl, rfl⟩ one55 rfl (by repeat (first | exact find_head | apply find_tail)) (by first | rfl) ?_)
    clear hl a; intro a hl
    refine wl (w_call hl hh rfl ⟨_, _, rfl, rfl, rfl⟩ rfl cal80 rfl (same54 r.ls t.ls _ _ _ _ _ _ hr.bd ht.bd hr.ls ht.ls hr.len ht.len) (by repeat (first | exact keeps_nil | apply keeps_cons (by repeat (first | exact find_head | apply find_tail)) (by first  | rfl) | exact keeps_self | apply keeps_mv)) ⟨mem_keep hh (RV.mb hpre.1), mem_keep hh (RV.mb hpre.2), fun E hE => (by obtain ⟨x, hx, rfl⟩ := List.mem_map.1 hE; exact mem_keep hh (RV.ml hpre.1 hx)), fun E hE => (by obtain ⟨x, hx, rfl⟩ := List.mem_map.1 hE; exact mem_keep hh (RV.ml hpre.2 hx))⟩ ?_)
    clear hl hh a w; intro vc Fc a w hR hl hh
    obtain ⟨rfl, rfl⟩ := hR
    try simp only [List.cons_append, List.nil_append] at hh
    refine wl (wl_val hl rfl trivial (r_pickT hl rfl rfl) ?_)
    clear hl a; intro a hl
    refine wl (wl_val hl rfl trivial (r_assign hl rfl) ?_)
    clear hl a; intro a hl
    refine w_nil ?_
    have hl2 := hl.add (t := 4) (hl.nil) rfl; clear hl; have hl := hl2; clear hl2
    refine then_normal ?_
    refine wp_ret ?_
    refine f_ret1 (F' := []) hl hh rfl rfl (by repeat (first | exact keeps_nil | apply keeps_cons (by repeat (first | exact find_head | apply find_tail)) (by first  | rfl) | exact keeps_self | apply keeps_mv)) ?_
    first | exact ⟨congrArg Value.bool (decide_eq_decide.2 (Iff.trans ⟨fun h => ⟨hg1, h⟩, And.right⟩ (ru_eq (x := r.ru) (y := t.ru)).symm)), rfl⟩ | exact ⟨congrArg Value.bool (decide_eq_false (fun h => hg1 (ru_eq.1 h).1)).symm, rfl⟩
  · intro hg1; clear hl; intro hl
    try simp only [decide_eq_true_eq, decide_eq_false_iff_not, Bool.not_eq_true', Bool.not_eq_false', Bool.not_eq_true, Bool.not_eq_false, Bool.and_eq_true, Bool.or_eq_true, Bool.and_eq_false_iff, Bool.or_eq_false_iff, Bool.not_not, ne_eq, Int.not_lt, Int.not_le, Decidable.not_not, beq_iff_eq, bne_iff_ne] at hg1
    refine wl (wl_skip hl rfl ⟨_, _, rfl, rfl, rfl⟩ ?_)
    clear hl a; intro a hl
    refine wl (wl_skip hl rfl ⟨_, _, rfl, rfl, rfl⟩ ?_)
    clear hl a; intro a hl
    refine wl (wl_skip hl rfl ⟨_, _, rfl, rfl, rfl⟩ ?_)
    clear hl a; intro a hl
    refine wl (wl_skip hl rfl ⟨_, _, rfl, rfl, rfl⟩ ?_)
    clear hl a; intro a hl
    refine wl (wl_skip hl rfl ⟨_, _, rfl, rfl, rfl⟩ ?_)
    clear hl a; intro a hl
    refine wl (wl_val hl rfl trivial (r_pickF hl rfl rfl) ?_)
    clear hl a; intro a hl
    refine wl (wl_val hl rfl trivial (r_assign hl rfl) ?_)
    clear hl a; intro a hl
    refine w_nil ?_
    have hl2 := hl.add (t := 4) (hl.nil) rfl; clear hl; have hl := hl2; clear hl2
    refine then_normal ?_
    refine wp_ret ?_
    refine f_ret1 (F' := []) hl hh rfl rfl (by repeat (first | exact keeps_nil | apply keeps_cons (by repeat (first | exact find_head | apply find_tail)) (by first  | rfl) | exact keeps_self | apply keeps_mv)) ?_
    first | exact ⟨congrArg Value.bool (decide_eq_decide.2 (Iff.trans ⟨fun h => ⟨hg1, h⟩, And.right⟩ (ru_eq (x := r.ru) (y := t.ru)).symm)), rfl⟩ | exact ⟨congrArg Value.bool (decide_eq_false (fun h => hg1 (ru_eq.1 h).1)).symm, rfl⟩

set_option maxHeartbeats 2000000 in
theorem same60 (q1 q2 : List RV) (p1 p2 : Option Addr) (c1 c2 : Nat) (E1 E2 : List (Nat × Obj)) (h1 : Row (.slice p1 q1.length c1) q1.length (fl RV.c3 q1) 3 57 E1) (h2 : Row (.slice p2 q2.length c2) q2.length (fl RV.c3 q2) 3 57 E2) (ho1 : ∀ x, x ∈ q1 → x.ok) (ho2 : ∀ x, x ∈ q2 → x.ok) (hl1 : q1.length ≤ 65536) (hl2 : q2.length ≤ 65536) : SpK Tryz.prog 45 #[.slice p1 q1.length c1, .slice p2 q2.length c2, .func (.func 46) #[] #[]] (Two E1 E2 (q1.map RV.E) (q2.map RV.E)) [] (fun v F' => v = .bool (decide (q1.map RV.ru = q2.map RV.ru)) ∧ F' = []) := by
  refine f_enter (args := [.slice p1 q1.length c1, .slice p2 q2.length c2, .func (.func 46) #[] #[]]) Tryz.func45 rfl Tryz.ntmps45 rfl ?_
  intro w0 w a hpre hl hh
  simp only [slotsFrom, Nat.reduceAdd] at hl
  refine c_seq ?_
  refine c_region ?_
  refine wl (wl_val hl rfl trivial (r_assign hl rfl) ?_)
  clear hl a; intro a hl
  refine w_nil ?_
  have hl2 := hl.add (t := 0) (hl.add (t := 1) (hl.add (t := 2) (hl.nil) rfl) rfl) rfl; clear hl; have hl := hl2; clear hl2
  refine then_normal ?_
  refine c_seq ?_
  refine c_seq ?_
  refine c_region ?_
  refine wl (wl_val hl rfl trivial (r_move hl rfl) ?_)
  clear hl a; intro a hl
  refine wl (wl_val hl rfl trivial (r_lenS hl rfl slc24) ?_)
  clear hl a; intro a hl
  refine wl (wl_val hl rfl trivial (r_move hl rfl) ?_)
  clear hl a; intro a hl
  refine wl (wl_val hl rfl trivial (r_lenS hl rfl slc24) ?_)
  clear hl a; intro a hl
  refine wl (wl_val hl rfl trivial (r_neq hl rfl rfl) ?_)
  clear hl a; intro a hl
  refine w_nil ?_
  have hl2 := hl.add (t := 0) (hl.add (t := 1) (hl.add (t := 2) (hl.add (t := 14) (hl.nil) rfl) rfl) rfl) rfl; clear hl; have hl := hl2; clear hl2
  refine then_normal ?_
  refine c_cond hl rfl ?_ ?_
  · intro hc0
    try simp only [decide_eq_true_eq, decide_eq_false_iff_not, Bool.not_eq_true', Bool.not_eq_false', Bool.not_eq_true, Bool.not_eq_false, Bool.and_eq_true, Bool.or_eq_true, Bool.and_eq_false_iff, Bool.or_eq_false_iff, Bool.not_not, ne_eq, Int.not_lt, Int.not_le, Decidable.not_not, beq_iff_eq, bne_iff_ne] at hc0
    refine c_seq ?_
    refine c_region ?_
    refine wl (wl_val hl rfl trivial (r_assign hl rfl) ?_)
    clear hl a; intro a hl
    refine w_nil ?_
    have hl2 := hl.add (t := 6) (hl.nil) rfl; clear hl; have hl := hl2; clear hl2
    refine then_normal ?_
    refine wp_ret ?_
    refine then_ret ?_
    refine f_ret1 (F' := []) hl hh rfl rfl (by repeat (first | exact keeps_nil | apply keeps_cons (by repeat (first | exact find_head | apply find_tail)) (by first  | rfl) | exact keeps_self | apply keeps_mv)) ?_
    exact ⟨congrArg Value.bool (decide_eq_false (fun h9 => by have h8 := congrArg List.length h9; rw [List.length_map, List.length_map] at h8; omega)).symm, rfl⟩
  · intro hc0
    try simp only [decide_eq_true_eq, decide_eq_false_iff_not, Bool.not_eq_true', Bool.not_eq_false', Bool.not_eq_true, Bool.not_eq_false, Bool.and_eq_true, Bool.or_eq_true, Bool.and_eq_false_iff, Bool.or_eq_false_iff, Bool.not_not, ne_eq, Int.not_lt, Int.not_le, Decidable.not_not, beq_iff_eq, bne_iff_ne] at hc0
    have hab : q1.length = q2.length := by omega
    refine wp_skip ?_
    refine then_normal ?_
    refine c_seq ?_
    refine c_seq ?_
    refine c_region ?_
    refine wl (wl_val hl rfl trivial (r_move hl rfl) ?_)
    clear hl a; intro a hl
    refine wl (wl_val hl rfl trivial (r_lenS hl rfl slc24) ?_)
    clear hl a; intro a hl
    refine wl (wl_val hl rfl trivial (r_move hl rfl) ?_)
    clear hl a; intro a hl
    refine w_nil ?_
    have hl2 := hl.add (t := 1) (hl.add (t := 2) (hl.add (t := 15) (hl.add (t := 16) (hl.add (t := 17) (hl.nil) rfl) rfl) rfl) rfl) rfl; clear hl; have hl := hl2; clear hl2
    refine then_normal ?_
    refine wp_block ?_
    obtain ⟨KS0, hKS0, hk⟩ := (hl.add (t := 1) (hl.add (t := 2) (hl.add (t := 15) (hl.add (t := 16) (hl.nil) rfl) rfl) rfl) rfl).name
    obtain ⟨HS0, hHS0, hh2⟩ := hh.name (keeps_nil)
    refine c_loop (α := Nat) (fun i => q1.length - i) (fun i a w => (i ≤ q1.length ∧ (q1.map RV.ru).take i = (q2.map RV.ru).take i) ∧ Sl 32 ([(17, .int .i64 (i : Int))] ++ KS0) a ∧ Has _ w0 ([] ++ HS0) w) 0 ⟨⟨Nat.zero_le _, rfl⟩, hl.addE (t := 17) (hk) rfl (by first | rfl), hh2⟩ ?_
    clear hk hh2 hl hh a w
    intro i a w hI
    obtain ⟨⟨hi, hI⟩, hl, hh⟩ := hI
    subst hKS0; subst hHS0
    simp only [List.cons_append, List.nil_append, List.append_nil] at hl hh
    refine c_seq ?_
    refine c_region ?_
    refine wl (wl_val hl rfl trivial (r_lss hl rfl rfl) ?_)
    clear hl a; intro a hl
    refine w_nil ?_
    have hl2 := hl.add (t := 1) (hl.add (t := 2) (hl.add (t := 15) (hl.add (t := 16) (hl.add (t := 17) (hl.add (t := 18) (hl.nil) rfl) rfl) rfl) rfl) rfl) rfl; clear hl; have hl := hl2; clear hl2
    refine then_normal ?_
    refine c_seq ?_
    refine c_cond hl rfl ?_ ?_
    · intro hc1
      try simp only [decide_eq_true_eq, decide_eq_false_iff_not, Bool.not_eq_true', Bool.not_eq_false', Bool.not_eq_true, Bool.not_eq_false, Bool.and_eq_true, Bool.or_eq_true, Bool.and_eq_false_iff, Bool.or_eq_false_iff, Bool.not_not, ne_eq, Int.not_lt, Int.not_le, Decidable.not_not, beq_iff_eq, bne_iff_ne] at hc1
      obtain ⟨x, hx⟩ : ∃ x, q1[i]? = some x := ⟨_, List.getElem?_eq_getElem (by omega)⟩
      obtain ⟨y, hy⟩ : ∃ y, q2[i]? = some y := ⟨_, List.getElem?_eq_getElem (by omega)⟩
      have hxm := List.mem_of_getElem? hx; have hym := List.mem_of_getElem? hy
      obtain ⟨b1, j1, hq1, hE1, hm1⟩ := row_mem h1 (by omega) hpre.a
      obtain ⟨b2, j2, hq2, hE2, hm2⟩ := row_mem h2 (by omega) hpre.b
      rw [hq1, hq2] at hl
      have hd1 := fl_at c3_len hx j1
      have hd2 := fl_at c3_len hy j2
      simp only [RV.c3] at hd1 hd2
      refine wp_skip ?_
      refine then_normal ?_
      refine c_seq ?_
      refine wp_block ?_
      refine c_seq ?_
      refine c_region ?_
      refine wl (wl_val hl rfl trivial (r_move hl rfl) ?_)
      clear hl a; intro a hl
      refine wl (wl_val hl rfl trivial (r_indexS hl rfl rfl slc24 (by omega) (by omega) (by first | (simp only [Int.reduceToNat]; rfl) | exact toNat_add1 _ | exact toNat_add2 _ _ | exact toNat_emod _ _ | exact Int.toNat_natCast _ | rfl)) ?_)
      clear hl a; intro a hl
      first | refine wl (w_loadA hl hh rfl trivial agg57 rfl (by repeat (first | exact find_head | apply find_tail)) (by first | (simp only [List.getElem?_cons_zero, List.getElem?_cons_succ, Value.cells, List.take_zero, List.take_succ_cons, List.take_nil, List.drop_zero, List.drop_succ_cons, List.drop_nil, List.length_cons, List.length_nil, List.cons_append, List.nil_append, List.append_nil, Nat.zero_add, Nat.add_zero, Nat.reduceAdd, Nat.reduceBEq, Nat.reduceEqDiff, Nat.ble, BEq.rfl, Bool.and_true, Bool.and_self, cond_true, beq_self_eq_true]; rfl)) (by first | rfl | (simp; done)) ?_) | refine wl (w_loadRA hl hh rfl trivial agg57 rfl hm1 (by simp) hd1 rfl ?_) | refine wl (w_loadRA hl hh rfl trivial agg57 rfl hm2 (by simp) hd2 rfl ?_)
      clear hl a; intro a hl
      refine wl (w_alloc hl hh rfl trivial zero57 rfl ?_)
      clear hl hh a w; intro k8 a w hl hh
      refine wl (wl_val hl rfl trivial (r_assign hl rfl) ?_)
      clear hl a; intro a hl
      refine wl (w_storeA hl hh trivial agg57 rfl rfl (by repeat (first | exact find_head | apply find_tail)) (by first | rfl | (simp; done)) (by first | (simp; done) | (simp; omega)) (by first | rfl | (simp; done)) (by first | (simp only [setL, List.getElem?_cons_zero, List.getElem?_cons_succ, Value.cells, List.take_zero, List.take_succ_cons, List.take_nil, List.drop_zero, List.drop_succ_cons, List.drop_nil, List.length_cons, List.length_nil, List.cons_append, List.nil_append, List.append_nil, Nat.zero_add, Nat.add_zero, Nat.reduceAdd, Nat.reduceBEq, Nat.reduceEqDiff, Nat.ble, BEq.rfl, Bool.and_true, Bool.and_self, cond_true, beq_self_eq_true]; rfl)) ?_)
      clear hh w; intro w hh
      refine w_nil ?_
      have hl2 := hl.add (t := 1) (hl.add (t := 2) (hl.add (t := 7) (hl.add (t := 8) (hl.add (t := 15) (hl.add (t := 16) (hl.add (t := 17) (hl.nil) rfl) rfl) rfl) rfl) rfl) rfl) rfl; clear hl; have hl := hl2; clear hl2
      refine then_normal ?_
      refine c_seq ?_
      refine c_region ?_
      refine wl (wl_val hl rfl trivial (r_move hl rfl) ?_)
      clear hl a; intro a hl
      refine wl (wl_val hl rfl trivial (r_move hl rfl) ?_)
      clear hl a; intro a hl
      refine wl (wl_val hl rfl trivial (r_indexS hl rfl rfl slc24 (by omega) (by omega) (by first | (simp only [Int.reduceToNat]; rfl) | exact toNat_add1 _ | exact toNat_add2 _ _ | exact toNat_emod _ _ | exact Int.toNat_natCast _ | rfl)) ?_)
      clear hl a; intro a hl
      first | refine wl (w_loadA hl hh rfl trivial agg57 rfl (by repeat (first | exact find_head | apply find_tail)) (by first | (simp only [List.getElem?_cons_zero, List.getElem?_cons_succ, Value.cells, List.take_zero, List.take_succ_cons, List.take_nil, List.drop_zero, List.drop_succ_cons, List.drop_nil, List.length_cons, List.length_nil, List.cons_append, List.nil_append, List.append_nil, Nat.zero_add, Nat.add_zero, Nat.reduceAdd, Nat.reduceBEq, Nat.reduceEqDiff, Nat.ble, BEq.rfl, Bool.and_true, Bool.and_self, cond_true, beq_self_eq_true]; rfl)) (by first | rfl | (simp; done)) ?_) | refine wl (w_loadRA hl hh rfl trivial agg57 rfl hm1 (by simp) hd1 rfl ?_) | refine wl (w_loadRA hl hh rfl trivial agg57 rfl hm2 (by simp) hd2 rfl ?_)
      clear hl a; intro a hl
      refine wl (w_alloc hl hh rfl trivial zero57 rfl ?_)
      clear hl hh a w; intro k9 a w hl hh
      refine wl (w_storeA hl hh trivial agg57 rfl rfl (by repeat (first | exact find_head | apply find_tail)) (by first | rfl | (simp; done)) (by first | (simp; done) | (simp; omega)) (by first | rfl | (simp; done)) (by first | (simp only [setL, List.getElem?_cons_zero, List.getElem?_cons_succ, Value.cells, List.take_zero, List.take_succ_cons, List.take_nil, List.drop_zero, List.drop_succ_cons, List.drop_nil, List.length_cons, List.length_nil, List.cons_append, List.nil_append, List.append_nil, Nat.zero_add, Nat.add_zero, Nat.reduceAdd, Nat.reduceBEq, Nat.reduceEqDiff, Nat.ble, BEq.rfl, Bool.and_true, Bool.and_self, cond_true, beq_self_eq_true]; rfl)) ?_)
      clear hh w; intro w hh
      refine w_nil ?_
      have hl2 := hl.add (t := 1) (hl.add (t := 2) (hl.add (t := 8) (hl.add (t := 9) (hl.add (t := 15) (hl.add (t := 16) (hl.add (t := 17) (hl.nil) rfl) rfl) rfl) rfl) rfl) rfl) rfl; clear hl; have hl := hl2; clear hl2
      refine then_normal ?_
      refine c_seq ?_
      refine c_region ?_
      refine wl (wl_val hl rfl trivial (r_move hl rfl) ?_)
      clear hl a; intro a hl
      first | refine wl (w_loadA hl hh rfl trivial agg57 rfl (by repeat (first | exact find_head | apply find_tail)) (by first | (simp only [List.getElem?_cons_zero, List.getElem?_cons_succ, Value.cells, List.take_zero, List.take_succ_cons, List.take_nil, List.drop_zero, List.drop_succ_cons, List.drop_nil, List.length_cons, List.length_nil, List.cons_append, List.nil_append, List.append_nil, Nat.zero_add, Nat.add_zero, Nat.reduceAdd, Nat.reduceBEq, Nat.reduceEqDiff, Nat.ble, BEq.rfl, Bool.and_true, Bool.and_self, cond_true, beq_self_eq_true]; rfl)) (by first | rfl | (simp; done)) ?_) | refine wl (w_loadRA hl hh rfl trivial agg57 rfl hm1 (by simp) hd1 rfl ?_) | refine wl (w_loadRA hl hh rfl trivial agg57 rfl hm2 (by simp) hd2 rfl ?_)
      clear hl a; intro a hl
      first | refine wl (w_loadA hl hh rfl trivial agg57 rfl (by repeat (first | exact find_head | apply find_tail)) (by first | (simp only [List.getElem?_cons_zero, List.getElem?_cons_succ, Value.cells, List.take_zero, List.take_succ_cons, List.take_nil, List.drop_zero, List.drop_succ_cons, List.drop_nil, List.length_cons, List.length_nil, List.cons_append, List.nil_append, List.append_nil, Nat.zero_add, Nat.add_zero, Nat.reduceAdd, Nat.reduceBEq, Nat.reduceEqDiff, Nat.ble, BEq.rfl, Bool.and_true, Bool.and_self, cond_true, beq_self_eq_true]; rfl)) (by first | rfl | (simp; done)) ?_) | refine wl (w_loadRA hl hh rfl trivial agg57 rfl hm1 (by simp) hd1 rfl ?_) | refine wl (w_loadRA hl hh rfl trivial agg57 rfl hm2 (by simp) hd2 rfl ?_)
      clear hl a; intro a hl
      refine wl (w_call hl hh rfl trivial rfl cal46 rfl (same20 x y (ho1 x hxm) (ho2 y hym)) (by repeat (first | exact keeps_nil | apply keeps_cons (by repeat (first | exact find_head | apply find_tail)) (by first  | rfl) | exact keeps_self | apply keeps_mv)) ⟨mem_keep hh (hpre.c _ (List.mem_map.2 ⟨x, hxm, rfl⟩)), mem_keep hh (hpre.d _ (List.mem_map.2 ⟨y, hym, rfl⟩))⟩ ?_)
      clear hl hh a w; intro vc Fc a w hR hl hh
      obtain ⟨rfl, rfl⟩ := hR
      try simp only [List.cons_append, List.nil_append] at hh
      refine wl (wl_val hl rfl trivial (r_not hl rfl) ?_)
      clear hl a; intro a hl
      refine w_nil ?_
      have hl2 := hl.add (t := 1) (hl.add (t := 2) (hl.add (t := 15) (hl.add (t := 16) (hl.add (t := 17) (hl.add (t := 30) (hl.nil) rfl) rfl) rfl) rfl) rfl) rfl; clear hl; have hl := hl2; clear hl2
      refine then_normal ?_
      refine c_cond hl rfl ?_ ?_
      · intro hc2
        try simp only [decide_eq_true_eq, decide_eq_false_iff_not, Bool.not_eq_true', Bool.not_eq_false', Bool.not_eq_true, Bool.not_eq_false, Bool.and_eq_true, Bool.or_eq_true, Bool.and_eq_false_iff, Bool.or_eq_false_iff, Bool.not_not, ne_eq, Int.not_lt, Int.not_le, Decidable.not_not, beq_iff_eq, bne_iff_ne] at hc2
        have hxy : ¬ RV.ru x = RV.ru y := by simpa using hc2
        refine c_seq ?_
        refine c_region ?_
        refine wl (wl_val hl rfl trivial (r_assign hl rfl) ?_)
        clear hl a; intro a hl
        refine w_nil ?_
        have hl2 := hl.add (t := 6) (hl.nil) rfl; clear hl; have hl := hl2; clear hl2
        refine then_normal ?_
        refine wp_ret ?_
        refine blk_ret ?_
        refine then_ret ?_
        refine then_ret ?_
        refine blk_ret ?_
        refine then_ret ?_
        refine f_ret1 (F' := []) hl hh rfl rfl (by repeat (first | exact keeps_nil | apply keeps_cons (by repeat (first | exact find_head | apply find_tail)) (by first  | rfl) | exact keeps_self | apply keeps_mv)) ?_
        exact ⟨congrArg Value.bool (decide_eq_false (ne_at (map_at RV.ru hx) (map_at RV.ru hy) hxy)).symm, rfl⟩
      · intro hc2
        try simp only [decide_eq_true_eq, decide_eq_false_iff_not, Bool.not_eq_true', Bool.not_eq_false', Bool.not_eq_true, Bool.not_eq_false, Bool.and_eq_true, Bool.or_eq_true, Bool.and_eq_false_iff, Bool.or_eq_false_iff, Bool.not_not, ne_eq, Int.not_lt, Int.not_le, Decidable.not_not, beq_iff_eq, bne_iff_ne] at hc2
        have hxy : RV.ru x = RV.ru y := by simpa using hc2
        refine wp_skip ?_
        refine blk_normal ?_
        refine then_normal ?_
        refine c_region ?_
        first | refine wl (wl_val hl rfl trivial (r_add hl rfl rfl (by simp only [Fits]; omega)) ?_) | refine wl (wl_val hl rfl trivial (r_addW hl rfl rfl) ?_)
        clear hl a; intro a hl
        refine wl (wl_val hl rfl trivial (r_move hl rfl) ?_)
        clear hl a; intro a hl
        refine w_nil ?_
        have hl2 := hl.add (t := 1) (hl.add (t := 2) (hl.add (t := 15) (hl.add (t := 16) (hl.add (t := 17) (hl.nil) rfl) rfl) rfl) rfl) rfl; clear hl; have hl := hl2; clear hl2
        refine then_normal ?_
        refine ⟨i + 1, (by omega), ⟨by omega, take_snoc_eq hI (map_at RV.ru hx) (map_at RV.ru hy) hxy⟩, hl.addE (t := 17) (hl.addE (t := 1) (hl.addE (t := 2) (hl.addE (t := 15) (hl.addE (t := 16) (hl.nil) rfl (by first | rfl | rfl | (rw [hq1]) | (rw [hq2]))) rfl (by first | rfl | rfl | (rw [hq1]) | (rw [hq2]))) rfl (by first | rfl | rfl | (rw [hq1]) | (rw [hq2]))) rfl (by first | rfl | rfl | (rw [hq1]) | (rw [hq2]))) rfl (by first | rfl | rfl | (rw [hq1]) | (rw [hq2])), hh.keep (by repeat (first | exact keeps_nil | apply keeps_cons (by repeat (first | exact find_head | apply find_tail)) (by first  | rfl) | exact keeps_self | apply keeps_mv))⟩
    · intro hc1
      try simp only [decide_eq_true_eq, decide_eq_false_iff_not, Bool.not_eq_true', Bool.not_eq_false', Bool.not_eq_true, Bool.not_eq_false, Bool.and_eq_true, Bool.or_eq_true, Bool.and_eq_false_iff, Bool.or_eq_false_iff, Bool.not_not, ne_eq, Int.not_lt, Int.not_le, Decidable.not_not, beq_iff_eq, bne_iff_ne] at hc1
      have hie : i = q1.length := by omega
      refine wp_exit ?_
      refine then_exit ?_
      refine then_exit ?_
      refine blk_exit ?_
      refine then_normal ?_
      refine c_seq ?_
      refine c_region ?_
      refine wl (wl_val hl rfl trivial (r_assign hl rfl) ?_)
      clear hl a; intro a hl
      refine w_nil ?_
      have hl2 := hl.add (t := 6) (hl.nil) rfl; clear hl; have hl := hl2; clear hl2
      refine then_normal ?_
      refine wp_ret ?_
      refine f_ret1 (F' := []) hl hh rfl rfl (by repeat (first | exact keeps_nil | apply keeps_cons (by repeat (first | exact find_head | apply find_tail)) (by first  | rfl) | exact keeps_self | apply keeps_mv)) ?_
      exact ⟨congrArg Value.bool (decide_eq_true (all_eq hI (by rw [List.length_map]; exact hie) (by rw [List.length_map, List.length_map]; exact hab))).symm, rfl⟩

set_option maxHeartbeats 1000000 in
theorem same59 (l1 l2 : List Pd) (p1 p2 : Option Addr) (c1 c2 : Nat) (E1 E2 : List (Nat × Obj)) (h1 : Row (.slice p1 l1.length c1) l1.length (fl pdc l1) 3 93 E1) (h2 : Row (.slice p2 l2.length c2) l2.length (fl pdc l2) 3 93 E2) (ho1 : ∀ x, x ∈ l1 → PdB x) (ho2 : ∀ x, x ∈ l2 → PdB x) (hl1 : l1.length ≤ 100000000) (hl2 : l2.length ≤ 100000000) : SpK Tryz.prog 44 #[.slice p1 l1.length c1, .slice p2 l2.length c2] (fun w => Mem E1 w ∧ Mem E2 w) [] (fun v F' => v = .bool (decide (l1 = l2)) ∧ F' = []) := by
  refine f_enter (args := [.slice p1 l1.length c1, .slice p2 l2.length c2]) Tryz.func44 rfl Tryz.ntmps44 rfl ?_
  intro w0 w a hpre hl hh
  simp only [slotsFrom, Nat.reduceAdd] at hl
  refine c_seq ?_
  refine c_region ?_
  refine wl (wl_val hl rfl trivial (r_assign hl rfl) ?_)
  clear hl a; intro a hl
  refine w_nil ?_
  have hl2 := hl.add (t := 0) (hl.add (t := 1) (hl.nil) rfl) rfl; clear hl; have hl := hl2; clear hl2
  refine then_normal ?_
  refine c_seq ?_
  refine c_seq ?_
  refine c_region ?_
  refine wl (wl_val hl rfl trivial (r_move hl rfl) ?_)
  clear hl a; intro a hl
  refine wl (wl_val hl rfl trivial (r_lenS hl rfl slc31) ?_)
  clear hl a; intro a hl
  refine wl (wl_val hl rfl trivial (r_move hl rfl) ?_)
  clear hl a; intro a hl
  refine wl (wl_val hl rfl trivial (r_lenS hl rfl slc31) ?_)
  clear hl a; intro a hl
  refine wl (wl_val hl rfl trivial (r_neq hl rfl rfl) ?_)
  clear hl a; intro a hl
  refine w_nil ?_
  have hl2 := hl.add (t := 0) (hl.add (t := 1) (hl.add (t := 10) (hl.nil) rfl) rfl) rfl; clear hl; have hl := hl2; clear hl2
  refine then_normal ?_
  refine c_cond hl rfl ?_ ?_
  · intro hc0
    try simp only [decide_eq_true_eq, decide_eq_false_iff_not, Bool.not_eq_true', Bool.not_eq_false', Bool.not_eq_true, Bool.not_eq_false, Bool.and_eq_true, Bool.or_eq_true, Bool.and_eq_false_iff, Bool.or_eq_false_iff, Bool.not_not, ne_eq, Int.not_lt, Int.not_le, Decidable.not_not, beq_iff_eq, bne_iff_ne] at hc0
    refine c_seq ?_
    refine c_region ?_
    refine wl (wl_val hl rfl trivial (r_assign hl rfl) ?_)
    clear hl a; intro a hl
    refine w_nil ?_
    have hl2 := hl.add (t := 4) (hl.nil) rfl; clear hl; have hl := hl2; clear hl2
    refine then_normal ?_
    refine wp_ret ?_
    refine then_ret ?_
    refine f_ret1 (F' := []) hl hh rfl rfl (by repeat (first | exact keeps_nil | apply keeps_cons (by repeat (first | exact find_head | apply find_tail)) (by first  | rfl) | exact keeps_self | apply keeps_mv)) ?_
    exact ⟨congrArg Value.bool (decide_eq_false (fun h9 => by rw [h9] at hc0; omega)).symm, rfl⟩
  · intro hc0
    try simp only [decide_eq_true_eq, decide_eq_false_iff_not, Bool.not_eq_true', Bool.not_eq_false', Bool.not_eq_true, Bool.not_eq_false, Bool.and_eq_true, Bool.or_eq_true, Bool.and_eq_false_iff, Bool.or_eq_false_iff, Bool.not_not, ne_eq, Int.not_lt, Int.not_le, Decidable.not_not, beq_iff_eq, bne_iff_ne] at hc0
    have hab : l1.length = l2.length := by omega
    refine wp_skip ?_
    refine then_normal ?_
    refine c_seq ?_
    refine c_seq ?_
    refine c_region ?_
    refine wl (wl_val hl rfl trivial (r_move hl rfl) ?_)
    clear hl a; intro a hl
    refine wl (wl_val hl rfl trivial (r_lenS hl rfl slc31) ?_)
    clear hl a; intro a hl
    refine wl (wl_val hl rfl trivial (r_move hl rfl) ?_)
    clear hl a; intro a hl
    refine w_nil ?_
    have hl2 := hl.add (t := 0) (hl.add (t := 1) (hl.add (t := 12) (hl.add (t := 13) (hl.nil) rfl) rfl) rfl) rfl; clear hl; have hl := hl2; clear hl2
    refine then_normal ?_
    refine wp_block ?_
    obtain ⟨KS0, hKS0, hk⟩ := (hl.add (t := 0) (hl.add (t := 1) (hl.add (t := 12) (hl.nil) rfl) rfl) rfl).name
    obtain ⟨HS0, hHS0, hh2⟩ := hh.name (keeps_nil)
    refine c_loop (α := Nat) (fun i => l1.length - i) (fun i a w => (i ≤ l1.length ∧ l1.take i = l2.take i) ∧ Sl 26 ([(13, .int .i64 (i : Int))] ++ KS0) a ∧ Has _ w0 ([] ++ HS0) w) 0 ⟨⟨Nat.zero_le _, rfl⟩, hl.addE (t := 13) (hk) rfl (by first | rfl), hh2⟩ ?_
    clear hk hh2 hl hh a w
    intro i a w hI
    obtain ⟨⟨hi, hI⟩, hl, hh⟩ := hI
    subst hKS0; subst hHS0
    simp only [List.cons_append, List.nil_append, List.append_nil] at hl hh
    refine c_seq ?_
    refine c_region ?_
    refine wl (wl_val hl rfl trivial (r_lss hl rfl rfl) ?_)
    clear hl a; intro a hl
    refine w_nil ?_
    have hl2 := hl.add (t := 0) (hl.add (t := 1) (hl.add (t := 12) (hl.add (t := 13) (hl.add (t := 14) (hl.nil) rfl) rfl) rfl) rfl) rfl; clear hl; have hl := hl2; clear hl2
    refine then_normal ?_
    refine c_seq ?_
    refine c_cond hl rfl ?_ ?_
    · intro hc1
      try simp only [decide_eq_true_eq, decide_eq_false_iff_not, Bool.not_eq_true', Bool.not_eq_false', Bool.not_eq_true, Bool.not_eq_false, Bool.and_eq_true, Bool.or_eq_true, Bool.and_eq_false_iff, Bool.or_eq_false_iff, Bool.not_not, ne_eq, Int.not_lt, Int.not_le, Decidable.not_not, beq_iff_eq, bne_iff_ne] at hc1
      obtain ⟨x, hx⟩ : ∃ x, l1[i]? = some x := ⟨_, List.getElem?_eq_getElem (by omega)⟩
      obtain ⟨y, hy⟩ : ∃ y, l2[i]? = some y := ⟨_, List.getElem?_eq_getElem (by omega)⟩
      have hxo := ho1 x (List.mem_of_getElem? hx); have hyo := ho2 y (List.mem_of_getElem? hy)
      obtain ⟨b1, j1, hq1, hE1, hm1⟩ := row_mem h1 (by omega) hpre.1
      obtain ⟨b2, j2, hq2, hE2, hm2⟩ := row_mem h2 (by omega) hpre.2
      rw [hq1, hq2] at hl
      have hd1 := fl_at pdc_len hx j1
      have hd2 := fl_at pdc_len hy j2
      simp only [pdc] at hd1 hd2
      have hM9 : Mem [(b1, C (fl pdc l1 ++ j1) 93), (b2, C (fl pdc l2 ++ j2) 93)] w0 := fun b o m => by
        simp only [List.mem_cons, List.not_mem_nil, or_false] at m
        rcases m with m | m <;> cases m
        · exact hm1
        · exact hm2
      refine wp_skip ?_
      refine then_normal ?_
      refine c_seq ?_
      refine wp_block ?_
      refine c_seq ?_
      refine c_region ?_
      refine wl (wl_val hl rfl trivial (r_move hl rfl) ?_)
      clear hl a; intro a hl
      refine wl (wl_val hl rfl trivial (r_assign hl rfl) ?_)
      clear hl a; intro a hl
      refine w_nil ?_
      have hl2 := hl.add (t := 0) (hl.add (t := 1) (hl.add (t := 5) (hl.add (t := 12) (hl.add (t := 13) (hl.nil) rfl) rfl) rfl) rfl) rfl; clear hl; have hl := hl2; clear hl2
      refine then_normal ?_
      refine c_seq ?_
      refine c_draw [(b1, C (fl pdc l1 ++ j1) 93), (b2, C (fl pdc l2 ++ j2) 93)] [8] mixed hh ?_
      clear hh w; intro w hh
      have hM : Mem [(b1, C (fl pdc l1 ++ j1) 93), (b2, C (fl pdc l2 ++ j2) 93)] w := (mem_keep hh hM9)
      refine d_take (i := 0) hl rfl (by kernel_rfl) (by kernel_rfl) (by kernel_rfl) (by kernel_rfl) (by kernel_rfl) rfl trivial (fun _ _ _ h => h) hM (fun w hC => r_move hl rfl) rfl ?_
      clear hl a; intro a hl
      refine d_take (i := 1) hl rfl (by kernel_rfl) (by kernel_rfl) (by kernel_rfl) (by kernel_rfl) (by kernel_rfl) rfl trivial (fun _ _ _ h => h) hM (fun w hC => r_move hl rfl) rfl ?_
      clear hl a; intro a hl
      refine d_take (i := 2) hl rfl (by kernel_rfl) (by kernel_rfl) (by kernel_rfl) (by kernel_rfl) (by kernel_rfl) rfl trivial (fun _ _ _ h => h) hM (fun w hC => r_indexS hl rfl rfl slc31 (by omega) (by omega) (by first | (simp only [Int.reduceToNat]; rfl) | exact toNat_add1 _ | exact toNat_add2 _ _ | exact toNat_emod _ _ | exact Int.toNat_natCast _ | rfl)) rfl ?_
      clear hl a; intro a hl
      refine d_take (i := 3) hl rfl (by kernel_rfl) (by kernel_rfl) (by kernel_rfl) (by kernel_rfl) (by kernel_rfl) rfl trivial (fun _ _ _ h => h) hM (fun w hC => r_loadCA hl rfl agg93 hC (by repeat (first | exact find_head | apply find_tail)) (by first | exact hd1 | exact hd2 | (simp only [List.getElem?_cons_zero, List.getElem?_cons_succ, Value.cells, List.take_zero, List.take_succ_cons, List.take_nil, List.drop_zero, List.drop_succ_cons, List.drop_nil, List.length_cons, List.length_nil, List.cons_append, List.nil_append, List.append_nil, Nat.zero_add, Nat.add_zero, Nat.reduceAdd, Nat.reduceBEq, Nat.reduceEqDiff, Nat.ble, BEq.rfl, Bool.and_true, Bool.and_self, cond_true, beq_self_eq_true]; rfl)) (by first | rfl | (simp; done))) rfl ?_
      clear hl a; intro a hl
      refine d_take (i := 4) hl rfl (by kernel_rfl) (by kernel_rfl) (by kernel_rfl) (by kernel_rfl) (by kernel_rfl) rfl trivial (fun _ _ _ h => h) hM (fun w hC => r_move hl rfl) rfl ?_
      clear hl a; intro a hl
      refine d_take (i := 5) hl rfl (by kernel_rfl) (by kernel_rfl) (by kernel_rfl) (by kernel_rfl) (by kernel_rfl) rfl trivial (fun _ _ _ h => h) hM (fun w hC => r_move hl rfl) rfl ?_
      clear hl a; intro a hl
      refine d_take (i := 6) hl rfl (by kernel_rfl) (by kernel_rfl) (by kernel_rfl) (by kernel_rfl) (by kernel_rfl) rfl trivial (fun _ _ _ h => h) hM (fun w hC => r_indexS hl rfl rfl slc31 (by omega) (by omega) (by first | (simp only [Int.reduceToNat]; rfl) | exact toNat_add1 _ | exact toNat_add2 _ _ | exact toNat_emod _ _ | exact Int.toNat_natCast _ | rfl)) rfl ?_
      clear hl a; intro a hl
      refine d_take (i := 7) hl rfl (by kernel_rfl) (by kernel_rfl) (by kernel_rfl) (by kernel_rfl) (by kernel_rfl) rfl trivial (fun _ _ _ h => h) hM (fun w hC => r_loadCA hl rfl agg93 hC (by repeat (first | exact find_head | apply find_tail)) (by first | exact hd1 | exact hd2 | (simp only [List.getElem?_cons_zero, List.getElem?_cons_succ, Value.cells, List.take_zero, List.take_succ_cons, List.take_nil, List.drop_zero, List.drop_succ_cons, List.drop_nil, List.length_cons, List.length_nil, List.cons_append, List.nil_append, List.append_nil, Nat.zero_add, Nat.add_zero, Nat.reduceAdd, Nat.reduceBEq, Nat.reduceEqDiff, Nat.ble, BEq.rfl, Bool.and_true, Bool.and_self, cond_true, beq_self_eq_true]; rfl)) (by first | rfl | (simp; done))) rfl ?_
      clear hl a; intro a hl
      refine d_takeL (i := 8) hl rfl (by kernel_rfl) (by kernel_rfl) (by kernel_rfl) (by kernel_rfl) (by kernel_rfl) rfl trivial (fun _ _ _ h => h) (fun w => r_neqA hl rfl rfl eqf93 shp93 (by simp only [unlitL, unlit]; rfl) (by simp only [unlitL, unlit]; rfl) (by first | exact litsP hxo | exact litsP hyo | exact ⟨trivial⟩ | (refine ⟨?_⟩; simp [LitsOk, litOk, Fits]; done) | (refine ⟨?_⟩; simp [LitsOk, litOk, Fits]; omega)) (by first | exact litsP hxo | exact litsP hyo | exact ⟨trivial⟩ | (refine ⟨?_⟩; simp [LitsOk, litOk, Fits]; done) | (refine ⟨?_⟩; simp [LitsOk, litOk, Fits]; omega))) rfl ?_
      clear hl a; intro a hl
      refine d_done (by kernel_rfl) ?_
      try clear hM
      have hl2 := hl.add (t := 0) (hl.add (t := 1) (hl.add (t := 12) (hl.add (t := 13) (hl.add (t := 24) (hl.nil) rfl) rfl) rfl) rfl) rfl; clear hl; have hl := hl2; clear hl2
      refine then_normal ?_
      refine c_cond hl rfl ?_ ?_
      · intro hc2
        try simp only [decide_eq_true_eq, decide_eq_false_iff_not, Bool.not_eq_true', Bool.not_eq_false', Bool.not_eq_true, Bool.not_eq_false, Bool.and_eq_true, Bool.or_eq_true, Bool.and_eq_false_iff, Bool.or_eq_false_iff, Bool.not_not, ne_eq, Int.not_lt, Int.not_le, Decidable.not_not, beq_iff_eq, bne_iff_ne] at hc2
        have hxy : ¬ x = y := fun h9 => by simp [(eqPd hxo hyo).2 h9] at hc2
        refine c_seq ?_
        refine c_region ?_
        refine wl (wl_val hl rfl trivial (r_assign hl rfl) ?_)
        clear hl a; intro a hl
        refine w_nil ?_
        have hl2 := hl.add (t := 4) (hl.nil) rfl; clear hl; have hl := hl2; clear hl2
        refine then_normal ?_
        refine wp_ret ?_
        refine blk_ret ?_
        refine then_ret ?_
        refine then_ret ?_
        refine blk_ret ?_
        refine then_ret ?_
        refine f_ret1 (F' := []) hl hh rfl rfl (by repeat (first | exact keeps_nil | apply keeps_cons (by repeat (first | exact find_head | apply find_tail)) (by first  | rfl) | exact keeps_self | apply keeps_mv)) ?_
        exact ⟨congrArg Value.bool (decide_eq_false (ne_at hx hy hxy)).symm, rfl⟩
      · intro hc2
        try simp only [decide_eq_true_eq, decide_eq_false_iff_not, Bool.not_eq_true', Bool.not_eq_false', Bool.not_eq_true, Bool.not_eq_false, Bool.and_eq_true, Bool.or_eq_true, Bool.and_eq_false_iff, Bool.or_eq_false_iff, Bool.not_not, ne_eq, Int.not_lt, Int.not_le, Decidable.not_not, beq_iff_eq, bne_iff_ne] at hc2
        have hxy : x = y := (eqPd hxo hyo).1 hc2
        refine wp_skip ?_
        refine blk_normal ?_
        refine then_normal ?_
        refine c_region ?_
        first | refine wl (wl_val hl rfl trivial (r_add hl rfl rfl (by simp only [Fits]; omega)) ?_) | refine wl (wl_val hl rfl trivial (r_addW hl rfl rfl) ?_)
        clear hl a; intro a hl
        refine wl (wl_val hl rfl trivial (r_move hl rfl) ?_)
        clear hl a; intro a hl
        refine w_nil ?_
        have hl2 := hl.add (t := 0) (hl.add (t := 1) (hl.add (t := 12) (hl.add (t := 13) (hl.nil) rfl) rfl) rfl) rfl; clear hl; have hl := hl2; clear hl2
        refine then_normal ?_
        refine ⟨i + 1, (by omega), ⟨by omega, take_snoc_eq hI hx hy hxy⟩, hl.addE (t := 13) (hl.addE (t := 0) (hl.addE (t := 1) (hl.addE (t := 12) (hl.nil) rfl (by first | rfl | rfl | (rw [hq1]) | (rw [hq2]))) rfl (by first | rfl | rfl | (rw [hq1]) | (rw [hq2]))) rfl (by first | rfl | rfl | (rw [hq1]) | (rw [hq2]))) rfl (by first | rfl | rfl | (rw [hq1]) | (rw [hq2])), hh.keep (by repeat (first | exact keeps_nil | apply keeps_cons (by repeat (first | exact find_head | apply find_tail)) (by first  | rfl) | exact keeps_self | apply keeps_mv))⟩
    · intro hc1
      try simp only [decide_eq_true_eq, decide_eq_false_iff_not, Bool.not_eq_true', Bool.not_eq_false', Bool.not_eq_true, Bool.not_eq_false, Bool.and_eq_true, Bool.or_eq_true, Bool.and_eq_false_iff, Bool.or_eq_false_iff, Bool.not_not, ne_eq, Int.not_lt, Int.not_le, Decidable.not_not, beq_iff_eq, bne_iff_ne] at hc1
      have hie : i = l1.length := by omega
      refine wp_exit ?_
      refine then_exit ?_
      refine then_exit ?_
      refine blk_exit ?_
      refine then_normal ?_
      refine c_seq ?_
      refine c_region ?_
      refine wl (wl_val hl rfl trivial (r_assign hl rfl) ?_)
      clear hl a; intro a hl
      refine w_nil ?_
      have hl2 := hl.add (t := 4) (hl.nil) rfl; clear hl; have hl := hl2; clear hl2
      refine then_normal ?_
      refine wp_ret ?_
      refine f_ret1 (F' := []) hl hh rfl rfl (by repeat (first | exact keeps_nil | apply keeps_cons (by repeat (first | exact find_head | apply find_tail)) (by first  | rfl) | exact keeps_self | apply keeps_mv)) ?_
      exact ⟨congrArg Value.bool (decide_eq_true (all_eq hI hie hab)).symm, rfl⟩

/-- a normal form, and where it lies -/
structure NmV where
  l : List Pd
  lp : Option Addr
  lc : Nat
  lE : List (Nat × Obj)
  q : List RV
  rp : Option Addr
  rc : Nat
  rE : List (Nat × Obj)
  s : Nat
structure NmV.ok (n : NmV) : Prop where
  l : Row (.slice n.lp n.l.length n.lc) n.l.length (fl pdc n.l) 3 93 n.lE
  r : Row (.slice n.rp n.q.length n.rc) n.q.length (fl RV.c3 n.q) 3 57 n.rE
  b : ∀ x, x ∈ n.l → PdB x
  o : ∀ x, x ∈ n.q → x.ok
  ll : n.l.length ≤ 100000000
  rl : n.q.length ≤ 65536
  s : n.s ≤ 100000000
structure NmM (n : NmV) (w : World) : Prop where
  l : Mem n.lE w
  r : Mem n.rE w
  q : ∀ x, x ∈ n.q → Mem x.E w

set_option maxHeartbeats 2000000 in
theorem same22 (na nb : NmV) (ha : na.ok) (hb : nb.ok) : SpK Tryz.prog 9 #[.agg ⟨[.slice na.lp na.l.length na.lc, .slice na.rp na.q.length na.rc, .int .i64 (na.s : Int)]⟩, .agg ⟨[.slice nb.lp nb.l.length nb.lc, .slice nb.rp nb.q.length nb.rc, .int .i64 (nb.s : Int)]⟩] (fun w => NmM na w ∧ NmM nb w) [] (fun v F' => v = .bool (decide ((na.l = nb.l ∧ na.s = nb.s) ∧ na.q.map RV.ru = nb.q.map RV.ru)) ∧ F' = []) := by
  refine f_enter (args := [.agg ⟨[.slice na.lp na.l.length na.lc, .slice na.rp na.q.length na.rc, .int .i64 (na.s : Int)]⟩, .agg ⟨[.slice nb.lp nb.l.length nb.lc, .slice nb.rp nb.q.length nb.rc, .int .i64 (nb.s : Int)]⟩]) Tryz.func9 rfl Tryz.ntmps9 rfl ?_
  intro w0 w a hpre hl hh
  have has := ha.s; have hbs := hb.s
  simp only [slotsFrom, Nat.reduceAdd] at hl
  refine c_seq ?_
  refine c_region ?_
  refine wl (w_box hl hh rfl trivial rfl rfl ?_)
  clear hl hh a w; intro k2 a w hl hh
  refine wl (w_box hl hh rfl trivial rfl rfl ?_)
  clear hl hh a w; intro k3 a w hl hh
  refine wl (wl_val hl rfl trivial (r_assign hl rfl) ?_)
  clear hl a; intro a hl
  refine w_nil ?_
  have hl2 := hl.add (t := 2) (hl.add (t := 3) (hl.nil) rfl) rfl; clear hl; have hl := hl2; clear hl2
  refine then_normal ?_
  refine c_seq ?_
  refine c_region ?_
  refine wl (wl_val hl rfl trivial (r_field hl rfl fld33_0) ?_)
  clear hl a; intro a hl
  refine wl (w_load hl hh rfl trivial one31 rfl (by repeat (first | exact find_head | apply find_tail)) (by first | rfl) ?_)
  clear hl a; intro a hl
  refine wl (wl_val hl rfl trivial (r_field hl rfl fld33_0) ?_)
  clear hl a; intro a hl
  refine wl (w_load hl hh rfl trivial one31 rfl (by repeat (first | exact find_head | apply find_tail)) (by first | rfl) ?_)
  clear hl a; intro a hl
  refine wl (w_call hl hh rfl trivial rfl cal44 rfl (same59 _ _ _ _ _ _ _ _ ha.l hb.l ha.b hb.b ha.ll hb.ll) (by repeat (first | exact keeps_nil | apply keeps_cons (by repeat (first | exact find_head | apply find_tail)) (by first  | rfl) | exact keeps_self | apply keeps_mv)) ⟨mem_keep hh hpre.1.l, mem_keep hh hpre.2.l⟩ ?_)
  clear hl hh a w; intro vc Fc a w hR hl hh
  obtain ⟨rfl, rfl⟩ := hR
  try simp only [List.cons_append, List.nil_append] at hh
  refine wl (wl_val hl rfl trivial (r_move hl rfl) ?_)
  clear hl a; intro a hl
  refine sl_split (t := 10) hl rfl ?_ ?_
  · intro hg1; clear hl; intro hl
    try simp only [decide_eq_true_eq, decide_eq_false_iff_not, Bool.not_eq_true', Bool.not_eq_false', Bool.not_eq_true, Bool.not_eq_false, Bool.and_eq_true, Bool.or_eq_true, Bool.and_eq_false_iff, Bool.or_eq_false_iff, Bool.not_not, ne_eq, Int.not_lt, Int.not_le, Decidable.not_not, beq_iff_eq, bne_iff_ne] at hg1
    refine wl (wl_val hl rfl ⟨_, _, rfl, rfl, rfl⟩ (r_field hl rfl fld33_2) ?_)
    clear hl a; intro a hl
    refine wl (w_load hl hh rfl ⟨_, _, rfl, rfl, rfl⟩ one3 rfl (by repeat (first | exact find_head | apply find_tail)) (by first | rfl) ?_)
    clear hl a; intro a hl
    refine wl (wl_val hl rfl ⟨_, _, rfl, rfl, rfl⟩ (r_field hl rfl fld33_2) ?_)
    clear hl a; intro a hl
    refine wl (w_load hl hh rfl ⟨_, _, rfl, rfl, rfl⟩ one3 rfl (by repeat (first | exact find_head | apply find_tail)) (by first | rfl) ?_)
    clear hl a; intro a hl
    refine wl (wl_val hl rfl ⟨_, _, rfl, rfl, rfl⟩ (r_eql hl rfl rfl) ?_)
    clear hl a; intro a hl
    refine wl (wl_val hl rfl trivial (r_pickT hl rfl rfl) ?_)
    clear hl a; intro a hl
    refine wl (wl_val hl rfl trivial (r_move hl rfl) ?_)
    clear hl a; intro a hl
    refine sl_split (t := 17) hl rfl ?_ ?_
    · intro hg2; clear hl; intro hl
      try simp only [decide_eq_true_eq, decide_eq_false_iff_not, Bool.not_eq_true', Bool.not_eq_false', Bool.not_eq_true, Bool.not_eq_false, Bool.and_eq_true, Bool.or_eq_true, Bool.and_eq_false_iff, Bool.or_eq_false_iff, Bool.not_not, ne_eq, Int.not_lt, Int.not_le, Decidable.not_not, beq_iff_eq, bne_iff_ne] at hg2
      refine wl (wl_val hl rfl ⟨_, _, rfl, rfl, rfl⟩ (r_field hl rfl fld33_1) ?_)
      clear hl a; intro a hl
      refine wl (w_load hl hh rfl ⟨_, _, rfl, rfl, rfl⟩ one24 rfl (by repeat (first | exact find_head | apply find_tail)) (by first | rfl) ?_)
      clear hl a; intro a hl
      refine wl (wl_val hl rfl ⟨_, _, rfl, rfl, rfl⟩ (r_field hl rfl fld33_1) ?_)
      clear hl a; intro a hl
      refine wl (w_load hl hh rfl ⟨_, _, rfl, rfl, rfl⟩ one24 rfl (by repeat (first | exact find_head | apply find_tail)) (by first | rfl) ?_)
      clear hl a; intro a hl
      refine wl (w_call hl hh rfl ⟨_, _, rfl, rfl, rfl⟩ rfl cal45 rfl (same60 _ _ _ _ _ _ _ _ ha.r hb.r ha.o hb.o ha.rl hb.rl) (by repeat (first | exact keeps_nil | apply keeps_cons (by repeat (first | exact find_head | apply find_tail)) (by first  | rfl) | exact keeps_self | apply keeps_mv)) ⟨mem_keep hh hpre.1.r, mem_keep hh hpre.2.r, fun E hE => (by obtain ⟨x, hx, rfl⟩ := List.mem_map.1 hE; exact mem_keep hh (hpre.1.q x hx)), fun E hE => (by obtain ⟨x, hx, rfl⟩ := List.mem_map.1 hE; exact mem_keep hh (hpre.2.q x hx))⟩ ?_)
      clear hl hh a w; intro vc Fc a w hR hl hh
      obtain ⟨rfl, rfl⟩ := hR
      try simp only [List.cons_append, List.nil_append] at hh
      refine wl (wl_val hl rfl trivial (r_pickT hl rfl rfl) ?_)
      clear hl a; intro a hl
      refine wl (wl_val hl rfl trivial (r_assign hl rfl) ?_)
      clear hl a; intro a hl
      refine w_nil ?_
      have hl2 := hl.add (t := 4) (hl.nil) rfl; clear hl; have hl := hl2; clear hl2
      refine then_normal ?_
      refine wp_ret ?_
      refine f_ret1 (F' := []) hl hh rfl rfl (by repeat (first | exact keeps_nil | apply keeps_cons (by repeat (first | exact find_head | apply find_tail)) (by first  | rfl) | exact keeps_self | apply keeps_mv)) ?_
      first | exact ⟨congrArg Value.bool (decide_eq_decide.2 ⟨fun h => ⟨⟨hg1, by omega⟩, h⟩, And.right⟩), rfl⟩ | exact ⟨congrArg Value.bool (decide_eq_false (fun h => hg1 h.1.1)).symm, rfl⟩ | exact ⟨congrArg Value.bool (decide_eq_false (fun h => hg2 (by rw [h.1.2]))).symm, rfl⟩
    · intro hg2; clear hl; intro hl
      try simp only [decide_eq_true_eq, decide_eq_false_iff_not, Bool.not_eq_true', Bool.not_eq_false', Bool.not_eq_true, Bool.not_eq_false, Bool.and_eq_true, Bool.or_eq_true, Bool.and_eq_false_iff, Bool.or_eq_false_iff, Bool.not_not, ne_eq, Int.not_lt, Int.not_le, Decidable.not_not, beq_iff_eq, bne_iff_ne] at hg2
      refine wl (wl_skip hl rfl ⟨_, _, rfl, rfl, rfl⟩ ?_)
      clear hl a; intro a hl
      refine wl (wl_skip hl rfl ⟨_, _, rfl, rfl, rfl⟩ ?_)
      clear hl a; intro a hl
      refine wl (wl_skip hl rfl ⟨_, _, rfl, rfl, rfl⟩ ?_)
      clear hl a; intro a hl
      refine wl (wl_skip hl rfl ⟨_, _, rfl, rfl, rfl⟩ ?_)
      clear hl a; intro a hl
      refine wl (wl_skip hl rfl ⟨_, _, rfl, rfl, rfl⟩ ?_)
      clear hl a; intro a hl
      refine wl (wl_val hl rfl trivial (r_pickF hl rfl rfl) ?_)
      clear hl a; intro a hl
      refine wl (wl_val hl rfl trivial (r_assign hl rfl) ?_)
      clear hl a; intro a hl
      refine w_nil ?_
      have hl2 := hl.add (t := 4) (hl.nil) rfl; clear hl; have hl := hl2; clear hl2
      refine then_normal ?_
      refine wp_ret ?_
      refine f_ret1 (F' := []) hl hh rfl rfl (by repeat (first | exact keeps_nil | apply keeps_cons (by repeat (first | exact find_head | apply find_tail)) (by first  | rfl) | exact keeps_self | apply keeps_mv)) ?_
      first | exact ⟨congrArg Value.bool (decide_eq_decide.2 ⟨fun h => ⟨⟨hg1, by omega⟩, h⟩, And.right⟩), rfl⟩ | exact ⟨congrArg Value.bool (decide_eq_false (fun h => hg1 h.1.1)).symm, rfl⟩ | exact ⟨congrArg Value.bool (decide_eq_false (fun h => hg2 (by rw [h.1.2]))).symm, rfl⟩
  · intro hg1; clear hl; intro hl
    try simp only [decide_eq_true_eq, decide_eq_false_iff_not, Bool.not_eq_true', Bool.not_eq_false', Bool.not_eq_true, Bool.not_eq_false, Bool.and_eq_true, Bool.or_eq_true, Bool.and_eq_false_iff, Bool.or_eq_false_iff, Bool.not_not, ne_eq, Int.not_lt, Int.not_le, Decidable.not_not, beq_iff_eq, bne_iff_ne] at hg1
    refine wl (wl_skip hl rfl ⟨_, _, rfl, rfl, rfl⟩ ?_)
    clear hl a; intro a hl
    refine wl (wl_skip hl rfl ⟨_, _, rfl, rfl, rfl⟩ ?_)
    clear hl a; intro a hl
    refine wl (wl_skip hl rfl ⟨_, _, rfl, rfl, rfl⟩ ?_)
    clear hl a; intro a hl
    refine wl (wl_skip hl rfl ⟨_, _, rfl, rfl, rfl⟩ ?_)
    clear hl a; intro a hl
    refine wl (wl_skip hl rfl ⟨_, _, rfl, rfl, rfl⟩ ?_)
    clear hl a; intro a hl
    refine wl (wl_val hl rfl trivial (r_pickF hl rfl rfl) ?_)
    clear hl a; intro a hl
    refine wl (wl_val hl rfl trivial (r_move hl rfl) ?_)
    clear hl a; intro a hl
    refine wl (wl_skip hl rfl ⟨_, _, rfl, rfl, rfl⟩ ?_)
    clear hl a; intro a hl
    refine wl (wl_skip hl rfl ⟨_, _, rfl, rfl, rfl⟩ ?_)
    clear hl a; intro a hl
    refine wl (wl_skip hl rfl ⟨_, _, rfl, rfl, rfl⟩ ?_)
    clear hl a; intro a hl
    refine wl (wl_skip hl rfl ⟨_, _, rfl, rfl, rfl⟩ ?_)
    clear hl a; intro a hl
    refine wl (wl_skip hl rfl ⟨_, _, rfl, rfl, rfl⟩ ?_)
    clear hl a; intro a hl
    refine wl (wl_val hl rfl trivial (r_pickF hl rfl rfl) ?_)
    clear hl a; intro a hl
    refine wl (wl_val hl rfl trivial (r_assign hl rfl) ?_)
    clear hl a; intro a hl
    refine w_nil ?_
    have hl2 := hl.add (t := 4) (hl.nil) rfl; clear hl; have hl := hl2; clear hl2
    refine then_normal ?_
    refine wp_ret ?_
    refine f_ret1 (F' := []) hl hh rfl rfl (by repeat (first | exact keeps_nil | apply keeps_cons (by repeat (first | exact find_head | apply find_tail)) (by first  | rfl) | exact keeps_self | apply keeps_mv)) ?_
    first | exact ⟨congrArg Value.bool (decide_eq_decide.2 ⟨fun h => ⟨⟨hg1, by omega⟩, h⟩, And.right⟩), rfl⟩ | exact ⟨congrArg Value.bool (decide_eq_false (fun h => hg1 h.1.1)).symm, rfl⟩ | exact ⟨congrArg Value.bool (decide_eq_false (fun h => hg2 (by rw [h.1.2]))).symm, rfl⟩
end Go.Proofs.Qxb6500915aGreatDoor

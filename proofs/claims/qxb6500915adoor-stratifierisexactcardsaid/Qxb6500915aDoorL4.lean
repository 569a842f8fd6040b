import Derived.Test.Qxb6500915aDoorG0
import Derived.Test.Qxb6500915aDoorByt
namespace Go.Proofs.Qxb6500915aDoor
open Go.Eng
set_option linter.unusedVariables false
set_option linter.unusedSimpArgs false
theorem cal8 : callable Tryd.prog 8 = true := by kernel_rfl
theorem agg29 : aggOk Tryd.prog 29 3 = true := by kernel_rfl
theorem cal9 : callable Tryd.prog 9 = true := by kernel_rfl
theorem cal15 : callable Tryd.prog 15 = true := by kernel_rfl
theorem cal13 : callable Tryd.prog 13 = true := by kernel_rfl
theorem shp49 : shapeT Tryd.prog 8 49 = some [.int .u8, .int .i64, .int .i64, .int .i64] := by kernel_rfl
theorem eqf49 : eqOk Tryd.prog 8 49 = true := by kernel_rfl
theorem slcT51 : slcT Tryd.prog 51 = true := by kernel_rfl
theorem cal16 : callable Tryd.prog 16 = true := by kernel_rfl
theorem cal18 : callable Tryd.prog 18 = true := by kernel_rfl
attribute [local irreducible] RV.E

set_option maxHeartbeats 16000000 in
theorem law4 (p : Option Addr) (c : Nat) (ops : List OpV) (Z0 : List (Nat × Obj)) (hS : VwG 9 (.slice p ops.length c) ops.length (fl OpV.c9 ops) Z0) (hO : ∀ x, x ∈ ops → OpW x) (hol : ops.length ≤ 4000000000000000000) (HT : TypeId) (hf : Nat × Nat) : SpK Tryd.prog 4 #[.slice p ops.length c] (fun w => Scr p c ops Z0 w ∧ w.heap[0]? = some (.cells ⟨[.int .i64 40, .int .i64 8, .int .i64 12]⟩ HT hf)) [] (fun v F' => v = .bool true ∧ F' = []) := by
  refine f_enter (args := [.slice p ops.length c]) Tryd.func4 rfl Tryd.ntmps4 rfl ?_
  intro w0 w a hpre hl hh
  simp only [slotsFrom, Nat.reduceAdd] at hl
  refine c_seq ?_
  refine c_region ?_
  refine wl (wl_val hl rfl trivial (r_assign hl rfl) ?_)
  clear hl a; intro a hl
  refine w_nil ?_
  have hl2 := hl.add (t := 0) (hl.nil) rfl; clear hl; have hl := hl2; clear hl2
  refine then_normal ?_
  refine c_seq ?_
  refine c_seq ?_
  refine c_region ?_
  refine wl (wl_val hl rfl trivial (r_move hl rfl) ?_)
  clear hl a; intro a hl
  refine wl (w_call hl hh rfl trivial rfl cal8 rfl (small_spec p c ops Z0 hS hO hol) (by repeat (first | exact keeps_nil | apply keeps_cons (by repeat (first | exact find_head | apply find_tail | apply find_skip)) (by first  | rfl) | exact keeps_self | exact keeps_left | apply keeps_app | apply keeps_mv | apply keeps_skip)) ⟨mem_keep hh hpre.1.z, fun x hx => mem_keep hh (hpre.1.t x hx), fun x hx => mem_keep hh (hpre.1.l x hx)⟩ ?_)
  clear hl hh a w; intro vc Fc a w hR hl hh
  obtain ⟨b, rfl, hb, rfl⟩ := hR
  try simp only [List.cons_append, List.nil_append, List.append_assoc, List.append_nil] at hh
  refine wl (wl_val hl rfl trivial (r_not hl rfl) ?_)
  clear hl a; intro a hl
  refine w_nil ?_
  have hl2 := hl.add (t := 0) (hl.add (t := 21) (hl.nil) rfl) rfl; clear hl; have hl := hl2; clear hl2
  refine then_normal ?_
  refine c_cond hl rfl ?_ ?_
  · intro hc0
    try simp only [decide_eq_true_eq, decide_eq_false_iff_not, Bool.not_eq_true', Bool.not_eq_false', Bool.not_eq_true, Bool.not_eq_false, Bool.and_eq_true, Bool.or_eq_true, Bool.and_eq_false_iff, Bool.or_eq_false_iff, Bool.not_not, ne_eq, Int.not_lt, Int.not_le, Decidable.not_not, beq_iff_eq, bne_iff_ne] at hc0
    refine c_seq ?_
    refine c_region ?_
    refine wl (wl_val hl rfl trivial (r_assign hl rfl) ?_)
    clear hl a; intro a hl
    refine w_nil ?_
    have hl2 := hl.add (t := 2) (hl.nil) rfl; clear hl; have hl := hl2; clear hl2
    refine then_normal ?_
    refine wp_ret ?_
    refine then_ret ?_
    refine f_ret1 (F' := []) hl hh rfl rfl (by repeat (first | exact keeps_nil | apply keeps_cons (by repeat (first | exact find_head | apply find_tail | apply find_skip)) (by first  | rfl) | exact keeps_self | exact keeps_left | apply keeps_app | apply keeps_mv | apply keeps_skip)) ?_
    exact ⟨rfl, rfl⟩
  · intro hc0
    try simp only [decide_eq_true_eq, decide_eq_false_iff_not, Bool.not_eq_true', Bool.not_eq_false', Bool.not_eq_true, Bool.not_eq_false, Bool.and_eq_true, Bool.or_eq_true, Bool.and_eq_false_iff, Bool.or_eq_false_iff, Bool.not_not, ne_eq, Int.not_lt, Int.not_le, Decidable.not_not, beq_iff_eq, bne_iff_ne] at hc0
    have hSm := hb (by first | exact hc0 | simpa using hc0)
    refine wp_skip ?_
    refine then_normal ?_
    refine c_seq ?_
    refine c_region ?_
    refine wl (wl_val hl rfl trivial (r_move hl rfl) ?_)
    clear hl a; intro a hl
    first | refine wl (w_loadA hl hh rfl trivial agg29 rfl (by repeat (first | exact find_head | apply find_tail | apply find_skip)) (by first | (simp only [List.getElem?_cons_zero, List.getElem?_cons_succ, Value.cells, List.take_zero, List.take_succ_cons, List.take_nil, List.drop_zero, List.drop_succ_cons, List.drop_nil, List.length_cons, List.length_nil, List.cons_append, List.nil_append, List.append_nil, Nat.zero_add, Nat.add_zero, Nat.reduceAdd, Nat.reduceBEq, Nat.reduceEqDiff, Nat.ble, BEq.rfl, Bool.and_true, Bool.and_self, cond_true, beq_self_eq_true]; rfl)) (by first | rfl | (simp; done)) ?_) | refine wl (w_loadRA hl hh rfl trivial agg29 rfl hpre.2 (by simp) rfl rfl ?_) | refine wl (wl_val hl rfl trivial (r_loadA hl rfl agg29 (hh.mem _ _ (by repeat (first | exact hmem1 | exact List.mem_append_left _ hmem1 | apply List.mem_cons_of_mem | apply List.mem_append_right))) hd1 rfl) ?_) | refine wl (wl_val hl rfl trivial (r_loadA hl rfl agg29 (hh.mem _ _ (by repeat (first | exact hmem2 | exact List.mem_append_left _ hmem2 | apply List.mem_cons_of_mem | apply List.mem_append_right))) hd2 rfl) ?_) | refine wl (wl_val hl rfl trivial (r_loadA hl rfl agg29 (hh.mem _ _ (by repeat (first | exact hmem7 | exact List.mem_append_left _ hmem7 | apply List.mem_cons_of_mem | apply List.mem_append_right))) hd7 rfl) ?_)
    clear hl a; intro a hl
    refine wl (w_call hl hh rfl trivial rfl cal9 rfl (build_spec 40 8 12 (by omega) p c ops Z0 hS (fun x hx => (hO x hx).ok (hSm.t x hx) (hSm.l x hx)) hSm.len) (by repeat (first | exact keeps_nil | apply keeps_cons (by repeat (first | exact find_head | apply find_tail | apply find_skip)) (by first  | rfl) | exact keeps_self | exact keeps_left | apply keeps_app | apply keeps_mv | apply keeps_skip)) ⟨mem_keep hh hpre.1.z, fun x hx => mem_keep hh (hpre.1.t x hx), fun x hx => mem_keep hh (hpre.1.l x hx)⟩ ?_)
    clear hl hh a w; intro vc Fc a w hR hl hh
    obtain ⟨rs, rp, rc, RE, hG, hRow, rfl, rfl⟩ := hR
    try simp only [List.cons_append, List.nil_append, List.append_assoc, List.append_nil] at hh
    have hrl := hG.len
    have hp : Prg rs rp rc RE := ⟨hRow, hG.ok, by omega⟩
    refine wl (w_alloc hl hh rfl trivial zero26 rfl ?_)
    clear hl hh a w; intro k3 a w hl hh
    refine wl (w_storeA hl hh trivial agg26 rfl rfl (by repeat (first | exact find_head | apply find_tail | apply find_skip)) (by first | rfl | (simp; done)) (by first | (simp; done) | (simp; omega)) (by first | rfl | (simp; done) | rfl) (by first | (simp only [setL, List.getElem?_cons_zero, List.getElem?_cons_succ, Value.cells, List.take_zero, List.take_succ_cons, List.take_nil, List.drop_zero, List.drop_succ_cons, List.drop_nil, List.length_cons, List.length_nil, List.cons_append, List.nil_append, List.append_nil, Nat.zero_add, Nat.add_zero, Nat.reduceAdd, Nat.reduceBEq, Nat.reduceEqDiff, Nat.ble, BEq.rfl, Bool.and_true, Bool.and_self, cond_true, beq_self_eq_true]; rfl)) ?_)
    clear hh w; intro w hh
    refine w_nil ?_
    have hl2 := hl.add (t := 3) (hl.nil) rfl; clear hl; have hl := hl2; clear hl2
    refine then_normal ?_
    refine c_seq ?_
    refine c_region ?_
    first | refine wl (w_loadA hl hh rfl trivial agg26 rfl (by repeat (first | exact find_head | apply find_tail | apply find_skip)) (by first | (simp only [List.getElem?_cons_zero, List.getElem?_cons_succ, Value.cells, List.take_zero, List.take_succ_cons, List.take_nil, List.drop_zero, List.drop_succ_cons, List.drop_nil, List.length_cons, List.length_nil, List.cons_append, List.nil_append, List.append_nil, Nat.zero_add, Nat.add_zero, Nat.reduceAdd, Nat.reduceBEq, Nat.reduceEqDiff, Nat.ble, BEq.rfl, Bool.and_true, Bool.and_self, cond_true, beq_self_eq_true]; rfl)) (by first | rfl | (simp; done)) ?_) | refine wl (w_loadRA hl hh rfl trivial agg26 rfl hpre.2 (by simp) rfl rfl ?_) | refine wl (wl_val hl rfl trivial (r_loadA hl rfl agg26 (hh.mem _ _ (by repeat (first | exact hmem1 | exact List.mem_append_left _ hmem1 | apply List.mem_cons_of_mem | apply List.mem_append_right))) hd1 rfl) ?_) | refine wl (wl_val hl rfl trivial (r_loadA hl rfl agg26 (hh.mem _ _ (by repeat (first | exact hmem2 | exact List.mem_append_left _ hmem2 | apply List.mem_cons_of_mem | apply List.mem_append_right))) hd2 rfl) ?_) | refine wl (wl_val hl rfl trivial (r_loadA hl rfl agg26 (hh.mem _ _ (by repeat (first | exact hmem7 | exact List.mem_append_left _ hmem7 | apply List.mem_cons_of_mem | apply List.mem_append_right))) hd7 rfl) ?_)
    clear hl a; intro a hl
    refine wl (w_call hl hh rfl trivial rfl cal15 rfl (stratify_spec rs rp rc RE hp (by omega)) (by repeat (first | exact keeps_nil | apply keeps_cons (by repeat (first | exact find_head | apply find_tail | apply find_skip)) (by first  | rfl) | exact keeps_self | exact keeps_left | apply keeps_app | apply keeps_mv | apply keeps_skip)) (prw_of (memK hh (by repeat (first | exact keeps_nil | apply keeps_cons (by repeat (first | exact find_head | apply find_tail | apply find_skip)) (by first  | rfl) | exact keeps_self | exact keeps_left | apply keeps_app | apply keeps_mv | apply keeps_skip)))) ?_)
    clear hl hh a w; intro vc Fc a w hR hl hh
    rcases hR with ⟨f, ps, hk, rfl, rfl⟩ | ⟨ps, bad, hk, hpl, hB, ⟨i, j, hn, rfl, rfl⟩ | ⟨ps', l, pp, pc, hn, hLv, hl1, hl2, rfl, hl3⟩⟩
    ·
      try simp only [List.cons_append, List.nil_append, List.append_nil] at hh
      have hfb := ckP_bd _ _ _ _ _ (ru_bd hG.ok) (by rw [List.length_map]; omega) hk
      have hfc := ckP_c _ _ _ _ _ hk
      have hf1 := hfb.c; have hf2 := hfb.r; have hf3 := hfb.l; have hf4 := hfb.a
      have heq : eqLits [.int .u8 f.c, .int .i64 f.r, .int .i64 f.l, .int .i64 f.a] [.int .u8 f.c, .int .i64 f.r, .int .i64 f.l, .int .i64 f.a] = true := eq49 hfb
      have hce : (ckP [] 0 (rs.map RV.ru)).1.getD ⟨0, 0, 0, 0⟩ = f := by rw [hk]; rfl
      simp only [ftc] at hl
      refine wl (wl_val hl rfl trivial (r_move hl rfl) ?_)
      clear hl a; intro a hl
      refine wl (wl_val hl rfl trivial (r_extract hl rfl (by simp only [List.getElem?_toArray, List.getElem?_cons_zero, List.getElem?_cons_succ]; rfl)) ?_)
      clear hl a; intro a hl
      refine wl (wl_val hl rfl trivial (r_extract hl rfl (by simp only [List.getElem?_toArray, List.getElem?_cons_zero, List.getElem?_cons_succ]; rfl)) ?_)
      clear hl a; intro a hl
      refine wl (w_alloc hl hh rfl trivial zero49 rfl ?_)
      clear hl hh a w; intro k5 a w hl hh
      refine wl (wl_val hl rfl trivial (r_assign hl rfl) ?_)
      clear hl a; intro a hl
      refine wl (w_storeA hl hh trivial agg49 rfl rfl (by repeat (first | exact find_head | apply find_tail | apply find_skip)) (by first | rfl | (simp; done)) (by first | (simp; done) | (simp; omega)) (by first | rfl | (simp; done) | rfl) (by first | (simp only [setL, List.getElem?_cons_zero, List.getElem?_cons_succ, Value.cells, List.take_zero, List.take_succ_cons, List.take_nil, List.drop_zero, List.drop_succ_cons, List.drop_nil, List.length_cons, List.length_nil, List.cons_append, List.nil_append, List.append_nil, Nat.zero_add, Nat.add_zero, Nat.reduceAdd, Nat.reduceBEq, Nat.reduceEqDiff, Nat.ble, BEq.rfl, Bool.and_true, Bool.and_self, cond_true, beq_self_eq_true]; rfl)) ?_)
      clear hh w; intro w hh
      refine w_nil ?_
      have hl2 := hl.add (t := 3) (hl.add (t := 4) (hl.add (t := 5) (hl.nil) rfl) rfl) rfl; clear hl; have hl := hl2; clear hl2
      refine then_normal ?_
      refine c_seq ?_
      refine c_seq ?_
      refine c_region ?_
      first | refine wl (w_loadA hl hh rfl trivial agg26 rfl (by repeat (first | exact find_head | apply find_tail | apply find_skip)) (by first | (simp only [List.getElem?_cons_zero, List.getElem?_cons_succ, Value.cells, List.take_zero, List.take_succ_cons, List.take_nil, List.drop_zero, List.drop_succ_cons, List.drop_nil, List.length_cons, List.length_nil, List.cons_append, List.nil_append, List.append_nil, Nat.zero_add, Nat.add_zero, Nat.reduceAdd, Nat.reduceBEq, Nat.reduceEqDiff, Nat.ble, BEq.rfl, Bool.and_true, Bool.and_self, cond_true, beq_self_eq_true]; rfl)) (by first | rfl | (simp; done)) ?_) | refine wl (w_loadRA hl hh rfl trivial agg26 rfl hpre.2 (by simp) rfl rfl ?_) | refine wl (wl_val hl rfl trivial (r_loadA hl rfl agg26 (hh.mem _ _ (by repeat (first | exact hmem1 | exact List.mem_append_left _ hmem1 | apply List.mem_cons_of_mem | apply List.mem_append_right))) hd1 rfl) ?_) | refine wl (wl_val hl rfl trivial (r_loadA hl rfl agg26 (hh.mem _ _ (by repeat (first | exact hmem2 | exact List.mem_append_left _ hmem2 | apply List.mem_cons_of_mem | apply List.mem_append_right))) hd2 rfl) ?_) | refine wl (wl_val hl rfl trivial (r_loadA hl rfl agg26 (hh.mem _ _ (by repeat (first | exact hmem7 | exact List.mem_append_left _ hmem7 | apply List.mem_cons_of_mem | apply List.mem_append_right))) hd7 rfl) ?_)
      clear hl a; intro a hl
      refine wl (w_call hl hh rfl trivial rfl cal13 rfl (mcheck_spec rs rp rc RE hp) (by repeat (first | exact keeps_nil | apply keeps_cons (by repeat (first | exact find_head | apply find_tail | apply find_skip)) (by first  | rfl) | exact keeps_self | exact keeps_left | apply keeps_app | apply keeps_mv | apply keeps_skip)) (prw_of (memK hh (by repeat (first | exact keeps_nil | apply keeps_cons (by repeat (first | exact find_head | apply find_tail | apply find_skip)) (by first  | rfl) | exact keeps_self | exact keeps_left | apply keeps_app | apply keeps_mv | apply keeps_skip)))) ?_)
      clear hl hh a w; intro vc Fc a w hR hl hh
      obtain ⟨rfl, rfl⟩ := hR
      try simp only [List.cons_append, List.nil_append, List.append_assoc, List.append_nil] at hh
      rw [hce] at hl
      simp only [ftc] at hl
      refine wl (w_alloc hl hh rfl trivial zero49 rfl ?_)
      clear hl hh a w; intro k6 a w hl hh
      refine wl (w_storeA hl hh trivial agg49 rfl rfl (by repeat (first | exact find_head | apply find_tail | apply find_skip)) (by first | rfl | (simp; done)) (by first | (simp; done) | (simp; omega)) (by first | rfl | (simp; done) | rfl) (by first | (simp only [setL, List.getElem?_cons_zero, List.getElem?_cons_succ, Value.cells, List.take_zero, List.take_succ_cons, List.take_nil, List.drop_zero, List.drop_succ_cons, List.drop_nil, List.length_cons, List.length_nil, List.cons_append, List.nil_append, List.append_nil, Nat.zero_add, Nat.add_zero, Nat.reduceAdd, Nat.reduceBEq, Nat.reduceEqDiff, Nat.ble, BEq.rfl, Bool.and_true, Bool.and_self, cond_true, beq_self_eq_true]; rfl)) ?_)
      clear hh w; intro w hh
      refine w_nil ?_
      have hl2 := hl.add (t := 3) (hl.add (t := 4) (hl.add (t := 5) (hl.add (t := 6) (hl.nil) rfl) rfl) rfl) rfl; clear hl; have hl := hl2; clear hl2
      refine then_normal ?_
      refine c_seq ?_
      refine c_region ?_
      refine wl (wl_val hl rfl trivial (r_field hl rfl fld49_0) ?_)
      clear hl a; intro a hl
      first | refine wl (w_load hl hh rfl trivial one47 rfl (by repeat (first | exact find_head | apply find_tail | apply find_skip)) (by first | rfl) ?_) | refine wl (wl_val hl rfl trivial (r_load hl rfl one47 (hh.mem _ _ (by repeat (first | exact hmemn | exact List.mem_append_left _ hmemn | apply List.mem_cons_of_mem | apply List.mem_append_right))) (List.getElem?_toArray.trans (fcS hni jn))) ?_)
      clear hl a; intro a hl
      refine wl (wl_val hl rfl trivial (r_neq hl rfl rfl) ?_)
      clear hl a; intro a hl
      first | rw [show decide (f.c ≠ 0) = true from decide_eq_true (by omega)] at hl | skip
      refine w_nil ?_
      have hl2 := hl.add (t := 3) (hl.add (t := 4) (hl.add (t := 5) (hl.add (t := 6) (hl.add (t := 34) (hl.nil) rfl) rfl) rfl) rfl) rfl; clear hl; have hl := hl2; clear hl2
      refine then_normal ?_
      refine c_condT hl rfl ?_
      refine c_seq ?_
      refine c_region ?_
      first | refine wl (w_loadA hl hh rfl trivial agg49 rfl (by repeat (first | exact find_head | apply find_tail | apply find_skip)) (by first | (simp only [List.getElem?_cons_zero, List.getElem?_cons_succ, Value.cells, List.take_zero, List.take_succ_cons, List.take_nil, List.drop_zero, List.drop_succ_cons, List.drop_nil, List.length_cons, List.length_nil, List.cons_append, List.nil_append, List.append_nil, Nat.zero_add, Nat.add_zero, Nat.reduceAdd, Nat.reduceBEq, Nat.reduceEqDiff, Nat.ble, BEq.rfl, Bool.and_true, Bool.and_self, cond_true, beq_self_eq_true]; rfl)) (by first | rfl | (simp; done)) ?_) | refine wl (w_loadRA hl hh rfl trivial agg49 rfl hpre.2 (by simp) rfl rfl ?_) | refine wl (wl_val hl rfl trivial (r_loadA hl rfl agg49 (hh.mem _ _ (by repeat (first | exact hmem1 | exact List.mem_append_left _ hmem1 | apply List.mem_cons_of_mem | apply List.mem_append_right))) hd1 rfl) ?_) | refine wl (wl_val hl rfl trivial (r_loadA hl rfl agg49 (hh.mem _ _ (by repeat (first | exact hmem2 | exact List.mem_append_left _ hmem2 | apply List.mem_cons_of_mem | apply List.mem_append_right))) hd2 rfl) ?_) | refine wl (wl_val hl rfl trivial (r_loadA hl rfl agg49 (hh.mem _ _ (by repeat (first | exact hmem7 | exact List.mem_append_left _ hmem7 | apply List.mem_cons_of_mem | apply List.mem_append_right))) hd7 rfl) ?_)
      clear hl a; intro a hl
      first | refine wl (w_loadA hl hh rfl trivial agg49 rfl (by repeat (first | exact find_head | apply find_tail | apply find_skip)) (by first | (simp only [List.getElem?_cons_zero, List.getElem?_cons_succ, Value.cells, List.take_zero, List.take_succ_cons, List.take_nil, List.drop_zero, List.drop_succ_cons, List.drop_nil, List.length_cons, List.length_nil, List.cons_append, List.nil_append, List.append_nil, Nat.zero_add, Nat.add_zero, Nat.reduceAdd, Nat.reduceBEq, Nat.reduceEqDiff, Nat.ble, BEq.rfl, Bool.and_true, Bool.and_self, cond_true, beq_self_eq_true]; rfl)) (by first | rfl | (simp; done)) ?_) | refine wl (w_loadRA hl hh rfl trivial agg49 rfl hpre.2 (by simp) rfl rfl ?_) | refine wl (wl_val hl rfl trivial (r_loadA hl rfl agg49 (hh.mem _ _ (by repeat (first | exact hmem1 | exact List.mem_append_left _ hmem1 | apply List.mem_cons_of_mem | apply List.mem_append_right))) hd1 rfl) ?_) | refine wl (wl_val hl rfl trivial (r_loadA hl rfl agg49 (hh.mem _ _ (by repeat (first | exact hmem2 | exact List.mem_append_left _ hmem2 | apply List.mem_cons_of_mem | apply List.mem_append_right))) hd2 rfl) ?_) | refine wl (wl_val hl rfl trivial (r_loadA hl rfl agg49 (hh.mem _ _ (by repeat (first | exact hmem7 | exact List.mem_append_left _ hmem7 | apply List.mem_cons_of_mem | apply List.mem_append_right))) hd7 rfl) ?_)
      clear hl a; intro a hl
      refine wl (wl_val hl rfl trivial (r_eqlA hl rfl rfl eqf49 shp49 (by simp only [unlitL, unlit]; rfl) (by simp only [unlitL, unlit]; rfl) (by first | exact ⟨trivial⟩ | (refine ⟨?_⟩; simp [LitsOk, litOk, Fits]; done) | (refine ⟨?_⟩; simp [LitsOk, litOk, Fits]; omega)) (by first | exact ⟨trivial⟩ | (refine ⟨?_⟩; simp [LitsOk, litOk, Fits]; done) | (refine ⟨?_⟩; simp [LitsOk, litOk, Fits]; omega))) ?_)
      clear hl a; intro a hl
      rw [heq] at hl
      refine wl (wl_val hl rfl trivial (r_move hl rfl) ?_)
      clear hl a; intro a hl
      refine wl (wl_val hl rfl ⟨_, _, rfl, rfl, rfl⟩ (r_move hl rfl) ?_)
      clear hl a; intro a hl
      refine wl (wl_val hl rfl ⟨_, _, rfl, rfl, rfl⟩ (r_eql_slcN hl rfl rfl slcT51) ?_)
      clear hl a; intro a hl
      refine wl (wl_val hl rfl trivial (r_pickT hl rfl rfl) ?_)
      clear hl a; intro a hl
      refine wl (wl_val hl rfl trivial (r_assign hl rfl) ?_)
      clear hl a; intro a hl
      refine w_nil ?_
      have hl2 := hl.add (t := 2) (hl.nil) rfl; clear hl; have hl := hl2; clear hl2
      refine then_normal ?_
      refine wp_ret ?_
      refine then_ret ?_
      refine f_ret1 (F' := []) hl hh rfl rfl (by repeat (first | exact keeps_nil | apply keeps_cons (by repeat (first | exact find_head | apply find_tail | apply find_skip)) (by first  | rfl) | exact keeps_self | exact keeps_left | apply keeps_app | apply keeps_mv | apply keeps_skip)) ?_
      exact ⟨rfl, rfl⟩
    ·
      try simp only [List.cons_append, List.nil_append, List.append_nil] at hh
      have hTa := tabl_of hk
      have hij := negP_bd _ _ _ _ hTa.t.b hn
      rw [List.length_map] at hij
      have hfb : FtB ⟨5, i, j, -1⟩ := ⟨by simp only; omega, by simp only; omega, by simp only; omega, by simp only; omega⟩
      have heq : eqLits [.int .u8 5, .int .i64 (i : Int), .int .i64 (j : Int), .int .i64 (-1)] [.int .u8 5, .int .i64 (i : Int), .int .i64 (j : Int), .int .i64 (-1)] = true := eq49 hfb
      have hce : (ckP [] 0 (rs.map RV.ru)).1.getD ⟨0, 0, 0, 0⟩ = ⟨0, 0, 0, 0⟩ := by rw [hk]; rfl
      simp only [ftc] at hl
      refine wl (wl_val hl rfl trivial (r_move hl rfl) ?_)
      clear hl a; intro a hl
      refine wl (wl_val hl rfl trivial (r_extract hl rfl (by simp only [List.getElem?_toArray, List.getElem?_cons_zero, List.getElem?_cons_succ]; rfl)) ?_)
      clear hl a; intro a hl
      refine wl (wl_val hl rfl trivial (r_extract hl rfl (by simp only [List.getElem?_toArray, List.getElem?_cons_zero, List.getElem?_cons_succ]; rfl)) ?_)
      clear hl a; intro a hl
      refine wl (w_alloc hl hh rfl trivial zero49 rfl ?_)
      clear hl hh a w; intro k5 a w hl hh
      refine wl (wl_val hl rfl trivial (r_assign hl rfl) ?_)
      clear hl a; intro a hl
      refine wl (w_storeA hl hh trivial agg49 rfl rfl (by repeat (first | exact find_head | apply find_tail | apply find_skip)) (by first | rfl | (simp; done)) (by first | (simp; done) | (simp; omega)) (by first | rfl | (simp; done) | rfl) (by first | (simp only [setL, List.getElem?_cons_zero, List.getElem?_cons_succ, Value.cells, List.take_zero, List.take_succ_cons, List.take_nil, List.drop_zero, List.drop_succ_cons, List.drop_nil, List.length_cons, List.length_nil, List.cons_append, List.nil_append, List.append_nil, Nat.zero_add, Nat.add_zero, Nat.reduceAdd, Nat.reduceBEq, Nat.reduceEqDiff, Nat.ble, BEq.rfl, Bool.and_true, Bool.and_self, cond_true, beq_self_eq_true]; rfl)) ?_)
      clear hh w; intro w hh
      refine w_nil ?_
      have hl2 := hl.add (t := 3) (hl.add (t := 4) (hl.add (t := 5) (hl.nil) rfl) rfl) rfl; clear hl; have hl := hl2; clear hl2
      refine then_normal ?_
      refine c_seq ?_
      refine c_seq ?_
      refine c_region ?_
      first | refine wl (w_loadA hl hh rfl trivial agg26 rfl (by repeat (first | exact find_head | apply find_tail | apply find_skip)) (by first | (simp only [List.getElem?_cons_zero, List.getElem?_cons_succ, Value.cells, List.take_zero, List.take_succ_cons, List.take_nil, List.drop_zero, List.drop_succ_cons, List.drop_nil, List.length_cons, List.length_nil, List.cons_append, List.nil_append, List.append_nil, Nat.zero_add, Nat.add_zero, Nat.reduceAdd, Nat.reduceBEq, Nat.reduceEqDiff, Nat.ble, BEq.rfl, Bool.and_true, Bool.and_self, cond_true, beq_self_eq_true]; rfl)) (by first | rfl | (simp; done)) ?_) | refine wl (w_loadRA hl hh rfl trivial agg26 rfl hpre.2 (by simp) rfl rfl ?_) | refine wl (wl_val hl rfl trivial (r_loadA hl rfl agg26 (hh.mem _ _ (by repeat (first | exact hmem1 | exact List.mem_append_left _ hmem1 | apply List.mem_cons_of_mem | apply List.mem_append_right))) hd1 rfl) ?_) | refine wl (wl_val hl rfl trivial (r_loadA hl rfl agg26 (hh.mem _ _ (by repeat (first | exact hmem2 | exact List.mem_append_left _ hmem2 | apply List.mem_cons_of_mem | apply List.mem_append_right))) hd2 rfl) ?_) | refine wl (wl_val hl rfl trivial (r_loadA hl rfl agg26 (hh.mem _ _ (by repeat (first | exact hmem7 | exact List.mem_append_left _ hmem7 | apply List.mem_cons_of_mem | apply List.mem_append_right))) hd7 rfl) ?_)
      clear hl a; intro a hl
      refine wl (w_call hl hh rfl trivial rfl cal13 rfl (mcheck_spec rs rp rc RE hp) (by repeat (first | exact keeps_nil | apply keeps_cons (by repeat (first | exact find_head | apply find_tail | apply find_skip)) (by first  | rfl) | exact keeps_self | exact keeps_left | apply keeps_app | apply keeps_mv | apply keeps_skip)) (prw_of (memK hh (by repeat (first | exact keeps_nil | apply keeps_cons (by repeat (first | exact find_head | apply find_tail | apply find_skip)) (by first  | rfl) | exact keeps_self | exact keeps_left | apply keeps_app | apply keeps_mv | apply keeps_skip)))) ?_)
      clear hl hh a w; intro vc Fc a w hR hl hh
      obtain ⟨rfl, rfl⟩ := hR
      try simp only [List.cons_append, List.nil_append, List.append_assoc, List.append_nil] at hh
      rw [hce] at hl
      simp only [ftc] at hl
      refine wl (w_alloc hl hh rfl trivial zero49 rfl ?_)
      clear hl hh a w; intro k6 a w hl hh
      refine wl (w_storeA hl hh trivial agg49 rfl rfl (by repeat (first | exact find_head | apply find_tail | apply find_skip)) (by first | rfl | (simp; done)) (by first | (simp; done) | (simp; omega)) (by first | rfl | (simp; done) | rfl) (by first | (simp only [setL, List.getElem?_cons_zero, List.getElem?_cons_succ, Value.cells, List.take_zero, List.take_succ_cons, List.take_nil, List.drop_zero, List.drop_succ_cons, List.drop_nil, List.length_cons, List.length_nil, List.cons_append, List.nil_append, List.append_nil, Nat.zero_add, Nat.add_zero, Nat.reduceAdd, Nat.reduceBEq, Nat.reduceEqDiff, Nat.ble, BEq.rfl, Bool.and_true, Bool.and_self, cond_true, beq_self_eq_true]; rfl)) ?_)
      clear hh w; intro w hh
      refine w_nil ?_
      have hl2 := hl.add (t := 3) (hl.add (t := 4) (hl.add (t := 5) (hl.add (t := 6) (hl.nil) rfl) rfl) rfl) rfl; clear hl; have hl := hl2; clear hl2
      refine then_normal ?_
      refine c_seq ?_
      refine c_region ?_
      refine wl (wl_val hl rfl trivial (r_field hl rfl fld49_0) ?_)
      clear hl a; intro a hl
      first | refine wl (w_load hl hh rfl trivial one47 rfl (by repeat (first | exact find_head | apply find_tail | apply find_skip)) (by first | rfl) ?_) | refine wl (wl_val hl rfl trivial (r_load hl rfl one47 (hh.mem _ _ (by repeat (first | exact hmemn | exact List.mem_append_left _ hmemn | apply List.mem_cons_of_mem | apply List.mem_append_right))) (List.getElem?_toArray.trans (fcS hni jn))) ?_)
      clear hl a; intro a hl
      refine wl (wl_val hl rfl trivial (r_neq hl rfl rfl) ?_)
      clear hl a; intro a hl
      first | rw [show decide (f.c ≠ 0) = true from decide_eq_true (by omega)] at hl | skip
      refine w_nil ?_
      have hl2 := hl.add (t := 3) (hl.add (t := 4) (hl.add (t := 5) (hl.add (t := 6) (hl.add (t := 34) (hl.nil) rfl) rfl) rfl) rfl) rfl; clear hl; have hl := hl2; clear hl2
      refine then_normal ?_
      refine c_condF hl rfl ?_
      refine wp_skip ?_
      refine then_normal ?_
      refine c_seq ?_
      refine c_seq ?_
      refine c_region ?_
      first | refine wl (w_loadA hl hh rfl trivial agg26 rfl (by repeat (first | exact find_head | apply find_tail | apply find_skip)) (by first | (simp only [List.getElem?_cons_zero, List.getElem?_cons_succ, Value.cells, List.take_zero, List.take_succ_cons, List.take_nil, List.drop_zero, List.drop_succ_cons, List.drop_nil, List.length_cons, List.length_nil, List.cons_append, List.nil_append, List.append_nil, Nat.zero_add, Nat.add_zero, Nat.reduceAdd, Nat.reduceBEq, Nat.reduceEqDiff, Nat.ble, BEq.rfl, Bool.and_true, Bool.and_self, cond_true, beq_self_eq_true]; rfl)) (by first | rfl | (simp; done)) ?_) | refine wl (w_loadRA hl hh rfl trivial agg26 rfl hpre.2 (by simp) rfl rfl ?_) | refine wl (wl_val hl rfl trivial (r_loadA hl rfl agg26 (hh.mem _ _ (by repeat (first | exact hmem1 | exact List.mem_append_left _ hmem1 | apply List.mem_cons_of_mem | apply List.mem_append_right))) hd1 rfl) ?_) | refine wl (wl_val hl rfl trivial (r_loadA hl rfl agg26 (hh.mem _ _ (by repeat (first | exact hmem2 | exact List.mem_append_left _ hmem2 | apply List.mem_cons_of_mem | apply List.mem_append_right))) hd2 rfl) ?_) | refine wl (wl_val hl rfl trivial (r_loadA hl rfl agg26 (hh.mem _ _ (by repeat (first | exact hmem7 | exact List.mem_append_left _ hmem7 | apply List.mem_cons_of_mem | apply List.mem_append_right))) hd7 rfl) ?_)
      clear hl a; intro a hl
      refine wl (w_call hl hh rfl trivial rfl cal16 rfl (negc_spec rs rp rc RE hp (fun r hr => hTa.t.b r hr)) (by repeat (first | exact keeps_nil | apply keeps_cons (by repeat (first | exact find_head | apply find_tail | apply find_skip)) (by first  | rfl) | exact keeps_self | exact keeps_left | apply keeps_app | apply keeps_mv | apply keeps_skip)) (prw_of (memK hh (by repeat (first | exact keeps_nil | apply keeps_cons (by repeat (first | exact find_head | apply find_tail | apply find_skip)) (by first  | rfl) | exact keeps_self | exact keeps_left | apply keeps_app | apply keeps_mv | apply keeps_skip)))) ?_)
      clear hl hh a w; intro vc Fc a w hR hl hh
      obtain ⟨bad2, hB2, rfl, rfl⟩ := hR
      try simp only [List.cons_append, List.nil_append, List.append_assoc, List.append_nil] at hh
      rw [← bad_eq hTa.t hB hB2, hn] at hl
      simp only [ngV] at hl
      refine wl (wl_val hl rfl trivial (r_move hl rfl) ?_)
      clear hl a; intro a hl
      refine wl (wl_val hl rfl trivial (r_extract hl rfl (by simp only [List.getElem?_toArray, List.getElem?_cons_zero, List.getElem?_cons_succ]; rfl)) ?_)
      clear hl a; intro a hl
      refine wl (wl_val hl rfl trivial (r_extract hl rfl (by simp only [List.getElem?_toArray, List.getElem?_cons_zero, List.getElem?_cons_succ]; rfl)) ?_)
      clear hl a; intro a hl
      refine wl (wl_val hl rfl trivial (r_extract hl rfl (by simp only [List.getElem?_toArray, List.getElem?_cons_zero, List.getElem?_cons_succ]; rfl)) ?_)
      clear hl a; intro a hl
      refine wl (wl_val hl rfl trivial (r_assign hl rfl) ?_)
      clear hl a; intro a hl
      refine wl (wl_val hl rfl trivial (r_assign hl rfl) ?_)
      clear hl a; intro a hl
      refine wl (wl_val hl rfl trivial (r_assign hl rfl) ?_)
      clear hl a; intro a hl
      refine w_nil ?_
      have hl2 := hl.add (t := 3) (hl.add (t := 4) (hl.add (t := 5) (hl.add (t := 7) (hl.add (t := 8) (hl.add (t := 9) (hl.nil) rfl) rfl) rfl) rfl) rfl) rfl; clear hl; have hl := hl2; clear hl2
      refine then_normal ?_
      refine c_seq ?_
      refine c_region ?_
      refine wl (wl_val hl rfl trivial (r_move hl rfl) ?_)
      clear hl a; intro a hl
      refine w_nil ?_
      have hl2 := hl.add (t := 3) (hl.add (t := 4) (hl.add (t := 5) (hl.add (t := 7) (hl.add (t := 8) (hl.add (t := 48) (hl.nil) rfl) rfl) rfl) rfl) rfl) rfl; clear hl; have hl := hl2; clear hl2
      refine then_normal ?_
      refine c_condT hl rfl ?_
      refine c_seq ?_
      refine c_region ?_
      first | refine wl (w_loadA hl hh rfl trivial agg49 rfl (by repeat (first | exact find_head | apply find_tail | apply find_skip)) (by first | (simp only [List.getElem?_cons_zero, List.getElem?_cons_succ, Value.cells, List.take_zero, List.take_succ_cons, List.take_nil, List.drop_zero, List.drop_succ_cons, List.drop_nil, List.length_cons, List.length_nil, List.cons_append, List.nil_append, List.append_nil, Nat.zero_add, Nat.add_zero, Nat.reduceAdd, Nat.reduceBEq, Nat.reduceEqDiff, Nat.ble, BEq.rfl, Bool.and_true, Bool.and_self, cond_true, beq_self_eq_true]; rfl)) (by first | rfl | (simp; done)) ?_) | refine wl (w_loadRA hl hh rfl trivial agg49 rfl hpre.2 (by simp) rfl rfl ?_) | refine wl (wl_val hl rfl trivial (r_loadA hl rfl agg49 (hh.mem _ _ (by repeat (first | exact hmem1 | exact List.mem_append_left _ hmem1 | apply List.mem_cons_of_mem | apply List.mem_append_right))) hd1 rfl) ?_) | refine wl (wl_val hl rfl trivial (r_loadA hl rfl agg49 (hh.mem _ _ (by repeat (first | exact hmem2 | exact List.mem_append_left _ hmem2 | apply List.mem_cons_of_mem | apply List.mem_append_right))) hd2 rfl) ?_) | refine wl (wl_val hl rfl trivial (r_loadA hl rfl agg49 (hh.mem _ _ (by repeat (first | exact hmem7 | exact List.mem_append_left _ hmem7 | apply List.mem_cons_of_mem | apply List.mem_append_right))) hd7 rfl) ?_)
      clear hl a; intro a hl
      refine wl (wl_val hl rfl trivial (r_move hl rfl) ?_)
      clear hl a; intro a hl
      refine wl (wl_val hl rfl trivial (r_move hl rfl) ?_)
      clear hl a; intro a hl
      refine wl (wl_val hl rfl trivial (r_build hl rfl zero49 bld49 (by simp only [fillL, setL, List.getElem?_cons_zero, List.getElem?_cons_succ, Value.cells, List.take_zero, List.take_succ_cons, List.take_nil, List.drop_zero, List.drop_succ_cons, List.drop_nil, List.length_cons, List.length_nil, List.cons_append, List.nil_append, List.append_nil, Nat.zero_add, Nat.add_zero, Nat.reduceAdd, Nat.reduceBEq, Nat.reduceEqDiff, Nat.ble, BEq.rfl, Bool.and_true, Bool.and_self, cond_true, beq_self_eq_true]; rfl)) ?_)
      clear hl a; intro a hl
      refine wl (wl_val hl rfl trivial (r_eqlA hl rfl rfl eqf49 shp49 (by simp only [unlitL, unlit]; rfl) (by simp only [unlitL, unlit]; rfl) (by first | exact ⟨trivial⟩ | (refine ⟨?_⟩; simp [LitsOk, litOk, Fits]; done) | (refine ⟨?_⟩; simp [LitsOk, litOk, Fits]; omega)) (by first | exact ⟨trivial⟩ | (refine ⟨?_⟩; simp [LitsOk, litOk, Fits]; done) | (refine ⟨?_⟩; simp [LitsOk, litOk, Fits]; omega))) ?_)
      clear hl a; intro a hl
      rw [heq] at hl
      refine wl (wl_val hl rfl trivial (r_move hl rfl) ?_)
      clear hl a; intro a hl
      refine wl (wl_val hl rfl ⟨_, _, rfl, rfl, rfl⟩ (r_move hl rfl) ?_)
      clear hl a; intro a hl
      refine wl (wl_val hl rfl ⟨_, _, rfl, rfl, rfl⟩ (r_eql_slcN hl rfl rfl slcT51) ?_)
      clear hl a; intro a hl
      refine wl (wl_val hl rfl trivial (r_pickT hl rfl rfl) ?_)
      clear hl a; intro a hl
      refine wl (wl_val hl rfl trivial (r_assign hl rfl) ?_)
      clear hl a; intro a hl
      refine w_nil ?_
      have hl2 := hl.add (t := 2) (hl.nil) rfl; clear hl; have hl := hl2; clear hl2
      refine then_normal ?_
      refine wp_ret ?_
      refine then_ret ?_
      refine f_ret1 (F' := []) hl hh rfl rfl (by repeat (first | exact keeps_nil | apply keeps_cons (by repeat (first | exact find_head | apply find_tail | apply find_skip)) (by first  | rfl) | exact keeps_self | exact keeps_left | apply keeps_app | apply keeps_mv | apply keeps_skip)) ?_
      exact ⟨rfl, rfl⟩
    ·
      try simp only [List.cons_append, List.nil_append, List.append_nil] at hh
      generalize Fc = pE at hh hl3
      have hTa := tabl_of hk
      have hfb : FtB ⟨0, 0, 0, 0⟩ := ⟨by simp only; omega, by simp only; omega, by simp only; omega, by simp only; omega⟩
      have heq : eqLits [.int .u8 0, .int .i64 0, .int .i64 0, .int .i64 0] [.int .u8 0, .int .i64 0, .int .i64 0, .int .i64 0] = true := eq49 hfb
      have hce : (ckP [] 0 (rs.map RV.ru)).1.getD ⟨0, 0, 0, 0⟩ = ⟨0, 0, 0, 0⟩ := by rw [hk]; rfl
      obtain ⟨L, hL, hF4⟩ := fin4 hTa hLv hl1 (by omega)
      have hll : l.length = ps.length := by rw [hl1.length_eq, hLv.len]
      simp only [ftc] at hl
      refine wl (wl_val hl rfl trivial (r_move hl rfl) ?_)
      clear hl a; intro a hl
      refine wl (wl_val hl rfl trivial (r_extract hl rfl (by simp only [List.getElem?_toArray, List.getElem?_cons_zero, List.getElem?_cons_succ]; rfl)) ?_)
      clear hl a; intro a hl
      refine wl (wl_val hl rfl trivial (r_extract hl rfl (by simp only [List.getElem?_toArray, List.getElem?_cons_zero, List.getElem?_cons_succ]; rfl)) ?_)
      clear hl a; intro a hl
      refine wl (w_alloc hl hh rfl trivial zero49 rfl ?_)
      clear hl hh a w; intro k5 a w hl hh
      refine wl (wl_val hl rfl trivial (r_assign hl rfl) ?_)
      clear hl a; intro a hl
      refine wl (w_storeA hl hh trivial agg49 rfl rfl (by repeat (first | exact find_head | apply find_tail | apply find_skip)) (by first | rfl | (simp; done)) (by first | (simp; done) | (simp; omega)) (by first | rfl | (simp; done) | rfl) (by first | (simp only [setL, List.getElem?_cons_zero, List.getElem?_cons_succ, Value.cells, List.take_zero, List.take_succ_cons, List.take_nil, List.drop_zero, List.drop_succ_cons, List.drop_nil, List.length_cons, List.length_nil, List.cons_append, List.nil_append, List.append_nil, Nat.zero_add, Nat.add_zero, Nat.reduceAdd, Nat.reduceBEq, Nat.reduceEqDiff, Nat.ble, BEq.rfl, Bool.and_true, Bool.and_self, cond_true, beq_self_eq_true]; rfl)) ?_)
      clear hh w; intro w hh
      refine w_nil ?_
      have hl2 := hl.add (t := 3) (hl.add (t := 4) (hl.add (t := 5) (hl.nil) rfl) rfl) rfl; clear hl; have hl := hl2; clear hl2
      refine then_normal ?_
      refine c_seq ?_
      refine c_seq ?_
      refine c_region ?_
      first | refine wl (w_loadA hl hh rfl trivial agg26 rfl (by repeat (first | exact find_head | apply find_tail | apply find_skip)) (by first | (simp only [List.getElem?_cons_zero, List.getElem?_cons_succ, Value.cells, List.take_zero, List.take_succ_cons, List.take_nil, List.drop_zero, List.drop_succ_cons, List.drop_nil, List.length_cons, List.length_nil, List.cons_append, List.nil_append, List.append_nil, Nat.zero_add, Nat.add_zero, Nat.reduceAdd, Nat.reduceBEq, Nat.reduceEqDiff, Nat.ble, BEq.rfl, Bool.and_true, Bool.and_self, cond_true, beq_self_eq_true]; rfl)) (by first | rfl | (simp; done)) ?_) | refine wl (w_loadRA hl hh rfl trivial agg26 rfl hpre.2 (by simp) rfl rfl ?_) | refine wl (wl_val hl rfl trivial (r_loadA hl rfl agg26 (hh.mem _ _ (by repeat (first | exact hmem1 | exact List.mem_append_left _ hmem1 | apply List.mem_cons_of_mem | apply List.mem_append_right))) hd1 rfl) ?_) | refine wl (wl_val hl rfl trivial (r_loadA hl rfl agg26 (hh.mem _ _ (by repeat (first | exact hmem2 | exact List.mem_append_left _ hmem2 | apply List.mem_cons_of_mem | apply List.mem_append_right))) hd2 rfl) ?_) | refine wl (wl_val hl rfl trivial (r_loadA hl rfl agg26 (hh.mem _ _ (by repeat (first | exact hmem7 | exact List.mem_append_left _ hmem7 | apply List.mem_cons_of_mem | apply List.mem_append_right))) hd7 rfl) ?_)
      clear hl a; intro a hl
      refine wl (w_call hl hh rfl trivial rfl cal13 rfl (mcheck_spec rs rp rc RE hp) (by repeat (first | exact keeps_nil | apply keeps_cons (by repeat (first | exact find_head | apply find_tail | apply find_skip)) (by first  | rfl) | exact keeps_self | exact keeps_left | apply keeps_app | apply keeps_mv | apply keeps_skip)) (prw_of (memK hh (by repeat (first | exact keeps_nil | apply keeps_cons (by repeat (first | exact find_head | apply find_tail | apply find_skip)) (by first  | rfl) | exact keeps_self | exact keeps_left | apply keeps_app | apply keeps_mv | apply keeps_skip)))) ?_)
      clear hl hh a w; intro vc Fc a w hR hl hh
      obtain ⟨rfl, rfl⟩ := hR
      try simp only [List.cons_append, List.nil_append, List.append_assoc, List.append_nil] at hh
      rw [hce] at hl
      simp only [ftc] at hl
      refine wl (w_alloc hl hh rfl trivial zero49 rfl ?_)
      clear hl hh a w; intro k6 a w hl hh
      refine wl (w_storeA hl hh trivial agg49 rfl rfl (by repeat (first | exact find_head | apply find_tail | apply find_skip)) (by first | rfl | (simp; done)) (by first | (simp; done) | (simp; omega)) (by first | rfl | (simp; done) | rfl) (by first | (simp only [setL, List.getElem?_cons_zero, List.getElem?_cons_succ, Value.cells, List.take_zero, List.take_succ_cons, List.take_nil, List.drop_zero, List.drop_succ_cons, List.drop_nil, List.length_cons, List.length_nil, List.cons_append, List.nil_append, List.append_nil, Nat.zero_add, Nat.add_zero, Nat.reduceAdd, Nat.reduceBEq, Nat.reduceEqDiff, Nat.ble, BEq.rfl, Bool.and_true, Bool.and_self, cond_true, beq_self_eq_true]; rfl)) ?_)
      clear hh w; intro w hh
      refine w_nil ?_
      have hl2 := hl.add (t := 3) (hl.add (t := 4) (hl.add (t := 5) (hl.add (t := 6) (hl.nil) rfl) rfl) rfl) rfl; clear hl; have hl := hl2; clear hl2
      refine then_normal ?_
      refine c_seq ?_
      refine c_region ?_
      refine wl (wl_val hl rfl trivial (r_field hl rfl fld49_0) ?_)
      clear hl a; intro a hl
      first | refine wl (w_load hl hh rfl trivial one47 rfl (by repeat (first | exact find_head | apply find_tail | apply find_skip)) (by first | rfl) ?_) | refine wl (wl_val hl rfl trivial (r_load hl rfl one47 (hh.mem _ _ (by repeat (first | exact hmemn | exact List.mem_append_left _ hmemn | apply List.mem_cons_of_mem | apply List.mem_append_right))) (List.getElem?_toArray.trans (fcS hni jn))) ?_)
      clear hl a; intro a hl
      refine wl (wl_val hl rfl trivial (r_neq hl rfl rfl) ?_)
      clear hl a; intro a hl
      first | rw [show decide (f.c ≠ 0) = true from decide_eq_true (by omega)] at hl | skip
      refine w_nil ?_
      have hl2 := hl.add (t := 3) (hl.add (t := 4) (hl.add (t := 5) (hl.add (t := 6) (hl.add (t := 34) (hl.nil) rfl) rfl) rfl) rfl) rfl; clear hl; have hl := hl2; clear hl2
      refine then_normal ?_
      refine c_condF hl rfl ?_
      refine wp_skip ?_
      refine then_normal ?_
      refine c_seq ?_
      refine c_seq ?_
      refine c_region ?_
      first | refine wl (w_loadA hl hh rfl trivial agg26 rfl (by repeat (first | exact find_head | apply find_tail | apply find_skip)) (by first | (simp only [List.getElem?_cons_zero, List.getElem?_cons_succ, Value.cells, List.take_zero, List.take_succ_cons, List.take_nil, List.drop_zero, List.drop_succ_cons, List.drop_nil, List.length_cons, List.length_nil, List.cons_append, List.nil_append, List.append_nil, Nat.zero_add, Nat.add_zero, Nat.reduceAdd, Nat.reduceBEq, Nat.reduceEqDiff, Nat.ble, BEq.rfl, Bool.and_true, Bool.and_self, cond_true, beq_self_eq_true]; rfl)) (by first | rfl | (simp; done)) ?_) | refine wl (w_loadRA hl hh rfl trivial agg26 rfl hpre.2 (by simp) rfl rfl ?_) | refine wl (wl_val hl rfl trivial (r_loadA hl rfl agg26 (hh.mem _ _ (by repeat (first | exact hmem1 | exact List.mem_append_left _ hmem1 | apply List.mem_cons_of_mem | apply List.mem_append_right))) hd1 rfl) ?_) | refine wl (wl_val hl rfl trivial (r_loadA hl rfl agg26 (hh.mem _ _ (by repeat (first | exact hmem2 | exact List.mem_append_left _ hmem2 | apply List.mem_cons_of_mem | apply List.mem_append_right))) hd2 rfl) ?_) | refine wl (wl_val hl rfl trivial (r_loadA hl rfl agg26 (hh.mem _ _ (by repeat (first | exact hmem7 | exact List.mem_append_left _ hmem7 | apply List.mem_cons_of_mem | apply List.mem_append_right))) hd7 rfl) ?_)
      clear hl a; intro a hl
      refine wl (w_call hl hh rfl trivial rfl cal16 rfl (negc_spec rs rp rc RE hp (fun r hr => hTa.t.b r hr)) (by repeat (first | exact keeps_nil | apply keeps_cons (by repeat (first | exact find_head | apply find_tail | apply find_skip)) (by first  | rfl) | exact keeps_self | exact keeps_left | apply keeps_app | apply keeps_mv | apply keeps_skip)) (prw_of (memK hh (by repeat (first | exact keeps_nil | apply keeps_cons (by repeat (first | exact find_head | apply find_tail | apply find_skip)) (by first  | rfl) | exact keeps_self | exact keeps_left | apply keeps_app | apply keeps_mv | apply keeps_skip)))) ?_)
      clear hl hh a w; intro vc Fc a w hR hl hh
      obtain ⟨bad2, hB2, rfl, rfl⟩ := hR
      try simp only [List.cons_append, List.nil_append, List.append_assoc, List.append_nil] at hh
      rw [← bad_eq hTa.t hB hB2, hn] at hl
      simp only [ngV] at hl
      refine wl (wl_val hl rfl trivial (r_move hl rfl) ?_)
      clear hl a; intro a hl
      refine wl (wl_val hl rfl trivial (r_extract hl rfl (by simp only [List.getElem?_toArray, List.getElem?_cons_zero, List.getElem?_cons_succ]; rfl)) ?_)
      clear hl a; intro a hl
      refine wl (wl_val hl rfl trivial (r_extract hl rfl (by simp only [List.getElem?_toArray, List.getElem?_cons_zero, List.getElem?_cons_succ]; rfl)) ?_)
      clear hl a; intro a hl
      refine wl (wl_val hl rfl trivial (r_extract hl rfl (by simp only [List.getElem?_toArray, List.getElem?_cons_zero, List.getElem?_cons_succ]; rfl)) ?_)
      clear hl a; intro a hl
      refine wl (wl_val hl rfl trivial (r_assign hl rfl) ?_)
      clear hl a; intro a hl
      refine wl (wl_val hl rfl trivial (r_assign hl rfl) ?_)
      clear hl a; intro a hl
      refine wl (wl_val hl rfl trivial (r_assign hl rfl) ?_)
      clear hl a; intro a hl
      refine w_nil ?_
      have hl2 := hl.add (t := 3) (hl.add (t := 4) (hl.add (t := 5) (hl.add (t := 7) (hl.add (t := 8) (hl.add (t := 9) (hl.nil) rfl) rfl) rfl) rfl) rfl) rfl; clear hl; have hl := hl2; clear hl2
      refine then_normal ?_
      refine c_seq ?_
      refine c_region ?_
      refine wl (wl_val hl rfl trivial (r_move hl rfl) ?_)
      clear hl a; intro a hl
      refine w_nil ?_
      have hl2 := hl.add (t := 3) (hl.add (t := 4) (hl.add (t := 5) (hl.add (t := 7) (hl.add (t := 8) (hl.add (t := 48) (hl.nil) rfl) rfl) rfl) rfl) rfl) rfl; clear hl; have hl := hl2; clear hl2
      refine then_normal ?_
      refine c_condF hl rfl ?_
      refine wp_skip ?_
      refine then_normal ?_
      refine c_seq ?_
      refine c_seq ?_
      refine c_region ?_
      first | refine wl (w_loadA hl hh rfl trivial agg49 rfl (by repeat (first | exact find_head | apply find_tail | apply find_skip)) (by first | (simp only [List.getElem?_cons_zero, List.getElem?_cons_succ, Value.cells, List.take_zero, List.take_succ_cons, List.take_nil, List.drop_zero, List.drop_succ_cons, List.drop_nil, List.length_cons, List.length_nil, List.cons_append, List.nil_append, List.append_nil, Nat.zero_add, Nat.add_zero, Nat.reduceAdd, Nat.reduceBEq, Nat.reduceEqDiff, Nat.ble, BEq.rfl, Bool.and_true, Bool.and_self, cond_true, beq_self_eq_true]; rfl)) (by first | rfl | (simp; done)) ?_) | refine wl (w_loadRA hl hh rfl trivial agg49 rfl hpre.2 (by simp) rfl rfl ?_) | refine wl (wl_val hl rfl trivial (r_loadA hl rfl agg49 (hh.mem _ _ (by repeat (first | exact hmem1 | exact List.mem_append_left _ hmem1 | apply List.mem_cons_of_mem | apply List.mem_append_right))) hd1 rfl) ?_) | refine wl (wl_val hl rfl trivial (r_loadA hl rfl agg49 (hh.mem _ _ (by repeat (first | exact hmem2 | exact List.mem_append_left _ hmem2 | apply List.mem_cons_of_mem | apply List.mem_append_right))) hd2 rfl) ?_) | refine wl (wl_val hl rfl trivial (r_loadA hl rfl agg49 (hh.mem _ _ (by repeat (first | exact hmem7 | exact List.mem_append_left _ hmem7 | apply List.mem_cons_of_mem | apply List.mem_append_right))) hd7 rfl) ?_)
      clear hl a; intro a hl
      refine wl (wl_val hl rfl trivial (r_build hl rfl zero49 bld49 (by simp only [fillL, setL, List.getElem?_cons_zero, List.getElem?_cons_succ, Value.cells, List.take_zero, List.take_succ_cons, List.take_nil, List.drop_zero, List.drop_succ_cons, List.drop_nil, List.length_cons, List.length_nil, List.cons_append, List.nil_append, List.append_nil, Nat.zero_add, Nat.add_zero, Nat.reduceAdd, Nat.reduceBEq, Nat.reduceEqDiff, Nat.ble, BEq.rfl, Bool.and_true, Bool.and_self, cond_true, beq_self_eq_true]; rfl)) ?_)
      clear hl a; intro a hl
      refine wl (wl_val hl rfl trivial (r_neqA hl rfl rfl eqf49 shp49 (by simp only [unlitL, unlit]; rfl) (by simp only [unlitL, unlit]; rfl) (by first | exact ⟨trivial⟩ | (refine ⟨?_⟩; simp [LitsOk, litOk, Fits]; done) | (refine ⟨?_⟩; simp [LitsOk, litOk, Fits]; omega)) (by first | exact ⟨trivial⟩ | (refine ⟨?_⟩; simp [LitsOk, litOk, Fits]; done) | (refine ⟨?_⟩; simp [LitsOk, litOk, Fits]; omega))) ?_)
      clear hl a; intro a hl
      rw [heq] at hl
      refine w_nil ?_
      have hl2 := hl.add (t := 3) (hl.add (t := 4) (hl.add (t := 60) (hl.nil) rfl) rfl) rfl; clear hl; have hl := hl2; clear hl2
      refine then_normal ?_
      refine c_condF hl rfl ?_
      refine wp_skip ?_
      refine then_normal ?_
      refine c_seq ?_
      refine cut_region (fun a w => ∃ (ns : List ByteArray) (np : Option Addr) (nc sb : Nat) (nE : List (Nat × Obj)) (m : List (ByteArray × Value)), (NmI (rs.map RV.ru) ns ∧ Row (.slice np ns.length nc) ns.length (fl stc ns) 1 9 nE ∧ IntV m ∧ (∀ n, sOf m n ≤ lvN ps L n) ∧ NSol (rs.map RV.ru) (sOf m)) ∧ Sl 153 [(3, .pointer (some ⟨k3, 0, none⟩)), (4, .slice pp l.length pc), (10, .slice np ns.length nc), (11, .map (some sb))] a ∧ Has [] w0 ((k3, C [.slice rp rs.length rc] 26) :: (sb, MO kStr m) :: (nE ++ (pE ++ (RE ++ List.flatMap RV.E rs)))) w) ?_ ?_
      ·
        refine c_draw [(k3, C [.slice rp rs.length rc] 26)] [3, 4, 5] mixed hh ?_
        clear hh w; intro w hh
        have hM : Mem [(k3, C [.slice rp rs.length rc] 26)] w := (memK hh (by repeat (first | exact keeps_nil | apply keeps_cons (by repeat (first | exact find_head | apply find_tail | apply find_skip)) (by first  | rfl) | exact keeps_self | exact keeps_left | apply keeps_app | apply keeps_mv | apply keeps_skip)))
        refine d_take (i := 0) hl rfl (by kernel_rfl) (by kernel_rfl) (by kernel_rfl) (by kernel_rfl) (by kernel_rfl) rfl trivial (fun _ _ _ h => by cases h.1) hM (fun w hC => r_loadCA hl rfl agg26 hC (by repeat (first | exact find_head | apply find_tail | apply find_skip)) (by first | (simp only [List.getElem?_cons_zero, List.getElem?_cons_succ, Value.cells, List.take_zero, List.take_succ_cons, List.take_nil, List.drop_zero, List.drop_succ_cons, List.drop_nil, List.length_cons, List.length_nil, List.cons_append, List.nil_append, List.append_nil, Nat.zero_add, Nat.add_zero, Nat.reduceAdd, Nat.reduceBEq, Nat.reduceEqDiff, Nat.ble, BEq.rfl, Bool.and_true, Bool.and_self, cond_true, beq_self_eq_true]; rfl)) (by first | rfl | (simp; done))) rfl ?_
        clear hl a; intro a hl
        refine d_take (i := 2) hl rfl (by kernel_rfl) (by kernel_rfl) (by kernel_rfl) (by kernel_rfl) (by kernel_rfl) rfl trivial (fun _ _ _ h => by cases h.1) hM (fun w hC => r_loadCA hl rfl agg26 hC (by repeat (first | exact find_head | apply find_tail | apply find_skip)) (by first | (simp only [List.getElem?_cons_zero, List.getElem?_cons_succ, Value.cells, List.take_zero, List.take_succ_cons, List.take_nil, List.drop_zero, List.drop_succ_cons, List.drop_nil, List.length_cons, List.length_nil, List.cons_append, List.nil_append, List.append_nil, Nat.zero_add, Nat.add_zero, Nat.reduceAdd, Nat.reduceBEq, Nat.reduceEqDiff, Nat.ble, BEq.rfl, Bool.and_true, Bool.and_self, cond_true, beq_self_eq_true]; rfl)) (by first | rfl | (simp; done))) rfl ?_
        clear hl a; intro a hl
        refine d_one (i := 1) (by kernel_rfl) rfl ?_
        try clear hM
        refine id (w_call hl hh rfl trivial rfl cal17 rfl (names_spec rs rp rc RE hp (fun r hr => hTa.t.b r hr)) (by repeat (first | exact keeps_nil | apply keeps_cons (by repeat (first | exact find_head | apply find_tail | apply find_skip)) (by first  | rfl) | exact keeps_self | exact keeps_left | apply keeps_app | apply keeps_mv | apply keeps_skip)) (prw_of (memK hh (by repeat (first | exact keeps_nil | apply keeps_cons (by repeat (first | exact find_head | apply find_tail | apply find_skip)) (by first  | rfl) | exact keeps_self | exact keeps_left | apply keeps_app | apply keeps_mv | apply keeps_skip)))) ?_)
        clear hl hh a w; intro vc Fc a w hR hl hh
        obtain ⟨ns, np, nc, hN, rfl, hNR⟩ := hR
        try simp only [List.cons_append, List.nil_append, List.append_assoc, List.append_nil] at hh
        generalize Fc = nE at hh hNR
        have hM : Mem [(k3, C [.slice rp rs.length rc] 26)] w := (memK hh (by repeat (first | exact keeps_nil | apply keeps_cons (by repeat (first | exact find_head | apply find_tail | apply find_skip)) (by first  | rfl) | exact keeps_self | exact keeps_left | apply keeps_app | apply keeps_mv | apply keeps_skip)))
        refine d_step (fun _ => hM) ?_
        refine d_one (i := 3) (by kernel_rfl) rfl ?_
        try clear hM
        refine id (w_call hl hh rfl trivial rfl cal18 rfl (strata_spec rs rp rc RE hp (lvN ps L) hF4.so hF4.lb) (by repeat (first | exact keeps_nil | apply keeps_cons (by repeat (first | exact find_head | apply find_tail | apply find_skip)) (by first  | rfl) | exact keeps_self | exact keeps_left | apply keeps_app | apply keeps_mv | apply keeps_skip)) (prw_of (memK hh (by repeat (first | exact keeps_nil | apply keeps_cons (by repeat (first | exact find_head | apply find_tail | apply find_skip)) (by first  | rfl) | exact keeps_self | exact keeps_left | apply keeps_app | apply keeps_mv | apply keeps_skip)))) ?_)
        clear hl hh a w; intro vc Fc a w hR hl hh
        obtain ⟨sb, m, hm1, hm2, hm3, rfl, rfl⟩ := hR
        try simp only [List.cons_append, List.nil_append, List.append_assoc, List.append_nil] at hh
        refine d_step (fun h => absurd h (by decide)) ?_
        refine d_takeL (i := 4) hl rfl (by kernel_rfl) (by kernel_rfl) (by kernel_rfl) (by kernel_rfl) (by kernel_rfl) rfl trivial (fun _ _ _ h => by cases h.1) (fun w => r_assign hl rfl) rfl ?_
        clear hl a; intro a hl
        refine d_takeL (i := 5) hl rfl (by kernel_rfl) (by kernel_rfl) (by kernel_rfl) (by kernel_rfl) (by kernel_rfl) rfl trivial (fun _ _ _ h => by cases h.1) (fun w => r_assign hl rfl) rfl ?_
        clear hl a; intro a hl
        refine d_done (by kernel_rfl) ?_
        try clear hM
        exact ⟨rfl, ns, np, nc, sb, nE, m, ⟨hN, hNR, hm1, hm2, hm3⟩, hl.addE (t := 3) (hl.addE (t := 4) (hl.addE (t := 10) (hl.addE (t := 11) (hl.nil) rfl (by first | rfl)) rfl (by first | rfl)) rfl (by first | rfl)) rfl (by first | rfl), hh.keep (by repeat (first | exact keeps_nil | apply keeps_cons (by repeat (first | exact find_head | apply find_tail | apply find_skip)) (by first  | rfl) | exact keeps_self | exact keeps_left | apply keeps_app | apply keeps_mv | apply keeps_skip))⟩
      ·
        clear hl hh a w; intro a w hI
        obtain ⟨ns, np, nc, sb, nE, m, ⟨hN, hNR, hm1, hm2, hm3⟩, hl, hh⟩ := hI
        have hl2 := hl.add (t := 3) (hl.add (t := 4) (hl.add (t := 10) (hl.add (t := 11) (hl.nil) rfl) rfl) rfl) rfl; clear hl; have hl := hl2; clear hl2
        have hne9 := names_eq hTa hLv hl1 hl2 hN
        have hln : l.length = ns.length := by rw [← hne9, List.length_map]
        refine then_normal ?_
        refine c_seq ?_
        refine c_seq ?_
        refine c_region ?_
        refine wl (wl_val hl rfl trivial (r_move hl rfl) ?_)
        clear hl a; intro a hl
        refine wl (wl_val hl rfl trivial (r_lenS hl rfl slc51) ?_)
        clear hl a; intro a hl
        refine wl (wl_val hl rfl trivial (r_move hl rfl) ?_)
        clear hl a; intro a hl
        refine wl (wl_val hl rfl trivial (r_lenS hl rfl slc59) ?_)
        clear hl a; intro a hl
        refine wl (wl_val hl rfl trivial (r_neq hl rfl rfl) ?_)
        clear hl a; intro a hl
        refine w_nil ?_
        have hl2 := hl.add (t := 3) (hl.add (t := 4) (hl.add (t := 10) (hl.add (t := 11) (hl.add (t := 69) (hl.nil) rfl) rfl) rfl) rfl) rfl; clear hl; have hl := hl2; clear hl2
        refine then_normal ?_
        refine c_cond hl rfl ?_ ?_
        · intro hc4
          try simp only [decide_eq_true_eq, decide_eq_false_iff_not, Bool.not_eq_true', Bool.not_eq_false', Bool.not_eq_true, Bool.not_eq_false, Bool.and_eq_true, Bool.or_eq_true, Bool.and_eq_false_iff, Bool.or_eq_false_iff, Bool.not_not, ne_eq, Int.not_lt, Int.not_le, Decidable.not_not, beq_iff_eq, bne_iff_ne] at hc4
          exfalso; first | contradiction | omega
        · intro hc4
          try simp only [decide_eq_true_eq, decide_eq_false_iff_not, Bool.not_eq_true', Bool.not_eq_false', Bool.not_eq_true, Bool.not_eq_false, Bool.and_eq_true, Bool.or_eq_true, Bool.and_eq_false_iff, Bool.or_eq_false_iff, Bool.not_not, ne_eq, Int.not_lt, Int.not_le, Decidable.not_not, beq_iff_eq, bne_iff_ne] at hc4
          refine wp_skip ?_
          refine then_normal ?_
          refine c_seq ?_
          refine c_region ?_
          refine wl (w_makeMap kStr hl hh rfl trivial ?_)
          clear hl hh a w; intro k70 a w hl hh
          refine wl (wl_val hl rfl trivial (r_assign hl rfl) ?_)
          clear hl a; intro a hl
          refine w_nil ?_
          have hl2 := hl.add (t := 3) (hl.add (t := 4) (hl.add (t := 10) (hl.add (t := 11) (hl.add (t := 12) (hl.nil) rfl) rfl) rfl) rfl) rfl; clear hl; have hl := hl2; clear hl2
          refine then_normal ?_
          refine c_seq ?_
          refine c_seq ?_
          refine c_region ?_
          refine wl (wl_val hl rfl trivial (r_move hl rfl) ?_)
          clear hl a; intro a hl
          refine wl (wl_val hl rfl trivial (r_lenS hl rfl slc51) ?_)
          clear hl a; intro a hl
          refine wl (wl_val hl rfl trivial (r_move hl rfl) ?_)
          clear hl a; intro a hl
          refine w_nil ?_
          have hl2 := hl.add (t := 3) (hl.add (t := 10) (hl.add (t := 11) (hl.add (t := 12) (hl.add (t := 71) (hl.add (t := 72) (hl.add (t := 73) (hl.nil) rfl) rfl) rfl) rfl) rfl) rfl) rfl; clear hl; have hl := hl2; clear hl2
          refine then_normal ?_
          refine wp_block ?_
          obtain ⟨KS0, hKS0, hk⟩ := (hl.add (t := 3) (hl.add (t := 10) (hl.add (t := 11) (hl.add (t := 12) (hl.add (t := 71) (hl.add (t := 72) (hl.nil) rfl) rfl) rfl) rfl) rfl) rfl).name
          obtain ⟨HS0, hHS0, hh2⟩ := hh.name (keeps_cons (b := k70) (o' := MO kStr []) (by repeat (first | exact find_head | apply find_tail | apply find_skip)) (by first | rfl) (keeps_nil))
          refine c_loop (α := S4) (fun z => l.length - z.i) (fun z a w => (z.i ≤ l.length ∧ SmI l z.i z.m) ∧ Sl 153 ([(73, .int .i64 (z.i : Int))] ++ KS0) a ∧ Has _ w0 ([(k70, MO kStr z.m)] ++ HS0) w) ⟨0, []⟩ ⟨⟨Nat.zero_le _, SmI.start l⟩, hl.addE (t := 73) (hk) rfl (by first | rfl), hh2⟩ ?_
          clear hk hh2 hl hh a w
          intro z a w hI
          obtain ⟨⟨hzi, hz⟩, hl, hh⟩ := hI
          subst hKS0; subst hHS0
          simp only [List.cons_append, List.nil_append, List.append_nil, List.append_assoc] at hl hh
          refine c_seq ?_
          refine c_region ?_
          refine wl (wl_val hl rfl trivial (r_lss hl rfl rfl) ?_)
          clear hl a; intro a hl
          refine w_nil ?_
          have hl2 := hl.add (t := 3) (hl.add (t := 10) (hl.add (t := 11) (hl.add (t := 12) (hl.add (t := 71) (hl.add (t := 72) (hl.add (t := 73) (hl.add (t := 74) (hl.nil) rfl) rfl) rfl) rfl) rfl) rfl) rfl) rfl; clear hl; have hl := hl2; clear hl2
          refine then_normal ?_
          refine c_seq ?_
          refine c_cond hl rfl ?_ ?_
          · intro hc5
            try simp only [decide_eq_true_eq, decide_eq_false_iff_not, Bool.not_eq_true', Bool.not_eq_false', Bool.not_eq_true, Bool.not_eq_false, Bool.and_eq_true, Bool.or_eq_true, Bool.and_eq_false_iff, Bool.or_eq_false_iff, Bool.not_not, ne_eq, Int.not_lt, Int.not_le, Decidable.not_not, beq_iff_eq, bne_iff_ne] at hc5
            obtain ⟨g, hg⟩ : ∃ g, l[z.i]? = some g := ⟨_, List.getElem?_eq_getElem (by omega)⟩
            have hgm := List.mem_of_getElem? hg
            obtain ⟨b7, j7, hq7, hjl7, hjc7, hE7⟩ := row_pos hl3 (by omega)
            have hmem7 : (b7, C (fl pdc l ++ j7) 64) ∈ pE := by rw [hE7]; exact List.mem_singleton.2 rfl
            rw [hq7] at hl
            have hd7 := fl_at pdc_len hg j7
            simp only [pdc] at hd7
            have hni : ns[z.i]? = some g.n := by rw [← hne9, List.getElem?_map, hg]; rfl
            obtain ⟨bn, jn, hqn, hjln, hjcn, hEn⟩ := row_pos hNR (by omega)
            have hmemn : (bn, C (fl stc ns ++ jn) 9) ∈ nE := by rw [hEn]; exact List.mem_singleton.2 rfl
            rw [hqn] at hl
            have hgs : sOf m g.n = g.s := by rw [st_eq hTa hL hm2 hm3 (hTa.t.occ ((hN.mem g.n).1 (List.mem_of_getElem? hni))), hF4.st g hgm]
            refine wp_skip ?_
            refine then_normal ?_
            refine c_seq ?_
            refine wp_block ?_
            refine c_seq ?_
            refine c_region ?_
            refine wl (wl_val hl rfl trivial (r_move hl rfl) ?_)
            clear hl a; intro a hl
            refine wl (wl_val hl rfl trivial (r_indexS hl rfl rfl slc51 (by omega) (by omega) (by first | (simp only [Int.reduceToNat]; rfl) | exact toNat_add1 _ | exact toNat_add2 _ _ | exact toNat_emod _ _ | exact Int.toNat_natCast _ | rfl)) ?_)
            clear hl a; intro a hl
            first | refine wl (w_loadA hl hh rfl trivial agg64 rfl (by repeat (first | exact find_head | apply find_tail | apply find_skip)) (by first | (simp only [List.getElem?_cons_zero, List.getElem?_cons_succ, Value.cells, List.take_zero, List.take_succ_cons, List.take_nil, List.drop_zero, List.drop_succ_cons, List.drop_nil, List.length_cons, List.length_nil, List.cons_append, List.nil_append, List.append_nil, Nat.zero_add, Nat.add_zero, Nat.reduceAdd, Nat.reduceBEq, Nat.reduceEqDiff, Nat.ble, BEq.rfl, Bool.and_true, Bool.and_self, cond_true, beq_self_eq_true]; rfl)) (by first | rfl | (simp; done)) ?_) | refine wl (w_loadRA hl hh rfl trivial agg64 rfl hpre.2 (by simp) rfl rfl ?_) | refine wl (wl_val hl rfl trivial (r_loadA hl rfl agg64 (hh.mem _ _ (by repeat (first | exact hmem1 | exact List.mem_append_left _ hmem1 | apply List.mem_cons_of_mem | apply List.mem_append_right))) hd1 rfl) ?_) | refine wl (wl_val hl rfl trivial (r_loadA hl rfl agg64 (hh.mem _ _ (by repeat (first | exact hmem2 | exact List.mem_append_left _ hmem2 | apply List.mem_cons_of_mem | apply List.mem_append_right))) hd2 rfl) ?_) | refine wl (wl_val hl rfl trivial (r_loadA hl rfl agg64 (hh.mem _ _ (by repeat (first | exact hmem7 | exact List.mem_append_left _ hmem7 | apply List.mem_cons_of_mem | apply List.mem_append_right))) hd7 rfl) ?_)
            clear hl a; intro a hl
            refine wl (w_alloc hl hh rfl trivial zero64 rfl ?_)
            clear hl hh a w; intro k14 a w hl hh
            refine wl (wl_val hl rfl trivial (r_assign hl rfl) ?_)
            clear hl a; intro a hl
            refine wl (w_storeA hl hh trivial agg64 rfl rfl (by repeat (first | exact find_head | apply find_tail | apply find_skip)) (by first | rfl | (simp; done)) (by first | (simp; done) | (simp; omega)) (by first | rfl | (simp; done) | rfl) (by first | (simp only [setL, List.getElem?_cons_zero, List.getElem?_cons_succ, Value.cells, List.take_zero, List.take_succ_cons, List.take_nil, List.drop_zero, List.drop_succ_cons, List.drop_nil, List.length_cons, List.length_nil, List.cons_append, List.nil_append, List.append_nil, Nat.zero_add, Nat.add_zero, Nat.reduceAdd, Nat.reduceBEq, Nat.reduceEqDiff, Nat.ble, BEq.rfl, Bool.and_true, Bool.and_self, cond_true, beq_self_eq_true]; rfl)) ?_)
            clear hh w; intro w hh
            refine w_nil ?_
            have hl2 := hl.add (t := 3) (hl.add (t := 10) (hl.add (t := 11) (hl.add (t := 12) (hl.add (t := 13) (hl.add (t := 14) (hl.add (t := 71) (hl.add (t := 72) (hl.add (t := 73) (hl.nil) rfl) rfl) rfl) rfl) rfl) rfl) rfl) rfl) rfl; clear hl; have hl := hl2; clear hl2
            refine then_normal ?_
            refine c_seq ?_
            refine c_seq ?_
            refine c_draw [(k14, C [.string g.n, .int .i64 (g.a : Int), .int .i64 (g.s : Int)] 64), (sb, MO kStr m)] [19, 20] mixed hh ?_
            clear hh w; intro w hh
            have hM : Mem [(k14, C [.string g.n, .int .i64 (g.a : Int), .int .i64 (g.s : Int)] 64), (sb, MO kStr m)] w := (memK hh (by repeat (first | exact keeps_nil | apply keeps_cons (by repeat (first | exact find_head | apply find_tail | apply find_skip)) (by first  | rfl) | exact keeps_self | exact keeps_left | apply keeps_app | apply keeps_mv | apply keeps_skip)))
            refine d_take (i := 0) hl rfl (by kernel_rfl) (by kernel_rfl) (by kernel_rfl) (by kernel_rfl) (by kernel_rfl) rfl trivial (fun _ _ _ h => h) hM (fun w hC => r_field hl rfl fld64_0) rfl ?_
            clear hl a; intro a hl
            refine d_take (i := 1) hl rfl (by kernel_rfl) (by kernel_rfl) (by kernel_rfl) (by kernel_rfl) (by kernel_rfl) rfl trivial (fun _ _ _ h => h) hM (fun w hC => r_loadC hl rfl one9 hC (by repeat (first | exact find_head | apply find_tail | apply find_skip)) (by first | rfl)) rfl ?_
            clear hl a; intro a hl
            refine d_take (i := 2) hl rfl (by kernel_rfl) (by kernel_rfl) (by kernel_rfl) (by kernel_rfl) (by kernel_rfl) rfl trivial (fun _ _ _ h => h) hM (fun w hC => r_move hl rfl) rfl ?_
            clear hl a; intro a hl
            refine d_take (i := 3) hl rfl (by kernel_rfl) (by kernel_rfl) (by kernel_rfl) (by kernel_rfl) (by kernel_rfl) rfl trivial (fun _ _ _ h => h) hM (fun w hC => r_move hl rfl) rfl ?_
            clear hl a; intro a hl
            refine d_take (i := 4) hl rfl (by kernel_rfl) (by kernel_rfl) (by kernel_rfl) (by kernel_rfl) (by kernel_rfl) rfl trivial (fun _ _ _ h => h) hM (fun w hC => r_indexS hl rfl rfl slc59 (by omega) (by omega) (by first | (simp only [Int.reduceToNat]; rfl) | exact toNat_add1 _ | exact toNat_add2 _ _ | exact toNat_emod _ _ | exact Int.toNat_natCast _ | rfl)) rfl ?_
            clear hl a; intro a hl
            refine d_one (i := 5) (by kernel_rfl) rfl ?_
            try clear hM
            first | refine id (w_load hl hh rfl trivial one9 rfl (by repeat (first | exact find_head | apply find_tail | apply find_skip)) (by first | rfl) ?_) | refine id (wl_val hl rfl trivial (r_load hl rfl one9 (hh.mem _ _ (by repeat (first | exact hmemn | exact List.mem_append_left _ hmemn | apply List.mem_cons_of_mem | apply List.mem_append_right))) (List.getElem?_toArray.trans (fcS hni jn))) ?_)
            clear hl a; intro a hl
            have hM : Mem [(k14, C [.string g.n, .int .i64 (g.a : Int), .int .i64 (g.s : Int)] 64), (sb, MO kStr m)] w := (memK hh (by repeat (first | exact keeps_nil | apply keeps_cons (by repeat (first | exact find_head | apply find_tail | apply find_skip)) (by first  | rfl) | exact keeps_self | exact keeps_left | apply keeps_app | apply keeps_mv | apply keeps_skip)))
            refine d_step (fun _ => hM) ?_
            refine d_take (i := 6) hl rfl (by kernel_rfl) (by kernel_rfl) (by kernel_rfl) (by kernel_rfl) (by kernel_rfl) rfl trivial (fun _ _ _ h => h) hM (fun w hC => r_neq_string hl rfl rfl) rfl ?_
            clear hl a; intro a hl
            rw [show (!(g.n.toList == g.n.toList)) = false by simp] at hl
            refine d_take (i := 7) hl rfl (by kernel_rfl) (by kernel_rfl) (by kernel_rfl) (by kernel_rfl) (by kernel_rfl) rfl trivial (fun _ _ _ h => h) hM (fun w hC => r_move hl rfl) rfl ?_
            clear hl a; intro a hl
            refine d_take (i := 8) hl rfl (by kernel_rfl) (by kernel_rfl) (by kernel_rfl) (by kernel_rfl) (by kernel_rfl) rfl ⟨_, _, rfl, rfl, rfl⟩ (fun _ _ _ h => h) hM (fun w hC => r_field hl rfl fld64_2) rfl ?_
            clear hl a; intro a hl
            refine d_take (i := 9) hl rfl (by kernel_rfl) (by kernel_rfl) (by kernel_rfl) (by kernel_rfl) (by kernel_rfl) rfl ⟨_, _, rfl, rfl, rfl⟩ (fun _ _ _ h => h) hM (fun w hC => r_loadC hl rfl one3 hC (by repeat (first | exact find_head | apply find_tail | apply find_skip)) (by first | rfl)) rfl ?_
            clear hl a; intro a hl
            refine d_take (i := 10) hl rfl (by kernel_rfl) (by kernel_rfl) (by kernel_rfl) (by kernel_rfl) (by kernel_rfl) rfl ⟨_, _, rfl, rfl, rfl⟩ (fun _ _ _ h => h) hM (fun w hC => r_move hl rfl) rfl ?_
            clear hl a; intro a hl
            refine d_take (i := 11) hl rfl (by kernel_rfl) (by kernel_rfl) (by kernel_rfl) (by kernel_rfl) (by kernel_rfl) rfl ⟨_, _, rfl, rfl, rfl⟩ (fun _ _ _ h => h) hM (fun w hC => r_field hl rfl fld64_0) rfl ?_
            clear hl a; intro a hl
            refine d_take (i := 12) hl rfl (by kernel_rfl) (by kernel_rfl) (by kernel_rfl) (by kernel_rfl) (by kernel_rfl) rfl ⟨_, _, rfl, rfl, rfl⟩ (fun _ _ _ h => h) hM (fun w hC => r_loadC hl rfl one9 hC (by repeat (first | exact find_head | apply find_tail | apply find_skip)) (by first | rfl)) rfl ?_
            clear hl a; intro a hl
            refine d_take (i := 13) hl rfl (by kernel_rfl) (by kernel_rfl) (by kernel_rfl) (by kernel_rfl) (by kernel_rfl) rfl ⟨_, _, rfl, rfl, rfl⟩ (fun _ _ _ h => h) hM (fun w hC => r_lookup (keyStr Tryd.underlying9) Tryd.underlying61 zero3 hl rfl rfl (hC _ _ (Find.mem (by repeat (first | exact find_head | apply find_tail | apply find_skip))))) rfl ?_
            clear hl a; intro a hl
            rw [sO_get hm1] at hl
            refine d_take (i := 14) hl rfl (by kernel_rfl) (by kernel_rfl) (by kernel_rfl) (by kernel_rfl) (by kernel_rfl) rfl ⟨_, _, rfl, rfl, rfl⟩ (fun _ _ _ h => h) hM (fun w hC => r_neq hl rfl rfl) rfl ?_
            clear hl a; intro a hl
            rw [show decide ((g.s : Int) ≠ (sOf m g.n : Int)) = false from decide_eq_false (by rw [hgs]; simp)] at hl
            refine d_take (i := 15) hl rfl (by kernel_rfl) (by kernel_rfl) (by kernel_rfl) (by kernel_rfl) (by kernel_rfl) rfl trivial (fun _ _ _ h => h) hM (fun w hC => r_pickF hl rfl rfl) rfl ?_
            clear hl a; intro a hl
            refine d_take (i := 16) hl rfl (by kernel_rfl) (by kernel_rfl) (by kernel_rfl) (by kernel_rfl) (by kernel_rfl) rfl trivial (fun _ _ _ h => h) hM (fun w hC => r_move hl rfl) rfl ?_
            clear hl a; intro a hl
            refine d_take (i := 17) hl rfl (by kernel_rfl) (by kernel_rfl) (by kernel_rfl) (by kernel_rfl) (by kernel_rfl) rfl ⟨_, _, rfl, rfl, rfl⟩ (fun _ _ _ h => h) hM (fun w hC => r_field hl rfl fld64_2) rfl ?_
            clear hl a; intro a hl
            refine d_take (i := 18) hl rfl (by kernel_rfl) (by kernel_rfl) (by kernel_rfl) (by kernel_rfl) (by kernel_rfl) rfl ⟨_, _, rfl, rfl, rfl⟩ (fun _ _ _ h => h) hM (fun w hC => r_loadC hl rfl one3 hC (by repeat (first | exact find_head | apply find_tail | apply find_skip)) (by first | rfl)) rfl ?_
            clear hl a; intro a hl
            refine d_takeL (i := 19) hl rfl (by kernel_rfl) (by kernel_rfl) (by kernel_rfl) (by kernel_rfl) (by kernel_rfl) rfl ⟨_, _, rfl, rfl, rfl⟩ (fun _ _ _ h => h) (fun w => r_lss hl rfl rfl) rfl ?_
            clear hl a; intro a hl
            rw [show decide ((g.s : Int) < 0) = false from decide_eq_false (by omega)] at hl
            refine d_takeL (i := 20) hl rfl (by kernel_rfl) (by kernel_rfl) (by kernel_rfl) (by kernel_rfl) (by kernel_rfl) rfl trivial (fun _ _ _ h => h) (fun w => r_pickF hl rfl rfl) rfl ?_
            clear hl a; intro a hl
            refine d_done (by kernel_rfl) ?_
            try clear hM
            have hl2 := hl.add (t := 3) (hl.add (t := 10) (hl.add (t := 11) (hl.add (t := 12) (hl.add (t := 14) (hl.add (t := 71) (hl.add (t := 72) (hl.add (t := 73) (hl.add (t := 98) (hl.nil) rfl) rfl) rfl) rfl) rfl) rfl) rfl) rfl) rfl; clear hl; have hl := hl2; clear hl2
            refine then_normal ?_
            refine c_condF hl rfl ?_
            refine wp_skip ?_
            refine then_normal ?_
            refine c_region ?_
            refine wl (wl_val hl rfl trivial (r_move hl rfl) ?_)
            clear hl a; intro a hl
            refine wl (wl_val hl rfl trivial (r_field hl rfl fld64_0) ?_)
            clear hl a; intro a hl
            first | refine wl (w_load hl hh rfl trivial one9 rfl (by repeat (first | exact find_head | apply find_tail | apply find_skip)) (by first | rfl) ?_) | refine wl (wl_val hl rfl trivial (r_load hl rfl one9 (hh.mem _ _ (by repeat (first | exact hmemn | exact List.mem_append_left _ hmemn | apply List.mem_cons_of_mem | apply List.mem_append_right))) (List.getElem?_toArray.trans (fcS hni jn))) ?_)
            clear hl a; intro a hl
            refine wl (wl_val hl rfl trivial (r_field hl rfl fld64_2) ?_)
            clear hl a; intro a hl
            first | refine wl (w_load hl hh rfl trivial one3 rfl (by repeat (first | exact find_head | apply find_tail | apply find_skip)) (by first | rfl) ?_) | refine wl (wl_val hl rfl trivial (r_load hl rfl one3 (hh.mem _ _ (by repeat (first | exact hmemn | exact List.mem_append_left _ hmemn | apply List.mem_cons_of_mem | apply List.mem_append_right))) (List.getElem?_toArray.trans (fcS hni jn))) ?_)
            clear hl a; intro a hl
            refine wl (w_mapUpdate (keyStr Tryd.underlying9) Tryd.underlying61 hl hh trivial rfl rfl rfl (by repeat (first | exact find_head | apply find_tail | apply find_skip)) ?_)
            clear hh w; intro w hh
            refine w_nil ?_
            have hl2 := hl.add (t := 3) (hl.add (t := 10) (hl.add (t := 11) (hl.add (t := 12) (hl.add (t := 71) (hl.add (t := 72) (hl.add (t := 73) (hl.nil) rfl) rfl) rfl) rfl) rfl) rfl) rfl; clear hl; have hl := hl2; clear hl2
            refine blk_normal ?_
            refine then_normal ?_
            refine c_region ?_
            first | refine wl (wl_val hl rfl trivial (r_add hl rfl rfl (by simp only [Fits]; omega)) ?_) | refine wl (wl_val hl rfl trivial (r_addW hl rfl rfl) ?_)
            clear hl a; intro a hl
            refine wl (wl_val hl rfl trivial (r_move hl rfl) ?_)
            clear hl a; intro a hl
            refine w_nil ?_
            have hl2 := hl.add (t := 3) (hl.add (t := 10) (hl.add (t := 11) (hl.add (t := 12) (hl.add (t := 71) (hl.add (t := 72) (hl.add (t := 73) (hl.nil) rfl) rfl) rfl) rfl) rfl) rfl) rfl; clear hl; have hl := hl2; clear hl2
            refine then_normal ?_
            refine ⟨⟨z.i + 1, mput z.m g.n (.int .i64 (g.s : Int))⟩, (by simp only; omega), ⟨by simp only; omega, hz.next hF4.st hg⟩, hl.addE (t := 73) (hl.addE (t := 3) (hl.addE (t := 10) (hl.addE (t := 11) (hl.addE (t := 12) (hl.addE (t := 71) (hl.addE (t := 72) (hl.nil) rfl (by first | rfl | exact congrArg (Value.int .i64) (show (z.i : Int) + 1 = ((z.i + 1 : Nat) : Int) by omega) | (rw [hq7]) | (rw [hqn]))) rfl (by first | rfl | exact congrArg (Value.int .i64) (show (z.i : Int) + 1 = ((z.i + 1 : Nat) : Int) by omega) | (rw [hq7]) | (rw [hqn]))) rfl (by first | rfl | exact congrArg (Value.int .i64) (show (z.i : Int) + 1 = ((z.i + 1 : Nat) : Int) by omega) | (rw [hq7]) | (rw [hqn]))) rfl (by first | rfl | exact congrArg (Value.int .i64) (show (z.i : Int) + 1 = ((z.i + 1 : Nat) : Int) by omega) | (rw [hq7]) | (rw [hqn]))) rfl (by first | rfl | exact congrArg (Value.int .i64) (show (z.i : Int) + 1 = ((z.i + 1 : Nat) : Int) by omega) | (rw [hq7]) | (rw [hqn]))) rfl (by first | rfl | exact congrArg (Value.int .i64) (show (z.i : Int) + 1 = ((z.i + 1 : Nat) : Int) by omega) | (rw [hq7]) | (rw [hqn]))) rfl (by first | rfl | exact congrArg (Value.int .i64) (show (z.i : Int) + 1 = ((z.i + 1 : Nat) : Int) by omega) | (rw [hq7]) | (rw [hqn])), hh.keep (by repeat (first | exact keeps_nil | apply keeps_cons (by repeat (first | exact find_head | apply find_tail | apply find_skip)) (by first  | rfl) | exact keeps_self | exact keeps_left | apply keeps_app | apply keeps_mv | apply keeps_skip))⟩
          · intro hc5
            try simp only [decide_eq_true_eq, decide_eq_false_iff_not, Bool.not_eq_true', Bool.not_eq_false', Bool.not_eq_true, Bool.not_eq_false, Bool.and_eq_true, Bool.or_eq_true, Bool.and_eq_false_iff, Bool.or_eq_false_iff, Bool.not_not, ne_eq, Int.not_lt, Int.not_le, Decidable.not_not, beq_iff_eq, bne_iff_ne] at hc5
            have hze : z.i = l.length := by omega
            have hz9 := hz.iv
            refine wp_exit ?_
            refine then_exit ?_
            refine then_exit ?_
            refine blk_exit ?_
            refine then_normal ?_
            refine c_seq ?_
            refine c_seq ?_
            refine c_region ?_
            refine wl (wl_val hl rfl trivial (r_field hl rfl fld26_0) ?_)
            clear hl a; intro a hl
            first | refine wl (w_load hl hh rfl trivial one24 rfl (by repeat (first | exact find_head | apply find_tail | apply find_skip)) (by first | rfl) ?_) | refine wl (wl_val hl rfl trivial (r_load hl rfl one24 (hh.mem _ _ (by repeat (first | exact hmemn | exact List.mem_append_left _ hmemn | apply List.mem_cons_of_mem | apply List.mem_append_right))) (List.getElem?_toArray.trans (fcS hni jn))) ?_)
            clear hl a; intro a hl
            refine wl (wl_val hl rfl trivial (r_lenS hl rfl slc24) ?_)
            clear hl a; intro a hl
            refine wl (wl_val hl rfl trivial (r_move hl rfl) ?_)
            clear hl a; intro a hl
            refine w_nil ?_
            have hl2 := hl.add (t := 12) (hl.add (t := 106) (hl.add (t := 107) (hl.add (t := 108) (hl.nil) rfl) rfl) rfl) rfl; clear hl; have hl := hl2; clear hl2
            refine then_normal ?_
            refine wp_block ?_
            obtain ⟨KS1, hKS1, hk⟩ := (hl.add (t := 12) (hl.add (t := 106) (hl.add (t := 107) (hl.nil) rfl) rfl) rfl).name
            obtain ⟨HS1, hHS1, hh2⟩ := hh.name (keeps_nil)
            refine c_loop (α := Nat) (fun i2 => rs.length - i2) (fun i2 a w => (i2 ≤ rs.length) ∧ Sl 153 ([(108, .int .i64 (i2 : Int))] ++ KS1) a ∧ Has _ w0 ([] ++ HS1) w) 0 ⟨Nat.zero_le _, hl.addE (t := 108) (hk) rfl (by first | rfl), hh2⟩ ?_
            clear hk hh2 hl hh a w
            intro i2 a w hI
            obtain ⟨hi2, hl, hh⟩ := hI
            subst hKS1; subst hHS1
            simp only [List.cons_append, List.nil_append, List.append_nil, List.append_assoc] at hl hh
            refine c_seq ?_
            refine c_region ?_
            refine wl (wl_val hl rfl trivial (r_lss hl rfl rfl) ?_)
            clear hl a; intro a hl
            refine w_nil ?_
            have hl2 := hl.add (t := 12) (hl.add (t := 106) (hl.add (t := 107) (hl.add (t := 108) (hl.add (t := 109) (hl.nil) rfl) rfl) rfl) rfl) rfl; clear hl; have hl := hl2; clear hl2
            refine then_normal ?_
            refine c_seq ?_
            refine c_cond hl rfl ?_ ?_
            · intro hc7
              try simp only [decide_eq_true_eq, decide_eq_false_iff_not, Bool.not_eq_true', Bool.not_eq_false', Bool.not_eq_true, Bool.not_eq_false, Bool.and_eq_true, Bool.or_eq_true, Bool.and_eq_false_iff, Bool.or_eq_false_iff, Bool.not_not, ne_eq, Int.not_lt, Int.not_le, Decidable.not_not, beq_iff_eq, bne_iff_ne] at hc7
              obtain ⟨r, hx⟩ : ∃ r, rs[i2]? = some r := ⟨_, List.getElem?_eq_getElem (by omega)⟩
              have hrm := List.mem_of_getElem? hx
              have hr := hG.ok r hrm
              have hrl9 := hr.len
              obtain ⟨b1, j1, hq1, hjl1, hjc1, hE1⟩ := row_pos hRow (by omega)
              have hmem1 : (b1, C (fl RV.c3 rs ++ j1) 35) ∈ RE := by rw [hE1]; exact List.mem_singleton.2 rfl
              rw [hq1] at hl hh
              have hd1 := fl_at c3_len hx j1
              simp only [RV.c3] at hd1
              refine wp_skip ?_
              refine then_normal ?_
              refine c_seq ?_
              refine wp_block ?_
              refine c_seq ?_
              refine c_region ?_
              refine wl (wl_val hl rfl trivial (r_indexS hl rfl rfl slc24 (by omega) (by omega) (by first | (simp only [Int.reduceToNat]; rfl) | exact toNat_add1 _ | exact toNat_add2 _ _ | exact toNat_emod _ _ | exact Int.toNat_natCast _ | rfl)) ?_)
              clear hl a; intro a hl
              first | refine wl (w_loadA hl hh rfl trivial agg35 rfl (by repeat (first | exact find_head | apply find_tail | apply find_skip)) (by first | (simp only [List.getElem?_cons_zero, List.getElem?_cons_succ, Value.cells, List.take_zero, List.take_succ_cons, List.take_nil, List.drop_zero, List.drop_succ_cons, List.drop_nil, List.length_cons, List.length_nil, List.cons_append, List.nil_append, List.append_nil, Nat.zero_add, Nat.add_zero, Nat.reduceAdd, Nat.reduceBEq, Nat.reduceEqDiff, Nat.ble, BEq.rfl, Bool.and_true, Bool.and_self, cond_true, beq_self_eq_true]; rfl)) (by first | rfl | (simp; done)) ?_) | refine wl (w_loadRA hl hh rfl trivial agg35 rfl hpre.2 (by simp) rfl rfl ?_) | refine wl (wl_val hl rfl trivial (r_loadA hl rfl agg35 (hh.mem _ _ (by repeat (first | exact hmem1 | exact List.mem_append_left _ hmem1 | apply List.mem_cons_of_mem | apply List.mem_append_right))) hd1 rfl) ?_) | refine wl (wl_val hl rfl trivial (r_loadA hl rfl agg35 (hh.mem _ _ (by repeat (first | exact hmem2 | exact List.mem_append_left _ hmem2 | apply List.mem_cons_of_mem | apply List.mem_append_right))) hd2 rfl) ?_) | refine wl (wl_val hl rfl trivial (r_loadA hl rfl agg35 (hh.mem _ _ (by repeat (first | exact hmem7 | exact List.mem_append_left _ hmem7 | apply List.mem_cons_of_mem | apply List.mem_append_right))) hd7 rfl) ?_)
              clear hl a; intro a hl
              refine wl (w_alloc hl hh rfl trivial zero35 rfl ?_)
              clear hl hh a w; intro k16 a w hl hh
              refine wl (w_storeA hl hh trivial agg35 rfl rfl (by repeat (first | exact find_head | apply find_tail | apply find_skip)) (by first | rfl | (simp; done)) (by first | (simp; done) | (simp; omega)) (by first | rfl | (simp; done) | rfl) (by first | (simp only [setL, List.getElem?_cons_zero, List.getElem?_cons_succ, Value.cells, List.take_zero, List.take_succ_cons, List.take_nil, List.drop_zero, List.drop_succ_cons, List.drop_nil, List.length_cons, List.length_nil, List.cons_append, List.nil_append, List.append_nil, Nat.zero_add, Nat.add_zero, Nat.reduceAdd, Nat.reduceBEq, Nat.reduceEqDiff, Nat.ble, BEq.rfl, Bool.and_true, Bool.and_self, cond_true, beq_self_eq_true]; rfl)) ?_)
              clear hh w; intro w hh
              refine w_nil ?_
              have hl2 := hl.add (t := 12) (hl.add (t := 16) (hl.add (t := 106) (hl.add (t := 107) (hl.add (t := 108) (hl.nil) rfl) rfl) rfl) rfl) rfl; clear hl; have hl := hl2; clear hl2
              refine then_normal ?_
              refine c_seq ?_
              refine c_region ?_
              refine wl (wl_val hl rfl trivial (r_field hl rfl fld35_1) ?_)
              clear hl a; intro a hl
              first | refine wl (w_load hl hh rfl trivial one33 rfl (by repeat (first | exact find_head | apply find_tail | apply find_skip)) (by first | rfl) ?_) | refine wl (wl_val hl rfl trivial (r_load hl rfl one33 (hh.mem _ _ (by repeat (first | exact hmemn | exact List.mem_append_left _ hmemn | apply List.mem_cons_of_mem | apply List.mem_append_right))) (List.getElem?_toArray.trans (fcS hni jn))) ?_)
              clear hl a; intro a hl
              refine wl (wl_val hl rfl trivial (r_lenS hl rfl slc33) ?_)
              clear hl a; intro a hl
              refine wl (wl_val hl rfl trivial (r_move hl rfl) ?_)
              clear hl a; intro a hl
              refine w_nil ?_
              have hl2 := hl.add (t := 12) (hl.add (t := 16) (hl.add (t := 106) (hl.add (t := 107) (hl.add (t := 108) (hl.add (t := 113) (hl.add (t := 114) (hl.add (t := 115) (hl.nil) rfl) rfl) rfl) rfl) rfl) rfl) rfl) rfl; clear hl; have hl := hl2; clear hl2
              refine then_normal ?_
              refine wp_block ?_
              obtain ⟨KS2, hKS2, hk⟩ := (hl.add (t := 12) (hl.add (t := 16) (hl.add (t := 106) (hl.add (t := 107) (hl.add (t := 108) (hl.add (t := 113) (hl.add (t := 114) (hl.nil) rfl) rfl) rfl) rfl) rfl) rfl) rfl).name
              obtain ⟨HS2, hHS2, hh2⟩ := hh.name (keeps_nil)
              refine c_loop (α := Nat) (fun j => r.ls.length - j) (fun j a w => (j ≤ r.ls.length) ∧ Sl 153 ([(115, .int .i64 (j : Int))] ++ KS2) a ∧ Has _ w0 ([] ++ HS2) w) 0 ⟨Nat.zero_le _, hl.addE (t := 115) (hk) rfl (by first | rfl), hh2⟩ ?_
              clear hk hh2 hl hh a w
              intro j a w hI
              obtain ⟨hj, hl, hh⟩ := hI
              subst hKS2; subst hHS2
              simp only [List.cons_append, List.nil_append, List.append_nil, List.append_assoc] at hl hh
              refine c_seq ?_
              refine c_region ?_
              refine wl (wl_val hl rfl trivial (r_lss hl rfl rfl) ?_)
              clear hl a; intro a hl
              refine w_nil ?_
              have hl2 := hl.add (t := 12) (hl.add (t := 16) (hl.add (t := 106) (hl.add (t := 107) (hl.add (t := 108) (hl.add (t := 113) (hl.add (t := 114) (hl.add (t := 115) (hl.add (t := 116) (hl.nil) rfl) rfl) rfl) rfl) rfl) rfl) rfl) rfl) rfl; clear hl; have hl := hl2; clear hl2
              refine then_normal ?_
              refine c_seq ?_
              refine c_cond hl rfl ?_ ?_
              · intro hc8
                try simp only [decide_eq_true_eq, decide_eq_false_iff_not, Bool.not_eq_true', Bool.not_eq_false', Bool.not_eq_true, Bool.not_eq_false, Bool.and_eq_true, Bool.or_eq_true, Bool.and_eq_false_iff, Bool.or_eq_false_iff, Bool.not_not, ne_eq, Int.not_lt, Int.not_le, Decidable.not_not, beq_iff_eq, bne_iff_ne] at hc8
                obtain ⟨x, hxx⟩ : ∃ x, r.ls[j]? = some x := ⟨_, List.getElem?_eq_getElem (by omega)⟩
                have hxm := List.mem_of_getElem? hxx
                have hxo := hr.ls x hxm
                have hxa := hxo.ags.len
                obtain ⟨b2, j2, hq2, hjl2, hjc2, hE2⟩ := row_pos hr.bd (by omega)
                have hmem2 : (b2, C (fl LV.c4 r.ls ++ j2) 44) ∈ List.flatMap RV.E rs := RV.inE hrm (by rw [hE2]; exact List.mem_singleton.2 rfl)
                rw [hq2] at hl hh
                have hd2 := fl_at c4_len hxx j2
                simp only [LV.c4] at hd2
                have hIq : Iq (sOf z.m) r.p x.l := hz.fin (r := r.ru) hze hF4 (List.mem_map.2 ⟨r, hrm, rfl⟩) (List.mem_map.2 ⟨x, hxm, rfl⟩)
                refine wp_skip ?_
                refine then_normal ?_
                refine c_seq ?_
                refine wp_block ?_
                refine c_seq ?_
                refine c_region ?_
                refine wl (wl_val hl rfl trivial (r_indexS hl rfl rfl slc33 (by omega) (by omega) (by first | (simp only [Int.reduceToNat]; rfl) | exact toNat_add1 _ | exact toNat_add2 _ _ | exact toNat_emod _ _ | exact Int.toNat_natCast _ | rfl)) ?_)
                clear hl a; intro a hl
                first | refine wl (w_loadA hl hh rfl trivial agg44 rfl (by repeat (first | exact find_head | apply find_tail | apply find_skip)) (by first | (simp only [List.getElem?_cons_zero, List.getElem?_cons_succ, Value.cells, List.take_zero, List.take_succ_cons, List.take_nil, List.drop_zero, List.drop_succ_cons, List.drop_nil, List.length_cons, List.length_nil, List.cons_append, List.nil_append, List.append_nil, Nat.zero_add, Nat.add_zero, Nat.reduceAdd, Nat.reduceBEq, Nat.reduceEqDiff, Nat.ble, BEq.rfl, Bool.and_true, Bool.and_self, cond_true, beq_self_eq_true]; rfl)) (by first | rfl | (simp; done)) ?_) | refine wl (w_loadRA hl hh rfl trivial agg44 rfl hpre.2 (by simp) rfl rfl ?_) | refine wl (wl_val hl rfl trivial (r_loadA hl rfl agg44 (hh.mem _ _ (by repeat (first | exact hmem1 | exact List.mem_append_left _ hmem1 | apply List.mem_cons_of_mem | apply List.mem_append_right))) hd1 rfl) ?_) | refine wl (wl_val hl rfl trivial (r_loadA hl rfl agg44 (hh.mem _ _ (by repeat (first | exact hmem2 | exact List.mem_append_left _ hmem2 | apply List.mem_cons_of_mem | apply List.mem_append_right))) hd2 rfl) ?_) | refine wl (wl_val hl rfl trivial (r_loadA hl rfl agg44 (hh.mem _ _ (by repeat (first | exact hmem7 | exact List.mem_append_left _ hmem7 | apply List.mem_cons_of_mem | apply List.mem_append_right))) hd7 rfl) ?_)
                clear hl a; intro a hl
                refine wl (w_alloc hl hh rfl trivial zero44 rfl ?_)
                clear hl hh a w; intro k18 a w hl hh
                refine wl (w_storeA hl hh trivial agg44 rfl rfl (by repeat (first | exact find_head | apply find_tail | apply find_skip)) (by first | rfl | (simp; done)) (by first | (simp; done) | (simp; omega)) (by first | rfl | (simp; done) | rfl) (by first | (simp only [setL, List.getElem?_cons_zero, List.getElem?_cons_succ, Value.cells, List.take_zero, List.take_succ_cons, List.take_nil, List.drop_zero, List.drop_succ_cons, List.drop_nil, List.length_cons, List.length_nil, List.cons_append, List.nil_append, List.append_nil, Nat.zero_add, Nat.add_zero, Nat.reduceAdd, Nat.reduceBEq, Nat.reduceEqDiff, Nat.ble, BEq.rfl, Bool.and_true, Bool.and_self, cond_true, beq_self_eq_true]; rfl)) ?_)
                clear hh w; intro w hh
                refine w_nil ?_
                have hl2 := hl.add (t := 12) (hl.add (t := 16) (hl.add (t := 18) (hl.add (t := 106) (hl.add (t := 107) (hl.add (t := 108) (hl.add (t := 113) (hl.add (t := 114) (hl.add (t := 115) (hl.nil) rfl) rfl) rfl) rfl) rfl) rfl) rfl) rfl) rfl; clear hl; have hl := hl2; clear hl2
                refine then_normal ?_
                refine c_seq ?_
                refine c_seq ?_
                rcases (show x.l.k = 0 ∨ x.l.k = 2 ∨ (¬ x.l.k = 0 ∧ ¬ x.l.k = 2) by omega) with hk9 | hk9 | hk9
                ·
                  have hq9 := hIq.1 hk9
                  refine c_region ?_
                  refine wl (wl_val hl rfl trivial (r_field hl rfl fld44_0) ?_)
                  clear hl a; intro a hl
                  first | refine wl (w_load hl hh rfl trivial one41 rfl (by repeat (first | exact find_head | apply find_tail | apply find_skip)) (by first | rfl) ?_) | refine wl (wl_val hl rfl trivial (r_load hl rfl one41 (hh.mem _ _ (by repeat (first | exact hmemn | exact List.mem_append_left _ hmemn | apply List.mem_cons_of_mem | apply List.mem_append_right))) (List.getElem?_toArray.trans (fcS hni jn))) ?_)
                  clear hl a; intro a hl
                  refine wl (wl_val hl rfl trivial (r_eql hl rfl rfl) ?_)
                  clear hl a; intro a hl
                  rw [show decide (x.l.k = 0) = true from decide_eq_true (by omega)] at hl
                  refine wl (wl_val hl rfl trivial (r_move hl rfl) ?_)
                  clear hl a; intro a hl
                  refine wl (wl_val hl rfl ⟨_, _, rfl, rfl, rfl⟩ (r_move hl rfl) ?_)
                  clear hl a; intro a hl
                  refine wl (wl_val hl rfl ⟨_, _, rfl, rfl, rfl⟩ (r_field hl rfl fld44_2) ?_)
                  clear hl a; intro a hl
                  refine wl (wl_val hl rfl ⟨_, _, rfl, rfl, rfl⟩ (r_field hl rfl fld32_0) ?_)
                  clear hl a; intro a hl
                  first | refine wl (w_load hl hh rfl ⟨_, _, rfl, rfl, rfl⟩ one9 rfl (by repeat (first | exact find_head | apply find_tail | apply find_skip)) (by first | rfl) ?_) | refine wl (wl_val hl rfl ⟨_, _, rfl, rfl, rfl⟩ (r_load hl rfl one9 (hh.mem _ _ (by repeat (first | exact hmemn | exact List.mem_append_left _ hmemn | apply List.mem_cons_of_mem | apply List.mem_append_right))) (List.getElem?_toArray.trans (fcS hni jn))) ?_)
                  clear hl a; intro a hl
                  refine wl (w_lookup (keyStr Tryd.underlying9) Tryd.underlying61 zero3 hl hh rfl ⟨_, _, rfl, rfl, rfl⟩ rfl rfl (by repeat (first | exact find_head | apply find_tail | apply find_skip)) ?_)
                  clear hl a; intro a hl
                  rw [sO_get hz9] at hl
                  refine wl (wl_val hl rfl ⟨_, _, rfl, rfl, rfl⟩ (r_move hl rfl) ?_)
                  clear hl a; intro a hl
                  refine wl (wl_val hl rfl ⟨_, _, rfl, rfl, rfl⟩ (r_field hl rfl fld35_0) ?_)
                  clear hl a; intro a hl
                  refine wl (wl_val hl rfl ⟨_, _, rfl, rfl, rfl⟩ (r_field hl rfl fld32_0) ?_)
                  clear hl a; intro a hl
                  first | refine wl (w_load hl hh rfl ⟨_, _, rfl, rfl, rfl⟩ one9 rfl (by repeat (first | exact find_head | apply find_tail | apply find_skip)) (by first | rfl) ?_) | refine wl (wl_val hl rfl ⟨_, _, rfl, rfl, rfl⟩ (r_load hl rfl one9 (hh.mem _ _ (by repeat (first | exact hmemn | exact List.mem_append_left _ hmemn | apply List.mem_cons_of_mem | apply List.mem_append_right))) (List.getElem?_toArray.trans (fcS hni jn))) ?_)
                  clear hl a; intro a hl
                  refine wl (w_lookup (keyStr Tryd.underlying9) Tryd.underlying61 zero3 hl hh rfl ⟨_, _, rfl, rfl, rfl⟩ rfl rfl (by repeat (first | exact find_head | apply find_tail | apply find_skip)) ?_)
                  clear hl a; intro a hl
                  rw [sO_get hz9] at hl
                  refine wl (wl_val hl rfl ⟨_, _, rfl, rfl, rfl⟩ (r_gtr hl rfl rfl) ?_)
                  clear hl a; intro a hl
                  refine wl (wl_val hl rfl trivial (r_pickT hl rfl rfl) ?_)
                  clear hl a; intro a hl
                  refine w_nil ?_
                  have hl2 := hl.add (t := 12) (hl.add (t := 16) (hl.add (t := 18) (hl.add (t := 106) (hl.add (t := 107) (hl.add (t := 108) (hl.add (t := 113) (hl.add (t := 114) (hl.add (t := 115) (hl.add (t := 134) (hl.nil) rfl) rfl) rfl) rfl) rfl) rfl) rfl) rfl) rfl) rfl; clear hl; have hl := hl2; clear hl2
                  refine then_normal ?_
                  refine c_cond hl rfl ?_ ?_
                  · intro hc9
                    try simp only [decide_eq_true_eq, decide_eq_false_iff_not, Bool.not_eq_true', Bool.not_eq_false', Bool.not_eq_true, Bool.not_eq_false, Bool.and_eq_true, Bool.or_eq_true, Bool.and_eq_false_iff, Bool.or_eq_false_iff, Bool.not_not, ne_eq, Int.not_lt, Int.not_le, Decidable.not_not, beq_iff_eq, bne_iff_ne] at hc9
                    exfalso; first | contradiction | omega
                  · intro hc9
                    try simp only [decide_eq_true_eq, decide_eq_false_iff_not, Bool.not_eq_true', Bool.not_eq_false', Bool.not_eq_true, Bool.not_eq_false, Bool.and_eq_true, Bool.or_eq_true, Bool.and_eq_false_iff, Bool.or_eq_false_iff, Bool.not_not, ne_eq, Int.not_lt, Int.not_le, Decidable.not_not, beq_iff_eq, bne_iff_ne] at hc9
                    refine wp_skip ?_
                    refine then_normal ?_
                    refine c_seq ?_
                    refine c_region ?_
                    refine wl (wl_val hl rfl trivial (r_field hl rfl fld44_0) ?_)
                    clear hl a; intro a hl
                    first | refine wl (w_load hl hh rfl trivial one41 rfl (by repeat (first | exact find_head | apply find_tail | apply find_skip)) (by first | rfl) ?_) | refine wl (wl_val hl rfl trivial (r_load hl rfl one41 (hh.mem _ _ (by repeat (first | exact hmemn | exact List.mem_append_left _ hmemn | apply List.mem_cons_of_mem | apply List.mem_append_right))) (List.getElem?_toArray.trans (fcS hni jn))) ?_)
                    clear hl a; intro a hl
                    refine wl (wl_val hl rfl trivial (r_eql hl rfl rfl) ?_)
                    clear hl a; intro a hl
                    rw [show decide (x.l.k = 2) = false from decide_eq_false (by omega)] at hl
                    refine wl (wl_val hl rfl trivial (r_move hl rfl) ?_)
                    clear hl a; intro a hl
                    refine wl (wl_skip hl rfl ⟨_, _, rfl, rfl, rfl⟩ ?_)
                    clear hl a; intro a hl
                    refine wl (wl_skip hl rfl ⟨_, _, rfl, rfl, rfl⟩ ?_)
                    clear hl a; intro a hl
                    refine wl (wl_skip hl rfl ⟨_, _, rfl, rfl, rfl⟩ ?_)
                    clear hl a; intro a hl
                    refine wl (wl_skip hl rfl ⟨_, _, rfl, rfl, rfl⟩ ?_)
                    clear hl a; intro a hl
                    refine wl (wl_skip hl rfl ⟨_, _, rfl, rfl, rfl⟩ ?_)
                    clear hl a; intro a hl
                    refine wl (wl_skip hl rfl ⟨_, _, rfl, rfl, rfl⟩ ?_)
                    clear hl a; intro a hl
                    refine wl (wl_skip hl rfl ⟨_, _, rfl, rfl, rfl⟩ ?_)
                    clear hl a; intro a hl
                    refine wl (wl_skip hl rfl ⟨_, _, rfl, rfl, rfl⟩ ?_)
                    clear hl a; intro a hl
                    refine wl (wl_skip hl rfl ⟨_, _, rfl, rfl, rfl⟩ ?_)
                    clear hl a; intro a hl
                    refine wl (wl_skip hl rfl ⟨_, _, rfl, rfl, rfl⟩ ?_)
                    clear hl a; intro a hl
                    refine wl (wl_skip hl rfl ⟨_, _, rfl, rfl, rfl⟩ ?_)
                    clear hl a; intro a hl
                    refine wl (wl_val hl rfl trivial (r_pickF hl rfl rfl) ?_)
                    clear hl a; intro a hl
                    refine w_nil ?_
                    have hl2 := hl.add (t := 12) (hl.add (t := 16) (hl.add (t := 106) (hl.add (t := 107) (hl.add (t := 108) (hl.add (t := 113) (hl.add (t := 114) (hl.add (t := 115) (hl.add (t := 150) (hl.nil) rfl) rfl) rfl) rfl) rfl) rfl) rfl) rfl) rfl; clear hl; have hl := hl2; clear hl2
                    refine then_normal ?_
                    refine c_condF hl rfl ?_
                    refine wp_skip ?_
                    refine blk_normal ?_
                    refine then_normal ?_
                    refine c_region ?_
                    first | refine wl (wl_val hl rfl trivial (r_add hl rfl rfl (by simp only [Fits]; omega)) ?_) | refine wl (wl_val hl rfl trivial (r_addW hl rfl rfl) ?_)
                    clear hl a; intro a hl
                    refine wl (wl_val hl rfl trivial (r_move hl rfl) ?_)
                    clear hl a; intro a hl
                    refine w_nil ?_
                    have hl2 := hl.add (t := 12) (hl.add (t := 16) (hl.add (t := 106) (hl.add (t := 107) (hl.add (t := 108) (hl.add (t := 113) (hl.add (t := 114) (hl.add (t := 115) (hl.nil) rfl) rfl) rfl) rfl) rfl) rfl) rfl) rfl; clear hl; have hl := hl2; clear hl2
                    refine then_normal ?_
                    refine ⟨j + 1, (by omega), (by omega), hl.addE (t := 115) (hl.addE (t := 12) (hl.addE (t := 16) (hl.addE (t := 106) (hl.addE (t := 107) (hl.addE (t := 108) (hl.addE (t := 113) (hl.addE (t := 114) (hl.nil) rfl (by first | rfl | exact congrArg (Value.int .i64) (show (j : Int) + 1 = ((j + 1 : Nat) : Int) by omega) | (rw [hq2]))) rfl (by first | rfl | exact congrArg (Value.int .i64) (show (j : Int) + 1 = ((j + 1 : Nat) : Int) by omega) | (rw [hq2]))) rfl (by first | rfl | exact congrArg (Value.int .i64) (show (j : Int) + 1 = ((j + 1 : Nat) : Int) by omega) | (rw [hq2]))) rfl (by first | rfl | exact congrArg (Value.int .i64) (show (j : Int) + 1 = ((j + 1 : Nat) : Int) by omega) | (rw [hq2]))) rfl (by first | rfl | exact congrArg (Value.int .i64) (show (j : Int) + 1 = ((j + 1 : Nat) : Int) by omega) | (rw [hq2]))) rfl (by first | rfl | exact congrArg (Value.int .i64) (show (j : Int) + 1 = ((j + 1 : Nat) : Int) by omega) | (rw [hq2]))) rfl (by first | rfl | exact congrArg (Value.int .i64) (show (j : Int) + 1 = ((j + 1 : Nat) : Int) by omega) | (rw [hq2]))) rfl (by first | rfl | exact congrArg (Value.int .i64) (show (j : Int) + 1 = ((j + 1 : Nat) : Int) by omega) | (rw [hq2])), hh.keep (by repeat (first | exact keeps_nil | apply keeps_cons (by repeat (first | exact find_head | apply find_tail | apply find_skip)) (by first  | (rw [hq2]) | rfl) | exact keeps_self | exact keeps_left | apply keeps_app | apply keeps_mv | apply keeps_skip))⟩
                ·
                  have hq9 := hIq.2 hk9
                  refine c_region ?_
                  refine wl (wl_val hl rfl trivial (r_field hl rfl fld44_0) ?_)
                  clear hl a; intro a hl
                  first | refine wl (w_load hl hh rfl trivial one41 rfl (by repeat (first | exact find_head | apply find_tail | apply find_skip)) (by first | rfl) ?_) | refine wl (wl_val hl rfl trivial (r_load hl rfl one41 (hh.mem _ _ (by repeat (first | exact hmemn | exact List.mem_append_left _ hmemn | apply List.mem_cons_of_mem | apply List.mem_append_right))) (List.getElem?_toArray.trans (fcS hni jn))) ?_)
                  clear hl a; intro a hl
                  refine wl (wl_val hl rfl trivial (r_eql hl rfl rfl) ?_)
                  clear hl a; intro a hl
                  rw [show decide (x.l.k = 0) = false from decide_eq_false (by omega)] at hl
                  refine wl (wl_val hl rfl trivial (r_move hl rfl) ?_)
                  clear hl a; intro a hl
                  refine wl (wl_skip hl rfl ⟨_, _, rfl, rfl, rfl⟩ ?_)
                  clear hl a; intro a hl
                  refine wl (wl_skip hl rfl ⟨_, _, rfl, rfl, rfl⟩ ?_)
                  clear hl a; intro a hl
                  refine wl (wl_skip hl rfl ⟨_, _, rfl, rfl, rfl⟩ ?_)
                  clear hl a; intro a hl
                  refine wl (wl_skip hl rfl ⟨_, _, rfl, rfl, rfl⟩ ?_)
                  clear hl a; intro a hl
                  refine wl (wl_skip hl rfl ⟨_, _, rfl, rfl, rfl⟩ ?_)
                  clear hl a; intro a hl
                  refine wl (wl_skip hl rfl ⟨_, _, rfl, rfl, rfl⟩ ?_)
                  clear hl a; intro a hl
                  refine wl (wl_skip hl rfl ⟨_, _, rfl, rfl, rfl⟩ ?_)
                  clear hl a; intro a hl
                  refine wl (wl_skip hl rfl ⟨_, _, rfl, rfl, rfl⟩ ?_)
                  clear hl a; intro a hl
                  refine wl (wl_skip hl rfl ⟨_, _, rfl, rfl, rfl⟩ ?_)
                  clear hl a; intro a hl
                  refine wl (wl_skip hl rfl ⟨_, _, rfl, rfl, rfl⟩ ?_)
                  clear hl a; intro a hl
                  refine wl (wl_skip hl rfl ⟨_, _, rfl, rfl, rfl⟩ ?_)
                  clear hl a; intro a hl
                  refine wl (wl_val hl rfl trivial (r_pickF hl rfl rfl) ?_)
                  clear hl a; intro a hl
                  refine w_nil ?_
                  have hl2 := hl.add (t := 12) (hl.add (t := 16) (hl.add (t := 18) (hl.add (t := 106) (hl.add (t := 107) (hl.add (t := 108) (hl.add (t := 113) (hl.add (t := 114) (hl.add (t := 115) (hl.add (t := 134) (hl.nil) rfl) rfl) rfl) rfl) rfl) rfl) rfl) rfl) rfl) rfl; clear hl; have hl := hl2; clear hl2
                  refine then_normal ?_
                  refine c_condF hl rfl ?_
                  refine wp_skip ?_
                  refine then_normal ?_
                  refine c_seq ?_
                  refine c_region ?_
                  refine wl (wl_val hl rfl trivial (r_field hl rfl fld44_0) ?_)
                  clear hl a; intro a hl
                  first | refine wl (w_load hl hh rfl trivial one41 rfl (by repeat (first | exact find_head | apply find_tail | apply find_skip)) (by first | rfl) ?_) | refine wl (wl_val hl rfl trivial (r_load hl rfl one41 (hh.mem _ _ (by repeat (first | exact hmemn | exact List.mem_append_left _ hmemn | apply List.mem_cons_of_mem | apply List.mem_append_right))) (List.getElem?_toArray.trans (fcS hni jn))) ?_)
                  clear hl a; intro a hl
                  refine wl (wl_val hl rfl trivial (r_eql hl rfl rfl) ?_)
                  clear hl a; intro a hl
                  rw [show decide (x.l.k = 2) = true from decide_eq_true (by omega)] at hl
                  refine wl (wl_val hl rfl trivial (r_move hl rfl) ?_)
                  clear hl a; intro a hl
                  refine wl (wl_val hl rfl ⟨_, _, rfl, rfl, rfl⟩ (r_move hl rfl) ?_)
                  clear hl a; intro a hl
                  refine wl (wl_val hl rfl ⟨_, _, rfl, rfl, rfl⟩ (r_field hl rfl fld44_2) ?_)
                  clear hl a; intro a hl
                  refine wl (wl_val hl rfl ⟨_, _, rfl, rfl, rfl⟩ (r_field hl rfl fld32_0) ?_)
                  clear hl a; intro a hl
                  first | refine wl (w_load hl hh rfl ⟨_, _, rfl, rfl, rfl⟩ one9 rfl (by repeat (first | exact find_head | apply find_tail | apply find_skip)) (by first | rfl) ?_) | refine wl (wl_val hl rfl ⟨_, _, rfl, rfl, rfl⟩ (r_load hl rfl one9 (hh.mem _ _ (by repeat (first | exact hmemn | exact List.mem_append_left _ hmemn | apply List.mem_cons_of_mem | apply List.mem_append_right))) (List.getElem?_toArray.trans (fcS hni jn))) ?_)
                  clear hl a; intro a hl
                  refine wl (w_lookup (keyStr Tryd.underlying9) Tryd.underlying61 zero3 hl hh rfl ⟨_, _, rfl, rfl, rfl⟩ rfl rfl (by repeat (first | exact find_head | apply find_tail | apply find_skip)) ?_)
                  clear hl a; intro a hl
                  rw [sO_get hz9] at hl
                  refine wl (wl_val hl rfl ⟨_, _, rfl, rfl, rfl⟩ (r_move hl rfl) ?_)
                  clear hl a; intro a hl
                  refine wl (wl_val hl rfl ⟨_, _, rfl, rfl, rfl⟩ (r_field hl rfl fld35_0) ?_)
                  clear hl a; intro a hl
                  refine wl (wl_val hl rfl ⟨_, _, rfl, rfl, rfl⟩ (r_field hl rfl fld32_0) ?_)
                  clear hl a; intro a hl
                  first | refine wl (w_load hl hh rfl ⟨_, _, rfl, rfl, rfl⟩ one9 rfl (by repeat (first | exact find_head | apply find_tail | apply find_skip)) (by first | rfl) ?_) | refine wl (wl_val hl rfl ⟨_, _, rfl, rfl, rfl⟩ (r_load hl rfl one9 (hh.mem _ _ (by repeat (first | exact hmemn | exact List.mem_append_left _ hmemn | apply List.mem_cons_of_mem | apply List.mem_append_right))) (List.getElem?_toArray.trans (fcS hni jn))) ?_)
                  clear hl a; intro a hl
                  refine wl (w_lookup (keyStr Tryd.underlying9) Tryd.underlying61 zero3 hl hh rfl ⟨_, _, rfl, rfl, rfl⟩ rfl rfl (by repeat (first | exact find_head | apply find_tail | apply find_skip)) ?_)
                  clear hl a; intro a hl
                  rw [sO_get hz9] at hl
                  refine wl (wl_val hl rfl ⟨_, _, rfl, rfl, rfl⟩ (r_geq hl rfl rfl) ?_)
                  clear hl a; intro a hl
                  refine wl (wl_val hl rfl trivial (r_pickT hl rfl rfl) ?_)
                  clear hl a; intro a hl
                  refine w_nil ?_
                  have hl2 := hl.add (t := 12) (hl.add (t := 16) (hl.add (t := 106) (hl.add (t := 107) (hl.add (t := 108) (hl.add (t := 113) (hl.add (t := 114) (hl.add (t := 115) (hl.add (t := 150) (hl.nil) rfl) rfl) rfl) rfl) rfl) rfl) rfl) rfl) rfl; clear hl; have hl := hl2; clear hl2
                  refine then_normal ?_
                  refine c_cond hl rfl ?_ ?_
                  · intro hc10
                    try simp only [decide_eq_true_eq, decide_eq_false_iff_not, Bool.not_eq_true', Bool.not_eq_false', Bool.not_eq_true, Bool.not_eq_false, Bool.and_eq_true, Bool.or_eq_true, Bool.and_eq_false_iff, Bool.or_eq_false_iff, Bool.not_not, ne_eq, Int.not_lt, Int.not_le, Decidable.not_not, beq_iff_eq, bne_iff_ne] at hc10
                    exfalso; first | contradiction | omega
                  · intro hc10
                    try simp only [decide_eq_true_eq, decide_eq_false_iff_not, Bool.not_eq_true', Bool.not_eq_false', Bool.not_eq_true, Bool.not_eq_false, Bool.and_eq_true, Bool.or_eq_true, Bool.and_eq_false_iff, Bool.or_eq_false_iff, Bool.not_not, ne_eq, Int.not_lt, Int.not_le, Decidable.not_not, beq_iff_eq, bne_iff_ne] at hc10
                    refine wp_skip ?_
                    refine blk_normal ?_
                    refine then_normal ?_
                    refine c_region ?_
                    first | refine wl (wl_val hl rfl trivial (r_add hl rfl rfl (by simp only [Fits]; omega)) ?_) | refine wl (wl_val hl rfl trivial (r_addW hl rfl rfl) ?_)
                    clear hl a; intro a hl
                    refine wl (wl_val hl rfl trivial (r_move hl rfl) ?_)
                    clear hl a; intro a hl
                    refine w_nil ?_
                    have hl2 := hl.add (t := 12) (hl.add (t := 16) (hl.add (t := 106) (hl.add (t := 107) (hl.add (t := 108) (hl.add (t := 113) (hl.add (t := 114) (hl.add (t := 115) (hl.nil) rfl) rfl) rfl) rfl) rfl) rfl) rfl) rfl; clear hl; have hl := hl2; clear hl2
                    refine then_normal ?_
                    refine ⟨j + 1, (by omega), (by omega), hl.addE (t := 115) (hl.addE (t := 12) (hl.addE (t := 16) (hl.addE (t := 106) (hl.addE (t := 107) (hl.addE (t := 108) (hl.addE (t := 113) (hl.addE (t := 114) (hl.nil) rfl (by first | rfl | exact congrArg (Value.int .i64) (show (j : Int) + 1 = ((j + 1 : Nat) : Int) by omega) | (rw [hq2]))) rfl (by first | rfl | exact congrArg (Value.int .i64) (show (j : Int) + 1 = ((j + 1 : Nat) : Int) by omega) | (rw [hq2]))) rfl (by first | rfl | exact congrArg (Value.int .i64) (show (j : Int) + 1 = ((j + 1 : Nat) : Int) by omega) | (rw [hq2]))) rfl (by first | rfl | exact congrArg (Value.int .i64) (show (j : Int) + 1 = ((j + 1 : Nat) : Int) by omega) | (rw [hq2]))) rfl (by first | rfl | exact congrArg (Value.int .i64) (show (j : Int) + 1 = ((j + 1 : Nat) : Int) by omega) | (rw [hq2]))) rfl (by first | rfl | exact congrArg (Value.int .i64) (show (j : Int) + 1 = ((j + 1 : Nat) : Int) by omega) | (rw [hq2]))) rfl (by first | rfl | exact congrArg (Value.int .i64) (show (j : Int) + 1 = ((j + 1 : Nat) : Int) by omega) | (rw [hq2]))) rfl (by first | rfl | exact congrArg (Value.int .i64) (show (j : Int) + 1 = ((j + 1 : Nat) : Int) by omega) | (rw [hq2])), hh.keep (by repeat (first | exact keeps_nil | apply keeps_cons (by repeat (first | exact find_head | apply find_tail | apply find_skip)) (by first  | (rw [hq2]) | rfl) | exact keeps_self | exact keeps_left | apply keeps_app | apply keeps_mv | apply keeps_skip))⟩
                ·
                  refine c_region ?_
                  refine wl (wl_val hl rfl trivial (r_field hl rfl fld44_0) ?_)
                  clear hl a; intro a hl
                  first | refine wl (w_load hl hh rfl trivial one41 rfl (by repeat (first | exact find_head | apply find_tail | apply find_skip)) (by first | rfl) ?_) | refine wl (wl_val hl rfl trivial (r_load hl rfl one41 (hh.mem _ _ (by repeat (first | exact hmemn | exact List.mem_append_left _ hmemn | apply List.mem_cons_of_mem | apply List.mem_append_right))) (List.getElem?_toArray.trans (fcS hni jn))) ?_)
                  clear hl a; intro a hl
                  refine wl (wl_val hl rfl trivial (r_eql hl rfl rfl) ?_)
                  clear hl a; intro a hl
                  rw [show decide (x.l.k = 0) = false from decide_eq_false (by omega)] at hl
                  refine wl (wl_val hl rfl trivial (r_move hl rfl) ?_)
                  clear hl a; intro a hl
                  refine wl (wl_skip hl rfl ⟨_, _, rfl, rfl, rfl⟩ ?_)
                  clear hl a; intro a hl
                  refine wl (wl_skip hl rfl ⟨_, _, rfl, rfl, rfl⟩ ?_)
                  clear hl a; intro a hl
                  refine wl (wl_skip hl rfl ⟨_, _, rfl, rfl, rfl⟩ ?_)
                  clear hl a; intro a hl
                  refine wl (wl_skip hl rfl ⟨_, _, rfl, rfl, rfl⟩ ?_)
                  clear hl a; intro a hl
                  refine wl (wl_skip hl rfl ⟨_, _, rfl, rfl, rfl⟩ ?_)
                  clear hl a; intro a hl
                  refine wl (wl_skip hl rfl ⟨_, _, rfl, rfl, rfl⟩ ?_)
                  clear hl a; intro a hl
                  refine wl (wl_skip hl rfl ⟨_, _, rfl, rfl, rfl⟩ ?_)
                  clear hl a; intro a hl
                  refine wl (wl_skip hl rfl ⟨_, _, rfl, rfl, rfl⟩ ?_)
                  clear hl a; intro a hl
                  refine wl (wl_skip hl rfl ⟨_, _, rfl, rfl, rfl⟩ ?_)
                  clear hl a; intro a hl
                  refine wl (wl_skip hl rfl ⟨_, _, rfl, rfl, rfl⟩ ?_)
                  clear hl a; intro a hl
                  refine wl (wl_skip hl rfl ⟨_, _, rfl, rfl, rfl⟩ ?_)
                  clear hl a; intro a hl
                  refine wl (wl_val hl rfl trivial (r_pickF hl rfl rfl) ?_)
                  clear hl a; intro a hl
                  refine w_nil ?_
                  have hl2 := hl.add (t := 12) (hl.add (t := 16) (hl.add (t := 18) (hl.add (t := 106) (hl.add (t := 107) (hl.add (t := 108) (hl.add (t := 113) (hl.add (t := 114) (hl.add (t := 115) (hl.add (t := 134) (hl.nil) rfl) rfl) rfl) rfl) rfl) rfl) rfl) rfl) rfl) rfl; clear hl; have hl := hl2; clear hl2
                  refine then_normal ?_
                  refine c_condF hl rfl ?_
                  refine wp_skip ?_
                  refine then_normal ?_
                  refine c_seq ?_
                  refine c_region ?_
                  refine wl (wl_val hl rfl trivial (r_field hl rfl fld44_0) ?_)
                  clear hl a; intro a hl
                  first | refine wl (w_load hl hh rfl trivial one41 rfl (by repeat (first | exact find_head | apply find_tail | apply find_skip)) (by first | rfl) ?_) | refine wl (wl_val hl rfl trivial (r_load hl rfl one41 (hh.mem _ _ (by repeat (first | exact hmemn | exact List.mem_append_left _ hmemn | apply List.mem_cons_of_mem | apply List.mem_append_right))) (List.getElem?_toArray.trans (fcS hni jn))) ?_)
                  clear hl a; intro a hl
                  refine wl (wl_val hl rfl trivial (r_eql hl rfl rfl) ?_)
                  clear hl a; intro a hl
                  rw [show decide (x.l.k = 2) = false from decide_eq_false (by omega)] at hl
                  refine wl (wl_val hl rfl trivial (r_move hl rfl) ?_)
                  clear hl a; intro a hl
                  refine wl (wl_skip hl rfl ⟨_, _, rfl, rfl, rfl⟩ ?_)
                  clear hl a; intro a hl
                  refine wl (wl_skip hl rfl ⟨_, _, rfl, rfl, rfl⟩ ?_)
                  clear hl a; intro a hl
                  refine wl (wl_skip hl rfl ⟨_, _, rfl, rfl, rfl⟩ ?_)
                  clear hl a; intro a hl
                  refine wl (wl_skip hl rfl ⟨_, _, rfl, rfl, rfl⟩ ?_)
                  clear hl a; intro a hl
                  refine wl (wl_skip hl rfl ⟨_, _, rfl, rfl, rfl⟩ ?_)
                  clear hl a; intro a hl
                  refine wl (wl_skip hl rfl ⟨_, _, rfl, rfl, rfl⟩ ?_)
                  clear hl a; intro a hl
                  refine wl (wl_skip hl rfl ⟨_, _, rfl, rfl, rfl⟩ ?_)
                  clear hl a; intro a hl
                  refine wl (wl_skip hl rfl ⟨_, _, rfl, rfl, rfl⟩ ?_)
                  clear hl a; intro a hl
                  refine wl (wl_skip hl rfl ⟨_, _, rfl, rfl, rfl⟩ ?_)
                  clear hl a; intro a hl
                  refine wl (wl_skip hl rfl ⟨_, _, rfl, rfl, rfl⟩ ?_)
                  clear hl a; intro a hl
                  refine wl (wl_skip hl rfl ⟨_, _, rfl, rfl, rfl⟩ ?_)
                  clear hl a; intro a hl
                  refine wl (wl_val hl rfl trivial (r_pickF hl rfl rfl) ?_)
                  clear hl a; intro a hl
                  refine w_nil ?_
                  have hl2 := hl.add (t := 12) (hl.add (t := 16) (hl.add (t := 106) (hl.add (t := 107) (hl.add (t := 108) (hl.add (t := 113) (hl.add (t := 114) (hl.add (t := 115) (hl.add (t := 150) (hl.nil) rfl) rfl) rfl) rfl) rfl) rfl) rfl) rfl) rfl; clear hl; have hl := hl2; clear hl2
                  refine then_normal ?_
                  refine c_condF hl rfl ?_
                  refine wp_skip ?_
                  refine blk_normal ?_
                  refine then_normal ?_
                  refine c_region ?_
                  first | refine wl (wl_val hl rfl trivial (r_add hl rfl rfl (by simp only [Fits]; omega)) ?_) | refine wl (wl_val hl rfl trivial (r_addW hl rfl rfl) ?_)
                  clear hl a; intro a hl
                  refine wl (wl_val hl rfl trivial (r_move hl rfl) ?_)
                  clear hl a; intro a hl
                  refine w_nil ?_
                  have hl2 := hl.add (t := 12) (hl.add (t := 16) (hl.add (t := 106) (hl.add (t := 107) (hl.add (t := 108) (hl.add (t := 113) (hl.add (t := 114) (hl.add (t := 115) (hl.nil) rfl) rfl) rfl) rfl) rfl) rfl) rfl) rfl; clear hl; have hl := hl2; clear hl2
                  refine then_normal ?_
                  refine ⟨j + 1, (by omega), (by omega), hl.addE (t := 115) (hl.addE (t := 12) (hl.addE (t := 16) (hl.addE (t := 106) (hl.addE (t := 107) (hl.addE (t := 108) (hl.addE (t := 113) (hl.addE (t := 114) (hl.nil) rfl (by first | rfl | exact congrArg (Value.int .i64) (show (j : Int) + 1 = ((j + 1 : Nat) : Int) by omega) | (rw [hq2]))) rfl (by first | rfl | exact congrArg (Value.int .i64) (show (j : Int) + 1 = ((j + 1 : Nat) : Int) by omega) | (rw [hq2]))) rfl (by first | rfl | exact congrArg (Value.int .i64) (show (j : Int) + 1 = ((j + 1 : Nat) : Int) by omega) | (rw [hq2]))) rfl (by first | rfl | exact congrArg (Value.int .i64) (show (j : Int) + 1 = ((j + 1 : Nat) : Int) by omega) | (rw [hq2]))) rfl (by first | rfl | exact congrArg (Value.int .i64) (show (j : Int) + 1 = ((j + 1 : Nat) : Int) by omega) | (rw [hq2]))) rfl (by first | rfl | exact congrArg (Value.int .i64) (show (j : Int) + 1 = ((j + 1 : Nat) : Int) by omega) | (rw [hq2]))) rfl (by first | rfl | exact congrArg (Value.int .i64) (show (j : Int) + 1 = ((j + 1 : Nat) : Int) by omega) | (rw [hq2]))) rfl (by first | rfl | exact congrArg (Value.int .i64) (show (j : Int) + 1 = ((j + 1 : Nat) : Int) by omega) | (rw [hq2])), hh.keep (by repeat (first | exact keeps_nil | apply keeps_cons (by repeat (first | exact find_head | apply find_tail | apply find_skip)) (by first  | (rw [hq2]) | rfl) | exact keeps_self | exact keeps_left | apply keeps_app | apply keeps_mv | apply keeps_skip))⟩
              · intro hc8
                try simp only [decide_eq_true_eq, decide_eq_false_iff_not, Bool.not_eq_true', Bool.not_eq_false', Bool.not_eq_true, Bool.not_eq_false, Bool.and_eq_true, Bool.or_eq_true, Bool.and_eq_false_iff, Bool.or_eq_false_iff, Bool.not_not, ne_eq, Int.not_lt, Int.not_le, Decidable.not_not, beq_iff_eq, bne_iff_ne] at hc8
                refine wp_exit ?_
                refine then_exit ?_
                refine then_exit ?_
                refine blk_exit ?_
                refine blk_normal ?_
                refine then_normal ?_
                refine c_region ?_
                first | refine wl (wl_val hl rfl trivial (r_add hl rfl rfl (by simp only [Fits]; omega)) ?_) | refine wl (wl_val hl rfl trivial (r_addW hl rfl rfl) ?_)
                clear hl a; intro a hl
                refine wl (wl_val hl rfl trivial (r_move hl rfl) ?_)
                clear hl a; intro a hl
                refine w_nil ?_
                have hl2 := hl.add (t := 12) (hl.add (t := 106) (hl.add (t := 107) (hl.add (t := 108) (hl.nil) rfl) rfl) rfl) rfl; clear hl; have hl := hl2; clear hl2
                refine then_normal ?_
                refine ⟨i2 + 1, (by omega), (by omega), hl.addE (t := 108) (hl.addE (t := 12) (hl.addE (t := 106) (hl.addE (t := 107) (hl.nil) rfl (by first | rfl | exact congrArg (Value.int .i64) (show (i2 : Int) + 1 = ((i2 + 1 : Nat) : Int) by omega) | (rw [hq1]))) rfl (by first | rfl | exact congrArg (Value.int .i64) (show (i2 : Int) + 1 = ((i2 + 1 : Nat) : Int) by omega) | (rw [hq1]))) rfl (by first | rfl | exact congrArg (Value.int .i64) (show (i2 : Int) + 1 = ((i2 + 1 : Nat) : Int) by omega) | (rw [hq1]))) rfl (by first | rfl | exact congrArg (Value.int .i64) (show (i2 : Int) + 1 = ((i2 + 1 : Nat) : Int) by omega) | (rw [hq1])), hh.keep (by repeat (first | exact keeps_nil | apply keeps_cons (by repeat (first | exact find_head | apply find_tail | apply find_skip)) (by first  | (rw [hq1]) | rfl) | exact keeps_self | exact keeps_left | apply keeps_app | apply keeps_mv | apply keeps_skip))⟩
            · intro hc7
              try simp only [decide_eq_true_eq, decide_eq_false_iff_not, Bool.not_eq_true', Bool.not_eq_false', Bool.not_eq_true, Bool.not_eq_false, Bool.and_eq_true, Bool.or_eq_true, Bool.and_eq_false_iff, Bool.or_eq_false_iff, Bool.not_not, ne_eq, Int.not_lt, Int.not_le, Decidable.not_not, beq_iff_eq, bne_iff_ne] at hc7
              refine wp_exit ?_
              refine then_exit ?_
              refine then_exit ?_
              refine blk_exit ?_
              refine then_normal ?_
              refine c_seq ?_
              refine c_region ?_
              refine wl (wl_val hl rfl trivial (r_assign hl rfl) ?_)
              clear hl a; intro a hl
              refine w_nil ?_
              have hl2 := hl.add (t := 2) (hl.nil) rfl; clear hl; have hl := hl2; clear hl2
              refine then_normal ?_
              refine wp_ret ?_
              refine f_ret1 (F' := []) hl hh rfl rfl (by repeat (first | exact keeps_nil | apply keeps_cons (by repeat (first | exact find_head | apply find_tail | apply find_skip)) (by first  | rfl) | exact keeps_self | exact keeps_left | apply keeps_app | apply keeps_mv | apply keeps_skip)) ?_
              exact ⟨rfl, rfl⟩
end Go.Proofs.Qxb6500915aDoor

import Derived.Test.Qxb6500915aDoorN4
namespace Go.Proofs.Qxb6500915aDoor
open Go.Eng
set_option linter.unusedVariables false
set_option linter.unusedSimpArgs false
theorem cal8 : callable Tryd.prog 8 = true := by kernel_rfl
theorem agg29 : aggOk Tryd.prog 29 3 = true := by kernel_rfl
theorem cal9 : callable Tryd.prog 9 = true := by kernel_rfl
theorem cal14 : callable Tryd.prog 14 = true := by kernel_rfl
theorem cal23 : callable Tryd.prog 23 = true := by kernel_rfl
theorem cal24 : callable Tryd.prog 24 = true := by kernel_rfl
attribute [local irreducible] RV.E

set_option maxHeartbeats 64000000 in
theorem law6 (p : Option Addr) (c : Nat) (ops : List OpV) (Z0 : List (Nat × Obj)) (hS : VwG 9 (.slice p ops.length c) ops.length (fl OpV.c9 ops) Z0) (hO : ∀ x, x ∈ ops → OpW x) (hol : ops.length ≤ 4000000000000000000) (HT : TypeId) (hf : Nat × Nat) : SpK Tryd.prog 6 #[.slice p ops.length c] (fun w => Scr p c ops Z0 w ∧ w.heap[1]? = some (.cells ⟨[.int .i64 8, .int .i64 5, .int .i64 5]⟩ HT hf)) [] (fun v F' => v = .bool true ∧ F' = []) := by
  refine f_enter (args := [.slice p ops.length c]) Tryd.func6 rfl Tryd.ntmps6 rfl ?_
  intro w0 w a hpre hl hh
  simp only [slotsFrom, Nat.reduceAdd] at hl
  refine c_seq ?_
  refine c_region ?_
  refine wl (wl_val hl rfl trivial (r_assign hl rfl) ?_)
  clear hl a; intro a hl
  refine w_nil ?_
  have hl2 := hl.add (t := 0) (hl.nil) rfl; clear hl; have hl := hl2; clear hl2
  refine then_normal ?_
  refine c_seq ?_
  refine c_seq ?_
  refine c_region ?_
  refine wl (wl_val hl rfl trivial (r_move hl rfl) ?_)
  clear hl a; intro a hl
  refine wl (w_call hl hh rfl trivial rfl cal8 rfl (small_spec p c ops Z0 hS hO hol) (by repeat (first | exact keeps_nil | apply keeps_cons (by repeat (first | exact find_head | apply find_tail | apply find_skip)) (by first  | rfl) | exact keeps_self | exact keeps_left | apply keeps_app | apply keeps_mv | apply keeps_skip)) ⟨mem_keep hh hpre.1.z, fun x hx => mem_keep hh (hpre.1.t x hx), fun x hx => mem_keep hh (hpre.1.l x hx)⟩ ?_)
  clear hl hh a w; intro vc Fc a w hR hl hh
  obtain ⟨b, rfl, hb, rfl⟩ := hR
  try simp only [List.cons_append, List.nil_append, List.append_assoc, List.append_nil] at hh
  refine wl (wl_val hl rfl trivial (r_not hl rfl) ?_)
  clear hl a; intro a hl
  refine w_nil ?_
  have hl2 := hl.add (t := 0) (hl.add (t := 22) (hl.nil) rfl) rfl; clear hl; have hl := hl2; clear hl2
  refine then_normal ?_
  refine c_cond hl rfl ?_ ?_
  · intro hc0
    try simp only [decide_eq_true_eq, decide_eq_false_iff_not, Bool.not_eq_true', Bool.not_eq_false', Bool.not_eq_true, Bool.not_eq_false, Bool.and_eq_true, Bool.or_eq_true, Bool.and_eq_false_iff, Bool.or_eq_false_iff, Bool.not_not, ne_eq, Int.not_lt, Int.not_le, Decidable.not_not, beq_iff_eq, bne_iff_ne] at hc0
    refine c_seq ?_
    refine c_region ?_
    refine wl (wl_val hl rfl trivial (r_assign hl rfl) ?_)
    clear hl a; intro a hl
    refine w_nil ?_
    have hl2 := hl.add (t := 2) (hl.nil) rfl; clear hl; have hl := hl2; clear hl2
    refine then_normal ?_
    refine wp_ret ?_
    refine then_ret ?_
    refine f_ret1 (F' := []) hl hh rfl rfl (by repeat (first | exact keeps_nil | apply keeps_cons (by repeat (first | exact find_head | apply find_tail | apply find_skip)) (by first  | rfl) | exact keeps_self | exact keeps_left | apply keeps_app | apply keeps_mv | apply keeps_skip)) ?_
    exact ⟨rfl, rfl⟩
  · intro hc0
    try simp only [decide_eq_true_eq, decide_eq_false_iff_not, Bool.not_eq_true', Bool.not_eq_false', Bool.not_eq_true, Bool.not_eq_false, Bool.and_eq_true, Bool.or_eq_true, Bool.and_eq_false_iff, Bool.or_eq_false_iff, Bool.not_not, ne_eq, Int.not_lt, Int.not_le, Decidable.not_not, beq_iff_eq, bne_iff_ne] at hc0
    have hSm := hb (by first | exact hc0 | simpa using hc0)
    refine wp_skip ?_
    refine then_normal ?_
    refine c_seq ?_
    refine c_region ?_
    refine wl (wl_val hl rfl trivial (r_move hl rfl) ?_)
    clear hl a; intro a hl
    first | refine wl (w_loadA hl hh rfl trivial agg29 rfl (by repeat (first | exact find_head | apply find_tail | apply find_skip)) (by first | (simp only [List.getElem?_cons_zero, List.getElem?_cons_succ, Value.cells, List.take_zero, List.take_succ_cons, List.take_nil, List.drop_zero, List.drop_succ_cons, List.drop_nil, List.length_cons, List.length_nil, List.cons_append, List.nil_append, List.append_nil, Nat.zero_add, Nat.add_zero, Nat.reduceAdd, Nat.reduceBEq, Nat.reduceEqDiff, Nat.ble, BEq.rfl, Bool.and_true, Bool.and_self, cond_true, beq_self_eq_true]; rfl)) (by first | rfl | (simp; done)) ?_) | refine wl (w_loadRA hl hh rfl trivial agg29 rfl hpre.2 (by simp) rfl rfl ?_) | refine wl (wl_val hl rfl trivial (r_loadA hl rfl agg29 (hh.mem _ _ (by repeat (first | exact hmem1 | exact List.mem_append_left _ hmem1 | apply List.mem_cons_of_mem | apply List.mem_append_right))) hd1 rfl) ?_) | refine wl (wl_val hl rfl trivial (r_loadA hl rfl agg29 (hh.mem _ _ (by repeat (first | exact hmem2 | exact List.mem_append_left _ hmem2 | apply List.mem_cons_of_mem | apply List.mem_append_right))) hd2 rfl) ?_) | refine wl (wl_val hl rfl trivial (r_loadA hl rfl agg29 (hh.mem _ _ (by repeat (first | exact hmem2 | exact List.mem_append_left _ hmem2 | apply List.mem_cons_of_mem | apply List.mem_append_right))) hd3 rfl) ?_) | refine wl (wl_val hl rfl trivial (r_loadA hl rfl agg29 (hh.mem _ _ (by repeat (first | exact hmem7 | exact List.mem_append_left _ hmem7 | apply List.mem_cons_of_mem | apply List.mem_append_right))) hd7 rfl) ?_)
    clear hl a; intro a hl
    refine wl (w_call hl hh rfl trivial rfl cal9 rfl (build_spec 8 5 5 (by omega) p c ops Z0 hS (fun x hx => (hO x hx).ok (hSm.t x hx) (hSm.l x hx)) hSm.len) (by repeat (first | exact keeps_nil | apply keeps_cons (by repeat (first | exact find_head | apply find_tail | apply find_skip)) (by first  | rfl) | exact keeps_self | exact keeps_left | apply keeps_app | apply keeps_mv | apply keeps_skip)) ⟨mem_keep hh hpre.1.z, fun x hx => mem_keep hh (hpre.1.t x hx), fun x hx => mem_keep hh (hpre.1.l x hx)⟩ ?_)
    clear hl hh a w; intro vc Fc a w hR hl hh
    obtain ⟨rs, rp, rc, RE, hG, hRow, rfl, rfl⟩ := hR
    try simp only [List.cons_append, List.nil_append, List.append_assoc, List.append_nil] at hh
    have hrl := hG.len
    have hp : Prg rs rp rc RE := ⟨hRow, hG.ok, by omega⟩
    refine wl (w_alloc hl hh rfl trivial zero26 rfl ?_)
    clear hl hh a w; intro k3 a w hl hh
    refine wl (w_storeA hl hh trivial agg26 rfl rfl (by repeat (first | exact find_head | apply find_tail | apply find_skip)) (by first | rfl | (simp; done)) (by first | (simp; done) | (simp; omega)) (by first | rfl | (simp; done) | rfl) (by first | (simp only [setL, List.getElem?_cons_zero, List.getElem?_cons_succ, Value.cells, List.take_zero, List.take_succ_cons, List.take_nil, List.drop_zero, List.drop_succ_cons, List.drop_nil, List.length_cons, List.length_nil, List.cons_append, List.nil_append, List.append_nil, Nat.zero_add, Nat.add_zero, Nat.reduceAdd, Nat.reduceBEq, Nat.reduceEqDiff, Nat.ble, BEq.rfl, Bool.and_true, Bool.and_self, cond_true, beq_self_eq_true]; rfl)) ?_)
    clear hh w; intro w hh
    refine w_nil ?_
    have hl2 := hl.add (t := 3) (hl.nil) rfl; clear hl; have hl := hl2; clear hl2
    refine then_normal ?_
    refine c_seq ?_
    refine c_region ?_
    first | refine wl (w_loadA hl hh rfl trivial agg26 rfl (by repeat (first | exact find_head | apply find_tail | apply find_skip)) (by first | (simp only [List.getElem?_cons_zero, List.getElem?_cons_succ, Value.cells, List.take_zero, List.take_succ_cons, List.take_nil, List.drop_zero, List.drop_succ_cons, List.drop_nil, List.length_cons, List.length_nil, List.cons_append, List.nil_append, List.append_nil, Nat.zero_add, Nat.add_zero, Nat.reduceAdd, Nat.reduceBEq, Nat.reduceEqDiff, Nat.ble, BEq.rfl, Bool.and_true, Bool.and_self, cond_true, beq_self_eq_true]; rfl)) (by first | rfl | (simp; done)) ?_) | refine wl (w_loadRA hl hh rfl trivial agg26 rfl hpre.2 (by simp) rfl rfl ?_) | refine wl (wl_val hl rfl trivial (r_loadA hl rfl agg26 (hh.mem _ _ (by repeat (first | exact hmem1 | exact List.mem_append_left _ hmem1 | apply List.mem_cons_of_mem | apply List.mem_append_right))) hd1 rfl) ?_) | refine wl (wl_val hl rfl trivial (r_loadA hl rfl agg26 (hh.mem _ _ (by repeat (first | exact hmem2 | exact List.mem_append_left _ hmem2 | apply List.mem_cons_of_mem | apply List.mem_append_right))) hd2 rfl) ?_) | refine wl (wl_val hl rfl trivial (r_loadA hl rfl agg26 (hh.mem _ _ (by repeat (first | exact hmem2 | exact List.mem_append_left _ hmem2 | apply List.mem_cons_of_mem | apply List.mem_append_right))) hd3 rfl) ?_) | refine wl (wl_val hl rfl trivial (r_loadA hl rfl agg26 (hh.mem _ _ (by repeat (first | exact hmem7 | exact List.mem_append_left _ hmem7 | apply List.mem_cons_of_mem | apply List.mem_append_right))) hd7 rfl) ?_)
    clear hl a; intro a hl
    refine wl (w_call hl hh rfl trivial rfl cal14 rfl (norm9_spec rs rp rc RE hp (by omega) (fun r hr => by have := hG.vs r hr; omega)) (by repeat (first | exact keeps_nil | apply keeps_cons (by repeat (first | exact find_head | apply find_tail | apply find_skip)) (by first  | rfl) | exact keeps_self | exact keeps_left | apply keeps_app | apply keeps_mv | apply keeps_skip)) (prw_of (memK hh (by repeat (first | exact keeps_nil | apply keeps_cons (by repeat (first | exact find_head | apply find_tail | apply find_skip)) (by first  | rfl) | exact keeps_self | exact keeps_left | apply keeps_app | apply keeps_mv | apply keeps_skip)))) ?_)
    clear hl hh a w; intro vc Fc a w hR hl hh
    obtain ⟨nA, f, GA, hNA, hnA, rfl, hGA, rfl⟩ := hR
    try simp only [List.cons_append, List.nil_append, List.append_assoc, List.append_nil] at hh
    simp only [ftc] at hl
    have hnl := hNA.ll; have hnr := hNA.rl; have hns := hNA.s
    refine wl (wl_val hl rfl trivial (r_move hl rfl) ?_)
    clear hl a; intro a hl
    refine wl (wl_val hl rfl trivial (r_extract hl rfl (by simp only [List.getElem?_toArray, List.getElem?_cons_zero, List.getElem?_cons_succ]; rfl)) ?_)
    clear hl a; intro a hl
    refine wl (wl_val hl rfl trivial (r_extract hl rfl (by simp only [List.getElem?_toArray, List.getElem?_cons_zero, List.getElem?_cons_succ]; rfl)) ?_)
    clear hl a; intro a hl
    refine wl (w_alloc hl hh rfl trivial zero53 rfl ?_)
    clear hl hh a w; intro k4 a w hl hh
    refine wl (w_alloc hl hh rfl trivial zero49 rfl ?_)
    clear hl hh a w; intro k5 a w hl hh
    refine wl (w_storeA hl hh trivial agg53 rfl rfl (by repeat (first | exact find_head | apply find_tail | apply find_skip)) (by first | rfl | (simp; done)) (by first | (simp; done) | (simp; omega)) (by first | rfl | (simp; done) | rfl) (by first | (simp only [setL, List.getElem?_cons_zero, List.getElem?_cons_succ, Value.cells, List.take_zero, List.take_succ_cons, List.take_nil, List.drop_zero, List.drop_succ_cons, List.drop_nil, List.length_cons, List.length_nil, List.cons_append, List.nil_append, List.append_nil, Nat.zero_add, Nat.add_zero, Nat.reduceAdd, Nat.reduceBEq, Nat.reduceEqDiff, Nat.ble, BEq.rfl, Bool.and_true, Bool.and_self, cond_true, beq_self_eq_true]; rfl)) ?_)
    clear hh w; intro w hh
    refine wl (w_storeA hl hh trivial agg49 rfl rfl (by repeat (first | exact find_head | apply find_tail | apply find_skip)) (by first | rfl | (simp; done)) (by first | (simp; done) | (simp; omega)) (by first | rfl | (simp; done) | rfl) (by first | (simp only [setL, List.getElem?_cons_zero, List.getElem?_cons_succ, Value.cells, List.take_zero, List.take_succ_cons, List.take_nil, List.drop_zero, List.drop_succ_cons, List.drop_nil, List.length_cons, List.length_nil, List.cons_append, List.nil_append, List.append_nil, Nat.zero_add, Nat.add_zero, Nat.reduceAdd, Nat.reduceBEq, Nat.reduceEqDiff, Nat.ble, BEq.rfl, Bool.and_true, Bool.and_self, cond_true, beq_self_eq_true]; rfl)) ?_)
    clear hh w; intro w hh
    refine w_nil ?_
    have hl2 := hl.add (t := 3) (hl.add (t := 4) (hl.add (t := 5) (hl.nil) rfl) rfl) rfl; clear hl; have hl := hl2; clear hl2
    refine then_normal ?_
    refine c_seq ?_
    refine c_seq ?_
    refine c_region ?_
    refine wl (wl_val hl rfl trivial (r_field hl rfl fld49_0) ?_)
    clear hl a; intro a hl
    first | refine wl (w_load hl hh rfl trivial one47 rfl (by repeat (first | exact find_head | apply find_tail | apply find_skip)) (by first | exact fl_cell c4_len hlu rfl j5 | exact fl_cell c4_len hlv rfl j5 | rfl) ?_) | refine wl (wl_val hl rfl trivial (r_load hl rfl one47 (hh.mem _ _ (by repeat (first | exact hmem8 | exact List.mem_append_left _ hmem8 | apply List.mem_cons_of_mem | apply List.mem_append_right))) (List.getElem?_toArray.trans hd8)) ?_)
    clear hl a; intro a hl
    refine wl (wl_val hl rfl trivial (r_neq hl rfl rfl) ?_)
    clear hl a; intro a hl
    refine w_nil ?_
    have hl2 := hl.add (t := 3) (hl.add (t := 4) (hl.add (t := 33) (hl.nil) rfl) rfl) rfl; clear hl; have hl := hl2; clear hl2
    refine then_normal ?_
    refine c_cond hl rfl ?_ ?_
    · intro hc1
      try simp only [decide_eq_true_eq, decide_eq_false_iff_not, Bool.not_eq_true', Bool.not_eq_false', Bool.not_eq_true, Bool.not_eq_false, Bool.and_eq_true, Bool.or_eq_true, Bool.and_eq_false_iff, Bool.or_eq_false_iff, Bool.not_not, ne_eq, Int.not_lt, Int.not_le, Decidable.not_not, beq_iff_eq, bne_iff_ne] at hc1
      obtain ⟨hn1, hn2, hn3⟩ : nA.l.length = 0 ∧ nA.q.length = 0 ∧ nA.s = 0 := by
        rcases hnA.c with ⟨_, h9⟩ | ⟨h9, _⟩
        · exact h9
        · exact absurd h9 hc1
      refine c_seq ?_
      refine c_region ?_
      refine wl (wl_val hl rfl trivial (r_field hl rfl fld53_1) ?_)
      clear hl a; intro a hl
      first | refine wl (w_load hl hh rfl trivial one24 rfl (by repeat (first | exact find_head | apply find_tail | apply find_skip)) (by first | exact fl_cell c4_len hlu rfl j5 | exact fl_cell c4_len hlv rfl j5 | rfl) ?_) | refine wl (wl_val hl rfl trivial (r_load hl rfl one24 (hh.mem _ _ (by repeat (first | exact hmem8 | exact List.mem_append_left _ hmem8 | apply List.mem_cons_of_mem | apply List.mem_append_right))) (List.getElem?_toArray.trans hd8)) ?_)
      clear hl a; intro a hl
      refine wl (wl_val hl rfl trivial (r_lenS hl rfl slc24) ?_)
      clear hl a; intro a hl
      refine wl (wl_val hl rfl trivial (r_eql hl rfl rfl) ?_)
      clear hl a; intro a hl
      refine wl (wl_val hl rfl trivial (r_move hl rfl) ?_)
      clear hl a; intro a hl
      refine sl_split (t := 38) hl rfl ?_ ?_
      · intro hg1; clear hl; intro hl
        try simp only [decide_eq_true_eq, decide_eq_false_iff_not, Bool.not_eq_true', Bool.not_eq_false', Bool.not_eq_true, Bool.not_eq_false, Bool.and_eq_true, Bool.or_eq_true, Bool.and_eq_false_iff, Bool.or_eq_false_iff, Bool.not_not, ne_eq, Int.not_lt, Int.not_le, Decidable.not_not, beq_iff_eq, bne_iff_ne] at hg1
        refine wl (wl_val hl rfl ⟨_, _, rfl, rfl, rfl⟩ (r_field hl rfl fld53_0) ?_)
        clear hl a; intro a hl
        first | refine wl (w_load hl hh rfl ⟨_, _, rfl, rfl, rfl⟩ one51 rfl (by repeat (first | exact find_head | apply find_tail | apply find_skip)) (by first | exact fl_cell c4_len hlu rfl j5 | exact fl_cell c4_len hlv rfl j5 | rfl) ?_) | refine wl (wl_val hl rfl ⟨_, _, rfl, rfl, rfl⟩ (r_load hl rfl one51 (hh.mem _ _ (by repeat (first | exact hmem8 | exact List.mem_append_left _ hmem8 | apply List.mem_cons_of_mem | apply List.mem_append_right))) (List.getElem?_toArray.trans hd8)) ?_)
        clear hl a; intro a hl
        refine wl (wl_val hl rfl ⟨_, _, rfl, rfl, rfl⟩ (r_lenS hl rfl slc51) ?_)
        clear hl a; intro a hl
        refine wl (wl_val hl rfl ⟨_, _, rfl, rfl, rfl⟩ (r_eql hl rfl rfl) ?_)
        clear hl a; intro a hl
        refine wl (wl_val hl rfl trivial (r_pickT hl rfl rfl) ?_)
        clear hl a; intro a hl
        refine wl (wl_val hl rfl trivial (r_move hl rfl) ?_)
        clear hl a; intro a hl
        refine sl_split (t := 44) hl rfl ?_ ?_
        · intro hg2; clear hl; intro hl
          try simp only [decide_eq_true_eq, decide_eq_false_iff_not, Bool.not_eq_true', Bool.not_eq_false', Bool.not_eq_true, Bool.not_eq_false, Bool.and_eq_true, Bool.or_eq_true, Bool.and_eq_false_iff, Bool.or_eq_false_iff, Bool.not_not, ne_eq, Int.not_lt, Int.not_le, Decidable.not_not, beq_iff_eq, bne_iff_ne] at hg2
          refine wl (wl_val hl rfl ⟨_, _, rfl, rfl, rfl⟩ (r_field hl rfl fld53_2) ?_)
          clear hl a; intro a hl
          first | refine wl (w_load hl hh rfl ⟨_, _, rfl, rfl, rfl⟩ one3 rfl (by repeat (first | exact find_head | apply find_tail | apply find_skip)) (by first | exact fl_cell c4_len hlu rfl j5 | exact fl_cell c4_len hlv rfl j5 | rfl) ?_) | refine wl (wl_val hl rfl ⟨_, _, rfl, rfl, rfl⟩ (r_load hl rfl one3 (hh.mem _ _ (by repeat (first | exact hmem8 | exact List.mem_append_left _ hmem8 | apply List.mem_cons_of_mem | apply List.mem_append_right))) (List.getElem?_toArray.trans hd8)) ?_)
          clear hl a; intro a hl
          refine wl (wl_val hl rfl ⟨_, _, rfl, rfl, rfl⟩ (r_eql hl rfl rfl) ?_)
          clear hl a; intro a hl
          refine wl (wl_val hl rfl trivial (r_pickT hl rfl rfl) ?_)
          clear hl a; intro a hl
          refine wl (wl_val hl rfl trivial (r_assign hl rfl) ?_)
          clear hl a; intro a hl
          refine w_nil ?_
          have hl2 := hl.add (t := 2) (hl.nil) rfl; clear hl; have hl := hl2; clear hl2
          refine then_normal ?_
          refine wp_ret ?_
          refine then_ret ?_
          refine f_ret1 (F' := []) hl hh rfl rfl (by repeat (first | exact keeps_nil | apply keeps_cons (by repeat (first | exact find_head | apply find_tail | apply find_skip)) (by first  | rfl) | exact keeps_self | exact keeps_left | apply keeps_app | apply keeps_mv | apply keeps_skip)) ?_
          first | exact ⟨congrArg Value.bool (decide_eq_true (by omega)), rfl⟩ | (exfalso; omega)
        · intro hg2; clear hl; intro hl
          try simp only [decide_eq_true_eq, decide_eq_false_iff_not, Bool.not_eq_true', Bool.not_eq_false', Bool.not_eq_true, Bool.not_eq_false, Bool.and_eq_true, Bool.or_eq_true, Bool.and_eq_false_iff, Bool.or_eq_false_iff, Bool.not_not, ne_eq, Int.not_lt, Int.not_le, Decidable.not_not, beq_iff_eq, bne_iff_ne] at hg2
          refine wl (wl_skip hl rfl ⟨_, _, rfl, rfl, rfl⟩ ?_)
          clear hl a; intro a hl
          refine wl (wl_skip hl rfl ⟨_, _, rfl, rfl, rfl⟩ ?_)
          clear hl a; intro a hl
          refine wl (wl_skip hl rfl ⟨_, _, rfl, rfl, rfl⟩ ?_)
          clear hl a; intro a hl
          refine wl (wl_val hl rfl trivial (r_pickF hl rfl rfl) ?_)
          clear hl a; intro a hl
          refine wl (wl_val hl rfl trivial (r_assign hl rfl) ?_)
          clear hl a; intro a hl
          refine w_nil ?_
          have hl2 := hl.add (t := 2) (hl.nil) rfl; clear hl; have hl := hl2; clear hl2
          refine then_normal ?_
          refine wp_ret ?_
          refine then_ret ?_
          refine f_ret1 (F' := []) hl hh rfl rfl (by repeat (first | exact keeps_nil | apply keeps_cons (by repeat (first | exact find_head | apply find_tail | apply find_skip)) (by first  | rfl) | exact keeps_self | exact keeps_left | apply keeps_app | apply keeps_mv | apply keeps_skip)) ?_
          first | exact ⟨congrArg Value.bool (decide_eq_true (by omega)), rfl⟩ | (exfalso; omega)
      · intro hg1; clear hl; intro hl
        try simp only [decide_eq_true_eq, decide_eq_false_iff_not, Bool.not_eq_true', Bool.not_eq_false', Bool.not_eq_true, Bool.not_eq_false, Bool.and_eq_true, Bool.or_eq_true, Bool.and_eq_false_iff, Bool.or_eq_false_iff, Bool.not_not, ne_eq, Int.not_lt, Int.not_le, Decidable.not_not, beq_iff_eq, bne_iff_ne] at hg1
        refine wl (wl_skip hl rfl ⟨_, _, rfl, rfl, rfl⟩ ?_)
        clear hl a; intro a hl
        refine wl (wl_skip hl rfl ⟨_, _, rfl, rfl, rfl⟩ ?_)
        clear hl a; intro a hl
        refine wl (wl_skip hl rfl ⟨_, _, rfl, rfl, rfl⟩ ?_)
        clear hl a; intro a hl
        refine wl (wl_skip hl rfl ⟨_, _, rfl, rfl, rfl⟩ ?_)
        clear hl a; intro a hl
        refine wl (wl_val hl rfl trivial (r_pickF hl rfl rfl) ?_)
        clear hl a; intro a hl
        refine wl (wl_val hl rfl trivial (r_move hl rfl) ?_)
        clear hl a; intro a hl
        refine wl (wl_skip hl rfl ⟨_, _, rfl, rfl, rfl⟩ ?_)
        clear hl a; intro a hl
        refine wl (wl_skip hl rfl ⟨_, _, rfl, rfl, rfl⟩ ?_)
        clear hl a; intro a hl
        refine wl (wl_skip hl rfl ⟨_, _, rfl, rfl, rfl⟩ ?_)
        clear hl a; intro a hl
        refine wl (wl_val hl rfl trivial (r_pickF hl rfl rfl) ?_)
        clear hl a; intro a hl
        refine wl (wl_val hl rfl trivial (r_assign hl rfl) ?_)
        clear hl a; intro a hl
        refine w_nil ?_
        have hl2 := hl.add (t := 2) (hl.nil) rfl; clear hl; have hl := hl2; clear hl2
        refine then_normal ?_
        refine wp_ret ?_
        refine then_ret ?_
        refine f_ret1 (F' := []) hl hh rfl rfl (by repeat (first | exact keeps_nil | apply keeps_cons (by repeat (first | exact find_head | apply find_tail | apply find_skip)) (by first  | rfl) | exact keeps_self | exact keeps_left | apply keeps_app | apply keeps_mv | apply keeps_skip)) ?_
        first | exact ⟨congrArg Value.bool (decide_eq_true (by omega)), rfl⟩ | (exfalso; omega)
    · intro hc1
      try simp only [decide_eq_true_eq, decide_eq_false_iff_not, Bool.not_eq_true', Bool.not_eq_false', Bool.not_eq_true, Bool.not_eq_false, Bool.and_eq_true, Bool.or_eq_true, Bool.and_eq_false_iff, Bool.or_eq_false_iff, Bool.not_not, ne_eq, Int.not_lt, Int.not_le, Decidable.not_not, beq_iff_eq, bne_iff_ne] at hc1
      obtain ⟨s6, h6⟩ : ∃ s, Lw6 (rs.map RV.ru) nA s := by
        rcases hnA.c with ⟨h9, _⟩ | ⟨_, ps9, q09, qs9, h8, h9⟩
        · exact absurd (by omega) h9
        · exact lw6_of h8 h9
      try simp only [List.append_assoc] at hh
      refine wp_skip ?_
      refine then_normal ?_
      refine c_seq ?_
      refine c_region ?_
      refine wl (wl_val hl rfl trivial (r_assign hl rfl) ?_)
      clear hl a; intro a hl
      refine w_nil ?_
      have hl2 := hl.add (t := 3) (hl.add (t := 4) (hl.add (t := 6) (hl.nil) rfl) rfl) rfl; clear hl; have hl := hl2; clear hl2
      refine then_normal ?_
      refine c_seq ?_
      refine c_seq ?_
      refine c_region ?_
      refine wl (wl_val hl rfl trivial (r_field hl rfl fld26_0) ?_)
      clear hl a; intro a hl
      first | refine wl (w_load hl hh rfl trivial one24 rfl (by repeat (first | exact find_head | apply find_tail | apply find_skip)) (by first | exact fl_cell c4_len hlu rfl j5 | exact fl_cell c4_len hlv rfl j5 | rfl) ?_) | refine wl (wl_val hl rfl trivial (r_load hl rfl one24 (hh.mem _ _ (by repeat (first | exact hmem8 | exact List.mem_append_left _ hmem8 | apply List.mem_cons_of_mem | apply List.mem_append_right))) (List.getElem?_toArray.trans hd8)) ?_)
      clear hl a; intro a hl
      refine wl (wl_val hl rfl trivial (r_lenS hl rfl slc24) ?_)
      clear hl a; intro a hl
      refine wl (wl_val hl rfl trivial (r_move hl rfl) ?_)
      clear hl a; intro a hl
      refine w_nil ?_
      have hl2 := hl.add (t := 3) (hl.add (t := 4) (hl.add (t := 6) (hl.add (t := 50) (hl.add (t := 51) (hl.add (t := 52) (hl.nil) rfl) rfl) rfl) rfl) rfl) rfl; clear hl; have hl := hl2; clear hl2
      refine then_normal ?_
      refine wp_block ?_
      obtain ⟨KS0, hKS0, hk⟩ := (hl.add (t := 3) (hl.add (t := 4) (hl.add (t := 6) (hl.add (t := 50) (hl.add (t := 51) (hl.nil) rfl) rfl) rfl) rfl) rfl).name
      obtain ⟨HS0, hHS0, hh2⟩ := hh.name (keeps_nil)
      refine c_loop (α := Nat) (fun i0 => rs.length - i0) (fun i0 a w => (i0 ≤ rs.length) ∧ Sl 157 ([(52, .int .i64 (i0 : Int))] ++ KS0) a ∧ Has _ w0 ([] ++ HS0) w) 0 ⟨Nat.zero_le _, hl.addE (t := 52) (hk) rfl (by first | rfl), hh2⟩ ?_
      clear hk hh2 hl hh a w
      intro i0 a w hI
      obtain ⟨hi0, hl, hh⟩ := hI
      subst hKS0; subst hHS0
      simp only [List.cons_append, List.nil_append, List.append_nil, List.append_assoc] at hl hh
      refine c_seq ?_
      refine c_region ?_
      refine wl (wl_val hl rfl trivial (r_lss hl rfl rfl) ?_)
      clear hl a; intro a hl
      refine w_nil ?_
      have hl2 := hl.add (t := 3) (hl.add (t := 4) (hl.add (t := 6) (hl.add (t := 50) (hl.add (t := 51) (hl.add (t := 52) (hl.add (t := 53) (hl.nil) rfl) rfl) rfl) rfl) rfl) rfl) rfl; clear hl; have hl := hl2; clear hl2
      refine then_normal ?_
      refine c_seq ?_
      refine c_cond hl rfl ?_ ?_
      · intro hc2
        try simp only [decide_eq_true_eq, decide_eq_false_iff_not, Bool.not_eq_true', Bool.not_eq_false', Bool.not_eq_true, Bool.not_eq_false, Bool.and_eq_true, Bool.or_eq_true, Bool.and_eq_false_iff, Bool.or_eq_false_iff, Bool.not_not, ne_eq, Int.not_lt, Int.not_le, Decidable.not_not, beq_iff_eq, bne_iff_ne] at hc2
        obtain ⟨r, hx⟩ : ∃ r, rs[i0]? = some r := ⟨_, List.getElem?_eq_getElem (by omega)⟩
        have hrm := List.mem_of_getElem? hx
        have hr := hG.ok r hrm
        have hrl9 := hr.len
        obtain ⟨b1, j1, hq1, hjl1, hjc1, hE1⟩ := row_pos hRow (by omega)
        have hmem1 : (b1, C (fl RV.c3 rs ++ j1) 35) ∈ RE := by rw [hE1]; exact List.mem_singleton.2 rfl
        rw [hq1] at hl hh
        have hd1 := fl_at c3_len hx j1
        simp only [RV.c3] at hd1
        refine wp_skip ?_
        refine then_normal ?_
        refine c_seq ?_
        refine wp_block ?_
        refine c_seq ?_
        refine c_region ?_
        refine wl (wl_val hl rfl trivial (r_indexS hl rfl rfl slc24 (by omega) (by omega) (by first | (simp only [Int.reduceToNat]; rfl) | exact toNat_add1 _ | exact toNat_add2 _ _ | exact toNat_emod _ _ | exact Int.toNat_natCast _ | rfl)) ?_)
        clear hl a; intro a hl
        first | refine wl (w_loadA hl hh rfl trivial agg35 rfl (by repeat (first | exact find_head | apply find_tail | apply find_skip)) (by first | (simp only [List.getElem?_cons_zero, List.getElem?_cons_succ, Value.cells, List.take_zero, List.take_succ_cons, List.take_nil, List.drop_zero, List.drop_succ_cons, List.drop_nil, List.length_cons, List.length_nil, List.cons_append, List.nil_append, List.append_nil, Nat.zero_add, Nat.add_zero, Nat.reduceAdd, Nat.reduceBEq, Nat.reduceEqDiff, Nat.ble, BEq.rfl, Bool.and_true, Bool.and_self, cond_true, beq_self_eq_true]; rfl)) (by first | rfl | (simp; done)) ?_) | refine wl (w_loadRA hl hh rfl trivial agg35 rfl hpre.2 (by simp) rfl rfl ?_) | refine wl (wl_val hl rfl trivial (r_loadA hl rfl agg35 (hh.mem _ _ (by repeat (first | exact hmem1 | exact List.mem_append_left _ hmem1 | apply List.mem_cons_of_mem | apply List.mem_append_right))) hd1 rfl) ?_) | refine wl (wl_val hl rfl trivial (r_loadA hl rfl agg35 (hh.mem _ _ (by repeat (first | exact hmem2 | exact List.mem_append_left _ hmem2 | apply List.mem_cons_of_mem | apply List.mem_append_right))) hd2 rfl) ?_) | refine wl (wl_val hl rfl trivial (r_loadA hl rfl agg35 (hh.mem _ _ (by repeat (first | exact hmem2 | exact List.mem_append_left _ hmem2 | apply List.mem_cons_of_mem | apply List.mem_append_right))) hd3 rfl) ?_) | refine wl (wl_val hl rfl trivial (r_loadA hl rfl agg35 (hh.mem _ _ (by repeat (first | exact hmem7 | exact List.mem_append_left _ hmem7 | apply List.mem_cons_of_mem | apply List.mem_append_right))) hd7 rfl) ?_)
        clear hl a; intro a hl
        refine wl (w_alloc hl hh rfl trivial zero35 rfl ?_)
        clear hl hh a w; intro k8 a w hl hh
        refine wl (w_storeA hl hh trivial agg35 rfl rfl (by repeat (first | exact find_head | apply find_tail | apply find_skip)) (by first | rfl | (simp; done)) (by first | (simp; done) | (simp; omega)) (by first | rfl | (simp; done) | rfl) (by first | (simp only [setL, List.getElem?_cons_zero, List.getElem?_cons_succ, Value.cells, List.take_zero, List.take_succ_cons, List.take_nil, List.drop_zero, List.drop_succ_cons, List.drop_nil, List.length_cons, List.length_nil, List.cons_append, List.nil_append, List.append_nil, Nat.zero_add, Nat.add_zero, Nat.reduceAdd, Nat.reduceBEq, Nat.reduceEqDiff, Nat.ble, BEq.rfl, Bool.and_true, Bool.and_self, cond_true, beq_self_eq_true]; rfl)) ?_)
        clear hh w; intro w hh
        refine w_nil ?_
        have hl2 := hl.add (t := 3) (hl.add (t := 4) (hl.add (t := 6) (hl.add (t := 8) (hl.add (t := 50) (hl.add (t := 51) (hl.add (t := 52) (hl.nil) rfl) rfl) rfl) rfl) rfl) rfl) rfl; clear hl; have hl := hl2; clear hl2
        refine then_normal ?_
        refine c_seq ?_
        refine c_region ?_
        refine wl (wl_val hl rfl trivial (r_move hl rfl) ?_)
        clear hl a; intro a hl
        first | refine wl (w_loadA hl hh rfl trivial agg35 rfl (by repeat (first | exact find_head | apply find_tail | apply find_skip)) (by first | (simp only [List.getElem?_cons_zero, List.getElem?_cons_succ, Value.cells, List.take_zero, List.take_succ_cons, List.take_nil, List.drop_zero, List.drop_succ_cons, List.drop_nil, List.length_cons, List.length_nil, List.cons_append, List.nil_append, List.append_nil, Nat.zero_add, Nat.add_zero, Nat.reduceAdd, Nat.reduceBEq, Nat.reduceEqDiff, Nat.ble, BEq.rfl, Bool.and_true, Bool.and_self, cond_true, beq_self_eq_true]; rfl)) (by first | rfl | (simp; done)) ?_) | refine wl (w_loadRA hl hh rfl trivial agg35 rfl hpre.2 (by simp) rfl rfl ?_) | refine wl (wl_val hl rfl trivial (r_loadA hl rfl agg35 (hh.mem _ _ (by repeat (first | exact hmem1 | exact List.mem_append_left _ hmem1 | apply List.mem_cons_of_mem | apply List.mem_append_right))) hd1 rfl) ?_) | refine wl (wl_val hl rfl trivial (r_loadA hl rfl agg35 (hh.mem _ _ (by repeat (first | exact hmem2 | exact List.mem_append_left _ hmem2 | apply List.mem_cons_of_mem | apply List.mem_append_right))) hd2 rfl) ?_) | refine wl (wl_val hl rfl trivial (r_loadA hl rfl agg35 (hh.mem _ _ (by repeat (first | exact hmem2 | exact List.mem_append_left _ hmem2 | apply List.mem_cons_of_mem | apply List.mem_append_right))) hd3 rfl) ?_) | refine wl (wl_val hl rfl trivial (r_loadA hl rfl agg35 (hh.mem _ _ (by repeat (first | exact hmem7 | exact List.mem_append_left _ hmem7 | apply List.mem_cons_of_mem | apply List.mem_append_right))) hd7 rfl) ?_)
        clear hl a; intro a hl
        refine wl (wl_val hl rfl trivial (r_field hl rfl fld53_1) ?_)
        clear hl a; intro a hl
        first | refine wl (w_load hl hh rfl trivial one24 rfl (by repeat (first | exact find_head | apply find_tail | apply find_skip)) (by first | exact fl_cell c4_len hlu rfl j5 | exact fl_cell c4_len hlv rfl j5 | rfl) ?_) | refine wl (wl_val hl rfl trivial (r_load hl rfl one24 (hh.mem _ _ (by repeat (first | exact hmem8 | exact List.mem_append_left _ hmem8 | apply List.mem_cons_of_mem | apply List.mem_append_right))) (List.getElem?_toArray.trans hd8)) ?_)
        clear hl a; intro a hl
        refine wl (w_call hl hh rfl trivial rfl cal23 rfl (some_spec r hr (hG.vs r hrm) (hG.bd r hrm) nA.q nA.rp nA.rc nA.rE hNA.r hNA.o hNA.rl) (by repeat (first | exact keeps_nil | apply keeps_cons (by repeat (first | exact find_head | apply find_tail | apply find_skip)) (by first  | rfl) | exact keeps_self | exact keeps_left | apply keeps_app | apply keeps_mv | apply keeps_skip)) ⟨memK2 hh (by repeat (first | exact keeps_nil | apply keeps_cons (by repeat (first | exact find_head | apply find_tail | apply find_skip)) (by first  | rfl) | exact keeps_self | exact keeps_left | apply keeps_app | apply keeps_mv | apply keeps_skip)) hrm, (hGA.mem (memK hh (by repeat (first | exact keeps_nil | apply keeps_cons (by repeat (first | exact find_head | apply find_tail | apply find_skip)) (by first  | rfl) | exact keeps_self | exact keeps_left | apply keeps_app | apply keeps_mv | apply keeps_skip))) (memK hh (by repeat (first | exact keeps_nil | apply keeps_cons (by repeat (first | exact find_head | apply find_tail | apply find_skip)) (by first  | rfl) | exact keeps_self | exact keeps_left | apply keeps_app | apply keeps_mv | apply keeps_skip))) (memK hh (by repeat (first | exact keeps_nil | apply keeps_cons (by repeat (first | exact find_head | apply find_tail | apply find_skip)) (by first  | rfl) | exact keeps_self | exact keeps_left | apply keeps_app | apply keeps_mv | apply keeps_skip)))).r, (hGA.mem (memK hh (by repeat (first | exact keeps_nil | apply keeps_cons (by repeat (first | exact find_head | apply find_tail | apply find_skip)) (by first  | rfl) | exact keeps_self | exact keeps_left | apply keeps_app | apply keeps_mv | apply keeps_skip))) (memK hh (by repeat (first | exact keeps_nil | apply keeps_cons (by repeat (first | exact find_head | apply find_tail | apply find_skip)) (by first  | rfl) | exact keeps_self | exact keeps_left | apply keeps_app | apply keeps_mv | apply keeps_skip))) (memK hh (by repeat (first | exact keeps_nil | apply keeps_cons (by repeat (first | exact find_head | apply find_tail | apply find_skip)) (by first  | rfl) | exact keeps_self | exact keeps_left | apply keeps_app | apply keeps_mv | apply keeps_skip)))).q⟩ ?_)
        clear hl hh a w; intro vc Fc a w hR hl hh
        obtain ⟨b9, rfl, hb9, rfl⟩ := hR
        try simp only [List.cons_append, List.nil_append, List.append_assoc, List.append_nil] at hh
        obtain rfl : b9 = true := hb9.2 (h6.f r.ru (List.mem_map.2 ⟨r, hrm, rfl⟩))
        refine wl (wl_val hl rfl trivial (r_not hl rfl) ?_)
        clear hl a; intro a hl
        refine w_nil ?_
        have hl2 := hl.add (t := 3) (hl.add (t := 4) (hl.add (t := 6) (hl.add (t := 50) (hl.add (t := 51) (hl.add (t := 52) (hl.add (t := 61) (hl.nil) rfl) rfl) rfl) rfl) rfl) rfl) rfl; clear hl; have hl := hl2; clear hl2
        refine then_normal ?_
        refine c_cond hl rfl ?_ ?_
        · intro hc3
          try simp only [decide_eq_true_eq, decide_eq_false_iff_not, Bool.not_eq_true', Bool.not_eq_false', Bool.not_eq_true, Bool.not_eq_false, Bool.and_eq_true, Bool.or_eq_true, Bool.and_eq_false_iff, Bool.or_eq_false_iff, Bool.not_not, ne_eq, Int.not_lt, Int.not_le, Decidable.not_not, beq_iff_eq, bne_iff_ne] at hc3
          exfalso; first | contradiction | omega | (exfalso; omega)
        · intro hc3
          try simp only [decide_eq_true_eq, decide_eq_false_iff_not, Bool.not_eq_true', Bool.not_eq_false', Bool.not_eq_true, Bool.not_eq_false, Bool.and_eq_true, Bool.or_eq_true, Bool.and_eq_false_iff, Bool.or_eq_false_iff, Bool.not_not, ne_eq, Int.not_lt, Int.not_le, Decidable.not_not, beq_iff_eq, bne_iff_ne] at hc3
          refine wp_skip ?_
          refine blk_normal ?_
          refine then_normal ?_
          refine c_region ?_
          first | refine wl (wl_val hl rfl trivial (r_add hl rfl rfl (by simp only [Fits]; omega)) ?_) | refine wl (wl_val hl rfl trivial (r_addW hl rfl rfl) ?_)
          clear hl a; intro a hl
          refine wl (wl_val hl rfl trivial (r_move hl rfl) ?_)
          clear hl a; intro a hl
          refine w_nil ?_
          have hl2 := hl.add (t := 3) (hl.add (t := 4) (hl.add (t := 6) (hl.add (t := 50) (hl.add (t := 51) (hl.add (t := 52) (hl.nil) rfl) rfl) rfl) rfl) rfl) rfl; clear hl; have hl := hl2; clear hl2
          refine then_normal ?_
          refine ⟨i0 + 1, (by omega), (by omega), hl.addE (t := 52) (hl.addE (t := 3) (hl.addE (t := 4) (hl.addE (t := 6) (hl.addE (t := 50) (hl.addE (t := 51) (hl.nil) rfl (by first | rfl | exact congrArg (Value.int .i64) (show (i0 : Int) + 1 = ((i0 + 1 : Nat) : Int) by omega) | (rw [hq1]))) rfl (by first | rfl | exact congrArg (Value.int .i64) (show (i0 : Int) + 1 = ((i0 + 1 : Nat) : Int) by omega) | (rw [hq1]))) rfl (by first | rfl | exact congrArg (Value.int .i64) (show (i0 : Int) + 1 = ((i0 + 1 : Nat) : Int) by omega) | (rw [hq1]))) rfl (by first | rfl | exact congrArg (Value.int .i64) (show (i0 : Int) + 1 = ((i0 + 1 : Nat) : Int) by omega) | (rw [hq1]))) rfl (by first | rfl | exact congrArg (Value.int .i64) (show (i0 : Int) + 1 = ((i0 + 1 : Nat) : Int) by omega) | (rw [hq1]))) rfl (by first | rfl | exact congrArg (Value.int .i64) (show (i0 : Int) + 1 = ((i0 + 1 : Nat) : Int) by omega) | (rw [hq1])), hh.keep (by repeat (first | exact keeps_nil | apply keeps_cons (by repeat (first | exact find_head | apply find_tail | apply find_skip)) (by first  | (rw [hq1]) | rfl) | exact keeps_self | exact keeps_left | apply keeps_app | apply keeps_mv | apply keeps_skip))⟩
      · intro hc2
        try simp only [decide_eq_true_eq, decide_eq_false_iff_not, Bool.not_eq_true', Bool.not_eq_false', Bool.not_eq_true, Bool.not_eq_false, Bool.and_eq_true, Bool.or_eq_true, Bool.and_eq_false_iff, Bool.or_eq_false_iff, Bool.not_not, ne_eq, Int.not_lt, Int.not_le, Decidable.not_not, beq_iff_eq, bne_iff_ne] at hc2
        refine wp_exit ?_
        refine then_exit ?_
        refine then_exit ?_
        refine blk_exit ?_
        refine then_normal ?_
        refine c_seq ?_
        refine c_region ?_
        refine wl (w_makeMap kStr hl hh rfl trivial ?_)
        clear hl hh a w; intro k63 a w hl hh
        refine wl (wl_val hl rfl trivial (r_assign hl rfl) ?_)
        clear hl a; intro a hl
        refine w_nil ?_
        have hl2 := hl.add (t := 3) (hl.add (t := 4) (hl.add (t := 6) (hl.add (t := 9) (hl.nil) rfl) rfl) rfl) rfl; clear hl; have hl := hl2; clear hl2
        refine then_normal ?_
        refine c_seq ?_
        refine c_seq ?_
        refine c_region ?_
        refine wl (wl_val hl rfl trivial (r_field hl rfl fld53_0) ?_)
        clear hl a; intro a hl
        first | refine wl (w_load hl hh rfl trivial one51 rfl (by repeat (first | exact find_head | apply find_tail | apply find_skip)) (by first | exact fl_cell c4_len hlu rfl j5 | exact fl_cell c4_len hlv rfl j5 | rfl) ?_) | refine wl (wl_val hl rfl trivial (r_load hl rfl one51 (hh.mem _ _ (by repeat (first | exact hmem8 | exact List.mem_append_left _ hmem8 | apply List.mem_cons_of_mem | apply List.mem_append_right))) (List.getElem?_toArray.trans hd8)) ?_)
        clear hl a; intro a hl
        refine wl (wl_val hl rfl trivial (r_lenS hl rfl slc51) ?_)
        clear hl a; intro a hl
        refine wl (wl_val hl rfl trivial (r_move hl rfl) ?_)
        clear hl a; intro a hl
        refine w_nil ?_
        have hl2 := hl.add (t := 3) (hl.add (t := 4) (hl.add (t := 6) (hl.add (t := 9) (hl.add (t := 65) (hl.add (t := 66) (hl.add (t := 67) (hl.nil) rfl) rfl) rfl) rfl) rfl) rfl) rfl; clear hl; have hl := hl2; clear hl2
        refine then_normal ?_
        refine wp_block ?_
        obtain ⟨KS1, hKS1, hk⟩ := (hl.add (t := 3) (hl.add (t := 4) (hl.add (t := 6) (hl.add (t := 9) (hl.add (t := 65) (hl.add (t := 66) (hl.nil) rfl) rfl) rfl) rfl) rfl) rfl).name
        obtain ⟨HS1, hHS1, hh2⟩ := hh.name (keeps_cons (b := k63) (o' := MO kStr []) (by repeat (first | exact find_head | apply find_tail | apply find_skip)) (by first | rfl) (keeps_nil))
        refine c_loop (α := S4) (fun z => nA.l.length - z.i) (fun z a w => (z.i ≤ nA.l.length ∧ SmI nA.l z.i z.m) ∧ Sl 157 ([(67, .int .i64 (z.i : Int))] ++ KS1) a ∧ Has _ w0 ([(k63, MO kStr z.m)] ++ HS1) w) ⟨0, []⟩ ⟨⟨Nat.zero_le _, SmI.start nA.l⟩, hl.addE (t := 67) (hk) rfl (by first | rfl), hh2⟩ ?_
        clear hk hh2 hl hh a w
        intro z a w hI
        obtain ⟨⟨hzi, hz⟩, hl, hh⟩ := hI
        subst hKS1; subst hHS1
        simp only [List.cons_append, List.nil_append, List.append_nil, List.append_assoc] at hl hh
        refine c_seq ?_
        refine c_region ?_
        refine wl (wl_val hl rfl trivial (r_lss hl rfl rfl) ?_)
        clear hl a; intro a hl
        refine w_nil ?_
        have hl2 := hl.add (t := 3) (hl.add (t := 4) (hl.add (t := 6) (hl.add (t := 9) (hl.add (t := 65) (hl.add (t := 66) (hl.add (t := 67) (hl.add (t := 68) (hl.nil) rfl) rfl) rfl) rfl) rfl) rfl) rfl) rfl; clear hl; have hl := hl2; clear hl2
        refine then_normal ?_
        refine c_seq ?_
        refine c_cond hl rfl ?_ ?_
        · intro hc4
          try simp only [decide_eq_true_eq, decide_eq_false_iff_not, Bool.not_eq_true', Bool.not_eq_false', Bool.not_eq_true, Bool.not_eq_false, Bool.and_eq_true, Bool.or_eq_true, Bool.and_eq_false_iff, Bool.or_eq_false_iff, Bool.not_not, ne_eq, Int.not_lt, Int.not_le, Decidable.not_not, beq_iff_eq, bne_iff_ne] at hc4
          obtain ⟨g, hg⟩ : ∃ g, nA.l[z.i]? = some g := ⟨_, List.getElem?_eq_getElem (by omega)⟩
          have hgm := List.mem_of_getElem? hg
          obtain ⟨b7, j7, hq7, hjl7, hjc7, hE7⟩ := row_pos hNA.l (by omega)
          have hmem7 : (b7, C (fl pdc nA.l ++ j7) 64) ∈ nA.lE := by rw [hE7]; exact List.mem_singleton.2 rfl
          rw [hq7] at hl hh
          have hd7 := fl_at pdc_len hg j7
          simp only [pdc] at hd7
          refine wp_skip ?_
          refine then_normal ?_
          refine c_seq ?_
          refine wp_block ?_
          refine c_seq ?_
          refine c_region ?_
          refine wl (wl_val hl rfl trivial (r_indexS hl rfl rfl slc51 (by omega) (by omega) (by first | (simp only [Int.reduceToNat]; rfl) | exact toNat_add1 _ | exact toNat_add2 _ _ | exact toNat_emod _ _ | exact Int.toNat_natCast _ | rfl)) ?_)
          clear hl a; intro a hl
          first | refine wl (w_loadA hl hh rfl trivial agg64 rfl (by repeat (first | exact find_head | apply find_tail | apply find_skip)) (by first | (simp only [List.getElem?_cons_zero, List.getElem?_cons_succ, Value.cells, List.take_zero, List.take_succ_cons, List.take_nil, List.drop_zero, List.drop_succ_cons, List.drop_nil, List.length_cons, List.length_nil, List.cons_append, List.nil_append, List.append_nil, Nat.zero_add, Nat.add_zero, Nat.reduceAdd, Nat.reduceBEq, Nat.reduceEqDiff, Nat.ble, BEq.rfl, Bool.and_true, Bool.and_self, cond_true, beq_self_eq_true]; rfl)) (by first | rfl | (simp; done)) ?_) | refine wl (w_loadRA hl hh rfl trivial agg64 rfl hpre.2 (by simp) rfl rfl ?_) | refine wl (wl_val hl rfl trivial (r_loadA hl rfl agg64 (hh.mem _ _ (by repeat (first | exact hmem1 | exact List.mem_append_left _ hmem1 | apply List.mem_cons_of_mem | apply List.mem_append_right))) hd1 rfl) ?_) | refine wl (wl_val hl rfl trivial (r_loadA hl rfl agg64 (hh.mem _ _ (by repeat (first | exact hmem2 | exact List.mem_append_left _ hmem2 | apply List.mem_cons_of_mem | apply List.mem_append_right))) hd2 rfl) ?_) | refine wl (wl_val hl rfl trivial (r_loadA hl rfl agg64 (hh.mem _ _ (by repeat (first | exact hmem2 | exact List.mem_append_left _ hmem2 | apply List.mem_cons_of_mem | apply List.mem_append_right))) hd3 rfl) ?_) | refine wl (wl_val hl rfl trivial (r_loadA hl rfl agg64 (hh.mem _ _ (by repeat (first | exact hmem7 | exact List.mem_append_left _ hmem7 | apply List.mem_cons_of_mem | apply List.mem_append_right))) hd7 rfl) ?_)
          clear hl a; intro a hl
          refine wl (w_alloc hl hh rfl trivial zero64 rfl ?_)
          clear hl hh a w; intro k11 a w hl hh
          refine wl (w_storeA hl hh trivial agg64 rfl rfl (by repeat (first | exact find_head | apply find_tail | apply find_skip)) (by first | rfl | (simp; done)) (by first | (simp; done) | (simp; omega)) (by first | rfl | (simp; done) | rfl) (by first | (simp only [setL, List.getElem?_cons_zero, List.getElem?_cons_succ, Value.cells, List.take_zero, List.take_succ_cons, List.take_nil, List.drop_zero, List.drop_succ_cons, List.drop_nil, List.length_cons, List.length_nil, List.cons_append, List.nil_append, List.append_nil, Nat.zero_add, Nat.add_zero, Nat.reduceAdd, Nat.reduceBEq, Nat.reduceEqDiff, Nat.ble, BEq.rfl, Bool.and_true, Bool.and_self, cond_true, beq_self_eq_true]; rfl)) ?_)
          clear hh w; intro w hh
          refine w_nil ?_
          have hl2 := hl.add (t := 3) (hl.add (t := 4) (hl.add (t := 6) (hl.add (t := 9) (hl.add (t := 11) (hl.add (t := 65) (hl.add (t := 66) (hl.add (t := 67) (hl.nil) rfl) rfl) rfl) rfl) rfl) rfl) rfl) rfl; clear hl; have hl := hl2; clear hl2
          refine then_normal ?_
          refine c_region ?_
          refine wl (wl_val hl rfl trivial (r_move hl rfl) ?_)
          clear hl a; intro a hl
          refine wl (wl_val hl rfl trivial (r_field hl rfl fld64_0) ?_)
          clear hl a; intro a hl
          first | refine wl (w_load hl hh rfl trivial one9 rfl (by repeat (first | exact find_head | apply find_tail | apply find_skip)) (by first | exact fl_cell c4_len hlu rfl j5 | exact fl_cell c4_len hlv rfl j5 | rfl) ?_) | refine wl (wl_val hl rfl trivial (r_load hl rfl one9 (hh.mem _ _ (by repeat (first | exact hmem8 | exact List.mem_append_left _ hmem8 | apply List.mem_cons_of_mem | apply List.mem_append_right))) (List.getElem?_toArray.trans hd8)) ?_)
          clear hl a; intro a hl
          refine wl (wl_val hl rfl trivial (r_field hl rfl fld64_2) ?_)
          clear hl a; intro a hl
          first | refine wl (w_load hl hh rfl trivial one3 rfl (by repeat (first | exact find_head | apply find_tail | apply find_skip)) (by first | exact fl_cell c4_len hlu rfl j5 | exact fl_cell c4_len hlv rfl j5 | rfl) ?_) | refine wl (wl_val hl rfl trivial (r_load hl rfl one3 (hh.mem _ _ (by repeat (first | exact hmem8 | exact List.mem_append_left _ hmem8 | apply List.mem_cons_of_mem | apply List.mem_append_right))) (List.getElem?_toArray.trans hd8)) ?_)
          clear hl a; intro a hl
          refine wl (w_mapUpdate (keyStr Tryd.underlying9) Tryd.underlying61 hl hh trivial rfl rfl rfl (by repeat (first | exact find_head | apply find_tail | apply find_skip)) ?_)
          clear hh w; intro w hh
          refine w_nil ?_
          have hl2 := hl.add (t := 3) (hl.add (t := 4) (hl.add (t := 6) (hl.add (t := 9) (hl.add (t := 65) (hl.add (t := 66) (hl.add (t := 67) (hl.nil) rfl) rfl) rfl) rfl) rfl) rfl) rfl; clear hl; have hl := hl2; clear hl2
          refine blk_normal ?_
          refine then_normal ?_
          refine c_region ?_
          first | refine wl (wl_val hl rfl trivial (r_add hl rfl rfl (by simp only [Fits]; omega)) ?_) | refine wl (wl_val hl rfl trivial (r_addW hl rfl rfl) ?_)
          clear hl a; intro a hl
          refine wl (wl_val hl rfl trivial (r_move hl rfl) ?_)
          clear hl a; intro a hl
          refine w_nil ?_
          have hl2 := hl.add (t := 3) (hl.add (t := 4) (hl.add (t := 6) (hl.add (t := 9) (hl.add (t := 65) (hl.add (t := 66) (hl.add (t := 67) (hl.nil) rfl) rfl) rfl) rfl) rfl) rfl) rfl; clear hl; have hl := hl2; clear hl2
          refine then_normal ?_
          refine ⟨⟨z.i + 1, mput z.m g.n (.int .i64 (g.s : Int))⟩, (by simp only; omega), ⟨by simp only; omega, hz.next h6.l hg⟩, hl.addE (t := 67) (hl.addE (t := 3) (hl.addE (t := 4) (hl.addE (t := 6) (hl.addE (t := 9) (hl.addE (t := 65) (hl.addE (t := 66) (hl.nil) rfl (by first | rfl | exact congrArg (Value.int .i64) (show (z.i : Int) + 1 = ((z.i + 1 : Nat) : Int) by omega) | (rw [hq7]))) rfl (by first | rfl | exact congrArg (Value.int .i64) (show (z.i : Int) + 1 = ((z.i + 1 : Nat) : Int) by omega) | (rw [hq7]))) rfl (by first | rfl | exact congrArg (Value.int .i64) (show (z.i : Int) + 1 = ((z.i + 1 : Nat) : Int) by omega) | (rw [hq7]))) rfl (by first | rfl | exact congrArg (Value.int .i64) (show (z.i : Int) + 1 = ((z.i + 1 : Nat) : Int) by omega) | (rw [hq7]))) rfl (by first | rfl | exact congrArg (Value.int .i64) (show (z.i : Int) + 1 = ((z.i + 1 : Nat) : Int) by omega) | (rw [hq7]))) rfl (by first | rfl | exact congrArg (Value.int .i64) (show (z.i : Int) + 1 = ((z.i + 1 : Nat) : Int) by omega) | (rw [hq7]))) rfl (by first | rfl | exact congrArg (Value.int .i64) (show (z.i : Int) + 1 = ((z.i + 1 : Nat) : Int) by omega) | (rw [hq7])), hh.keep (by repeat (first | exact keeps_nil | apply keeps_cons (by repeat (first | exact find_head | apply find_tail | apply find_skip)) (by first  | (rw [hq7]) | rfl) | exact keeps_self | exact keeps_left | apply keeps_app | apply keeps_mv | apply keeps_skip))⟩
        · intro hc4
          try simp only [decide_eq_true_eq, decide_eq_false_iff_not, Bool.not_eq_true', Bool.not_eq_false', Bool.not_eq_true, Bool.not_eq_false, Bool.and_eq_true, Bool.or_eq_true, Bool.and_eq_false_iff, Bool.or_eq_false_iff, Bool.not_not, ne_eq, Int.not_lt, Int.not_le, Decidable.not_not, beq_iff_eq, bne_iff_ne] at hc4
          have hze : z.i = nA.l.length := by omega
          have hz9 := hz.iv
          refine wp_exit ?_
          refine then_exit ?_
          refine then_exit ?_
          refine blk_exit ?_
          refine then_normal ?_
          refine c_seq ?_
          refine c_seq ?_
          refine c_region ?_
          refine wl (wl_val hl rfl trivial (r_field hl rfl fld53_1) ?_)
          clear hl a; intro a hl
          first | refine wl (w_load hl hh rfl trivial one24 rfl (by repeat (first | exact find_head | apply find_tail | apply find_skip)) (by first | exact fl_cell c4_len hlu rfl j5 | exact fl_cell c4_len hlv rfl j5 | rfl) ?_) | refine wl (wl_val hl rfl trivial (r_load hl rfl one24 (hh.mem _ _ (by repeat (first | exact hmem8 | exact List.mem_append_left _ hmem8 | apply List.mem_cons_of_mem | apply List.mem_append_right))) (List.getElem?_toArray.trans hd8)) ?_)
          clear hl a; intro a hl
          refine wl (wl_val hl rfl trivial (r_lenS hl rfl slc24) ?_)
          clear hl a; intro a hl
          refine wl (wl_val hl rfl trivial (r_move hl rfl) ?_)
          clear hl a; intro a hl
          refine w_nil ?_
          have hl2 := hl.add (t := 3) (hl.add (t := 4) (hl.add (t := 6) (hl.add (t := 9) (hl.add (t := 78) (hl.add (t := 79) (hl.add (t := 80) (hl.nil) rfl) rfl) rfl) rfl) rfl) rfl) rfl; clear hl; have hl := hl2; clear hl2
          refine then_normal ?_
          refine wp_block ?_
          obtain ⟨KS2, hKS2, hk⟩ := (hl.add (t := 3) (hl.add (t := 4) (hl.add (t := 6) (hl.add (t := 9) (hl.add (t := 78) (hl.add (t := 79) (hl.nil) rfl) rfl) rfl) rfl) rfl) rfl).name
          obtain ⟨HS2, hHS2, hh2⟩ := hh.name (keeps_nil)
          refine c_loop (α := Nat) (fun i2 => nA.q.length - i2) (fun i2 a w => (i2 ≤ nA.q.length) ∧ Sl 157 ([(80, .int .i64 (i2 : Int))] ++ KS2) a ∧ Has _ w0 ([] ++ HS2) w) 0 ⟨Nat.zero_le _, hl.addE (t := 80) (hk) rfl (by first | rfl), hh2⟩ ?_
          clear hk hh2 hl hh a w
          intro i2 a w hI
          obtain ⟨hi2, hl, hh⟩ := hI
          subst hKS2; subst hHS2
          simp only [List.cons_append, List.nil_append, List.append_nil, List.append_assoc] at hl hh
          refine c_seq ?_
          refine c_region ?_
          refine wl (wl_val hl rfl trivial (r_lss hl rfl rfl) ?_)
          clear hl a; intro a hl
          refine w_nil ?_
          have hl2 := hl.add (t := 3) (hl.add (t := 4) (hl.add (t := 6) (hl.add (t := 9) (hl.add (t := 78) (hl.add (t := 79) (hl.add (t := 80) (hl.add (t := 81) (hl.nil) rfl) rfl) rfl) rfl) rfl) rfl) rfl) rfl; clear hl; have hl := hl2; clear hl2
          refine then_normal ?_
          refine c_seq ?_
          refine c_cond hl rfl ?_ ?_
          · intro hc5
            try simp only [decide_eq_true_eq, decide_eq_false_iff_not, Bool.not_eq_true', Bool.not_eq_false', Bool.not_eq_true, Bool.not_eq_false, Bool.and_eq_true, Bool.or_eq_true, Bool.and_eq_false_iff, Bool.or_eq_false_iff, Bool.not_not, ne_eq, Int.not_lt, Int.not_le, Decidable.not_not, beq_iff_eq, bne_iff_ne] at hc5
            obtain ⟨x, hxx⟩ : ∃ x, nA.q[i2]? = some x := ⟨_, List.getElem?_eq_getElem (by omega)⟩
            have hxm := List.mem_of_getElem? hxx
            have hxo := hNA.o x hxm
            obtain ⟨b2, j2, hq2, hjl2, hjc2, hE2⟩ := row_pos hNA.r (by omega)
            have hmem2 : (b2, C (fl RV.c3 nA.q ++ j2) 35) ∈ nA.rE := by rw [hE2]; exact List.mem_singleton.2 rfl
            rw [hq2] at hl hh
            have hd2 := fl_at c3_len hxx j2
            simp only [RV.c3] at hd2
            obtain ⟨hxv, hxb⟩ : (vars x.ru).length ≤ 5 ∧ x.ls.length ≤ 5 := by
              obtain ⟨a9, h8, h9⟩ := h6.c x hxm
              obtain ⟨y9, h7, rfl⟩ := List.mem_map.1 h8
              have h5 := h9.vl
              have h4 := h9.bl
              have h3 := hG.vs y9 h7
              have h2 := hG.bd y9 h7
              have h1 : x.ru.b.length = x.ls.length := List.length_map ..
              have h0 : y9.ru.b.length = y9.ls.length := List.length_map ..
              exact ⟨by omega, by omega⟩
            refine wp_skip ?_
            refine then_normal ?_
            refine c_seq ?_
            refine wp_block ?_
            refine c_seq ?_
            refine c_region ?_
            refine wl (wl_val hl rfl trivial (r_move hl rfl) ?_)
            clear hl a; intro a hl
            refine wl (wl_val hl rfl trivial (r_indexS hl rfl rfl slc24 (by omega) (by omega) (by first | (simp only [Int.reduceToNat]; rfl) | exact toNat_add1 _ | exact toNat_add2 _ _ | exact toNat_emod _ _ | exact Int.toNat_natCast _ | rfl)) ?_)
            clear hl a; intro a hl
            first | refine wl (w_loadA hl hh rfl trivial agg35 rfl (by repeat (first | exact find_head | apply find_tail | apply find_skip)) (by first | (simp only [List.getElem?_cons_zero, List.getElem?_cons_succ, Value.cells, List.take_zero, List.take_succ_cons, List.take_nil, List.drop_zero, List.drop_succ_cons, List.drop_nil, List.length_cons, List.length_nil, List.cons_append, List.nil_append, List.append_nil, Nat.zero_add, Nat.add_zero, Nat.reduceAdd, Nat.reduceBEq, Nat.reduceEqDiff, Nat.ble, BEq.rfl, Bool.and_true, Bool.and_self, cond_true, beq_self_eq_true]; rfl)) (by first | rfl | (simp; done)) ?_) | refine wl (w_loadRA hl hh rfl trivial agg35 rfl hpre.2 (by simp) rfl rfl ?_) | refine wl (wl_val hl rfl trivial (r_loadA hl rfl agg35 (hh.mem _ _ (by repeat (first | exact hmem1 | exact List.mem_append_left _ hmem1 | apply List.mem_cons_of_mem | apply List.mem_append_right))) hd1 rfl) ?_) | refine wl (wl_val hl rfl trivial (r_loadA hl rfl agg35 (hh.mem _ _ (by repeat (first | exact hmem2 | exact List.mem_append_left _ hmem2 | apply List.mem_cons_of_mem | apply List.mem_append_right))) hd2 rfl) ?_) | refine wl (wl_val hl rfl trivial (r_loadA hl rfl agg35 (hh.mem _ _ (by repeat (first | exact hmem2 | exact List.mem_append_left _ hmem2 | apply List.mem_cons_of_mem | apply List.mem_append_right))) hd3 rfl) ?_) | refine wl (wl_val hl rfl trivial (r_loadA hl rfl agg35 (hh.mem _ _ (by repeat (first | exact hmem7 | exact List.mem_append_left _ hmem7 | apply List.mem_cons_of_mem | apply List.mem_append_right))) hd7 rfl) ?_)
            clear hl a; intro a hl
            refine wl (w_alloc hl hh rfl trivial zero35 rfl ?_)
            clear hl hh a w; intro k13 a w hl hh
            refine wl (wl_val hl rfl trivial (r_assign hl rfl) ?_)
            clear hl a; intro a hl
            refine wl (w_storeA hl hh trivial agg35 rfl rfl (by repeat (first | exact find_head | apply find_tail | apply find_skip)) (by first | rfl | (simp; done)) (by first | (simp; done) | (simp; omega)) (by first | rfl | (simp; done) | rfl) (by first | (simp only [setL, List.getElem?_cons_zero, List.getElem?_cons_succ, Value.cells, List.take_zero, List.take_succ_cons, List.take_nil, List.drop_zero, List.drop_succ_cons, List.drop_nil, List.length_cons, List.length_nil, List.cons_append, List.nil_append, List.append_nil, Nat.zero_add, Nat.add_zero, Nat.reduceAdd, Nat.reduceBEq, Nat.reduceEqDiff, Nat.ble, BEq.rfl, Bool.and_true, Bool.and_self, cond_true, beq_self_eq_true]; rfl)) ?_)
            clear hh w; intro w hh
            refine w_nil ?_
            have hl2 := hl.add (t := 3) (hl.add (t := 4) (hl.add (t := 6) (hl.add (t := 9) (hl.add (t := 12) (hl.add (t := 13) (hl.add (t := 78) (hl.add (t := 79) (hl.add (t := 80) (hl.nil) rfl) rfl) rfl) rfl) rfl) rfl) rfl) rfl) rfl; clear hl; have hl := hl2; clear hl2
            refine then_normal ?_
            refine c_seq ?_
            refine c_seq ?_
            refine c_region ?_
            refine wl (wl_val hl rfl trivial (r_move hl rfl) ?_)
            clear hl a; intro a hl
            first | refine wl (w_loadA hl hh rfl trivial agg35 rfl (by repeat (first | exact find_head | apply find_tail | apply find_skip)) (by first | (simp only [List.getElem?_cons_zero, List.getElem?_cons_succ, Value.cells, List.take_zero, List.take_succ_cons, List.take_nil, List.drop_zero, List.drop_succ_cons, List.drop_nil, List.length_cons, List.length_nil, List.cons_append, List.nil_append, List.append_nil, Nat.zero_add, Nat.add_zero, Nat.reduceAdd, Nat.reduceBEq, Nat.reduceEqDiff, Nat.ble, BEq.rfl, Bool.and_true, Bool.and_self, cond_true, beq_self_eq_true]; rfl)) (by first | rfl | (simp; done)) ?_) | refine wl (w_loadRA hl hh rfl trivial agg35 rfl hpre.2 (by simp) rfl rfl ?_) | refine wl (wl_val hl rfl trivial (r_loadA hl rfl agg35 (hh.mem _ _ (by repeat (first | exact hmem1 | exact List.mem_append_left _ hmem1 | apply List.mem_cons_of_mem | apply List.mem_append_right))) hd1 rfl) ?_) | refine wl (wl_val hl rfl trivial (r_loadA hl rfl agg35 (hh.mem _ _ (by repeat (first | exact hmem2 | exact List.mem_append_left _ hmem2 | apply List.mem_cons_of_mem | apply List.mem_append_right))) hd2 rfl) ?_) | refine wl (wl_val hl rfl trivial (r_loadA hl rfl agg35 (hh.mem _ _ (by repeat (first | exact hmem2 | exact List.mem_append_left _ hmem2 | apply List.mem_cons_of_mem | apply List.mem_append_right))) hd3 rfl) ?_) | refine wl (wl_val hl rfl trivial (r_loadA hl rfl agg35 (hh.mem _ _ (by repeat (first | exact hmem7 | exact List.mem_append_left _ hmem7 | apply List.mem_cons_of_mem | apply List.mem_append_right))) hd7 rfl) ?_)
            clear hl a; intro a hl
            refine wl (wl_val hl rfl trivial (r_field hl rfl fld26_0) ?_)
            clear hl a; intro a hl
            first | refine wl (w_load hl hh rfl trivial one24 rfl (by repeat (first | exact find_head | apply find_tail | apply find_skip)) (by first | exact fl_cell c4_len hlu rfl j5 | exact fl_cell c4_len hlv rfl j5 | rfl) ?_) | refine wl (wl_val hl rfl trivial (r_load hl rfl one24 (hh.mem _ _ (by repeat (first | exact hmem8 | exact List.mem_append_left _ hmem8 | apply List.mem_cons_of_mem | apply List.mem_append_right))) (List.getElem?_toArray.trans hd8)) ?_)
            clear hl a; intro a hl
            refine wl (w_call hl hh rfl trivial rfl cal23 rfl (some_spec x hxo hxv hxb rs rp rc RE hRow hG.ok (by omega)) (by repeat (first | exact keeps_nil | apply keeps_cons (by repeat (first | exact find_head | apply find_tail | apply find_skip)) (by first  | rfl) | exact keeps_self | exact keeps_left | apply keeps_app | apply keeps_mv | apply keeps_skip)) ⟨(hGA.mem (memK hh (by repeat (first | exact keeps_nil | apply keeps_cons (by repeat (first | exact find_head | apply find_tail | apply find_skip)) (by first  | rfl) | exact keeps_self | exact keeps_left | apply keeps_app | apply keeps_mv | apply keeps_skip))) (memK hh (by repeat (first | exact keeps_nil | apply keeps_cons (by repeat (first | exact find_head | apply find_tail | apply find_skip)) (by first  | rfl) | exact keeps_self | exact keeps_left | apply keeps_app | apply keeps_mv | apply keeps_skip))) (memK hh (by repeat (first | exact keeps_nil | apply keeps_cons (by repeat (first | exact find_head | apply find_tail | apply find_skip)) (by first  | rfl) | exact keeps_self | exact keeps_left | apply keeps_app | apply keeps_mv | apply keeps_skip)))).q x hxm, memK hh (by repeat (first | exact keeps_nil | apply keeps_cons (by repeat (first | exact find_head | apply find_tail | apply find_skip)) (by first  | rfl) | exact keeps_self | exact keeps_left | apply keeps_app | apply keeps_mv | apply keeps_skip)), fun y hy => memK2 hh (by repeat (first | exact keeps_nil | apply keeps_cons (by repeat (first | exact find_head | apply find_tail | apply find_skip)) (by first  | rfl) | exact keeps_self | exact keeps_left | apply keeps_app | apply keeps_mv | apply keeps_skip)) hy⟩ ?_)
            clear hl hh a w; intro vc Fc a w hR hl hh
            obtain ⟨b9, rfl, hb9, rfl⟩ := hR
            try simp only [List.cons_append, List.nil_append, List.append_assoc, List.append_nil] at hh
            obtain rfl : b9 = true := hb9.2 (by
              obtain ⟨a9, h8, h9⟩ := h6.g x hxm
              obtain ⟨y9, h7, rfl⟩ := List.mem_map.1 h8
              exact ⟨y9, h7, h9⟩)
            refine wl (wl_val hl rfl trivial (r_not hl rfl) ?_)
            clear hl a; intro a hl
            refine w_nil ?_
            have hl2 := hl.add (t := 3) (hl.add (t := 4) (hl.add (t := 6) (hl.add (t := 9) (hl.add (t := 12) (hl.add (t := 13) (hl.add (t := 78) (hl.add (t := 79) (hl.add (t := 80) (hl.add (t := 90) (hl.nil) rfl) rfl) rfl) rfl) rfl) rfl) rfl) rfl) rfl) rfl; clear hl; have hl := hl2; clear hl2
            refine then_normal ?_
            refine c_cond hl rfl ?_ ?_
            · intro hc6
              try simp only [decide_eq_true_eq, decide_eq_false_iff_not, Bool.not_eq_true', Bool.not_eq_false', Bool.not_eq_true, Bool.not_eq_false, Bool.and_eq_true, Bool.or_eq_true, Bool.and_eq_false_iff, Bool.or_eq_false_iff, Bool.not_not, ne_eq, Int.not_lt, Int.not_le, Decidable.not_not, beq_iff_eq, bne_iff_ne] at hc6
              exfalso; first | contradiction | omega | (exfalso; omega)
            · intro hc6
              try simp only [decide_eq_true_eq, decide_eq_false_iff_not, Bool.not_eq_true', Bool.not_eq_false', Bool.not_eq_true, Bool.not_eq_false, Bool.and_eq_true, Bool.or_eq_true, Bool.and_eq_false_iff, Bool.or_eq_false_iff, Bool.not_not, ne_eq, Int.not_lt, Int.not_le, Decidable.not_not, beq_iff_eq, bne_iff_ne] at hc6
              refine wp_skip ?_
              refine then_normal ?_
              refine c_seq ?_
              refine c_seq ?_
              refine c_region ?_
              refine wl (wl_val hl rfl trivial (r_move hl rfl) ?_)
              clear hl a; intro a hl
              refine wl (wl_val hl rfl trivial (r_gtr hl rfl rfl) ?_)
              clear hl a; intro a hl
              refine w_nil ?_
              have hl2 := hl.add (t := 3) (hl.add (t := 4) (hl.add (t := 6) (hl.add (t := 9) (hl.add (t := 12) (hl.add (t := 13) (hl.add (t := 78) (hl.add (t := 79) (hl.add (t := 80) (hl.add (t := 92) (hl.nil) rfl) rfl) rfl) rfl) rfl) rfl) rfl) rfl) rfl) rfl; clear hl; have hl := hl2; clear hl2
              refine then_normal ?_
              refine c_cond hl rfl ?_ ?_
              · intro hc7
                try simp only [decide_eq_true_eq, decide_eq_false_iff_not, Bool.not_eq_true', Bool.not_eq_false', Bool.not_eq_true, Bool.not_eq_false, Bool.and_eq_true, Bool.or_eq_true, Bool.and_eq_false_iff, Bool.or_eq_false_iff, Bool.not_not, ne_eq, Int.not_lt, Int.not_le, Decidable.not_not, beq_iff_eq, bne_iff_ne] at hc7
                obtain ⟨k9, hk9⟩ : ∃ k, i2 = k + 1 := ⟨i2 - 1, by omega⟩
                obtain ⟨y, hyy⟩ : ∃ y, nA.q[k9]? = some y := ⟨_, List.getElem?_eq_getElem (by omega)⟩
                have hym := List.mem_of_getElem? hyy
                have hyo := hNA.o y hym
                have hyb : y.ls.length ≤ 5 := by
                  obtain ⟨a9, h8, h9⟩ := h6.c y hym
                  obtain ⟨y9, h7, rfl⟩ := List.mem_map.1 h8
                  have h4 := h9.bl
                  have h2 := hG.bd y9 h7
                  have h1 : y.ru.b.length = y.ls.length := List.length_map ..
                  have h0 : y9.ru.b.length = y9.ls.length := List.length_map ..
                  omega
                have hd3 := fl_at c3_len hyy j2
                simp only [RV.c3] at hd3
                have hsx := hz.all h6 hze hxm
                have hsy := hz.all h6 hze hym
                have hlt0 := h6.o k9 i2 y x hyy hxx (by omega)
                rw [← hsx, ← hsy] at hlt0
                have hlt : sOf z.m y.p ≤ sOf z.m x.p ∧ (sOf z.m y.p = sOf z.m x.p → cmpR y.ru x.ru < 0) := ⟨by omega, fun h9 => by rcases hlt0 with h8 | h8 <;> first | omega | exact h8.2⟩
                clear hlt0
                have hle9 := hlt.1
                refine c_seq ?_
                refine c_region ?_
                refine wl (wl_val hl rfl trivial (r_field hl rfl fld53_1) ?_)
                clear hl a; intro a hl
                first | refine wl (w_load hl hh rfl trivial one24 rfl (by repeat (first | exact find_head | apply find_tail | apply find_skip)) (by first | exact fl_cell c4_len hlu rfl j5 | exact fl_cell c4_len hlv rfl j5 | rfl) ?_) | refine wl (wl_val hl rfl trivial (r_load hl rfl one24 (hh.mem _ _ (by repeat (first | exact hmem8 | exact List.mem_append_left _ hmem8 | apply List.mem_cons_of_mem | apply List.mem_append_right))) (List.getElem?_toArray.trans hd8)) ?_)
                clear hl a; intro a hl
                refine wl (wl_val hl rfl trivial (r_move hl rfl) ?_)
                clear hl a; intro a hl
                first | refine wl (wl_val hl rfl trivial (r_sub hl rfl rfl (by simp only [Fits]; omega)) ?_) | refine wl (wl_val hl rfl trivial (r_subW hl rfl rfl) ?_)
                clear hl a; intro a hl
                rw [show (i2 : Int) - 1 = (k9 : Int) by omega] at hl
                refine wl (wl_val hl rfl trivial (r_indexS hl rfl rfl slc24 (by omega) (by omega) (by first | (simp only [Int.reduceToNat]; rfl) | exact toNat_add1 _ | exact toNat_add2 _ _ | exact toNat_emod _ _ | exact Int.toNat_natCast _ | rfl)) ?_)
                clear hl a; intro a hl
                first | refine wl (w_loadA hl hh rfl trivial agg35 rfl (by repeat (first | exact find_head | apply find_tail | apply find_skip)) (by first | (simp only [List.getElem?_cons_zero, List.getElem?_cons_succ, Value.cells, List.take_zero, List.take_succ_cons, List.take_nil, List.drop_zero, List.drop_succ_cons, List.drop_nil, List.length_cons, List.length_nil, List.cons_append, List.nil_append, List.append_nil, Nat.zero_add, Nat.add_zero, Nat.reduceAdd, Nat.reduceBEq, Nat.reduceEqDiff, Nat.ble, BEq.rfl, Bool.and_true, Bool.and_self, cond_true, beq_self_eq_true]; rfl)) (by first | rfl | (simp; done)) ?_) | refine wl (w_loadRA hl hh rfl trivial agg35 rfl hpre.2 (by simp) rfl rfl ?_) | refine wl (wl_val hl rfl trivial (r_loadA hl rfl agg35 (hh.mem _ _ (by repeat (first | exact hmem1 | exact List.mem_append_left _ hmem1 | apply List.mem_cons_of_mem | apply List.mem_append_right))) hd1 rfl) ?_) | refine wl (wl_val hl rfl trivial (r_loadA hl rfl agg35 (hh.mem _ _ (by repeat (first | exact hmem2 | exact List.mem_append_left _ hmem2 | apply List.mem_cons_of_mem | apply List.mem_append_right))) hd2 rfl) ?_) | refine wl (wl_val hl rfl trivial (r_loadA hl rfl agg35 (hh.mem _ _ (by repeat (first | exact hmem2 | exact List.mem_append_left _ hmem2 | apply List.mem_cons_of_mem | apply List.mem_append_right))) hd3 rfl) ?_) | refine wl (wl_val hl rfl trivial (r_loadA hl rfl agg35 (hh.mem _ _ (by repeat (first | exact hmem7 | exact List.mem_append_left _ hmem7 | apply List.mem_cons_of_mem | apply List.mem_append_right))) hd7 rfl) ?_)
                clear hl a; intro a hl
                refine wl (w_alloc hl hh rfl trivial zero35 rfl ?_)
                clear hl hh a w; intro k14 a w hl hh
                refine wl (w_storeA hl hh trivial agg35 rfl rfl (by repeat (first | exact find_head | apply find_tail | apply find_skip)) (by first | rfl | (simp; done)) (by first | (simp; done) | (simp; omega)) (by first | rfl | (simp; done) | rfl) (by first | (simp only [setL, List.getElem?_cons_zero, List.getElem?_cons_succ, Value.cells, List.take_zero, List.take_succ_cons, List.take_nil, List.drop_zero, List.drop_succ_cons, List.drop_nil, List.length_cons, List.length_nil, List.cons_append, List.nil_append, List.append_nil, Nat.zero_add, Nat.add_zero, Nat.reduceAdd, Nat.reduceBEq, Nat.reduceEqDiff, Nat.ble, BEq.rfl, Bool.and_true, Bool.and_self, cond_true, beq_self_eq_true]; rfl)) ?_)
                clear hh w; intro w hh
                refine w_nil ?_
                have hl2 := hl.add (t := 3) (hl.add (t := 4) (hl.add (t := 6) (hl.add (t := 9) (hl.add (t := 13) (hl.add (t := 14) (hl.add (t := 78) (hl.add (t := 79) (hl.add (t := 80) (hl.nil) rfl) rfl) rfl) rfl) rfl) rfl) rfl) rfl) rfl; clear hl; have hl := hl2; clear hl2
                refine then_normal ?_
                refine c_seq ?_
                refine c_draw [(k14, C [.string y.p, .slice y.hp y.a.length y.hc, .slice y.bp y.ls.length y.bc] 35), (k13, C [.string x.p, .slice x.hp x.a.length x.hc, .slice x.bp x.ls.length x.bc] 35), (k63, MO kStr z.m)] [11] mixed hh ?_
                clear hh w; intro w hh
                have hM : Mem [(k14, C [.string y.p, .slice y.hp y.a.length y.hc, .slice y.bp y.ls.length y.bc] 35), (k13, C [.string x.p, .slice x.hp x.a.length x.hc, .slice x.bp x.ls.length x.bc] 35), (k63, MO kStr z.m)] w := (memK hh (by repeat (first | exact keeps_nil | apply keeps_cons (by repeat (first | exact find_head | apply find_tail | apply find_skip)) (by first  | rfl) | exact keeps_self | exact keeps_left | apply keeps_app | apply keeps_mv | apply keeps_skip)))
                refine d_take (i := 0) hl rfl (by kernel_rfl) (by kernel_rfl) (by kernel_rfl) (by kernel_rfl) (by kernel_rfl) rfl trivial (fun _ _ _ h => h) hM (fun w hC => r_move hl rfl) rfl ?_
                clear hl a; intro a hl
                refine d_take (i := 1) hl rfl (by kernel_rfl) (by kernel_rfl) (by kernel_rfl) (by kernel_rfl) (by kernel_rfl) rfl trivial (fun _ _ _ h => h) hM (fun w hC => r_field hl rfl fld35_0) rfl ?_
                clear hl a; intro a hl
                refine d_take (i := 2) hl rfl (by kernel_rfl) (by kernel_rfl) (by kernel_rfl) (by kernel_rfl) (by kernel_rfl) rfl trivial (fun _ _ _ h => h) hM (fun w hC => r_field hl rfl fld32_0) rfl ?_
                clear hl a; intro a hl
                refine d_take (i := 3) hl rfl (by kernel_rfl) (by kernel_rfl) (by kernel_rfl) (by kernel_rfl) (by kernel_rfl) rfl trivial (fun _ _ _ h => h) hM (fun w hC => r_loadC hl rfl one9 hC (by repeat (first | exact find_head | apply find_tail | apply find_skip)) (by first | exact fl_cell c4_len hlu rfl j5 | exact fl_cell c4_len hlv rfl j5 | rfl)) rfl ?_
                clear hl a; intro a hl
                refine d_take (i := 4) hl rfl (by kernel_rfl) (by kernel_rfl) (by kernel_rfl) (by kernel_rfl) (by kernel_rfl) rfl trivial (fun _ _ _ h => h) hM (fun w hC => r_lookup (keyStr Tryd.underlying9) Tryd.underlying61 zero3 hl rfl rfl (hC _ _ (Find.mem (by repeat (first | exact find_head | apply find_tail | apply find_skip))))) rfl ?_
                clear hl a; intro a hl
                rw [sO_get hz9] at hl
                refine d_take (i := 5) hl rfl (by kernel_rfl) (by kernel_rfl) (by kernel_rfl) (by kernel_rfl) (by kernel_rfl) rfl trivial (fun _ _ _ h => h) hM (fun w hC => r_move hl rfl) rfl ?_
                clear hl a; intro a hl
                refine d_take (i := 6) hl rfl (by kernel_rfl) (by kernel_rfl) (by kernel_rfl) (by kernel_rfl) (by kernel_rfl) rfl trivial (fun _ _ _ h => h) hM (fun w hC => r_field hl rfl fld35_0) rfl ?_
                clear hl a; intro a hl
                refine d_take (i := 7) hl rfl (by kernel_rfl) (by kernel_rfl) (by kernel_rfl) (by kernel_rfl) (by kernel_rfl) rfl trivial (fun _ _ _ h => h) hM (fun w hC => r_field hl rfl fld32_0) rfl ?_
                clear hl a; intro a hl
                refine d_take (i := 8) hl rfl (by kernel_rfl) (by kernel_rfl) (by kernel_rfl) (by kernel_rfl) (by kernel_rfl) rfl trivial (fun _ _ _ h => h) hM (fun w hC => r_loadC hl rfl one9 hC (by repeat (first | exact find_head | apply find_tail | apply find_skip)) (by first | exact fl_cell c4_len hlu rfl j5 | exact fl_cell c4_len hlv rfl j5 | rfl)) rfl ?_
                clear hl a; intro a hl
                refine d_take (i := 9) hl rfl (by kernel_rfl) (by kernel_rfl) (by kernel_rfl) (by kernel_rfl) (by kernel_rfl) rfl trivial (fun _ _ _ h => h) hM (fun w hC => r_lookup (keyStr Tryd.underlying9) Tryd.underlying61 zero3 hl rfl rfl (hC _ _ (Find.mem (by repeat (first | exact find_head | apply find_tail | apply find_skip))))) rfl ?_
                clear hl a; intro a hl
                rw [sO_get hz9] at hl
                refine d_take (i := 10) hl rfl (by kernel_rfl) (by kernel_rfl) (by kernel_rfl) (by kernel_rfl) (by kernel_rfl) rfl trivial (fun _ _ _ h => h) hM (fun w hC => r_assign hl rfl) rfl ?_
                clear hl a; intro a hl
                refine d_takeL (i := 11) hl rfl (by kernel_rfl) (by kernel_rfl) (by kernel_rfl) (by kernel_rfl) (by kernel_rfl) rfl trivial (fun _ _ _ h => h) (fun w => r_assign hl rfl) rfl ?_
                clear hl a; intro a hl
                refine d_done (by kernel_rfl) ?_
                try clear hM
                have hl2 := hl.add (t := 3) (hl.add (t := 4) (hl.add (t := 6) (hl.add (t := 9) (hl.add (t := 13) (hl.add (t := 14) (hl.add (t := 15) (hl.add (t := 16) (hl.add (t := 78) (hl.add (t := 79) (hl.add (t := 80) (hl.nil) rfl) rfl) rfl) rfl) rfl) rfl) rfl) rfl) rfl) rfl) rfl; clear hl; have hl := hl2; clear hl2
                refine then_normal ?_
                refine c_seq ?_
                refine c_region ?_
                refine wl (wl_val hl rfl trivial (r_move hl rfl) ?_)
                clear hl a; intro a hl
                refine wl (wl_val hl rfl trivial (r_move hl rfl) ?_)
                clear hl a; intro a hl
                refine wl (wl_val hl rfl trivial (r_gtr hl rfl rfl) ?_)
                clear hl a; intro a hl
                refine wl (wl_val hl rfl trivial (r_move hl rfl) ?_)
                clear hl a; intro a hl
                refine sl_split (t := 112) hl rfl ?_ ?_
                · intro hg3; clear hl; intro hl
                  try simp only [decide_eq_true_eq, decide_eq_false_iff_not, Bool.not_eq_true', Bool.not_eq_false', Bool.not_eq_true, Bool.not_eq_false, Bool.and_eq_true, Bool.or_eq_true, Bool.and_eq_false_iff, Bool.or_eq_false_iff, Bool.not_not, ne_eq, Int.not_lt, Int.not_le, Decidable.not_not, beq_iff_eq, bne_iff_ne] at hg3
                  refine wl (wl_skip hl rfl ⟨_, _, rfl, rfl, rfl⟩ ?_)
                  clear hl a; intro a hl
                  refine wl (wl_skip hl rfl ⟨_, _, rfl, rfl, rfl⟩ ?_)
                  clear hl a; intro a hl
                  refine wl (wl_skip hl rfl ⟨_, _, rfl, rfl, rfl⟩ ?_)
                  clear hl a; intro a hl
                  refine wl (wl_skip hl rfl ⟨_, _, rfl, rfl, rfl⟩ ?_)
                  clear hl a; intro a hl
                  refine wl (wl_skipU hl rfl ⟨_, _, rfl, rfl, rfl⟩ ?_)
                  clear hl a; intro a hl
                  refine wl (wl_skipU hl rfl ⟨_, _, rfl, rfl, rfl⟩ ?_)
                  clear hl a; intro a hl
                  refine wl (wl_skipU hl rfl ⟨_, _, rfl, rfl, rfl⟩ ?_)
                  clear hl a; intro a hl
                  refine wl (wl_skipU hl rfl ⟨_, _, rfl, rfl, rfl⟩ ?_)
                  clear hl a; intro a hl
                  refine wl (wl_skip hl rfl ⟨_, _, rfl, rfl, rfl⟩ ?_)
                  clear hl a; intro a hl
                  refine wl (wl_val hl rfl trivial (r_pickT hl rfl rfl) ?_)
                  clear hl a; intro a hl
                  refine w_nil ?_
                  have hl2 := hl.add (t := 3) (hl.add (t := 4) (hl.add (t := 6) (hl.add (t := 9) (hl.add (t := 13) (hl.add (t := 78) (hl.add (t := 79) (hl.add (t := 80) (hl.add (t := 122) (hl.nil) rfl) rfl) rfl) rfl) rfl) rfl) rfl) rfl) rfl; clear hl; have hl := hl2; clear hl2
                  refine then_normal ?_
                  refine c_condT hl rfl ?_
                  refine c_seq ?_
                  refine c_region ?_
                  refine wl (wl_val hl rfl trivial (r_assign hl rfl) ?_)
                  clear hl a; intro a hl
                  refine w_nil ?_
                  have hl2 := hl.add (t := 2) (hl.nil) rfl; clear hl; have hl := hl2; clear hl2
                  refine then_normal ?_
                  refine wp_ret ?_
                  refine then_ret ?_
                  refine blk_ret ?_
                  refine then_ret ?_
                  refine then_ret ?_
                  refine blk_ret ?_
                  refine then_ret ?_
                  refine f_ret1 (F' := []) hl hh rfl rfl (by repeat (first | exact keeps_nil | apply keeps_cons (by repeat (first | exact find_head | apply find_tail | apply find_skip)) (by first  | rfl) | exact keeps_self | exact keeps_left | apply keeps_app | apply keeps_mv | apply keeps_skip)) ?_
                  exfalso; first | contradiction | omega
                · intro hg3; clear hl; intro hl
                  try simp only [decide_eq_true_eq, decide_eq_false_iff_not, Bool.not_eq_true', Bool.not_eq_false', Bool.not_eq_true, Bool.not_eq_false, Bool.and_eq_true, Bool.or_eq_true, Bool.and_eq_false_iff, Bool.or_eq_false_iff, Bool.not_not, ne_eq, Int.not_lt, Int.not_le, Decidable.not_not, beq_iff_eq, bne_iff_ne] at hg3
                  refine wl (wl_val hl rfl ⟨_, _, rfl, rfl, rfl⟩ (r_move hl rfl) ?_)
                  clear hl a; intro a hl
                  refine wl (wl_val hl rfl ⟨_, _, rfl, rfl, rfl⟩ (r_move hl rfl) ?_)
                  clear hl a; intro a hl
                  refine wl (wl_val hl rfl ⟨_, _, rfl, rfl, rfl⟩ (r_eql hl rfl rfl) ?_)
                  clear hl a; intro a hl
                  refine wl (wl_val hl rfl ⟨_, _, rfl, rfl, rfl⟩ (r_move hl rfl) ?_)
                  clear hl a; intro a hl
                  refine sl_split (t := 116) hl rfl ?_ ?_
                  · intro hg4; clear hl; intro hl
                    try simp only [decide_eq_true_eq, decide_eq_false_iff_not, Bool.not_eq_true', Bool.not_eq_false', Bool.not_eq_true, Bool.not_eq_false, Bool.and_eq_true, Bool.or_eq_true, Bool.and_eq_false_iff, Bool.or_eq_false_iff, Bool.not_not, ne_eq, Int.not_lt, Int.not_le, Decidable.not_not, beq_iff_eq, bne_iff_ne] at hg4
                    first | refine wl (w_loadA hl hh rfl ⟨_, _, rfl, rfl, rfl⟩ agg35 rfl (by repeat (first | exact find_head | apply find_tail | apply find_skip)) (by first | (simp only [List.getElem?_cons_zero, List.getElem?_cons_succ, Value.cells, List.take_zero, List.take_succ_cons, List.take_nil, List.drop_zero, List.drop_succ_cons, List.drop_nil, List.length_cons, List.length_nil, List.cons_append, List.nil_append, List.append_nil, Nat.zero_add, Nat.add_zero, Nat.reduceAdd, Nat.reduceBEq, Nat.reduceEqDiff, Nat.ble, BEq.rfl, Bool.and_true, Bool.and_self, cond_true, beq_self_eq_true]; rfl)) (by first | rfl | (simp; done)) ?_) | refine wl (w_loadRA hl hh rfl ⟨_, _, rfl, rfl, rfl⟩ agg35 rfl hpre.2 (by simp) rfl rfl ?_) | refine wl (wl_val hl rfl ⟨_, _, rfl, rfl, rfl⟩ (r_loadA hl rfl agg35 (hh.mem _ _ (by repeat (first | exact hmem1 | exact List.mem_append_left _ hmem1 | apply List.mem_cons_of_mem | apply List.mem_append_right))) hd1 rfl) ?_) | refine wl (wl_val hl rfl ⟨_, _, rfl, rfl, rfl⟩ (r_loadA hl rfl agg35 (hh.mem _ _ (by repeat (first | exact hmem2 | exact List.mem_append_left _ hmem2 | apply List.mem_cons_of_mem | apply List.mem_append_right))) hd2 rfl) ?_) | refine wl (wl_val hl rfl ⟨_, _, rfl, rfl, rfl⟩ (r_loadA hl rfl agg35 (hh.mem _ _ (by repeat (first | exact hmem2 | exact List.mem_append_left _ hmem2 | apply List.mem_cons_of_mem | apply List.mem_append_right))) hd3 rfl) ?_) | refine wl (wl_val hl rfl ⟨_, _, rfl, rfl, rfl⟩ (r_loadA hl rfl agg35 (hh.mem _ _ (by repeat (first | exact hmem7 | exact List.mem_append_left _ hmem7 | apply List.mem_cons_of_mem | apply List.mem_append_right))) hd7 rfl) ?_)
                    clear hl a; intro a hl
                    first | refine wl (w_loadA hl hh rfl ⟨_, _, rfl, rfl, rfl⟩ agg35 rfl (by repeat (first | exact find_head | apply find_tail | apply find_skip)) (by first | (simp only [List.getElem?_cons_zero, List.getElem?_cons_succ, Value.cells, List.take_zero, List.take_succ_cons, List.take_nil, List.drop_zero, List.drop_succ_cons, List.drop_nil, List.length_cons, List.length_nil, List.cons_append, List.nil_append, List.append_nil, Nat.zero_add, Nat.add_zero, Nat.reduceAdd, Nat.reduceBEq, Nat.reduceEqDiff, Nat.ble, BEq.rfl, Bool.and_true, Bool.and_self, cond_true, beq_self_eq_true]; rfl)) (by first | rfl | (simp; done)) ?_) | refine wl (w_loadRA hl hh rfl ⟨_, _, rfl, rfl, rfl⟩ agg35 rfl hpre.2 (by simp) rfl rfl ?_) | refine wl (wl_val hl rfl ⟨_, _, rfl, rfl, rfl⟩ (r_loadA hl rfl agg35 (hh.mem _ _ (by repeat (first | exact hmem1 | exact List.mem_append_left _ hmem1 | apply List.mem_cons_of_mem | apply List.mem_append_right))) hd1 rfl) ?_) | refine wl (wl_val hl rfl ⟨_, _, rfl, rfl, rfl⟩ (r_loadA hl rfl agg35 (hh.mem _ _ (by repeat (first | exact hmem2 | exact List.mem_append_left _ hmem2 | apply List.mem_cons_of_mem | apply List.mem_append_right))) hd2 rfl) ?_) | refine wl (wl_val hl rfl ⟨_, _, rfl, rfl, rfl⟩ (r_loadA hl rfl agg35 (hh.mem _ _ (by repeat (first | exact hmem2 | exact List.mem_append_left _ hmem2 | apply List.mem_cons_of_mem | apply List.mem_append_right))) hd3 rfl) ?_) | refine wl (wl_val hl rfl ⟨_, _, rfl, rfl, rfl⟩ (r_loadA hl rfl agg35 (hh.mem _ _ (by repeat (first | exact hmem7 | exact List.mem_append_left _ hmem7 | apply List.mem_cons_of_mem | apply List.mem_append_right))) hd7 rfl) ?_)
                    clear hl a; intro a hl
                    refine wl (w_call hl hh rfl ⟨_, _, rfl, rfl, rfl⟩ rfl cal24 rfl (less_spec y x hyo hxo (by omega) (by omega)) (by repeat (first | exact keeps_nil | apply keeps_cons (by repeat (first | exact find_head | apply find_tail | apply find_skip)) (by first  | rfl) | exact keeps_self | exact keeps_left | apply keeps_app | apply keeps_mv | apply keeps_skip)) ⟨(hGA.mem (memK hh (by repeat (first | exact keeps_nil | apply keeps_cons (by repeat (first | exact find_head | apply find_tail | apply find_skip)) (by first  | rfl) | exact keeps_self | exact keeps_left | apply keeps_app | apply keeps_mv | apply keeps_skip))) (memK hh (by repeat (first | exact keeps_nil | apply keeps_cons (by repeat (first | exact find_head | apply find_tail | apply find_skip)) (by first  | rfl) | exact keeps_self | exact keeps_left | apply keeps_app | apply keeps_mv | apply keeps_skip))) (memK hh (by repeat (first | exact keeps_nil | apply keeps_cons (by repeat (first | exact find_head | apply find_tail | apply find_skip)) (by first  | rfl) | exact keeps_self | exact keeps_left | apply keeps_app | apply keeps_mv | apply keeps_skip)))).q y hym, (hGA.mem (memK hh (by repeat (first | exact keeps_nil | apply keeps_cons (by repeat (first | exact find_head | apply find_tail | apply find_skip)) (by first  | rfl) | exact keeps_self | exact keeps_left | apply keeps_app | apply keeps_mv | apply keeps_skip))) (memK hh (by repeat (first | exact keeps_nil | apply keeps_cons (by repeat (first | exact find_head | apply find_tail | apply find_skip)) (by first  | rfl) | exact keeps_self | exact keeps_left | apply keeps_app | apply keeps_mv | apply keeps_skip))) (memK hh (by repeat (first | exact keeps_nil | apply keeps_cons (by repeat (first | exact find_head | apply find_tail | apply find_skip)) (by first  | rfl) | exact keeps_self | exact keeps_left | apply keeps_app | apply keeps_mv | apply keeps_skip)))).q x hxm⟩ ?_)
                    clear hl hh a w; intro vc Fc a w hR hl hh
                    obtain ⟨rfl, rfl⟩ := hR
                    try simp only [List.cons_append, List.nil_append, List.append_assoc, List.append_nil] at hh
                    rw [decide_eq_true (hlt.2 (by omega))] at hl
                    refine wl (wl_val hl rfl ⟨_, _, rfl, rfl, rfl⟩ (r_not hl rfl) ?_)
                    clear hl a; intro a hl
                    refine wl (wl_val hl rfl ⟨_, _, rfl, rfl, rfl⟩ (r_pickT hl rfl rfl) ?_)
                    clear hl a; intro a hl
                    refine wl (wl_val hl rfl trivial (r_pickF hl rfl rfl) ?_)
                    clear hl a; intro a hl
                    refine w_nil ?_
                    have hl2 := hl.add (t := 3) (hl.add (t := 4) (hl.add (t := 6) (hl.add (t := 9) (hl.add (t := 13) (hl.add (t := 78) (hl.add (t := 79) (hl.add (t := 80) (hl.add (t := 122) (hl.nil) rfl) rfl) rfl) rfl) rfl) rfl) rfl) rfl) rfl; clear hl; have hl := hl2; clear hl2
                    refine then_normal ?_
                    refine c_cond hl rfl ?_ ?_
                    · intro hc8
                      try simp only [decide_eq_true_eq, decide_eq_false_iff_not, Bool.not_eq_true', Bool.not_eq_false', Bool.not_eq_true, Bool.not_eq_false, Bool.and_eq_true, Bool.or_eq_true, Bool.and_eq_false_iff, Bool.or_eq_false_iff, Bool.not_not, ne_eq, Int.not_lt, Int.not_le, Decidable.not_not, beq_iff_eq, bne_iff_ne] at hc8
                      exfalso; first | contradiction | omega | (exfalso; omega)
                    · intro hc8
                      try simp only [decide_eq_true_eq, decide_eq_false_iff_not, Bool.not_eq_true', Bool.not_eq_false', Bool.not_eq_true, Bool.not_eq_false, Bool.and_eq_true, Bool.or_eq_true, Bool.and_eq_false_iff, Bool.or_eq_false_iff, Bool.not_not, ne_eq, Int.not_lt, Int.not_le, Decidable.not_not, beq_iff_eq, bne_iff_ne] at hc8
                      refine wp_skip ?_
                      refine then_normal ?_
                      refine c_seq ?_
                      refine c_seq ?_
                      refine c_region ?_
                      refine wl (wl_val hl rfl trivial (r_assign hl rfl) ?_)
                      clear hl a; intro a hl
                      refine w_nil ?_
                      have hl2 := hl.add (t := 3) (hl.add (t := 4) (hl.add (t := 6) (hl.add (t := 9) (hl.add (t := 13) (hl.add (t := 17) (hl.add (t := 78) (hl.add (t := 79) (hl.add (t := 80) (hl.nil) rfl) rfl) rfl) rfl) rfl) rfl) rfl) rfl) rfl; clear hl; have hl := hl2; clear hl2
                      refine then_normal ?_
                      refine wp_block ?_
                      obtain ⟨KS3, hKS3, hk⟩ := (hl.add (t := 3) (hl.add (t := 4) (hl.add (t := 6) (hl.add (t := 9) (hl.add (t := 13) (hl.add (t := 78) (hl.add (t := 79) (hl.add (t := 80) (hl.nil) rfl) rfl) rfl) rfl) rfl) rfl) rfl) rfl).name
                      obtain ⟨HS3, hHS3, hh2⟩ := hh.name (keeps_nil)
                      refine c_loop (α := Nat) (fun k3 => x.ls.length - k3) (fun k3 a w => (1 ≤ k3) ∧ Sl 157 ([(17, .int .i64 (k3 : Int))] ++ KS3) a ∧ Has _ w0 ([] ++ HS3) w) 1 ⟨Nat.le_refl _, hl.addE (t := 17) (hk) rfl (by first | rfl), hh2⟩ ?_
                      clear hk hh2 hl hh a w
                      intro k3 a w hI
                      obtain ⟨hk3, hl, hh⟩ := hI
                      subst hKS3; subst hHS3
                      simp only [List.cons_append, List.nil_append, List.append_nil, List.append_assoc] at hl hh
                      refine c_seq ?_
                      refine c_seq ?_
                      refine c_region ?_
                      refine wl (wl_val hl rfl trivial (r_move hl rfl) ?_)
                      clear hl a; intro a hl
                      refine wl (wl_val hl rfl trivial (r_field hl rfl fld35_1) ?_)
                      clear hl a; intro a hl
                      first | refine wl (w_load hl hh rfl trivial one33 rfl (by repeat (first | exact find_head | apply find_tail | apply find_skip)) (by first | exact fl_cell c4_len hlu rfl j5 | exact fl_cell c4_len hlv rfl j5 | rfl) ?_) | refine wl (wl_val hl rfl trivial (r_load hl rfl one33 (hh.mem _ _ (by repeat (first | exact hmem8 | exact List.mem_append_left _ hmem8 | apply List.mem_cons_of_mem | apply List.mem_append_right))) (List.getElem?_toArray.trans hd8)) ?_)
                      clear hl a; intro a hl
                      refine wl (wl_val hl rfl trivial (r_lenS hl rfl slc33) ?_)
                      clear hl a; intro a hl
                      refine wl (wl_val hl rfl trivial (r_lss hl rfl rfl) ?_)
                      clear hl a; intro a hl
                      refine w_nil ?_
                      have hl2 := hl.add (t := 3) (hl.add (t := 4) (hl.add (t := 6) (hl.add (t := 9) (hl.add (t := 13) (hl.add (t := 17) (hl.add (t := 78) (hl.add (t := 79) (hl.add (t := 80) (hl.add (t := 127) (hl.nil) rfl) rfl) rfl) rfl) rfl) rfl) rfl) rfl) rfl) rfl; clear hl; have hl := hl2; clear hl2
                      refine then_normal ?_
                      refine c_cond hl rfl ?_ ?_
                      · intro hc9
                        try simp only [decide_eq_true_eq, decide_eq_false_iff_not, Bool.not_eq_true', Bool.not_eq_false', Bool.not_eq_true, Bool.not_eq_false, Bool.and_eq_true, Bool.or_eq_true, Bool.and_eq_false_iff, Bool.or_eq_false_iff, Bool.not_not, ne_eq, Int.not_lt, Int.not_le, Decidable.not_not, beq_iff_eq, bne_iff_ne] at hc9
                        obtain ⟨kp, hkp⟩ : ∃ k, k3 = k + 1 := ⟨k3 - 1, by omega⟩
                        obtain ⟨lu, hlu⟩ : ∃ u, x.ls[kp]? = some u := ⟨_, List.getElem?_eq_getElem (by omega)⟩
                        obtain ⟨lv, hlv⟩ : ∃ v, x.ls[k3]? = some v := ⟨_, List.getElem?_eq_getElem (by omega)⟩
                        have hkk := pw_at (h6.k x hxm) (map_at LV.l hlu) (map_at LV.l hlv) (by omega)
                        obtain ⟨b5, j5, hq5, _, _, hE5⟩ := row_pos hxo.bd (by omega)
                        rw [hq5] at hh
                        refine wp_skip ?_
                        refine then_normal ?_
                        refine c_seq ?_
                        refine wp_block ?_
                        refine c_seq ?_
                        refine c_draw [(k13, C [.string x.p, .slice x.hp x.a.length x.hc, .slice (some ⟨b5, 0, none⟩) x.ls.length x.bc] 35), (b5, C (fl LV.c4 x.ls ++ j5) 44)] [13] mixed hh ?_
                        clear hh w; intro w hh
                        have hM : Mem [(k13, C [.string x.p, .slice x.hp x.a.length x.hc, .slice (some ⟨b5, 0, none⟩) x.ls.length x.bc] 35), (b5, C (fl LV.c4 x.ls ++ j5) 44)] w := (fun b o m => by simp only [List.mem_cons, List.not_mem_nil, or_false] at m; rcases m with m | m <;> cases m; exact hh.mem _ _ (Find.mem (by repeat (first | exact find_head | apply find_tail | apply find_skip))); exact RV.mb ((hGA.mem (memK hh (by repeat (first | exact keeps_nil | apply keeps_cons (by repeat (first | exact find_head | apply find_tail | apply find_skip)) (by first  | rfl) | exact keeps_self | exact keeps_left | apply keeps_app | apply keeps_mv | apply keeps_skip))) (memK hh (by repeat (first | exact keeps_nil | apply keeps_cons (by repeat (first | exact find_head | apply find_tail | apply find_skip)) (by first  | rfl) | exact keeps_self | exact keeps_left | apply keeps_app | apply keeps_mv | apply keeps_skip))) (memK hh (by repeat (first | exact keeps_nil | apply keeps_cons (by repeat (first | exact find_head | apply find_tail | apply find_skip)) (by first  | rfl) | exact keeps_self | exact keeps_left | apply keeps_app | apply keeps_mv | apply keeps_skip)))).q x hxm) _ _ (by rw [hE5]; exact List.mem_singleton.2 rfl))
                        refine d_take (i := 0) hl rfl (by kernel_rfl) (by kernel_rfl) (by kernel_rfl) (by kernel_rfl) (by kernel_rfl) rfl trivial (fun _ _ _ h => h) hM (fun w hC => r_field hl rfl fld35_1) rfl ?_
                        clear hl a; intro a hl
                        refine d_take (i := 1) hl rfl (by kernel_rfl) (by kernel_rfl) (by kernel_rfl) (by kernel_rfl) (by kernel_rfl) rfl trivial (fun _ _ _ h => h) hM (fun w hC => r_loadC hl rfl one33 hC (by repeat (first | exact find_head | apply find_tail | apply find_skip)) (by first | exact fl_cell c4_len hlu rfl j5 | exact fl_cell c4_len hlv rfl j5 | rfl)) rfl ?_
                        clear hl a; intro a hl
                        refine d_take (i := 2) hl rfl (by kernel_rfl) (by kernel_rfl) (by kernel_rfl) (by kernel_rfl) (by kernel_rfl) rfl trivial (fun _ _ _ h => h) hM (fun w hC => r_move hl rfl) rfl ?_
                        clear hl a; intro a hl
                        first | refine d_take (i := 3) hl rfl (by kernel_rfl) (by kernel_rfl) (by kernel_rfl) (by kernel_rfl) (by kernel_rfl) rfl trivial (fun _ _ _ h => h) hM (fun w hC => r_sub hl rfl rfl (by simp only [Fits]; omega)) rfl ?_ | refine d_take (i := 3) hl rfl (by kernel_rfl) (by kernel_rfl) (by kernel_rfl) (by kernel_rfl) (by kernel_rfl) rfl trivial (fun _ _ _ h => h) hM (fun w hC => r_subW hl rfl rfl) rfl ?_
                        clear hl a; intro a hl
                        rw [show (k3 : Int) - 1 = (kp : Int) by omega] at hl
                        refine d_take (i := 4) hl rfl (by kernel_rfl) (by kernel_rfl) (by kernel_rfl) (by kernel_rfl) (by kernel_rfl) rfl trivial (fun _ _ _ h => h) hM (fun w hC => r_indexS hl rfl rfl slc33 (by omega) (by omega) (by first | (simp only [Int.reduceToNat]; rfl) | exact toNat_add1 _ | exact toNat_add2 _ _ | exact toNat_emod _ _ | exact Int.toNat_natCast _ | rfl)) rfl ?_
                        clear hl a; intro a hl
                        refine d_take (i := 5) hl rfl (by kernel_rfl) (by kernel_rfl) (by kernel_rfl) (by kernel_rfl) (by kernel_rfl) rfl trivial (fun _ _ _ h => h) hM (fun w hC => r_field hl rfl fld44_0) rfl ?_
                        clear hl a; intro a hl
                        refine d_take (i := 6) hl rfl (by kernel_rfl) (by kernel_rfl) (by kernel_rfl) (by kernel_rfl) (by kernel_rfl) rfl trivial (fun _ _ _ h => h) hM (fun w hC => r_loadC hl rfl one41 hC (by repeat (first | exact find_head | apply find_tail | apply find_skip)) (by first | exact fl_cell c4_len hlu rfl j5 | exact fl_cell c4_len hlv rfl j5 | rfl)) rfl ?_
                        clear hl a; intro a hl
                        refine d_take (i := 7) hl rfl (by kernel_rfl) (by kernel_rfl) (by kernel_rfl) (by kernel_rfl) (by kernel_rfl) rfl trivial (fun _ _ _ h => h) hM (fun w hC => r_field hl rfl fld35_1) rfl ?_
                        clear hl a; intro a hl
                        refine d_take (i := 8) hl rfl (by kernel_rfl) (by kernel_rfl) (by kernel_rfl) (by kernel_rfl) (by kernel_rfl) rfl trivial (fun _ _ _ h => h) hM (fun w hC => r_loadC hl rfl one33 hC (by repeat (first | exact find_head | apply find_tail | apply find_skip)) (by first | exact fl_cell c4_len hlu rfl j5 | exact fl_cell c4_len hlv rfl j5 | rfl)) rfl ?_
                        clear hl a; intro a hl
                        refine d_take (i := 9) hl rfl (by kernel_rfl) (by kernel_rfl) (by kernel_rfl) (by kernel_rfl) (by kernel_rfl) rfl trivial (fun _ _ _ h => h) hM (fun w hC => r_move hl rfl) rfl ?_
                        clear hl a; intro a hl
                        refine d_take (i := 10) hl rfl (by kernel_rfl) (by kernel_rfl) (by kernel_rfl) (by kernel_rfl) (by kernel_rfl) rfl trivial (fun _ _ _ h => h) hM (fun w hC => r_indexS hl rfl rfl slc33 (by omega) (by omega) (by first | (simp only [Int.reduceToNat]; rfl) | exact toNat_add1 _ | exact toNat_add2 _ _ | exact toNat_emod _ _ | exact Int.toNat_natCast _ | rfl)) rfl ?_
                        clear hl a; intro a hl
                        refine d_take (i := 11) hl rfl (by kernel_rfl) (by kernel_rfl) (by kernel_rfl) (by kernel_rfl) (by kernel_rfl) rfl trivial (fun _ _ _ h => h) hM (fun w hC => r_field hl rfl fld44_0) rfl ?_
                        clear hl a; intro a hl
                        refine d_take (i := 12) hl rfl (by kernel_rfl) (by kernel_rfl) (by kernel_rfl) (by kernel_rfl) (by kernel_rfl) rfl trivial (fun _ _ _ h => h) hM (fun w hC => r_loadC hl rfl one41 hC (by repeat (first | exact find_head | apply find_tail | apply find_skip)) (by first | exact fl_cell c4_len hlu rfl j5 | exact fl_cell c4_len hlv rfl j5 | rfl)) rfl ?_
                        clear hl a; intro a hl
                        refine d_takeL (i := 13) hl rfl (by kernel_rfl) (by kernel_rfl) (by kernel_rfl) (by kernel_rfl) (by kernel_rfl) rfl trivial (fun _ _ _ h => h) (fun w => r_gtr hl rfl rfl) rfl ?_
                        clear hl a; intro a hl
                        refine d_done (by kernel_rfl) ?_
                        try clear hM
                        have hl2 := hl.add (t := 3) (hl.add (t := 4) (hl.add (t := 6) (hl.add (t := 9) (hl.add (t := 13) (hl.add (t := 17) (hl.add (t := 78) (hl.add (t := 79) (hl.add (t := 80) (hl.add (t := 143) (hl.nil) rfl) rfl) rfl) rfl) rfl) rfl) rfl) rfl) rfl) rfl; clear hl; have hl := hl2; clear hl2
                        refine then_normal ?_
                        refine c_cond hl rfl ?_ ?_
                        · intro hc10
                          try simp only [decide_eq_true_eq, decide_eq_false_iff_not, Bool.not_eq_true', Bool.not_eq_false', Bool.not_eq_true, Bool.not_eq_false, Bool.and_eq_true, Bool.or_eq_true, Bool.and_eq_false_iff, Bool.or_eq_false_iff, Bool.not_not, ne_eq, Int.not_lt, Int.not_le, Decidable.not_not, beq_iff_eq, bne_iff_ne] at hc10
                          exfalso; first | contradiction | omega | (exfalso; omega)
                        · intro hc10
                          try simp only [decide_eq_true_eq, decide_eq_false_iff_not, Bool.not_eq_true', Bool.not_eq_false', Bool.not_eq_true, Bool.not_eq_false, Bool.and_eq_true, Bool.or_eq_true, Bool.and_eq_false_iff, Bool.or_eq_false_iff, Bool.not_not, ne_eq, Int.not_lt, Int.not_le, Decidable.not_not, beq_iff_eq, bne_iff_ne] at hc10
                          refine wp_skip ?_
                          refine blk_normal ?_
                          refine then_normal ?_
                          refine c_region ?_
                          refine wl (wl_val hl rfl trivial (r_move hl rfl) ?_)
                          clear hl a; intro a hl
                          first | refine wl (wl_val hl rfl trivial (r_add hl rfl rfl (by simp only [Fits]; omega)) ?_) | refine wl (wl_val hl rfl trivial (r_addW hl rfl rfl) ?_)
                          clear hl a; intro a hl
                          refine wl (wl_val hl rfl trivial (r_assign hl rfl) ?_)
                          clear hl a; intro a hl
                          refine w_nil ?_
                          have hl2 := hl.add (t := 3) (hl.add (t := 4) (hl.add (t := 6) (hl.add (t := 9) (hl.add (t := 13) (hl.add (t := 17) (hl.add (t := 78) (hl.add (t := 79) (hl.add (t := 80) (hl.nil) rfl) rfl) rfl) rfl) rfl) rfl) rfl) rfl) rfl; clear hl; have hl := hl2; clear hl2
                          refine then_normal ?_
                          refine ⟨k3 + 1, (by omega), (by omega), hl.addE (t := 17) (hl.addE (t := 3) (hl.addE (t := 4) (hl.addE (t := 6) (hl.addE (t := 9) (hl.addE (t := 13) (hl.addE (t := 78) (hl.addE (t := 79) (hl.addE (t := 80) (hl.nil) rfl (by first | rfl | exact congrArg (Value.int .i64) (show (k3 : Int) + 1 = ((k3 + 1 : Nat) : Int) by omega) | (rw [hq5]))) rfl (by first | rfl | exact congrArg (Value.int .i64) (show (k3 : Int) + 1 = ((k3 + 1 : Nat) : Int) by omega) | (rw [hq5]))) rfl (by first | rfl | exact congrArg (Value.int .i64) (show (k3 : Int) + 1 = ((k3 + 1 : Nat) : Int) by omega) | (rw [hq5]))) rfl (by first | rfl | exact congrArg (Value.int .i64) (show (k3 : Int) + 1 = ((k3 + 1 : Nat) : Int) by omega) | (rw [hq5]))) rfl (by first | rfl | exact congrArg (Value.int .i64) (show (k3 : Int) + 1 = ((k3 + 1 : Nat) : Int) by omega) | (rw [hq5]))) rfl (by first | rfl | exact congrArg (Value.int .i64) (show (k3 : Int) + 1 = ((k3 + 1 : Nat) : Int) by omega) | (rw [hq5]))) rfl (by first | rfl | exact congrArg (Value.int .i64) (show (k3 : Int) + 1 = ((k3 + 1 : Nat) : Int) by omega) | (rw [hq5]))) rfl (by first | rfl | exact congrArg (Value.int .i64) (show (k3 : Int) + 1 = ((k3 + 1 : Nat) : Int) by omega) | (rw [hq5]))) rfl (by first | rfl | exact congrArg (Value.int .i64) (show (k3 : Int) + 1 = ((k3 + 1 : Nat) : Int) by omega) | (rw [hq5])), hh.keep (by repeat (first | exact keeps_nil | apply keeps_cons (by repeat (first | exact find_head | apply find_tail | apply find_skip)) (by first  | (rw [hq5]) | rfl) | exact keeps_self | exact keeps_left | apply keeps_app | apply keeps_mv | apply keeps_skip))⟩
                      · intro hc9
                        try simp only [decide_eq_true_eq, decide_eq_false_iff_not, Bool.not_eq_true', Bool.not_eq_false', Bool.not_eq_true, Bool.not_eq_false, Bool.and_eq_true, Bool.or_eq_true, Bool.and_eq_false_iff, Bool.or_eq_false_iff, Bool.not_not, ne_eq, Int.not_lt, Int.not_le, Decidable.not_not, beq_iff_eq, bne_iff_ne] at hc9
                        refine wp_exit ?_
                        refine then_exit ?_
                        refine then_exit ?_
                        refine blk_exit ?_
                        refine then_normal ?_
                        refine c_seq ?_
                        refine c_region ?_
                        first | refine wl (w_loadA hl hh rfl trivial agg35 rfl (by repeat (first | exact find_head | apply find_tail | apply find_skip)) (by first | (simp only [List.getElem?_cons_zero, List.getElem?_cons_succ, Value.cells, List.take_zero, List.take_succ_cons, List.take_nil, List.drop_zero, List.drop_succ_cons, List.drop_nil, List.length_cons, List.length_nil, List.cons_append, List.nil_append, List.append_nil, Nat.zero_add, Nat.add_zero, Nat.reduceAdd, Nat.reduceBEq, Nat.reduceEqDiff, Nat.ble, BEq.rfl, Bool.and_true, Bool.and_self, cond_true, beq_self_eq_true]; rfl)) (by first | rfl | (simp; done)) ?_) | refine wl (w_loadRA hl hh rfl trivial agg35 rfl hpre.2 (by simp) rfl rfl ?_) | refine wl (wl_val hl rfl trivial (r_loadA hl rfl agg35 (hh.mem _ _ (by repeat (first | exact hmem1 | exact List.mem_append_left _ hmem1 | apply List.mem_cons_of_mem | apply List.mem_append_right))) hd1 rfl) ?_) | refine wl (wl_val hl rfl trivial (r_loadA hl rfl agg35 (hh.mem _ _ (by repeat (first | exact hmem2 | exact List.mem_append_left _ hmem2 | apply List.mem_cons_of_mem | apply List.mem_append_right))) hd2 rfl) ?_) | refine wl (wl_val hl rfl trivial (r_loadA hl rfl agg35 (hh.mem _ _ (by repeat (first | exact hmem2 | exact List.mem_append_left _ hmem2 | apply List.mem_cons_of_mem | apply List.mem_append_right))) hd3 rfl) ?_) | refine wl (wl_val hl rfl trivial (r_loadA hl rfl agg35 (hh.mem _ _ (by repeat (first | exact hmem7 | exact List.mem_append_left _ hmem7 | apply List.mem_cons_of_mem | apply List.mem_append_right))) hd7 rfl) ?_)
                        clear hl a; intro a hl
                        refine wl (w_call hl hh rfl trivial rfl cal25 rfl (vars_spec x hxo) (by repeat (first | exact keeps_nil | apply keeps_cons (by repeat (first | exact find_head | apply find_tail | apply find_skip)) (by first  | rfl) | exact keeps_self | exact keeps_left | apply keeps_app | apply keeps_mv | apply keeps_skip)) ((hGA.mem (memK hh (by repeat (first | exact keeps_nil | apply keeps_cons (by repeat (first | exact find_head | apply find_tail | apply find_skip)) (by first  | rfl) | exact keeps_self | exact keeps_left | apply keeps_app | apply keeps_mv | apply keeps_skip))) (memK hh (by repeat (first | exact keeps_nil | apply keeps_cons (by repeat (first | exact find_head | apply find_tail | apply find_skip)) (by first  | rfl) | exact keeps_self | exact keeps_left | apply keeps_app | apply keeps_mv | apply keeps_skip))) (memK hh (by repeat (first | exact keeps_nil | apply keeps_cons (by repeat (first | exact find_head | apply find_tail | apply find_skip)) (by first  | rfl) | exact keeps_self | exact keeps_left | apply keeps_app | apply keeps_mv | apply keeps_skip)))).q x hxm) ?_)
                        clear hl hh a w; intro vc Fc a w hR hl hh
                        obtain ⟨vp, vc, rfl, hRv⟩ := hR
                        try simp only [List.cons_append, List.nil_append, List.append_assoc, List.append_nil] at hh
                        generalize Fc = Ev at hh hRv
                        replace hh := hh.comm
                        simp only [List.cons_append, List.nil_append, List.append_nil, List.append_assoc] at hh
                        refine wl (wl_val hl rfl trivial (r_lenS hl rfl slc70) ?_)
                        clear hl a; intro a hl
                        refine wl (wl_val hl rfl trivial (r_move hl rfl) ?_)
                        clear hl a; intro a hl
                        refine w_nil ?_
                        have hl2 := hl.add (t := 3) (hl.add (t := 4) (hl.add (t := 6) (hl.add (t := 9) (hl.add (t := 78) (hl.add (t := 79) (hl.add (t := 80) (hl.add (t := 145) (hl.add (t := 146) (hl.add (t := 147) (hl.nil) rfl) rfl) rfl) rfl) rfl) rfl) rfl) rfl) rfl) rfl; clear hl; have hl := hl2; clear hl2
                        refine then_normal ?_
                        refine wp_block ?_
                        obtain ⟨KS4, hKS4, hk⟩ := (hl.add (t := 3) (hl.add (t := 4) (hl.add (t := 6) (hl.add (t := 9) (hl.add (t := 78) (hl.add (t := 79) (hl.add (t := 80) (hl.add (t := 145) (hl.add (t := 146) (hl.nil) rfl) rfl) rfl) rfl) rfl) rfl) rfl) rfl) rfl).name
                        obtain ⟨HS4, hHS4, hh2⟩ := hh.name (keeps_nil)
                        refine c_loop (α := Nat) (fun k4 => (vars x.ru).length - k4) (fun k4 a w => (k4 ≤ (vars x.ru).length) ∧ Sl 157 ([(147, .int .i64 (k4 : Int))] ++ KS4) a ∧ Has _ w0 ([] ++ HS4) w) 0 ⟨Nat.zero_le _, hl.addE (t := 147) (hk) rfl (by first | rfl), hh2⟩ ?_
                        clear hk hh2 hl hh a w
                        intro k4 a w hI
                        obtain ⟨hk4, hl, hh⟩ := hI
                        subst hKS4; subst hHS4
                        simp only [List.cons_append, List.nil_append, List.append_nil, List.append_assoc] at hl hh
                        refine c_seq ?_
                        refine c_region ?_
                        refine wl (wl_val hl rfl trivial (r_lss hl rfl rfl) ?_)
                        clear hl a; intro a hl
                        refine w_nil ?_
                        have hl2 := hl.add (t := 3) (hl.add (t := 4) (hl.add (t := 6) (hl.add (t := 9) (hl.add (t := 78) (hl.add (t := 79) (hl.add (t := 80) (hl.add (t := 145) (hl.add (t := 146) (hl.add (t := 147) (hl.add (t := 148) (hl.nil) rfl) rfl) rfl) rfl) rfl) rfl) rfl) rfl) rfl) rfl) rfl; clear hl; have hl := hl2; clear hl2
                        refine then_normal ?_
                        refine c_seq ?_
                        refine c_cond hl rfl ?_ ?_
                        · intro hc11
                          try simp only [decide_eq_true_eq, decide_eq_false_iff_not, Bool.not_eq_true', Bool.not_eq_false', Bool.not_eq_true, Bool.not_eq_false, Bool.and_eq_true, Bool.or_eq_true, Bool.and_eq_false_iff, Bool.or_eq_false_iff, Bool.not_not, ne_eq, Int.not_lt, Int.not_le, Decidable.not_not, beq_iff_eq, bne_iff_ne] at hc11
                          obtain ⟨mv, hmv⟩ := h6.v x hxm
                          obtain ⟨vv, hvv⟩ : ∃ v, (vars x.ru)[k4]? = some v := ⟨_, List.getElem?_eq_getElem (by omega)⟩
                          have hvk : vv = (k4 : Int) := by
                            rw [hmv] at hvv
                            unfold ints at hvv
                            rw [List.getElem?_map] at hvv
                            cases hr9 : (List.range mv)[k4]? with
                            | none => rw [hr9] at hvv; cases hvv
                            | some j9 =>
                              rw [hr9] at hvv
                              have h8 := (List.getElem?_eq_some_iff.1 hr9).2
                              rw [List.getElem_range] at h8
                              injection hvv with hvv
                              rw [← hvv, ← h8]
                          subst hvk
                          obtain ⟨b8, j8, hq8, _, _, hE8⟩ := row_pos hRv (by omega)
                          have hmem8 : (b8, C (fl iI (vars x.ru) ++ j8) 3) ∈ Ev := by rw [hE8]; exact List.mem_singleton.2 rfl
                          rw [hq8] at hl
                          have hd8 := fl_cell1 (f := iI) (g := .int .i64) (fun _ => rfl) hvv j8
                          refine wp_skip ?_
                          refine then_normal ?_
                          refine c_seq ?_
                          refine wp_block ?_
                          refine c_seq ?_
                          refine c_region ?_
                          refine wl (wl_val hl rfl trivial (r_move hl rfl) ?_)
                          clear hl a; intro a hl
                          refine wl (wl_val hl rfl trivial (r_indexS hl rfl rfl slc70 (by omega) (by omega) (by first | (simp only [Int.reduceToNat]; rfl) | exact toNat_add1 _ | exact toNat_add2 _ _ | exact toNat_emod _ _ | exact Int.toNat_natCast _ | rfl)) ?_)
                          clear hl a; intro a hl
                          first | refine wl (w_load hl hh rfl trivial one3 rfl (by repeat (first | exact find_head | apply find_tail | apply find_skip)) (by first | exact fl_cell c4_len hlu rfl j5 | exact fl_cell c4_len hlv rfl j5 | rfl) ?_) | refine wl (wl_val hl rfl trivial (r_load hl rfl one3 (hh.mem _ _ (by repeat (first | exact hmem8 | exact List.mem_append_left _ hmem8 | apply List.mem_cons_of_mem | apply List.mem_append_right))) (List.getElem?_toArray.trans hd8)) ?_)
                          clear hl a; intro a hl
                          refine wl (wl_val hl rfl trivial (r_assign hl rfl) ?_)
                          clear hl a; intro a hl
                          refine wl (wl_val hl rfl trivial (r_assign hl rfl) ?_)
                          clear hl a; intro a hl
                          refine w_nil ?_
                          have hl2 := hl.add (t := 3) (hl.add (t := 4) (hl.add (t := 6) (hl.add (t := 9) (hl.add (t := 18) (hl.add (t := 19) (hl.add (t := 78) (hl.add (t := 79) (hl.add (t := 80) (hl.add (t := 145) (hl.add (t := 146) (hl.add (t := 147) (hl.nil) rfl) rfl) rfl) rfl) rfl) rfl) rfl) rfl) rfl) rfl) rfl) rfl; clear hl; have hl := hl2; clear hl2
                          refine then_normal ?_
                          refine c_seq ?_
                          refine c_region ?_
                          refine wl (wl_val hl rfl trivial (r_move hl rfl) ?_)
                          clear hl a; intro a hl
                          refine wl (wl_val hl rfl trivial (r_move hl rfl) ?_)
                          clear hl a; intro a hl
                          refine wl (wl_val hl rfl trivial (r_neq hl rfl rfl) ?_)
                          clear hl a; intro a hl
                          refine w_nil ?_
                          have hl2 := hl.add (t := 3) (hl.add (t := 4) (hl.add (t := 6) (hl.add (t := 9) (hl.add (t := 78) (hl.add (t := 79) (hl.add (t := 80) (hl.add (t := 145) (hl.add (t := 146) (hl.add (t := 147) (hl.add (t := 154) (hl.nil) rfl) rfl) rfl) rfl) rfl) rfl) rfl) rfl) rfl) rfl) rfl; clear hl; have hl := hl2; clear hl2
                          refine then_normal ?_
                          refine c_cond hl rfl ?_ ?_
                          · intro hc12
                            try simp only [decide_eq_true_eq, decide_eq_false_iff_not, Bool.not_eq_true', Bool.not_eq_false', Bool.not_eq_true, Bool.not_eq_false, Bool.and_eq_true, Bool.or_eq_true, Bool.and_eq_false_iff, Bool.or_eq_false_iff, Bool.not_not, ne_eq, Int.not_lt, Int.not_le, Decidable.not_not, beq_iff_eq, bne_iff_ne] at hc12
                            exfalso; first | contradiction | omega | (exfalso; omega)
                          · intro hc12
                            try simp only [decide_eq_true_eq, decide_eq_false_iff_not, Bool.not_eq_true', Bool.not_eq_false', Bool.not_eq_true, Bool.not_eq_false, Bool.and_eq_true, Bool.or_eq_true, Bool.and_eq_false_iff, Bool.or_eq_false_iff, Bool.not_not, ne_eq, Int.not_lt, Int.not_le, Decidable.not_not, beq_iff_eq, bne_iff_ne] at hc12
                            refine wp_skip ?_
                            refine blk_normal ?_
                            refine then_normal ?_
                            refine c_region ?_
                            first | refine wl (wl_val hl rfl trivial (r_add hl rfl rfl (by simp only [Fits]; omega)) ?_) | refine wl (wl_val hl rfl trivial (r_addW hl rfl rfl) ?_)
                            clear hl a; intro a hl
                            refine wl (wl_val hl rfl trivial (r_move hl rfl) ?_)
                            clear hl a; intro a hl
                            refine w_nil ?_
                            have hl2 := hl.add (t := 3) (hl.add (t := 4) (hl.add (t := 6) (hl.add (t := 9) (hl.add (t := 78) (hl.add (t := 79) (hl.add (t := 80) (hl.add (t := 145) (hl.add (t := 146) (hl.add (t := 147) (hl.nil) rfl) rfl) rfl) rfl) rfl) rfl) rfl) rfl) rfl) rfl; clear hl; have hl := hl2; clear hl2
                            refine then_normal ?_
                            refine ⟨k4 + 1, (by omega), (by omega), hl.addE (t := 147) (hl.addE (t := 3) (hl.addE (t := 4) (hl.addE (t := 6) (hl.addE (t := 9) (hl.addE (t := 78) (hl.addE (t := 79) (hl.addE (t := 80) (hl.addE (t := 145) (hl.addE (t := 146) (hl.nil) rfl (by first | rfl | exact congrArg (Value.int .i64) (show (k4 : Int) + 1 = ((k4 + 1 : Nat) : Int) by omega) | (rw [hq8]))) rfl (by first | rfl | exact congrArg (Value.int .i64) (show (k4 : Int) + 1 = ((k4 + 1 : Nat) : Int) by omega) | (rw [hq8]))) rfl (by first | rfl | exact congrArg (Value.int .i64) (show (k4 : Int) + 1 = ((k4 + 1 : Nat) : Int) by omega) | (rw [hq8]))) rfl (by first | rfl | exact congrArg (Value.int .i64) (show (k4 : Int) + 1 = ((k4 + 1 : Nat) : Int) by omega) | (rw [hq8]))) rfl (by first | rfl | exact congrArg (Value.int .i64) (show (k4 : Int) + 1 = ((k4 + 1 : Nat) : Int) by omega) | (rw [hq8]))) rfl (by first | rfl | exact congrArg (Value.int .i64) (show (k4 : Int) + 1 = ((k4 + 1 : Nat) : Int) by omega) | (rw [hq8]))) rfl (by first | rfl | exact congrArg (Value.int .i64) (show (k4 : Int) + 1 = ((k4 + 1 : Nat) : Int) by omega) | (rw [hq8]))) rfl (by first | rfl | exact congrArg (Value.int .i64) (show (k4 : Int) + 1 = ((k4 + 1 : Nat) : Int) by omega) | (rw [hq8]))) rfl (by first | rfl | exact congrArg (Value.int .i64) (show (k4 : Int) + 1 = ((k4 + 1 : Nat) : Int) by omega) | (rw [hq8]))) rfl (by first | rfl | exact congrArg (Value.int .i64) (show (k4 : Int) + 1 = ((k4 + 1 : Nat) : Int) by omega) | (rw [hq8])), hh.keep (by repeat (first | exact keeps_nil | apply keeps_cons (by repeat (first | exact find_head | apply find_tail | apply find_skip)) (by first  | rfl) | exact keeps_self | exact keeps_left | apply keeps_app | apply keeps_mv | apply keeps_skip))⟩
                        · intro hc11
                          try simp only [decide_eq_true_eq, decide_eq_false_iff_not, Bool.not_eq_true', Bool.not_eq_false', Bool.not_eq_true, Bool.not_eq_false, Bool.and_eq_true, Bool.or_eq_true, Bool.and_eq_false_iff, Bool.or_eq_false_iff, Bool.not_not, ne_eq, Int.not_lt, Int.not_le, Decidable.not_not, beq_iff_eq, bne_iff_ne] at hc11
                          refine wp_exit ?_
                          refine then_exit ?_
                          refine then_exit ?_
                          refine blk_exit ?_
                          refine blk_normal ?_
                          refine then_normal ?_
                          refine c_region ?_
                          first | refine wl (wl_val hl rfl trivial (r_add hl rfl rfl (by simp only [Fits]; omega)) ?_) | refine wl (wl_val hl rfl trivial (r_addW hl rfl rfl) ?_)
                          clear hl a; intro a hl
                          refine wl (wl_val hl rfl trivial (r_move hl rfl) ?_)
                          clear hl a; intro a hl
                          refine w_nil ?_
                          have hl2 := hl.add (t := 3) (hl.add (t := 4) (hl.add (t := 6) (hl.add (t := 9) (hl.add (t := 78) (hl.add (t := 79) (hl.add (t := 80) (hl.nil) rfl) rfl) rfl) rfl) rfl) rfl) rfl; clear hl; have hl := hl2; clear hl2
                          refine then_normal ?_
                          refine ⟨i2 + 1, (by omega), (by omega), hl.addE (t := 80) (hl.addE (t := 3) (hl.addE (t := 4) (hl.addE (t := 6) (hl.addE (t := 9) (hl.addE (t := 78) (hl.addE (t := 79) (hl.nil) rfl (by first | rfl | exact congrArg (Value.int .i64) (show (i2 : Int) + 1 = ((i2 + 1 : Nat) : Int) by omega) | (rw [hq2]))) rfl (by first | rfl | exact congrArg (Value.int .i64) (show (i2 : Int) + 1 = ((i2 + 1 : Nat) : Int) by omega) | (rw [hq2]))) rfl (by first | rfl | exact congrArg (Value.int .i64) (show (i2 : Int) + 1 = ((i2 + 1 : Nat) : Int) by omega) | (rw [hq2]))) rfl (by first | rfl | exact congrArg (Value.int .i64) (show (i2 : Int) + 1 = ((i2 + 1 : Nat) : Int) by omega) | (rw [hq2]))) rfl (by first | rfl | exact congrArg (Value.int .i64) (show (i2 : Int) + 1 = ((i2 + 1 : Nat) : Int) by omega) | (rw [hq2]))) rfl (by first | rfl | exact congrArg (Value.int .i64) (show (i2 : Int) + 1 = ((i2 + 1 : Nat) : Int) by omega) | (rw [hq2]))) rfl (by first | rfl | exact congrArg (Value.int .i64) (show (i2 : Int) + 1 = ((i2 + 1 : Nat) : Int) by omega) | (rw [hq2])), hh.keep (by repeat (first | exact keeps_nil | apply keeps_cons (by repeat (first | exact find_head | apply find_tail | apply find_skip)) (by first  | (rw [hq2]) | rfl) | exact keeps_self | exact keeps_left | apply keeps_app | apply keeps_mv | apply keeps_skip))⟩
                  · intro hg4; clear hl; intro hl
                    try simp only [decide_eq_true_eq, decide_eq_false_iff_not, Bool.not_eq_true', Bool.not_eq_false', Bool.not_eq_true, Bool.not_eq_false, Bool.and_eq_true, Bool.or_eq_true, Bool.and_eq_false_iff, Bool.or_eq_false_iff, Bool.not_not, ne_eq, Int.not_lt, Int.not_le, Decidable.not_not, beq_iff_eq, bne_iff_ne] at hg4
                    refine wl (wl_skip hl rfl ⟨_, _, rfl, rfl, rfl⟩ ?_)
                    clear hl a; intro a hl
                    refine wl (wl_skip hl rfl ⟨_, _, rfl, rfl, rfl⟩ ?_)
                    clear hl a; intro a hl
                    refine wl (wl_skip hl rfl ⟨_, _, rfl, rfl, rfl⟩ ?_)
                    clear hl a; intro a hl
                    refine wl (wl_skip hl rfl ⟨_, _, rfl, rfl, rfl⟩ ?_)
                    clear hl a; intro a hl
                    refine wl (wl_val hl rfl ⟨_, _, rfl, rfl, rfl⟩ (r_pickF hl rfl rfl) ?_)
                    clear hl a; intro a hl
                    refine wl (wl_val hl rfl trivial (r_pickF hl rfl rfl) ?_)
                    clear hl a; intro a hl
                    refine w_nil ?_
                    have hl2 := hl.add (t := 3) (hl.add (t := 4) (hl.add (t := 6) (hl.add (t := 9) (hl.add (t := 13) (hl.add (t := 78) (hl.add (t := 79) (hl.add (t := 80) (hl.add (t := 122) (hl.nil) rfl) rfl) rfl) rfl) rfl) rfl) rfl) rfl) rfl; clear hl; have hl := hl2; clear hl2
                    refine then_normal ?_
                    refine c_condF hl rfl ?_
                    refine wp_skip ?_
                    refine then_normal ?_
                    refine c_seq ?_
                    refine c_seq ?_
                    refine c_region ?_
                    refine wl (wl_val hl rfl trivial (r_assign hl rfl) ?_)
                    clear hl a; intro a hl
                    refine w_nil ?_
                    have hl2 := hl.add (t := 3) (hl.add (t := 4) (hl.add (t := 6) (hl.add (t := 9) (hl.add (t := 13) (hl.add (t := 17) (hl.add (t := 78) (hl.add (t := 79) (hl.add (t := 80) (hl.nil) rfl) rfl) rfl) rfl) rfl) rfl) rfl) rfl) rfl; clear hl; have hl := hl2; clear hl2
                    refine then_normal ?_
                    refine wp_block ?_
                    obtain ⟨KS3, hKS3, hk⟩ := (hl.add (t := 3) (hl.add (t := 4) (hl.add (t := 6) (hl.add (t := 9) (hl.add (t := 13) (hl.add (t := 78) (hl.add (t := 79) (hl.add (t := 80) (hl.nil) rfl) rfl) rfl) rfl) rfl) rfl) rfl) rfl).name
                    obtain ⟨HS3, hHS3, hh2⟩ := hh.name (keeps_nil)
                    refine c_loop (α := Nat) (fun k3 => x.ls.length - k3) (fun k3 a w => (1 ≤ k3) ∧ Sl 157 ([(17, .int .i64 (k3 : Int))] ++ KS3) a ∧ Has _ w0 ([] ++ HS3) w) 1 ⟨Nat.le_refl _, hl.addE (t := 17) (hk) rfl (by first | rfl), hh2⟩ ?_
                    clear hk hh2 hl hh a w
                    intro k3 a w hI
                    obtain ⟨hk3, hl, hh⟩ := hI
                    subst hKS3; subst hHS3
                    simp only [List.cons_append, List.nil_append, List.append_nil, List.append_assoc] at hl hh
                    refine c_seq ?_
                    refine c_seq ?_
                    refine c_region ?_
                    refine wl (wl_val hl rfl trivial (r_move hl rfl) ?_)
                    clear hl a; intro a hl
                    refine wl (wl_val hl rfl trivial (r_field hl rfl fld35_1) ?_)
                    clear hl a; intro a hl
                    first | refine wl (w_load hl hh rfl trivial one33 rfl (by repeat (first | exact find_head | apply find_tail | apply find_skip)) (by first | exact fl_cell c4_len hlu rfl j5 | exact fl_cell c4_len hlv rfl j5 | rfl) ?_) | refine wl (wl_val hl rfl trivial (r_load hl rfl one33 (hh.mem _ _ (by repeat (first | exact hmem8 | exact List.mem_append_left _ hmem8 | apply List.mem_cons_of_mem | apply List.mem_append_right))) (List.getElem?_toArray.trans hd8)) ?_)
                    clear hl a; intro a hl
                    refine wl (wl_val hl rfl trivial (r_lenS hl rfl slc33) ?_)
                    clear hl a; intro a hl
                    refine wl (wl_val hl rfl trivial (r_lss hl rfl rfl) ?_)
                    clear hl a; intro a hl
                    refine w_nil ?_
                    have hl2 := hl.add (t := 3) (hl.add (t := 4) (hl.add (t := 6) (hl.add (t := 9) (hl.add (t := 13) (hl.add (t := 17) (hl.add (t := 78) (hl.add (t := 79) (hl.add (t := 80) (hl.add (t := 127) (hl.nil) rfl) rfl) rfl) rfl) rfl) rfl) rfl) rfl) rfl) rfl; clear hl; have hl := hl2; clear hl2
                    refine then_normal ?_
                    refine c_cond hl rfl ?_ ?_
                    · intro hc9
                      try simp only [decide_eq_true_eq, decide_eq_false_iff_not, Bool.not_eq_true', Bool.not_eq_false', Bool.not_eq_true, Bool.not_eq_false, Bool.and_eq_true, Bool.or_eq_true, Bool.and_eq_false_iff, Bool.or_eq_false_iff, Bool.not_not, ne_eq, Int.not_lt, Int.not_le, Decidable.not_not, beq_iff_eq, bne_iff_ne] at hc9
                      obtain ⟨kp, hkp⟩ : ∃ k, k3 = k + 1 := ⟨k3 - 1, by omega⟩
                      obtain ⟨lu, hlu⟩ : ∃ u, x.ls[kp]? = some u := ⟨_, List.getElem?_eq_getElem (by omega)⟩
                      obtain ⟨lv, hlv⟩ : ∃ v, x.ls[k3]? = some v := ⟨_, List.getElem?_eq_getElem (by omega)⟩
                      have hkk := pw_at (h6.k x hxm) (map_at LV.l hlu) (map_at LV.l hlv) (by omega)
                      obtain ⟨b5, j5, hq5, _, _, hE5⟩ := row_pos hxo.bd (by omega)
                      rw [hq5] at hh
                      refine wp_skip ?_
                      refine then_normal ?_
                      refine c_seq ?_
                      refine wp_block ?_
                      refine c_seq ?_
                      refine c_draw [(k13, C [.string x.p, .slice x.hp x.a.length x.hc, .slice (some ⟨b5, 0, none⟩) x.ls.length x.bc] 35), (b5, C (fl LV.c4 x.ls ++ j5) 44)] [13] mixed hh ?_
                      clear hh w; intro w hh
                      have hM : Mem [(k13, C [.string x.p, .slice x.hp x.a.length x.hc, .slice (some ⟨b5, 0, none⟩) x.ls.length x.bc] 35), (b5, C (fl LV.c4 x.ls ++ j5) 44)] w := (fun b o m => by simp only [List.mem_cons, List.not_mem_nil, or_false] at m; rcases m with m | m <;> cases m; exact hh.mem _ _ (Find.mem (by repeat (first | exact find_head | apply find_tail | apply find_skip))); exact RV.mb ((hGA.mem (memK hh (by repeat (first | exact keeps_nil | apply keeps_cons (by repeat (first | exact find_head | apply find_tail | apply find_skip)) (by first  | rfl) | exact keeps_self | exact keeps_left | apply keeps_app | apply keeps_mv | apply keeps_skip))) (memK hh (by repeat (first | exact keeps_nil | apply keeps_cons (by repeat (first | exact find_head | apply find_tail | apply find_skip)) (by first  | rfl) | exact keeps_self | exact keeps_left | apply keeps_app | apply keeps_mv | apply keeps_skip))) (memK hh (by repeat (first | exact keeps_nil | apply keeps_cons (by repeat (first | exact find_head | apply find_tail | apply find_skip)) (by first  | rfl) | exact keeps_self | exact keeps_left | apply keeps_app | apply keeps_mv | apply keeps_skip)))).q x hxm) _ _ (by rw [hE5]; exact List.mem_singleton.2 rfl))
                      refine d_take (i := 0) hl rfl (by kernel_rfl) (by kernel_rfl) (by kernel_rfl) (by kernel_rfl) (by kernel_rfl) rfl trivial (fun _ _ _ h => h) hM (fun w hC => r_field hl rfl fld35_1) rfl ?_
                      clear hl a; intro a hl
                      refine d_take (i := 1) hl rfl (by kernel_rfl) (by kernel_rfl) (by kernel_rfl) (by kernel_rfl) (by kernel_rfl) rfl trivial (fun _ _ _ h => h) hM (fun w hC => r_loadC hl rfl one33 hC (by repeat (first | exact find_head | apply find_tail | apply find_skip)) (by first | exact fl_cell c4_len hlu rfl j5 | exact fl_cell c4_len hlv rfl j5 | rfl)) rfl ?_
                      clear hl a; intro a hl
                      refine d_take (i := 2) hl rfl (by kernel_rfl) (by kernel_rfl) (by kernel_rfl) (by kernel_rfl) (by kernel_rfl) rfl trivial (fun _ _ _ h => h) hM (fun w hC => r_move hl rfl) rfl ?_
                      clear hl a; intro a hl
                      first | refine d_take (i := 3) hl rfl (by kernel_rfl) (by kernel_rfl) (by kernel_rfl) (by kernel_rfl) (by kernel_rfl) rfl trivial (fun _ _ _ h => h) hM (fun w hC => r_sub hl rfl rfl (by simp only [Fits]; omega)) rfl ?_ | refine d_take (i := 3) hl rfl (by kernel_rfl) (by kernel_rfl) (by kernel_rfl) (by kernel_rfl) (by kernel_rfl) rfl trivial (fun _ _ _ h => h) hM (fun w hC => r_subW hl rfl rfl) rfl ?_
                      clear hl a; intro a hl
                      rw [show (k3 : Int) - 1 = (kp : Int) by omega] at hl
                      refine d_take (i := 4) hl rfl (by kernel_rfl) (by kernel_rfl) (by kernel_rfl) (by kernel_rfl) (by kernel_rfl) rfl trivial (fun _ _ _ h => h) hM (fun w hC => r_indexS hl rfl rfl slc33 (by omega) (by omega) (by first | (simp only [Int.reduceToNat]; rfl) | exact toNat_add1 _ | exact toNat_add2 _ _ | exact toNat_emod _ _ | exact Int.toNat_natCast _ | rfl)) rfl ?_
                      clear hl a; intro a hl
                      refine d_take (i := 5) hl rfl (by kernel_rfl) (by kernel_rfl) (by kernel_rfl) (by kernel_rfl) (by kernel_rfl) rfl trivial (fun _ _ _ h => h) hM (fun w hC => r_field hl rfl fld44_0) rfl ?_
                      clear hl a; intro a hl
                      refine d_take (i := 6) hl rfl (by kernel_rfl) (by kernel_rfl) (by kernel_rfl) (by kernel_rfl) (by kernel_rfl) rfl trivial (fun _ _ _ h => h) hM (fun w hC => r_loadC hl rfl one41 hC (by repeat (first | exact find_head | apply find_tail | apply find_skip)) (by first | exact fl_cell c4_len hlu rfl j5 | exact fl_cell c4_len hlv rfl j5 | rfl)) rfl ?_
                      clear hl a; intro a hl
                      refine d_take (i := 7) hl rfl (by kernel_rfl) (by kernel_rfl) (by kernel_rfl) (by kernel_rfl) (by kernel_rfl) rfl trivial (fun _ _ _ h => h) hM (fun w hC => r_field hl rfl fld35_1) rfl ?_
                      clear hl a; intro a hl
                      refine d_take (i := 8) hl rfl (by kernel_rfl) (by kernel_rfl) (by kernel_rfl) (by kernel_rfl) (by kernel_rfl) rfl trivial (fun _ _ _ h => h) hM (fun w hC => r_loadC hl rfl one33 hC (by repeat (first | exact find_head | apply find_tail | apply find_skip)) (by first | exact fl_cell c4_len hlu rfl j5 | exact fl_cell c4_len hlv rfl j5 | rfl)) rfl ?_
                      clear hl a; intro a hl
                      refine d_take (i := 9) hl rfl (by kernel_rfl) (by kernel_rfl) (by kernel_rfl) (by kernel_rfl) (by kernel_rfl) rfl trivial (fun _ _ _ h => h) hM (fun w hC => r_move hl rfl) rfl ?_
                      clear hl a; intro a hl
                      refine d_take (i := 10) hl rfl (by kernel_rfl) (by kernel_rfl) (by kernel_rfl) (by kernel_rfl) (by kernel_rfl) rfl trivial (fun _ _ _ h => h) hM (fun w hC => r_indexS hl rfl rfl slc33 (by omega) (by omega) (by first | (simp only [Int.reduceToNat]; rfl) | exact toNat_add1 _ | exact toNat_add2 _ _ | exact toNat_emod _ _ | exact Int.toNat_natCast _ | rfl)) rfl ?_
                      clear hl a; intro a hl
                      refine d_take (i := 11) hl rfl (by kernel_rfl) (by kernel_rfl) (by kernel_rfl) (by kernel_rfl) (by kernel_rfl) rfl trivial (fun _ _ _ h => h) hM (fun w hC => r_field hl rfl fld44_0) rfl ?_
                      clear hl a; intro a hl
                      refine d_take (i := 12) hl rfl (by kernel_rfl) (by kernel_rfl) (by kernel_rfl) (by kernel_rfl) (by kernel_rfl) rfl trivial (fun _ _ _ h => h) hM (fun w hC => r_loadC hl rfl one41 hC (by repeat (first | exact find_head | apply find_tail | apply find_skip)) (by first | exact fl_cell c4_len hlu rfl j5 | exact fl_cell c4_len hlv rfl j5 | rfl)) rfl ?_
                      clear hl a; intro a hl
                      refine d_takeL (i := 13) hl rfl (by kernel_rfl) (by kernel_rfl) (by kernel_rfl) (by kernel_rfl) (by kernel_rfl) rfl trivial (fun _ _ _ h => h) (fun w => r_gtr hl rfl rfl) rfl ?_
                      clear hl a; intro a hl
                      refine d_done (by kernel_rfl) ?_
                      try clear hM
                      have hl2 := hl.add (t := 3) (hl.add (t := 4) (hl.add (t := 6) (hl.add (t := 9) (hl.add (t := 13) (hl.add (t := 17) (hl.add (t := 78) (hl.add (t := 79) (hl.add (t := 80) (hl.add (t := 143) (hl.nil) rfl) rfl) rfl) rfl) rfl) rfl) rfl) rfl) rfl) rfl; clear hl; have hl := hl2; clear hl2
                      refine then_normal ?_
                      refine c_cond hl rfl ?_ ?_
                      · intro hc10
                        try simp only [decide_eq_true_eq, decide_eq_false_iff_not, Bool.not_eq_true', Bool.not_eq_false', Bool.not_eq_true, Bool.not_eq_false, Bool.and_eq_true, Bool.or_eq_true, Bool.and_eq_false_iff, Bool.or_eq_false_iff, Bool.not_not, ne_eq, Int.not_lt, Int.not_le, Decidable.not_not, beq_iff_eq, bne_iff_ne] at hc10
                        exfalso; first | contradiction | omega | (exfalso; omega)
                      · intro hc10
                        try simp only [decide_eq_true_eq, decide_eq_false_iff_not, Bool.not_eq_true', Bool.not_eq_false', Bool.not_eq_true, Bool.not_eq_false, Bool.and_eq_true, Bool.or_eq_true, Bool.and_eq_false_iff, Bool.or_eq_false_iff, Bool.not_not, ne_eq, Int.not_lt, Int.not_le, Decidable.not_not, beq_iff_eq, bne_iff_ne] at hc10
                        refine wp_skip ?_
                        refine blk_normal ?_
                        refine then_normal ?_
                        refine c_region ?_
                        refine wl (wl_val hl rfl trivial (r_move hl rfl) ?_)
                        clear hl a; intro a hl
                        first | refine wl (wl_val hl rfl trivial (r_add hl rfl rfl (by simp only [Fits]; omega)) ?_) | refine wl (wl_val hl rfl trivial (r_addW hl rfl rfl) ?_)
                        clear hl a; intro a hl
                        refine wl (wl_val hl rfl trivial (r_assign hl rfl) ?_)
                        clear hl a; intro a hl
                        refine w_nil ?_
                        have hl2 := hl.add (t := 3) (hl.add (t := 4) (hl.add (t := 6) (hl.add (t := 9) (hl.add (t := 13) (hl.add (t := 17) (hl.add (t := 78) (hl.add (t := 79) (hl.add (t := 80) (hl.nil) rfl) rfl) rfl) rfl) rfl) rfl) rfl) rfl) rfl; clear hl; have hl := hl2; clear hl2
                        refine then_normal ?_
                        refine ⟨k3 + 1, (by omega), (by omega), hl.addE (t := 17) (hl.addE (t := 3) (hl.addE (t := 4) (hl.addE (t := 6) (hl.addE (t := 9) (hl.addE (t := 13) (hl.addE (t := 78) (hl.addE (t := 79) (hl.addE (t := 80) (hl.nil) rfl (by first | rfl | exact congrArg (Value.int .i64) (show (k3 : Int) + 1 = ((k3 + 1 : Nat) : Int) by omega) | (rw [hq5]))) rfl (by first | rfl | exact congrArg (Value.int .i64) (show (k3 : Int) + 1 = ((k3 + 1 : Nat) : Int) by omega) | (rw [hq5]))) rfl (by first | rfl | exact congrArg (Value.int .i64) (show (k3 : Int) + 1 = ((k3 + 1 : Nat) : Int) by omega) | (rw [hq5]))) rfl (by first | rfl | exact congrArg (Value.int .i64) (show (k3 : Int) + 1 = ((k3 + 1 : Nat) : Int) by omega) | (rw [hq5]))) rfl (by first | rfl | exact congrArg (Value.int .i64) (show (k3 : Int) + 1 = ((k3 + 1 : Nat) : Int) by omega) | (rw [hq5]))) rfl (by first | rfl | exact congrArg (Value.int .i64) (show (k3 : Int) + 1 = ((k3 + 1 : Nat) : Int) by omega) | (rw [hq5]))) rfl (by first | rfl | exact congrArg (Value.int .i64) (show (k3 : Int) + 1 = ((k3 + 1 : Nat) : Int) by omega) | (rw [hq5]))) rfl (by first | rfl | exact congrArg (Value.int .i64) (show (k3 : Int) + 1 = ((k3 + 1 : Nat) : Int) by omega) | (rw [hq5]))) rfl (by first | rfl | exact congrArg (Value.int .i64) (show (k3 : Int) + 1 = ((k3 + 1 : Nat) : Int) by omega) | (rw [hq5])), hh.keep (by repeat (first | exact keeps_nil | apply keeps_cons (by repeat (first | exact find_head | apply find_tail | apply find_skip)) (by first  | (rw [hq5]) | rfl) | exact keeps_self | exact keeps_left | apply keeps_app | apply keeps_mv | apply keeps_skip))⟩
                    · intro hc9
                      try simp only [decide_eq_true_eq, decide_eq_false_iff_not, Bool.not_eq_true', Bool.not_eq_false', Bool.not_eq_true, Bool.not_eq_false, Bool.and_eq_true, Bool.or_eq_true, Bool.and_eq_false_iff, Bool.or_eq_false_iff, Bool.not_not, ne_eq, Int.not_lt, Int.not_le, Decidable.not_not, beq_iff_eq, bne_iff_ne] at hc9
                      refine wp_exit ?_
                      refine then_exit ?_
                      refine then_exit ?_
                      refine blk_exit ?_
                      refine then_normal ?_
                      refine c_seq ?_
                      refine c_region ?_
                      first | refine wl (w_loadA hl hh rfl trivial agg35 rfl (by repeat (first | exact find_head | apply find_tail | apply find_skip)) (by first | (simp only [List.getElem?_cons_zero, List.getElem?_cons_succ, Value.cells, List.take_zero, List.take_succ_cons, List.take_nil, List.drop_zero, List.drop_succ_cons, List.drop_nil, List.length_cons, List.length_nil, List.cons_append, List.nil_append, List.append_nil, Nat.zero_add, Nat.add_zero, Nat.reduceAdd, Nat.reduceBEq, Nat.reduceEqDiff, Nat.ble, BEq.rfl, Bool.and_true, Bool.and_self, cond_true, beq_self_eq_true]; rfl)) (by first | rfl | (simp; done)) ?_) | refine wl (w_loadRA hl hh rfl trivial agg35 rfl hpre.2 (by simp) rfl rfl ?_) | refine wl (wl_val hl rfl trivial (r_loadA hl rfl agg35 (hh.mem _ _ (by repeat (first | exact hmem1 | exact List.mem_append_left _ hmem1 | apply List.mem_cons_of_mem | apply List.mem_append_right))) hd1 rfl) ?_) | refine wl (wl_val hl rfl trivial (r_loadA hl rfl agg35 (hh.mem _ _ (by repeat (first | exact hmem2 | exact List.mem_append_left _ hmem2 | apply List.mem_cons_of_mem | apply List.mem_append_right))) hd2 rfl) ?_) | refine wl (wl_val hl rfl trivial (r_loadA hl rfl agg35 (hh.mem _ _ (by repeat (first | exact hmem2 | exact List.mem_append_left _ hmem2 | apply List.mem_cons_of_mem | apply List.mem_append_right))) hd3 rfl) ?_) | refine wl (wl_val hl rfl trivial (r_loadA hl rfl agg35 (hh.mem _ _ (by repeat (first | exact hmem7 | exact List.mem_append_left _ hmem7 | apply List.mem_cons_of_mem | apply List.mem_append_right))) hd7 rfl) ?_)
                      clear hl a; intro a hl
                      refine wl (w_call hl hh rfl trivial rfl cal25 rfl (vars_spec x hxo) (by repeat (first | exact keeps_nil | apply keeps_cons (by repeat (first | exact find_head | apply find_tail | apply find_skip)) (by first  | rfl) | exact keeps_self | exact keeps_left | apply keeps_app | apply keeps_mv | apply keeps_skip)) ((hGA.mem (memK hh (by repeat (first | exact keeps_nil | apply keeps_cons (by repeat (first | exact find_head | apply find_tail | apply find_skip)) (by first  | rfl) | exact keeps_self | exact keeps_left | apply keeps_app | apply keeps_mv | apply keeps_skip))) (memK hh (by repeat (first | exact keeps_nil | apply keeps_cons (by repeat (first | exact find_head | apply find_tail | apply find_skip)) (by first  | rfl) | exact keeps_self | exact keeps_left | apply keeps_app | apply keeps_mv | apply keeps_skip))) (memK hh (by repeat (first | exact keeps_nil | apply keeps_cons (by repeat (first | exact find_head | apply find_tail | apply find_skip)) (by first  | rfl) | exact keeps_self | exact keeps_left | apply keeps_app | apply keeps_mv | apply keeps_skip)))).q x hxm) ?_)
                      clear hl hh a w; intro vc Fc a w hR hl hh
                      obtain ⟨vp, vc, rfl, hRv⟩ := hR
                      try simp only [List.cons_append, List.nil_append, List.append_assoc, List.append_nil] at hh
                      generalize Fc = Ev at hh hRv
                      replace hh := hh.comm
                      simp only [List.cons_append, List.nil_append, List.append_nil, List.append_assoc] at hh
                      refine wl (wl_val hl rfl trivial (r_lenS hl rfl slc70) ?_)
                      clear hl a; intro a hl
                      refine wl (wl_val hl rfl trivial (r_move hl rfl) ?_)
                      clear hl a; intro a hl
                      refine w_nil ?_
                      have hl2 := hl.add (t := 3) (hl.add (t := 4) (hl.add (t := 6) (hl.add (t := 9) (hl.add (t := 78) (hl.add (t := 79) (hl.add (t := 80) (hl.add (t := 145) (hl.add (t := 146) (hl.add (t := 147) (hl.nil) rfl) rfl) rfl) rfl) rfl) rfl) rfl) rfl) rfl) rfl; clear hl; have hl := hl2; clear hl2
                      refine then_normal ?_
                      refine wp_block ?_
                      obtain ⟨KS4, hKS4, hk⟩ := (hl.add (t := 3) (hl.add (t := 4) (hl.add (t := 6) (hl.add (t := 9) (hl.add (t := 78) (hl.add (t := 79) (hl.add (t := 80) (hl.add (t := 145) (hl.add (t := 146) (hl.nil) rfl) rfl) rfl) rfl) rfl) rfl) rfl) rfl) rfl).name
                      obtain ⟨HS4, hHS4, hh2⟩ := hh.name (keeps_nil)
                      refine c_loop (α := Nat) (fun k4 => (vars x.ru).length - k4) (fun k4 a w => (k4 ≤ (vars x.ru).length) ∧ Sl 157 ([(147, .int .i64 (k4 : Int))] ++ KS4) a ∧ Has _ w0 ([] ++ HS4) w) 0 ⟨Nat.zero_le _, hl.addE (t := 147) (hk) rfl (by first | rfl), hh2⟩ ?_
                      clear hk hh2 hl hh a w
                      intro k4 a w hI
                      obtain ⟨hk4, hl, hh⟩ := hI
                      subst hKS4; subst hHS4
                      simp only [List.cons_append, List.nil_append, List.append_nil, List.append_assoc] at hl hh
                      refine c_seq ?_
                      refine c_region ?_
                      refine wl (wl_val hl rfl trivial (r_lss hl rfl rfl) ?_)
                      clear hl a; intro a hl
                      refine w_nil ?_
                      have hl2 := hl.add (t := 3) (hl.add (t := 4) (hl.add (t := 6) (hl.add (t := 9) (hl.add (t := 78) (hl.add (t := 79) (hl.add (t := 80) (hl.add (t := 145) (hl.add (t := 146) (hl.add (t := 147) (hl.add (t := 148) (hl.nil) rfl) rfl) rfl) rfl) rfl) rfl) rfl) rfl) rfl) rfl) rfl; clear hl; have hl := hl2; clear hl2
                      refine then_normal ?_
                      refine c_seq ?_
                      refine c_cond hl rfl ?_ ?_
                      · intro hc11
                        try simp only [decide_eq_true_eq, decide_eq_false_iff_not, Bool.not_eq_true', Bool.not_eq_false', Bool.not_eq_true, Bool.not_eq_false, Bool.and_eq_true, Bool.or_eq_true, Bool.and_eq_false_iff, Bool.or_eq_false_iff, Bool.not_not, ne_eq, Int.not_lt, Int.not_le, Decidable.not_not, beq_iff_eq, bne_iff_ne] at hc11
                        obtain ⟨mv, hmv⟩ := h6.v x hxm
                        obtain ⟨vv, hvv⟩ : ∃ v, (vars x.ru)[k4]? = some v := ⟨_, List.getElem?_eq_getElem (by omega)⟩
                        have hvk : vv = (k4 : Int) := by
                          rw [hmv] at hvv
                          unfold ints at hvv
                          rw [List.getElem?_map] at hvv
                          cases hr9 : (List.range mv)[k4]? with
                          | none => rw [hr9] at hvv; cases hvv
                          | some j9 =>
                            rw [hr9] at hvv
                            have h8 := (List.getElem?_eq_some_iff.1 hr9).2
                            rw [List.getElem_range] at h8
                            injection hvv with hvv
                            rw [← hvv, ← h8]
                        subst hvk
                        obtain ⟨b8, j8, hq8, _, _, hE8⟩ := row_pos hRv (by omega)
                        have hmem8 : (b8, C (fl iI (vars x.ru) ++ j8) 3) ∈ Ev := by rw [hE8]; exact List.mem_singleton.2 rfl
                        rw [hq8] at hl
                        have hd8 := fl_cell1 (f := iI) (g := .int .i64) (fun _ => rfl) hvv j8
                        refine wp_skip ?_
                        refine then_normal ?_
                        refine c_seq ?_
                        refine wp_block ?_
                        refine c_seq ?_
                        refine c_region ?_
                        refine wl (wl_val hl rfl trivial (r_move hl rfl) ?_)
                        clear hl a; intro a hl
                        refine wl (wl_val hl rfl trivial (r_indexS hl rfl rfl slc70 (by omega) (by omega) (by first | (simp only [Int.reduceToNat]; rfl) | exact toNat_add1 _ | exact toNat_add2 _ _ | exact toNat_emod _ _ | exact Int.toNat_natCast _ | rfl)) ?_)
                        clear hl a; intro a hl
                        first | refine wl (w_load hl hh rfl trivial one3 rfl (by repeat (first | exact find_head | apply find_tail | apply find_skip)) (by first | exact fl_cell c4_len hlu rfl j5 | exact fl_cell c4_len hlv rfl j5 | rfl) ?_) | refine wl (wl_val hl rfl trivial (r_load hl rfl one3 (hh.mem _ _ (by repeat (first | exact hmem8 | exact List.mem_append_left _ hmem8 | apply List.mem_cons_of_mem | apply List.mem_append_right))) (List.getElem?_toArray.trans hd8)) ?_)
                        clear hl a; intro a hl
                        refine wl (wl_val hl rfl trivial (r_assign hl rfl) ?_)
                        clear hl a; intro a hl
                        refine wl (wl_val hl rfl trivial (r_assign hl rfl) ?_)
                        clear hl a; intro a hl
                        refine w_nil ?_
                        have hl2 := hl.add (t := 3) (hl.add (t := 4) (hl.add (t := 6) (hl.add (t := 9) (hl.add (t := 18) (hl.add (t := 19) (hl.add (t := 78) (hl.add (t := 79) (hl.add (t := 80) (hl.add (t := 145) (hl.add (t := 146) (hl.add (t := 147) (hl.nil) rfl) rfl) rfl) rfl) rfl) rfl) rfl) rfl) rfl) rfl) rfl) rfl; clear hl; have hl := hl2; clear hl2
                        refine then_normal ?_
                        refine c_seq ?_
                        refine c_region ?_
                        refine wl (wl_val hl rfl trivial (r_move hl rfl) ?_)
                        clear hl a; intro a hl
                        refine wl (wl_val hl rfl trivial (r_move hl rfl) ?_)
                        clear hl a; intro a hl
                        refine wl (wl_val hl rfl trivial (r_neq hl rfl rfl) ?_)
                        clear hl a; intro a hl
                        refine w_nil ?_
                        have hl2 := hl.add (t := 3) (hl.add (t := 4) (hl.add (t := 6) (hl.add (t := 9) (hl.add (t := 78) (hl.add (t := 79) (hl.add (t := 80) (hl.add (t := 145) (hl.add (t := 146) (hl.add (t := 147) (hl.add (t := 154) (hl.nil) rfl) rfl) rfl) rfl) rfl) rfl) rfl) rfl) rfl) rfl) rfl; clear hl; have hl := hl2; clear hl2
                        refine then_normal ?_
                        refine c_cond hl rfl ?_ ?_
                        · intro hc12
                          try simp only [decide_eq_true_eq, decide_eq_false_iff_not, Bool.not_eq_true', Bool.not_eq_false', Bool.not_eq_true, Bool.not_eq_false, Bool.and_eq_true, Bool.or_eq_true, Bool.and_eq_false_iff, Bool.or_eq_false_iff, Bool.not_not, ne_eq, Int.not_lt, Int.not_le, Decidable.not_not, beq_iff_eq, bne_iff_ne] at hc12
                          exfalso; first | contradiction | omega | (exfalso; omega)
                        · intro hc12
                          try simp only [decide_eq_true_eq, decide_eq_false_iff_not, Bool.not_eq_true', Bool.not_eq_false', Bool.not_eq_true, Bool.not_eq_false, Bool.and_eq_true, Bool.or_eq_true, Bool.and_eq_false_iff, Bool.or_eq_false_iff, Bool.not_not, ne_eq, Int.not_lt, Int.not_le, Decidable.not_not, beq_iff_eq, bne_iff_ne] at hc12
                          refine wp_skip ?_
                          refine blk_normal ?_
                          refine then_normal ?_
                          refine c_region ?_
                          first | refine wl (wl_val hl rfl trivial (r_add hl rfl rfl (by simp only [Fits]; omega)) ?_) | refine wl (wl_val hl rfl trivial (r_addW hl rfl rfl) ?_)
                          clear hl a; intro a hl
                          refine wl (wl_val hl rfl trivial (r_move hl rfl) ?_)
                          clear hl a; intro a hl
                          refine w_nil ?_
                          have hl2 := hl.add (t := 3) (hl.add (t := 4) (hl.add (t := 6) (hl.add (t := 9) (hl.add (t := 78) (hl.add (t := 79) (hl.add (t := 80) (hl.add (t := 145) (hl.add (t := 146) (hl.add (t := 147) (hl.nil) rfl) rfl) rfl) rfl) rfl) rfl) rfl) rfl) rfl) rfl; clear hl; have hl := hl2; clear hl2
                          refine then_normal ?_
                          refine ⟨k4 + 1, (by omega), (by omega), hl.addE (t := 147) (hl.addE (t := 3) (hl.addE (t := 4) (hl.addE (t := 6) (hl.addE (t := 9) (hl.addE (t := 78) (hl.addE (t := 79) (hl.addE (t := 80) (hl.addE (t := 145) (hl.addE (t := 146) (hl.nil) rfl (by first | rfl | exact congrArg (Value.int .i64) (show (k4 : Int) + 1 = ((k4 + 1 : Nat) : Int) by omega) | (rw [hq8]))) rfl (by first | rfl | exact congrArg (Value.int .i64) (show (k4 : Int) + 1 = ((k4 + 1 : Nat) : Int) by omega) | (rw [hq8]))) rfl (by first | rfl | exact congrArg (Value.int .i64) (show (k4 : Int) + 1 = ((k4 + 1 : Nat) : Int) by omega) | (rw [hq8]))) rfl (by first | rfl | exact congrArg (Value.int .i64) (show (k4 : Int) + 1 = ((k4 + 1 : Nat) : Int) by omega) | (rw [hq8]))) rfl (by first | rfl | exact congrArg (Value.int .i64) (show (k4 : Int) + 1 = ((k4 + 1 : Nat) : Int) by omega) | (rw [hq8]))) rfl (by first | rfl | exact congrArg (Value.int .i64) (show (k4 : Int) + 1 = ((k4 + 1 : Nat) : Int) by omega) | (rw [hq8]))) rfl (by first | rfl | exact congrArg (Value.int .i64) (show (k4 : Int) + 1 = ((k4 + 1 : Nat) : Int) by omega) | (rw [hq8]))) rfl (by first | rfl | exact congrArg (Value.int .i64) (show (k4 : Int) + 1 = ((k4 + 1 : Nat) : Int) by omega) | (rw [hq8]))) rfl (by first | rfl | exact congrArg (Value.int .i64) (show (k4 : Int) + 1 = ((k4 + 1 : Nat) : Int) by omega) | (rw [hq8]))) rfl (by first | rfl | exact congrArg (Value.int .i64) (show (k4 : Int) + 1 = ((k4 + 1 : Nat) : Int) by omega) | (rw [hq8])), hh.keep (by repeat (first | exact keeps_nil | apply keeps_cons (by repeat (first | exact find_head | apply find_tail | apply find_skip)) (by first  | rfl) | exact keeps_self | exact keeps_left | apply keeps_app | apply keeps_mv | apply keeps_skip))⟩
                      · intro hc11
                        try simp only [decide_eq_true_eq, decide_eq_false_iff_not, Bool.not_eq_true', Bool.not_eq_false', Bool.not_eq_true, Bool.not_eq_false, Bool.and_eq_true, Bool.or_eq_true, Bool.and_eq_false_iff, Bool.or_eq_false_iff, Bool.not_not, ne_eq, Int.not_lt, Int.not_le, Decidable.not_not, beq_iff_eq, bne_iff_ne] at hc11
                        refine wp_exit ?_
                        refine then_exit ?_
                        refine then_exit ?_
                        refine blk_exit ?_
                        refine blk_normal ?_
                        refine then_normal ?_
                        refine c_region ?_
                        first | refine wl (wl_val hl rfl trivial (r_add hl rfl rfl (by simp only [Fits]; omega)) ?_) | refine wl (wl_val hl rfl trivial (r_addW hl rfl rfl) ?_)
                        clear hl a; intro a hl
                        refine wl (wl_val hl rfl trivial (r_move hl rfl) ?_)
                        clear hl a; intro a hl
                        refine w_nil ?_
                        have hl2 := hl.add (t := 3) (hl.add (t := 4) (hl.add (t := 6) (hl.add (t := 9) (hl.add (t := 78) (hl.add (t := 79) (hl.add (t := 80) (hl.nil) rfl) rfl) rfl) rfl) rfl) rfl) rfl; clear hl; have hl := hl2; clear hl2
                        refine then_normal ?_
                        refine ⟨i2 + 1, (by omega), (by omega), hl.addE (t := 80) (hl.addE (t := 3) (hl.addE (t := 4) (hl.addE (t := 6) (hl.addE (t := 9) (hl.addE (t := 78) (hl.addE (t := 79) (hl.nil) rfl (by first | rfl | exact congrArg (Value.int .i64) (show (i2 : Int) + 1 = ((i2 + 1 : Nat) : Int) by omega) | (rw [hq2]))) rfl (by first | rfl | exact congrArg (Value.int .i64) (show (i2 : Int) + 1 = ((i2 + 1 : Nat) : Int) by omega) | (rw [hq2]))) rfl (by first | rfl | exact congrArg (Value.int .i64) (show (i2 : Int) + 1 = ((i2 + 1 : Nat) : Int) by omega) | (rw [hq2]))) rfl (by first | rfl | exact congrArg (Value.int .i64) (show (i2 : Int) + 1 = ((i2 + 1 : Nat) : Int) by omega) | (rw [hq2]))) rfl (by first | rfl | exact congrArg (Value.int .i64) (show (i2 : Int) + 1 = ((i2 + 1 : Nat) : Int) by omega) | (rw [hq2]))) rfl (by first | rfl | exact congrArg (Value.int .i64) (show (i2 : Int) + 1 = ((i2 + 1 : Nat) : Int) by omega) | (rw [hq2]))) rfl (by first | rfl | exact congrArg (Value.int .i64) (show (i2 : Int) + 1 = ((i2 + 1 : Nat) : Int) by omega) | (rw [hq2])), hh.keep (by repeat (first | exact keeps_nil | apply keeps_cons (by repeat (first | exact find_head | apply find_tail | apply find_skip)) (by first  | (rw [hq2]) | rfl) | exact keeps_self | exact keeps_left | apply keeps_app | apply keeps_mv | apply keeps_skip))⟩
              · intro hc7
                try simp only [decide_eq_true_eq, decide_eq_false_iff_not, Bool.not_eq_true', Bool.not_eq_false', Bool.not_eq_true, Bool.not_eq_false, Bool.and_eq_true, Bool.or_eq_true, Bool.and_eq_false_iff, Bool.or_eq_false_iff, Bool.not_not, ne_eq, Int.not_lt, Int.not_le, Decidable.not_not, beq_iff_eq, bne_iff_ne] at hc7
                refine wp_skip ?_
                refine then_normal ?_
                refine c_seq ?_
                refine c_seq ?_
                refine c_region ?_
                refine wl (wl_val hl rfl trivial (r_assign hl rfl) ?_)
                clear hl a; intro a hl
                refine w_nil ?_
                have hl2 := hl.add (t := 3) (hl.add (t := 4) (hl.add (t := 6) (hl.add (t := 9) (hl.add (t := 13) (hl.add (t := 17) (hl.add (t := 78) (hl.add (t := 79) (hl.add (t := 80) (hl.nil) rfl) rfl) rfl) rfl) rfl) rfl) rfl) rfl) rfl; clear hl; have hl := hl2; clear hl2
                refine then_normal ?_
                refine wp_block ?_
                obtain ⟨KS3, hKS3, hk⟩ := (hl.add (t := 3) (hl.add (t := 4) (hl.add (t := 6) (hl.add (t := 9) (hl.add (t := 13) (hl.add (t := 78) (hl.add (t := 79) (hl.add (t := 80) (hl.nil) rfl) rfl) rfl) rfl) rfl) rfl) rfl) rfl).name
                obtain ⟨HS3, hHS3, hh2⟩ := hh.name (keeps_nil)
                refine c_loop (α := Nat) (fun k3 => x.ls.length - k3) (fun k3 a w => (1 ≤ k3) ∧ Sl 157 ([(17, .int .i64 (k3 : Int))] ++ KS3) a ∧ Has _ w0 ([] ++ HS3) w) 1 ⟨Nat.le_refl _, hl.addE (t := 17) (hk) rfl (by first | rfl), hh2⟩ ?_
                clear hk hh2 hl hh a w
                intro k3 a w hI
                obtain ⟨hk3, hl, hh⟩ := hI
                subst hKS3; subst hHS3
                simp only [List.cons_append, List.nil_append, List.append_nil, List.append_assoc] at hl hh
                refine c_seq ?_
                refine c_seq ?_
                refine c_region ?_
                refine wl (wl_val hl rfl trivial (r_move hl rfl) ?_)
                clear hl a; intro a hl
                refine wl (wl_val hl rfl trivial (r_field hl rfl fld35_1) ?_)
                clear hl a; intro a hl
                first | refine wl (w_load hl hh rfl trivial one33 rfl (by repeat (first | exact find_head | apply find_tail | apply find_skip)) (by first | exact fl_cell c4_len hlu rfl j5 | exact fl_cell c4_len hlv rfl j5 | rfl) ?_) | refine wl (wl_val hl rfl trivial (r_load hl rfl one33 (hh.mem _ _ (by repeat (first | exact hmem8 | exact List.mem_append_left _ hmem8 | apply List.mem_cons_of_mem | apply List.mem_append_right))) (List.getElem?_toArray.trans hd8)) ?_)
                clear hl a; intro a hl
                refine wl (wl_val hl rfl trivial (r_lenS hl rfl slc33) ?_)
                clear hl a; intro a hl
                refine wl (wl_val hl rfl trivial (r_lss hl rfl rfl) ?_)
                clear hl a; intro a hl
                refine w_nil ?_
                have hl2 := hl.add (t := 3) (hl.add (t := 4) (hl.add (t := 6) (hl.add (t := 9) (hl.add (t := 13) (hl.add (t := 17) (hl.add (t := 78) (hl.add (t := 79) (hl.add (t := 80) (hl.add (t := 127) (hl.nil) rfl) rfl) rfl) rfl) rfl) rfl) rfl) rfl) rfl) rfl; clear hl; have hl := hl2; clear hl2
                refine then_normal ?_
                refine c_cond hl rfl ?_ ?_
                · intro hc9
                  try simp only [decide_eq_true_eq, decide_eq_false_iff_not, Bool.not_eq_true', Bool.not_eq_false', Bool.not_eq_true, Bool.not_eq_false, Bool.and_eq_true, Bool.or_eq_true, Bool.and_eq_false_iff, Bool.or_eq_false_iff, Bool.not_not, ne_eq, Int.not_lt, Int.not_le, Decidable.not_not, beq_iff_eq, bne_iff_ne] at hc9
                  obtain ⟨kp, hkp⟩ : ∃ k, k3 = k + 1 := ⟨k3 - 1, by omega⟩
                  obtain ⟨lu, hlu⟩ : ∃ u, x.ls[kp]? = some u := ⟨_, List.getElem?_eq_getElem (by omega)⟩
                  obtain ⟨lv, hlv⟩ : ∃ v, x.ls[k3]? = some v := ⟨_, List.getElem?_eq_getElem (by omega)⟩
                  have hkk := pw_at (h6.k x hxm) (map_at LV.l hlu) (map_at LV.l hlv) (by omega)
                  obtain ⟨b5, j5, hq5, _, _, hE5⟩ := row_pos hxo.bd (by omega)
                  rw [hq5] at hh
                  refine wp_skip ?_
                  refine then_normal ?_
                  refine c_seq ?_
                  refine wp_block ?_
                  refine c_seq ?_
                  refine c_draw [(k13, C [.string x.p, .slice x.hp x.a.length x.hc, .slice (some ⟨b5, 0, none⟩) x.ls.length x.bc] 35), (b5, C (fl LV.c4 x.ls ++ j5) 44)] [13] mixed hh ?_
                  clear hh w; intro w hh
                  have hM : Mem [(k13, C [.string x.p, .slice x.hp x.a.length x.hc, .slice (some ⟨b5, 0, none⟩) x.ls.length x.bc] 35), (b5, C (fl LV.c4 x.ls ++ j5) 44)] w := (fun b o m => by simp only [List.mem_cons, List.not_mem_nil, or_false] at m; rcases m with m | m <;> cases m; exact hh.mem _ _ (Find.mem (by repeat (first | exact find_head | apply find_tail | apply find_skip))); exact RV.mb ((hGA.mem (memK hh (by repeat (first | exact keeps_nil | apply keeps_cons (by repeat (first | exact find_head | apply find_tail | apply find_skip)) (by first  | rfl) | exact keeps_self | exact keeps_left | apply keeps_app | apply keeps_mv | apply keeps_skip))) (memK hh (by repeat (first | exact keeps_nil | apply keeps_cons (by repeat (first | exact find_head | apply find_tail | apply find_skip)) (by first  | rfl) | exact keeps_self | exact keeps_left | apply keeps_app | apply keeps_mv | apply keeps_skip))) (memK hh (by repeat (first | exact keeps_nil | apply keeps_cons (by repeat (first | exact find_head | apply find_tail | apply find_skip)) (by first  | rfl) | exact keeps_self | exact keeps_left | apply keeps_app | apply keeps_mv | apply keeps_skip)))).q x hxm) _ _ (by rw [hE5]; exact List.mem_singleton.2 rfl))
                  refine d_take (i := 0) hl rfl (by kernel_rfl) (by kernel_rfl) (by kernel_rfl) (by kernel_rfl) (by kernel_rfl) rfl trivial (fun _ _ _ h => h) hM (fun w hC => r_field hl rfl fld35_1) rfl ?_
                  clear hl a; intro a hl
                  refine d_take (i := 1) hl rfl (by kernel_rfl) (by kernel_rfl) (by kernel_rfl) (by kernel_rfl) (by kernel_rfl) rfl trivial (fun _ _ _ h => h) hM (fun w hC => r_loadC hl rfl one33 hC (by repeat (first | exact find_head | apply find_tail | apply find_skip)) (by first | exact fl_cell c4_len hlu rfl j5 | exact fl_cell c4_len hlv rfl j5 | rfl)) rfl ?_
                  clear hl a; intro a hl
                  refine d_take (i := 2) hl rfl (by kernel_rfl) (by kernel_rfl) (by kernel_rfl) (by kernel_rfl) (by kernel_rfl) rfl trivial (fun _ _ _ h => h) hM (fun w hC => r_move hl rfl) rfl ?_
                  clear hl a; intro a hl
                  first | refine d_take (i := 3) hl rfl (by kernel_rfl) (by kernel_rfl) (by kernel_rfl) (by kernel_rfl) (by kernel_rfl) rfl trivial (fun _ _ _ h => h) hM (fun w hC => r_sub hl rfl rfl (by simp only [Fits]; omega)) rfl ?_ | refine d_take (i := 3) hl rfl (by kernel_rfl) (by kernel_rfl) (by kernel_rfl) (by kernel_rfl) (by kernel_rfl) rfl trivial (fun _ _ _ h => h) hM (fun w hC => r_subW hl rfl rfl) rfl ?_
                  clear hl a; intro a hl
                  rw [show (k3 : Int) - 1 = (kp : Int) by omega] at hl
                  refine d_take (i := 4) hl rfl (by kernel_rfl) (by kernel_rfl) (by kernel_rfl) (by kernel_rfl) (by kernel_rfl) rfl trivial (fun _ _ _ h => h) hM (fun w hC => r_indexS hl rfl rfl slc33 (by omega) (by omega) (by first | (simp only [Int.reduceToNat]; rfl) | exact toNat_add1 _ | exact toNat_add2 _ _ | exact toNat_emod _ _ | exact Int.toNat_natCast _ | rfl)) rfl ?_
                  clear hl a; intro a hl
                  refine d_take (i := 5) hl rfl (by kernel_rfl) (by kernel_rfl) (by kernel_rfl) (by kernel_rfl) (by kernel_rfl) rfl trivial (fun _ _ _ h => h) hM (fun w hC => r_field hl rfl fld44_0) rfl ?_
                  clear hl a; intro a hl
                  refine d_take (i := 6) hl rfl (by kernel_rfl) (by kernel_rfl) (by kernel_rfl) (by kernel_rfl) (by kernel_rfl) rfl trivial (fun _ _ _ h => h) hM (fun w hC => r_loadC hl rfl one41 hC (by repeat (first | exact find_head | apply find_tail | apply find_skip)) (by first | exact fl_cell c4_len hlu rfl j5 | exact fl_cell c4_len hlv rfl j5 | rfl)) rfl ?_
                  clear hl a; intro a hl
                  refine d_take (i := 7) hl rfl (by kernel_rfl) (by kernel_rfl) (by kernel_rfl) (by kernel_rfl) (by kernel_rfl) rfl trivial (fun _ _ _ h => h) hM (fun w hC => r_field hl rfl fld35_1) rfl ?_
                  clear hl a; intro a hl
                  refine d_take (i := 8) hl rfl (by kernel_rfl) (by kernel_rfl) (by kernel_rfl) (by kernel_rfl) (by kernel_rfl) rfl trivial (fun _ _ _ h => h) hM (fun w hC => r_loadC hl rfl one33 hC (by repeat (first | exact find_head | apply find_tail | apply find_skip)) (by first | exact fl_cell c4_len hlu rfl j5 | exact fl_cell c4_len hlv rfl j5 | rfl)) rfl ?_
                  clear hl a; intro a hl
                  refine d_take (i := 9) hl rfl (by kernel_rfl) (by kernel_rfl) (by kernel_rfl) (by kernel_rfl) (by kernel_rfl) rfl trivial (fun _ _ _ h => h) hM (fun w hC => r_move hl rfl) rfl ?_
                  clear hl a; intro a hl
                  refine d_take (i := 10) hl rfl (by kernel_rfl) (by kernel_rfl) (by kernel_rfl) (by kernel_rfl) (by kernel_rfl) rfl trivial (fun _ _ _ h => h) hM (fun w hC => r_indexS hl rfl rfl slc33 (by omega) (by omega) (by first | (simp only [Int.reduceToNat]; rfl) | exact toNat_add1 _ | exact toNat_add2 _ _ | exact toNat_emod _ _ | exact Int.toNat_natCast _ | rfl)) rfl ?_
                  clear hl a; intro a hl
                  refine d_take (i := 11) hl rfl (by kernel_rfl) (by kernel_rfl) (by kernel_rfl) (by kernel_rfl) (by kernel_rfl) rfl trivial (fun _ _ _ h => h) hM (fun w hC => r_field hl rfl fld44_0) rfl ?_
                  clear hl a; intro a hl
                  refine d_take (i := 12) hl rfl (by kernel_rfl) (by kernel_rfl) (by kernel_rfl) (by kernel_rfl) (by kernel_rfl) rfl trivial (fun _ _ _ h => h) hM (fun w hC => r_loadC hl rfl one41 hC (by repeat (first | exact find_head | apply find_tail | apply find_skip)) (by first | exact fl_cell c4_len hlu rfl j5 | exact fl_cell c4_len hlv rfl j5 | rfl)) rfl ?_
                  clear hl a; intro a hl
                  refine d_takeL (i := 13) hl rfl (by kernel_rfl) (by kernel_rfl) (by kernel_rfl) (by kernel_rfl) (by kernel_rfl) rfl trivial (fun _ _ _ h => h) (fun w => r_gtr hl rfl rfl) rfl ?_
                  clear hl a; intro a hl
                  refine d_done (by kernel_rfl) ?_
                  try clear hM
                  have hl2 := hl.add (t := 3) (hl.add (t := 4) (hl.add (t := 6) (hl.add (t := 9) (hl.add (t := 13) (hl.add (t := 17) (hl.add (t := 78) (hl.add (t := 79) (hl.add (t := 80) (hl.add (t := 143) (hl.nil) rfl) rfl) rfl) rfl) rfl) rfl) rfl) rfl) rfl) rfl; clear hl; have hl := hl2; clear hl2
                  refine then_normal ?_
                  refine c_cond hl rfl ?_ ?_
                  · intro hc10
                    try simp only [decide_eq_true_eq, decide_eq_false_iff_not, Bool.not_eq_true', Bool.not_eq_false', Bool.not_eq_true, Bool.not_eq_false, Bool.and_eq_true, Bool.or_eq_true, Bool.and_eq_false_iff, Bool.or_eq_false_iff, Bool.not_not, ne_eq, Int.not_lt, Int.not_le, Decidable.not_not, beq_iff_eq, bne_iff_ne] at hc10
                    exfalso; first | contradiction | omega | (exfalso; omega)
                  · intro hc10
                    try simp only [decide_eq_true_eq, decide_eq_false_iff_not, Bool.not_eq_true', Bool.not_eq_false', Bool.not_eq_true, Bool.not_eq_false, Bool.and_eq_true, Bool.or_eq_true, Bool.and_eq_false_iff, Bool.or_eq_false_iff, Bool.not_not, ne_eq, Int.not_lt, Int.not_le, Decidable.not_not, beq_iff_eq, bne_iff_ne] at hc10
                    refine wp_skip ?_
                    refine blk_normal ?_
                    refine then_normal ?_
                    refine c_region ?_
                    refine wl (wl_val hl rfl trivial (r_move hl rfl) ?_)
                    clear hl a; intro a hl
                    first | refine wl (wl_val hl rfl trivial (r_add hl rfl rfl (by simp only [Fits]; omega)) ?_) | refine wl (wl_val hl rfl trivial (r_addW hl rfl rfl) ?_)
                    clear hl a; intro a hl
                    refine wl (wl_val hl rfl trivial (r_assign hl rfl) ?_)
                    clear hl a; intro a hl
                    refine w_nil ?_
                    have hl2 := hl.add (t := 3) (hl.add (t := 4) (hl.add (t := 6) (hl.add (t := 9) (hl.add (t := 13) (hl.add (t := 17) (hl.add (t := 78) (hl.add (t := 79) (hl.add (t := 80) (hl.nil) rfl) rfl) rfl) rfl) rfl) rfl) rfl) rfl) rfl; clear hl; have hl := hl2; clear hl2
                    refine then_normal ?_
                    refine ⟨k3 + 1, (by omega), (by omega), hl.addE (t := 17) (hl.addE (t := 3) (hl.addE (t := 4) (hl.addE (t := 6) (hl.addE (t := 9) (hl.addE (t := 13) (hl.addE (t := 78) (hl.addE (t := 79) (hl.addE (t := 80) (hl.nil) rfl (by first | rfl | exact congrArg (Value.int .i64) (show (k3 : Int) + 1 = ((k3 + 1 : Nat) : Int) by omega) | (rw [hq5]))) rfl (by first | rfl | exact congrArg (Value.int .i64) (show (k3 : Int) + 1 = ((k3 + 1 : Nat) : Int) by omega) | (rw [hq5]))) rfl (by first | rfl | exact congrArg (Value.int .i64) (show (k3 : Int) + 1 = ((k3 + 1 : Nat) : Int) by omega) | (rw [hq5]))) rfl (by first | rfl | exact congrArg (Value.int .i64) (show (k3 : Int) + 1 = ((k3 + 1 : Nat) : Int) by omega) | (rw [hq5]))) rfl (by first | rfl | exact congrArg (Value.int .i64) (show (k3 : Int) + 1 = ((k3 + 1 : Nat) : Int) by omega) | (rw [hq5]))) rfl (by first | rfl | exact congrArg (Value.int .i64) (show (k3 : Int) + 1 = ((k3 + 1 : Nat) : Int) by omega) | (rw [hq5]))) rfl (by first | rfl | exact congrArg (Value.int .i64) (show (k3 : Int) + 1 = ((k3 + 1 : Nat) : Int) by omega) | (rw [hq5]))) rfl (by first | rfl | exact congrArg (Value.int .i64) (show (k3 : Int) + 1 = ((k3 + 1 : Nat) : Int) by omega) | (rw [hq5]))) rfl (by first | rfl | exact congrArg (Value.int .i64) (show (k3 : Int) + 1 = ((k3 + 1 : Nat) : Int) by omega) | (rw [hq5])), hh.keep (by repeat (first | exact keeps_nil | apply keeps_cons (by repeat (first | exact find_head | apply find_tail | apply find_skip)) (by first  | (rw [hq5]) | rfl) | exact keeps_self | exact keeps_left | apply keeps_app | apply keeps_mv | apply keeps_skip))⟩
                · intro hc9
                  try simp only [decide_eq_true_eq, decide_eq_false_iff_not, Bool.not_eq_true', Bool.not_eq_false', Bool.not_eq_true, Bool.not_eq_false, Bool.and_eq_true, Bool.or_eq_true, Bool.and_eq_false_iff, Bool.or_eq_false_iff, Bool.not_not, ne_eq, Int.not_lt, Int.not_le, Decidable.not_not, beq_iff_eq, bne_iff_ne] at hc9
                  refine wp_exit ?_
                  refine then_exit ?_
                  refine then_exit ?_
                  refine blk_exit ?_
                  refine then_normal ?_
                  refine c_seq ?_
                  refine c_region ?_
                  first | refine wl (w_loadA hl hh rfl trivial agg35 rfl (by repeat (first | exact find_head | apply find_tail | apply find_skip)) (by first | (simp only [List.getElem?_cons_zero, List.getElem?_cons_succ, Value.cells, List.take_zero, List.take_succ_cons, List.take_nil, List.drop_zero, List.drop_succ_cons, List.drop_nil, List.length_cons, List.length_nil, List.cons_append, List.nil_append, List.append_nil, Nat.zero_add, Nat.add_zero, Nat.reduceAdd, Nat.reduceBEq, Nat.reduceEqDiff, Nat.ble, BEq.rfl, Bool.and_true, Bool.and_self, cond_true, beq_self_eq_true]; rfl)) (by first | rfl | (simp; done)) ?_) | refine wl (w_loadRA hl hh rfl trivial agg35 rfl hpre.2 (by simp) rfl rfl ?_) | refine wl (wl_val hl rfl trivial (r_loadA hl rfl agg35 (hh.mem _ _ (by repeat (first | exact hmem1 | exact List.mem_append_left _ hmem1 | apply List.mem_cons_of_mem | apply List.mem_append_right))) hd1 rfl) ?_) | refine wl (wl_val hl rfl trivial (r_loadA hl rfl agg35 (hh.mem _ _ (by repeat (first | exact hmem2 | exact List.mem_append_left _ hmem2 | apply List.mem_cons_of_mem | apply List.mem_append_right))) hd2 rfl) ?_) | refine wl (wl_val hl rfl trivial (r_loadA hl rfl agg35 (hh.mem _ _ (by repeat (first | exact hmem2 | exact List.mem_append_left _ hmem2 | apply List.mem_cons_of_mem | apply List.mem_append_right))) hd3 rfl) ?_) | refine wl (wl_val hl rfl trivial (r_loadA hl rfl agg35 (hh.mem _ _ (by repeat (first | exact hmem7 | exact List.mem_append_left _ hmem7 | apply List.mem_cons_of_mem | apply List.mem_append_right))) hd7 rfl) ?_)
                  clear hl a; intro a hl
                  refine wl (w_call hl hh rfl trivial rfl cal25 rfl (vars_spec x hxo) (by repeat (first | exact keeps_nil | apply keeps_cons (by repeat (first | exact find_head | apply find_tail | apply find_skip)) (by first  | rfl) | exact keeps_self | exact keeps_left | apply keeps_app | apply keeps_mv | apply keeps_skip)) ((hGA.mem (memK hh (by repeat (first | exact keeps_nil | apply keeps_cons (by repeat (first | exact find_head | apply find_tail | apply find_skip)) (by first  | rfl) | exact keeps_self | exact keeps_left | apply keeps_app | apply keeps_mv | apply keeps_skip))) (memK hh (by repeat (first | exact keeps_nil | apply keeps_cons (by repeat (first | exact find_head | apply find_tail | apply find_skip)) (by first  | rfl) | exact keeps_self | exact keeps_left | apply keeps_app | apply keeps_mv | apply keeps_skip))) (memK hh (by repeat (first | exact keeps_nil | apply keeps_cons (by repeat (first | exact find_head | apply find_tail | apply find_skip)) (by first  | rfl) | exact keeps_self | exact keeps_left | apply keeps_app | apply keeps_mv | apply keeps_skip)))).q x hxm) ?_)
                  clear hl hh a w; intro vc Fc a w hR hl hh
                  obtain ⟨vp, vc, rfl, hRv⟩ := hR
                  try simp only [List.cons_append, List.nil_append, List.append_assoc, List.append_nil] at hh
                  generalize Fc = Ev at hh hRv
                  replace hh := hh.comm
                  simp only [List.cons_append, List.nil_append, List.append_nil, List.append_assoc] at hh
                  refine wl (wl_val hl rfl trivial (r_lenS hl rfl slc70) ?_)
                  clear hl a; intro a hl
                  refine wl (wl_val hl rfl trivial (r_move hl rfl) ?_)
                  clear hl a; intro a hl
                  refine w_nil ?_
                  have hl2 := hl.add (t := 3) (hl.add (t := 4) (hl.add (t := 6) (hl.add (t := 9) (hl.add (t := 78) (hl.add (t := 79) (hl.add (t := 80) (hl.add (t := 145) (hl.add (t := 146) (hl.add (t := 147) (hl.nil) rfl) rfl) rfl) rfl) rfl) rfl) rfl) rfl) rfl) rfl; clear hl; have hl := hl2; clear hl2
                  refine then_normal ?_
                  refine wp_block ?_
                  obtain ⟨KS4, hKS4, hk⟩ := (hl.add (t := 3) (hl.add (t := 4) (hl.add (t := 6) (hl.add (t := 9) (hl.add (t := 78) (hl.add (t := 79) (hl.add (t := 80) (hl.add (t := 145) (hl.add (t := 146) (hl.nil) rfl) rfl) rfl) rfl) rfl) rfl) rfl) rfl) rfl).name
                  obtain ⟨HS4, hHS4, hh2⟩ := hh.name (keeps_nil)
                  refine c_loop (α := Nat) (fun k4 => (vars x.ru).length - k4) (fun k4 a w => (k4 ≤ (vars x.ru).length) ∧ Sl 157 ([(147, .int .i64 (k4 : Int))] ++ KS4) a ∧ Has _ w0 ([] ++ HS4) w) 0 ⟨Nat.zero_le _, hl.addE (t := 147) (hk) rfl (by first | rfl), hh2⟩ ?_
                  clear hk hh2 hl hh a w
                  intro k4 a w hI
                  obtain ⟨hk4, hl, hh⟩ := hI
                  subst hKS4; subst hHS4
                  simp only [List.cons_append, List.nil_append, List.append_nil, List.append_assoc] at hl hh
                  refine c_seq ?_
                  refine c_region ?_
                  refine wl (wl_val hl rfl trivial (r_lss hl rfl rfl) ?_)
                  clear hl a; intro a hl
                  refine w_nil ?_
                  have hl2 := hl.add (t := 3) (hl.add (t := 4) (hl.add (t := 6) (hl.add (t := 9) (hl.add (t := 78) (hl.add (t := 79) (hl.add (t := 80) (hl.add (t := 145) (hl.add (t := 146) (hl.add (t := 147) (hl.add (t := 148) (hl.nil) rfl) rfl) rfl) rfl) rfl) rfl) rfl) rfl) rfl) rfl) rfl; clear hl; have hl := hl2; clear hl2
                  refine then_normal ?_
                  refine c_seq ?_
                  refine c_cond hl rfl ?_ ?_
                  · intro hc11
                    try simp only [decide_eq_true_eq, decide_eq_false_iff_not, Bool.not_eq_true', Bool.not_eq_false', Bool.not_eq_true, Bool.not_eq_false, Bool.and_eq_true, Bool.or_eq_true, Bool.and_eq_false_iff, Bool.or_eq_false_iff, Bool.not_not, ne_eq, Int.not_lt, Int.not_le, Decidable.not_not, beq_iff_eq, bne_iff_ne] at hc11
                    obtain ⟨mv, hmv⟩ := h6.v x hxm
                    obtain ⟨vv, hvv⟩ : ∃ v, (vars x.ru)[k4]? = some v := ⟨_, List.getElem?_eq_getElem (by omega)⟩
                    have hvk : vv = (k4 : Int) := by
                      rw [hmv] at hvv
                      unfold ints at hvv
                      rw [List.getElem?_map] at hvv
                      cases hr9 : (List.range mv)[k4]? with
                      | none => rw [hr9] at hvv; cases hvv
                      | some j9 =>
                        rw [hr9] at hvv
                        have h8 := (List.getElem?_eq_some_iff.1 hr9).2
                        rw [List.getElem_range] at h8
                        injection hvv with hvv
                        rw [← hvv, ← h8]
                    subst hvk
                    obtain ⟨b8, j8, hq8, _, _, hE8⟩ := row_pos hRv (by omega)
                    have hmem8 : (b8, C (fl iI (vars x.ru) ++ j8) 3) ∈ Ev := by rw [hE8]; exact List.mem_singleton.2 rfl
                    rw [hq8] at hl
                    have hd8 := fl_cell1 (f := iI) (g := .int .i64) (fun _ => rfl) hvv j8
                    refine wp_skip ?_
                    refine then_normal ?_
                    refine c_seq ?_
                    refine wp_block ?_
                    refine c_seq ?_
                    refine c_region ?_
                    refine wl (wl_val hl rfl trivial (r_move hl rfl) ?_)
                    clear hl a; intro a hl
                    refine wl (wl_val hl rfl trivial (r_indexS hl rfl rfl slc70 (by omega) (by omega) (by first | (simp only [Int.reduceToNat]; rfl) | exact toNat_add1 _ | exact toNat_add2 _ _ | exact toNat_emod _ _ | exact Int.toNat_natCast _ | rfl)) ?_)
                    clear hl a; intro a hl
                    first | refine wl (w_load hl hh rfl trivial one3 rfl (by repeat (first | exact find_head | apply find_tail | apply find_skip)) (by first | exact fl_cell c4_len hlu rfl j5 | exact fl_cell c4_len hlv rfl j5 | rfl) ?_) | refine wl (wl_val hl rfl trivial (r_load hl rfl one3 (hh.mem _ _ (by repeat (first | exact hmem8 | exact List.mem_append_left _ hmem8 | apply List.mem_cons_of_mem | apply List.mem_append_right))) (List.getElem?_toArray.trans hd8)) ?_)
                    clear hl a; intro a hl
                    refine wl (wl_val hl rfl trivial (r_assign hl rfl) ?_)
                    clear hl a; intro a hl
                    refine wl (wl_val hl rfl trivial (r_assign hl rfl) ?_)
                    clear hl a; intro a hl
                    refine w_nil ?_
                    have hl2 := hl.add (t := 3) (hl.add (t := 4) (hl.add (t := 6) (hl.add (t := 9) (hl.add (t := 18) (hl.add (t := 19) (hl.add (t := 78) (hl.add (t := 79) (hl.add (t := 80) (hl.add (t := 145) (hl.add (t := 146) (hl.add (t := 147) (hl.nil) rfl) rfl) rfl) rfl) rfl) rfl) rfl) rfl) rfl) rfl) rfl) rfl; clear hl; have hl := hl2; clear hl2
                    refine then_normal ?_
                    refine c_seq ?_
                    refine c_region ?_
                    refine wl (wl_val hl rfl trivial (r_move hl rfl) ?_)
                    clear hl a; intro a hl
                    refine wl (wl_val hl rfl trivial (r_move hl rfl) ?_)
                    clear hl a; intro a hl
                    refine wl (wl_val hl rfl trivial (r_neq hl rfl rfl) ?_)
                    clear hl a; intro a hl
                    refine w_nil ?_
                    have hl2 := hl.add (t := 3) (hl.add (t := 4) (hl.add (t := 6) (hl.add (t := 9) (hl.add (t := 78) (hl.add (t := 79) (hl.add (t := 80) (hl.add (t := 145) (hl.add (t := 146) (hl.add (t := 147) (hl.add (t := 154) (hl.nil) rfl) rfl) rfl) rfl) rfl) rfl) rfl) rfl) rfl) rfl) rfl; clear hl; have hl := hl2; clear hl2
                    refine then_normal ?_
                    refine c_cond hl rfl ?_ ?_
                    · intro hc12
                      try simp only [decide_eq_true_eq, decide_eq_false_iff_not, Bool.not_eq_true', Bool.not_eq_false', Bool.not_eq_true, Bool.not_eq_false, Bool.and_eq_true, Bool.or_eq_true, Bool.and_eq_false_iff, Bool.or_eq_false_iff, Bool.not_not, ne_eq, Int.not_lt, Int.not_le, Decidable.not_not, beq_iff_eq, bne_iff_ne] at hc12
                      exfalso; first | contradiction | omega | (exfalso; omega)
                    · intro hc12
                      try simp only [decide_eq_true_eq, decide_eq_false_iff_not, Bool.not_eq_true', Bool.not_eq_false', Bool.not_eq_true, Bool.not_eq_false, Bool.and_eq_true, Bool.or_eq_true, Bool.and_eq_false_iff, Bool.or_eq_false_iff, Bool.not_not, ne_eq, Int.not_lt, Int.not_le, Decidable.not_not, beq_iff_eq, bne_iff_ne] at hc12
                      refine wp_skip ?_
                      refine blk_normal ?_
                      refine then_normal ?_
                      refine c_region ?_
                      first | refine wl (wl_val hl rfl trivial (r_add hl rfl rfl (by simp only [Fits]; omega)) ?_) | refine wl (wl_val hl rfl trivial (r_addW hl rfl rfl) ?_)
                      clear hl a; intro a hl
                      refine wl (wl_val hl rfl trivial (r_move hl rfl) ?_)
                      clear hl a; intro a hl
                      refine w_nil ?_
                      have hl2 := hl.add (t := 3) (hl.add (t := 4) (hl.add (t := 6) (hl.add (t := 9) (hl.add (t := 78) (hl.add (t := 79) (hl.add (t := 80) (hl.add (t := 145) (hl.add (t := 146) (hl.add (t := 147) (hl.nil) rfl) rfl) rfl) rfl) rfl) rfl) rfl) rfl) rfl) rfl; clear hl; have hl := hl2; clear hl2
                      refine then_normal ?_
                      refine ⟨k4 + 1, (by omega), (by omega), hl.addE (t := 147) (hl.addE (t := 3) (hl.addE (t := 4) (hl.addE (t := 6) (hl.addE (t := 9) (hl.addE (t := 78) (hl.addE (t := 79) (hl.addE (t := 80) (hl.addE (t := 145) (hl.addE (t := 146) (hl.nil) rfl (by first | rfl | exact congrArg (Value.int .i64) (show (k4 : Int) + 1 = ((k4 + 1 : Nat) : Int) by omega) | (rw [hq8]))) rfl (by first | rfl | exact congrArg (Value.int .i64) (show (k4 : Int) + 1 = ((k4 + 1 : Nat) : Int) by omega) | (rw [hq8]))) rfl (by first | rfl | exact congrArg (Value.int .i64) (show (k4 : Int) + 1 = ((k4 + 1 : Nat) : Int) by omega) | (rw [hq8]))) rfl (by first | rfl | exact congrArg (Value.int .i64) (show (k4 : Int) + 1 = ((k4 + 1 : Nat) : Int) by omega) | (rw [hq8]))) rfl (by first | rfl | exact congrArg (Value.int .i64) (show (k4 : Int) + 1 = ((k4 + 1 : Nat) : Int) by omega) | (rw [hq8]))) rfl (by first | rfl | exact congrArg (Value.int .i64) (show (k4 : Int) + 1 = ((k4 + 1 : Nat) : Int) by omega) | (rw [hq8]))) rfl (by first | rfl | exact congrArg (Value.int .i64) (show (k4 : Int) + 1 = ((k4 + 1 : Nat) : Int) by omega) | (rw [hq8]))) rfl (by first | rfl | exact congrArg (Value.int .i64) (show (k4 : Int) + 1 = ((k4 + 1 : Nat) : Int) by omega) | (rw [hq8]))) rfl (by first | rfl | exact congrArg (Value.int .i64) (show (k4 : Int) + 1 = ((k4 + 1 : Nat) : Int) by omega) | (rw [hq8]))) rfl (by first | rfl | exact congrArg (Value.int .i64) (show (k4 : Int) + 1 = ((k4 + 1 : Nat) : Int) by omega) | (rw [hq8])), hh.keep (by repeat (first | exact keeps_nil | apply keeps_cons (by repeat (first | exact find_head | apply find_tail | apply find_skip)) (by first  | rfl) | exact keeps_self | exact keeps_left | apply keeps_app | apply keeps_mv | apply keeps_skip))⟩
                  · intro hc11
                    try simp only [decide_eq_true_eq, decide_eq_false_iff_not, Bool.not_eq_true', Bool.not_eq_false', Bool.not_eq_true, Bool.not_eq_false, Bool.and_eq_true, Bool.or_eq_true, Bool.and_eq_false_iff, Bool.or_eq_false_iff, Bool.not_not, ne_eq, Int.not_lt, Int.not_le, Decidable.not_not, beq_iff_eq, bne_iff_ne] at hc11
                    refine wp_exit ?_
                    refine then_exit ?_
                    refine then_exit ?_
                    refine blk_exit ?_
                    refine blk_normal ?_
                    refine then_normal ?_
                    refine c_region ?_
                    first | refine wl (wl_val hl rfl trivial (r_add hl rfl rfl (by simp only [Fits]; omega)) ?_) | refine wl (wl_val hl rfl trivial (r_addW hl rfl rfl) ?_)
                    clear hl a; intro a hl
                    refine wl (wl_val hl rfl trivial (r_move hl rfl) ?_)
                    clear hl a; intro a hl
                    refine w_nil ?_
                    have hl2 := hl.add (t := 3) (hl.add (t := 4) (hl.add (t := 6) (hl.add (t := 9) (hl.add (t := 78) (hl.add (t := 79) (hl.add (t := 80) (hl.nil) rfl) rfl) rfl) rfl) rfl) rfl) rfl; clear hl; have hl := hl2; clear hl2
                    refine then_normal ?_
                    refine ⟨i2 + 1, (by omega), (by omega), hl.addE (t := 80) (hl.addE (t := 3) (hl.addE (t := 4) (hl.addE (t := 6) (hl.addE (t := 9) (hl.addE (t := 78) (hl.addE (t := 79) (hl.nil) rfl (by first | rfl | exact congrArg (Value.int .i64) (show (i2 : Int) + 1 = ((i2 + 1 : Nat) : Int) by omega) | (rw [hq2]))) rfl (by first | rfl | exact congrArg (Value.int .i64) (show (i2 : Int) + 1 = ((i2 + 1 : Nat) : Int) by omega) | (rw [hq2]))) rfl (by first | rfl | exact congrArg (Value.int .i64) (show (i2 : Int) + 1 = ((i2 + 1 : Nat) : Int) by omega) | (rw [hq2]))) rfl (by first | rfl | exact congrArg (Value.int .i64) (show (i2 : Int) + 1 = ((i2 + 1 : Nat) : Int) by omega) | (rw [hq2]))) rfl (by first | rfl | exact congrArg (Value.int .i64) (show (i2 : Int) + 1 = ((i2 + 1 : Nat) : Int) by omega) | (rw [hq2]))) rfl (by first | rfl | exact congrArg (Value.int .i64) (show (i2 : Int) + 1 = ((i2 + 1 : Nat) : Int) by omega) | (rw [hq2]))) rfl (by first | rfl | exact congrArg (Value.int .i64) (show (i2 : Int) + 1 = ((i2 + 1 : Nat) : Int) by omega) | (rw [hq2])), hh.keep (by repeat (first | exact keeps_nil | apply keeps_cons (by repeat (first | exact find_head | apply find_tail | apply find_skip)) (by first  | (rw [hq2]) | rfl) | exact keeps_self | exact keeps_left | apply keeps_app | apply keeps_mv | apply keeps_skip))⟩
          · intro hc5
            try simp only [decide_eq_true_eq, decide_eq_false_iff_not, Bool.not_eq_true', Bool.not_eq_false', Bool.not_eq_true, Bool.not_eq_false, Bool.and_eq_true, Bool.or_eq_true, Bool.and_eq_false_iff, Bool.or_eq_false_iff, Bool.not_not, ne_eq, Int.not_lt, Int.not_le, Decidable.not_not, beq_iff_eq, bne_iff_ne] at hc5
            refine wp_exit ?_
            refine then_exit ?_
            refine then_exit ?_
            refine blk_exit ?_
            refine then_normal ?_
            refine c_seq ?_
            refine c_region ?_
            refine wl (wl_val hl rfl trivial (r_assign hl rfl) ?_)
            clear hl a; intro a hl
            refine w_nil ?_
            have hl2 := hl.add (t := 2) (hl.nil) rfl; clear hl; have hl := hl2; clear hl2
            refine then_normal ?_
            refine wp_ret ?_
            refine f_ret1 (F' := []) hl hh rfl rfl (by repeat (first | exact keeps_nil | apply keeps_cons (by repeat (first | exact find_head | apply find_tail | apply find_skip)) (by first  | rfl) | exact keeps_self | exact keeps_left | apply keeps_app | apply keeps_mv | apply keeps_skip)) ?_
            exact ⟨rfl, rfl⟩
end Go.Proofs.Qxb6500915aDoor

import Derived.Test.Qxb6500912aGreatDoorZ1
namespace Go.Proofs.Qxb6500912aGreatDoor
open Go.Eng
set_option linter.unusedVariables false
set_option linter.unusedSimpArgs false
theorem fld69_15 : fieldOk Tryz.prog 69 15 21 = true := by kernel_rfl
theorem cal48 : callable Tryz.prog 48 = true := by kernel_rfl
theorem fld69_13 : fieldOk Tryz.prog 69 13 19 = true := by kernel_rfl
theorem fld69_11 : fieldOk Tryz.prog 69 11 17 = true := by kernel_rfl
theorem fld69_12 : fieldOk Tryz.prog 69 12 18 = true := by kernel_rfl
theorem fld69_14 : fieldOk Tryz.prog 69 14 20 = true := by kernel_rfl
theorem cal32 : callable Tryz.prog 32 = true := by kernel_rfl
theorem rto_0 {s : CS} (h : s.nxt = s.una) : rtoM s = s := if_pos h
theorem rto_1 {s : CS} (h : ¬ s.nxt = s.una) (ht : s.timed = false) : rtoM s = { halveM s with cwnd := s.mss, credit := 0, dups := 0, phase := 2, recov := s.nxt, high := s.una, forced := true, timed := true } := by
  unfold rtoM halveM; rw [if_neg h, if_pos ht]
theorem rto_2 {s : CS} (h : ¬ s.nxt = s.una) (ht : s.timed = true) : rtoM s = { s with cwnd := s.mss, credit := 0, dups := 0, phase := 2, recov := s.nxt, high := s.una, forced := true, timed := true } := by
  unfold rtoM; rw [if_neg h, if_neg (by rw [ht]; decide)]
theorem idle_1 {s : CS} (h : s.idle = true ∧ s.nxt = s.una) : idleM s = { s with cwnd := min s.cwnd (initW s), credit := 0 } := if_pos h
theorem idle_2 {s : CS} (h : ¬ (s.idle = true ∧ s.nxt = s.una)) : idleM s = s := if_neg h


set_option maxHeartbeats 1000000 in
theorem rto_m (mp : Nat) (s : CS) (st : Int) (sk : Bool) (bp : Nat) (hs : Mk s) : Sp Tryz.prog 23 #[.pointer (some ⟨mp, 0, none⟩)] [(mp, C (encM (s) st sk bp) 69)] (fun v F' => v = .tuple #[] ∧ F' = [(mp, C (encM (rtoM s) st sk bp) 69)]) := by
  refine f_enter (args := [.pointer (some ⟨mp, 0, none⟩)]) Tryz.func23 rfl Tryz.ntmps23 rfl ?_
  intro w0 w a hpre hl hh
  have o1 := hs.init; have o2 := hs.maxc; have o3 := hs.bn; have o4 := hs.bd; have o5 := hs.abc; have o6 := hs.dupt; have o7 := hs.mss; have o8 := hs.cwnd; have o9 := hs.ssth; have o10 := hs.credit; have o11 := hs.una; have o12 := hs.nxt; have o13 := hs.phase; have o14 := hs.recov; have o15 := hs.high; have o16 := hs.dups; have o17 := hs.fl
  simp only [slotsFrom, Nat.reduceAdd] at hl
  refine c_seq ?_
  refine c_seq ?_
  refine c_draw [(mp, C (encM (s) st sk bp) 69)] [8] mixed hh ?_
  clear hh w; intro w hh
  have hM : Mem [(mp, C (encM (s) st sk bp) 69)] w := (by (repeat (first | exact Mem.nil | refine Mem.cons hh.mem (by (repeat (first | exact find_head | apply find_tail)); done) ?_ | refine Mem.consR hh (by assumption) (by simp) ?_ | fail)); done)
  refine d_take (i := 0) hl rfl (by kernel_rfl) (by kernel_rfl) (by kernel_rfl) (by kernel_rfl) (by kernel_rfl) rfl trivial (fun _ _ _ h => h) hM (fun w hC => r_move hl rfl) rfl ?_
  clear hl a; intro a hl
  refine d_take (i := 1) hl rfl (by kernel_rfl) (by kernel_rfl) (by kernel_rfl) (by kernel_rfl) (by kernel_rfl) rfl trivial (fun _ _ _ h => h) hM (fun w hC => r_nilCheck hl rfl) rfl ?_
  clear hl a; intro a hl
  refine d_take (i := 2) hl rfl (by kernel_rfl) (by kernel_rfl) (by kernel_rfl) (by kernel_rfl) (by kernel_rfl) rfl trivial (fun _ _ _ h => h) hM (fun w hC => r_field hl rfl fld69_9) rfl ?_
  clear hl a; intro a hl
  refine d_take (i := 3) hl rfl (by kernel_rfl) (by kernel_rfl) (by kernel_rfl) (by kernel_rfl) (by kernel_rfl) rfl trivial (fun _ _ _ h => h) hM (fun w hC => r_loadC hl rfl one2 hC (by repeat (first | exact find_head | apply find_tail)) (by first | rfl)) rfl ?_
  clear hl a; intro a hl
  refine d_take (i := 4) hl rfl (by kernel_rfl) (by kernel_rfl) (by kernel_rfl) (by kernel_rfl) (by kernel_rfl) rfl trivial (fun _ _ _ h => h) hM (fun w hC => r_move hl rfl) rfl ?_
  clear hl a; intro a hl
  refine d_take (i := 5) hl rfl (by kernel_rfl) (by kernel_rfl) (by kernel_rfl) (by kernel_rfl) (by kernel_rfl) rfl trivial (fun _ _ _ h => h) hM (fun w hC => r_nilCheck hl rfl) rfl ?_
  clear hl a; intro a hl
  refine d_take (i := 6) hl rfl (by kernel_rfl) (by kernel_rfl) (by kernel_rfl) (by kernel_rfl) (by kernel_rfl) rfl trivial (fun _ _ _ h => h) hM (fun w hC => r_field hl rfl fld69_8) rfl ?_
  clear hl a; intro a hl
  refine d_take (i := 7) hl rfl (by kernel_rfl) (by kernel_rfl) (by kernel_rfl) (by kernel_rfl) (by kernel_rfl) rfl trivial (fun _ _ _ h => h) hM (fun w hC => r_loadC hl rfl one2 hC (by repeat (first | exact find_head | apply find_tail)) (by first | rfl)) rfl ?_
  clear hl a; intro a hl
  refine d_takeL (i := 8) hl rfl (by kernel_rfl) (by kernel_rfl) (by kernel_rfl) (by kernel_rfl) (by kernel_rfl) rfl trivial (fun _ _ _ h => h) (fun w => r_eql hl rfl rfl) rfl ?_
  clear hl a; intro a hl
  refine d_done (by kernel_rfl) ?_
  try clear hM
  have hl2 := hl.add (t := 0) (hl.add (t := 10) (hl.nil) rfl) rfl; clear hl; have hl := hl2; clear hl2
  refine then_normal ?_
  refine c_cond hl rfl ?_ ?_
  · intro hc0
    try simp only [decide_eq_true_eq, decide_eq_false_iff_not, Bool.not_eq_true', Bool.not_eq_false', Bool.not_eq_true, Bool.not_eq_false, Bool.and_eq_true, Bool.or_eq_true, Bool.and_eq_false_iff, Bool.or_eq_false_iff, Bool.not_not, ne_eq, Int.not_lt, Int.not_le, Decidable.not_not, beq_iff_eq, bne_iff_ne] at hc0
    refine wp_ret ?_
    refine then_ret ?_
    refine f_ret0 (F' := [(mp, C (encM (rtoM s) st sk bp) 69)]) hl hh rfl (by repeat (first | exact keeps_nil | apply keeps_cons (by repeat (first | exact find_head | apply find_tail)) (by first  | (exact blk_eqM (congrArg (fun z => encM z st sk bp) (rto_0 (s := s) (by assumption)).symm)) | rfl) | exact keeps_self | apply keeps_mv)) ?_
    exact ⟨rfl, rfl⟩
  · intro hc0
    try simp only [decide_eq_true_eq, decide_eq_false_iff_not, Bool.not_eq_true', Bool.not_eq_false', Bool.not_eq_true, Bool.not_eq_false, Bool.and_eq_true, Bool.or_eq_true, Bool.and_eq_false_iff, Bool.or_eq_false_iff, Bool.not_not, ne_eq, Int.not_lt, Int.not_le, Decidable.not_not, beq_iff_eq, bne_iff_ne] at hc0
    refine wp_skip ?_
    refine then_normal ?_
    refine c_seq ?_
    refine c_seq ?_
    refine c_region ?_
    refine wl (wl_val hl rfl trivial (r_move hl rfl) ?_)
    clear hl a; intro a hl
    refine wl (wl_val hl rfl trivial (r_nilCheck hl rfl) ?_)
    clear hl a; intro a hl
    refine wl (wl_val hl rfl trivial (r_field hl rfl fld69_15) ?_)
    clear hl a; intro a hl
    refine wl (w_load hl hh rfl trivial one4 rfl (by repeat (first | exact find_head | apply find_tail)) (by first | rfl) ?_)
    clear hl a; intro a hl
    refine wl (wl_val hl rfl trivial (r_not hl rfl) ?_)
    clear hl a; intro a hl
    refine w_nil ?_
    have hl2 := hl.add (t := 0) (hl.add (t := 15) (hl.nil) rfl) rfl; clear hl; have hl := hl2; clear hl2
    refine then_normal ?_
    refine c_cond hl rfl ?_ ?_
    · intro hc1
      try simp only [decide_eq_true_eq, decide_eq_false_iff_not, Bool.not_eq_true', Bool.not_eq_false', Bool.not_eq_true, Bool.not_eq_false, Bool.and_eq_true, Bool.or_eq_true, Bool.and_eq_false_iff, Bool.or_eq_false_iff, Bool.not_not, ne_eq, Int.not_lt, Int.not_le, Decidable.not_not, beq_iff_eq, bne_iff_ne] at hc1
      refine c_region ?_
      refine wl (wl_val hl rfl trivial (r_move hl rfl) ?_)
      clear hl a; intro a hl
      refine wl (w_call hl hh rfl trivial rfl cal48 rfl (halve_m mp s st sk bp hs) (by repeat (first | exact keeps_nil | apply keeps_cons (by repeat (first | exact find_head | apply find_tail)) (by first  | rfl) | exact keeps_self | apply keeps_mv)) trivial ?_)
      clear hl hh a w; intro vc Fc a w hR hl hh
      obtain ⟨rfl, rfl⟩ := hR
      try simp only [List.cons_append, List.nil_append] at hh
      refine w_nil ?_
      have hl2 := hl.add (t := 0) (hl.nil) rfl; clear hl; have hl := hl2; clear hl2
      replace hh : Has _ w0 [(mp, C (encM (halveM s) st sk bp) 69)] w := hh
      obtain ⟨s9, hs9⟩ : ∃ z : CS, z = halveM s := ⟨_, rfl⟩
      rw [← hs9] at hh
      refine then_normal ?_
      refine c_seq ?_
      refine c_region ?_
      refine wl (wl_val hl rfl trivial (r_move hl rfl) ?_)
      clear hl a; intro a hl
      refine wl (wl_val hl rfl trivial (r_move hl rfl) ?_)
      clear hl a; intro a hl
      refine wl (wl_val hl rfl trivial (r_move hl rfl) ?_)
      clear hl a; intro a hl
      refine wl (wl_val hl rfl trivial (r_move hl rfl) ?_)
      clear hl a; intro a hl
      refine wl (wl_val hl rfl trivial (r_nilCheck hl rfl) ?_)
      clear hl a; intro a hl
      refine wl (wl_val hl rfl trivial (r_field hl rfl fld69_1) ?_)
      clear hl a; intro a hl
      refine wl (w_load hl hh rfl trivial one2 rfl (by repeat (first | exact find_head | apply find_tail)) (by first | rfl) ?_)
      clear hl a; intro a hl
      refine wl (wl_val hl rfl trivial (r_nilCheck hl rfl) ?_)
      clear hl a; intro a hl
      refine wl (wl_val hl rfl trivial (r_field hl rfl fld69_5) ?_)
      clear hl a; intro a hl
      refine wl (w_store hl hh trivial one2 rfl rfl (by repeat (first | exact find_head | apply find_tail)) (by first | (simp; done) | (simp; omega)) (by first | rfl | assumption | (apply Row.one; assumption)) (by first | (simp only [encM, setL, List.getElem?_cons_zero, List.getElem?_cons_succ, Value.cells, List.take_zero, List.take_succ_cons, List.take_nil, List.drop_zero, List.drop_succ_cons, List.drop_nil, List.length_cons, List.length_nil, List.cons_append, List.nil_append, List.append_nil, Nat.zero_add, Nat.add_zero, Nat.reduceAdd, Nat.reduceBEq, Nat.reduceEqDiff, Nat.ble, BEq.rfl, Bool.and_true, Bool.and_self, cond_true, beq_self_eq_true]; rfl) | (simp only [setL, List.getElem?_cons_zero, List.getElem?_cons_succ, Value.cells, List.take_zero, List.take_succ_cons, List.take_nil, List.drop_zero, List.drop_succ_cons, List.drop_nil, List.length_cons, List.length_nil, List.cons_append, List.nil_append, List.append_nil, Nat.zero_add, Nat.add_zero, Nat.reduceAdd, Nat.reduceBEq, Nat.reduceEqDiff, Nat.ble, BEq.rfl, Bool.and_true, Bool.and_self, cond_true, beq_self_eq_true]; rfl)) ?_)
      clear hh w; intro w hh
      refine wl (wl_val hl rfl trivial (r_nilCheck hl rfl) ?_)
      clear hl a; intro a hl
      refine wl (wl_val hl rfl trivial (r_field hl rfl fld69_7) ?_)
      clear hl a; intro a hl
      refine wl (w_store hl hh trivial one2 rfl rfl (by repeat (first | exact find_head | apply find_tail)) (by first | (simp; done) | (simp; omega)) (by first | rfl | assumption | (apply Row.one; assumption)) (by first | (simp only [encM, setL, List.getElem?_cons_zero, List.getElem?_cons_succ, Value.cells, List.take_zero, List.take_succ_cons, List.take_nil, List.drop_zero, List.drop_succ_cons, List.drop_nil, List.length_cons, List.length_nil, List.cons_append, List.nil_append, List.append_nil, Nat.zero_add, Nat.add_zero, Nat.reduceAdd, Nat.reduceBEq, Nat.reduceEqDiff, Nat.ble, BEq.rfl, Bool.and_true, Bool.and_self, cond_true, beq_self_eq_true]; rfl) | (simp only [setL, List.getElem?_cons_zero, List.getElem?_cons_succ, Value.cells, List.take_zero, List.take_succ_cons, List.take_nil, List.drop_zero, List.drop_succ_cons, List.drop_nil, List.length_cons, List.length_nil, List.cons_append, List.nil_append, List.append_nil, Nat.zero_add, Nat.add_zero, Nat.reduceAdd, Nat.reduceBEq, Nat.reduceEqDiff, Nat.ble, BEq.rfl, Bool.and_true, Bool.and_self, cond_true, beq_self_eq_true]; rfl)) ?_)
      clear hh w; intro w hh
      refine wl (wl_val hl rfl trivial (r_nilCheck hl rfl) ?_)
      clear hl a; intro a hl
      refine wl (wl_val hl rfl trivial (r_field hl rfl fld69_13) ?_)
      clear hl a; intro a hl
      refine wl (w_store hl hh trivial one2 rfl rfl (by repeat (first | exact find_head | apply find_tail)) (by first | (simp; done) | (simp; omega)) (by first | rfl | assumption | (apply Row.one; assumption)) (by first | (simp only [encM, setL, List.getElem?_cons_zero, List.getElem?_cons_succ, Value.cells, List.take_zero, List.take_succ_cons, List.take_nil, List.drop_zero, List.drop_succ_cons, List.drop_nil, List.length_cons, List.length_nil, List.cons_append, List.nil_append, List.append_nil, Nat.zero_add, Nat.add_zero, Nat.reduceAdd, Nat.reduceBEq, Nat.reduceEqDiff, Nat.ble, BEq.rfl, Bool.and_true, Bool.and_self, cond_true, beq_self_eq_true]; rfl) | (simp only [setL, List.getElem?_cons_zero, List.getElem?_cons_succ, Value.cells, List.take_zero, List.take_succ_cons, List.take_nil, List.drop_zero, List.drop_succ_cons, List.drop_nil, List.length_cons, List.length_nil, List.cons_append, List.nil_append, List.append_nil, Nat.zero_add, Nat.add_zero, Nat.reduceAdd, Nat.reduceBEq, Nat.reduceEqDiff, Nat.ble, BEq.rfl, Bool.and_true, Bool.and_self, cond_true, beq_self_eq_true]; rfl)) ?_)
      clear hh w; intro w hh
      refine w_nil ?_
      have hl2 := hl.add (t := 0) (hl.nil) rfl; clear hl; have hl := hl2; clear hl2
      refine then_normal ?_
      refine c_seq ?_
      refine c_draw [] [17, 18, 19] mixed hh ?_
      clear hh w; intro w hh
      have hM : Mem [] w := Mem.nil
      refine d_take (i := 0) hl rfl (by kernel_rfl) (by kernel_rfl) (by kernel_rfl) (by kernel_rfl) (by kernel_rfl) rfl trivial (fun _ _ _ h => h) hM (fun w hC => r_move hl rfl) rfl ?_
      clear hl a; intro a hl
      refine d_take (i := 1) hl rfl (by kernel_rfl) (by kernel_rfl) (by kernel_rfl) (by kernel_rfl) (by kernel_rfl) rfl trivial (fun _ _ _ h => h) hM (fun w hC => r_move hl rfl) rfl ?_
      clear hl a; intro a hl
      refine d_take (i := 2) hl rfl (by kernel_rfl) (by kernel_rfl) (by kernel_rfl) (by kernel_rfl) (by kernel_rfl) rfl trivial (fun _ _ _ h => h) hM (fun w hC => r_move hl rfl) rfl ?_
      clear hl a; intro a hl
      refine d_take (i := 3) hl rfl (by kernel_rfl) (by kernel_rfl) (by kernel_rfl) (by kernel_rfl) (by kernel_rfl) rfl trivial (fun _ _ _ h => h) hM (fun w hC => r_move hl rfl) rfl ?_
      clear hl a; intro a hl
      refine d_take (i := 4) hl rfl (by kernel_rfl) (by kernel_rfl) (by kernel_rfl) (by kernel_rfl) (by kernel_rfl) rfl trivial (fun _ _ _ h => h) hM (fun w hC => r_nilCheck hl rfl) rfl ?_
      clear hl a; intro a hl
      refine d_take (i := 5) hl rfl (by kernel_rfl) (by kernel_rfl) (by kernel_rfl) (by kernel_rfl) (by kernel_rfl) rfl trivial (fun _ _ _ h => h) hM (fun w hC => r_field hl rfl fld69_9) rfl ?_
      clear hl a; intro a hl
      refine d_take (i := 7) hl rfl (by kernel_rfl) (by kernel_rfl) (by kernel_rfl) (by kernel_rfl) (by kernel_rfl) rfl trivial (fun _ _ _ h => h) hM (fun w hC => r_move hl rfl) rfl ?_
      clear hl a; intro a hl
      refine d_take (i := 8) hl rfl (by kernel_rfl) (by kernel_rfl) (by kernel_rfl) (by kernel_rfl) (by kernel_rfl) rfl trivial (fun _ _ _ h => h) hM (fun w hC => r_nilCheck hl rfl) rfl ?_
      clear hl a; intro a hl
      refine d_take (i := 9) hl rfl (by kernel_rfl) (by kernel_rfl) (by kernel_rfl) (by kernel_rfl) (by kernel_rfl) rfl trivial (fun _ _ _ h => h) hM (fun w hC => r_field hl rfl fld69_8) rfl ?_
      clear hl a; intro a hl
      refine d_two (i := 6) (j := 10) (by kernel_rfl) rfl rfl ?_ ?_
      ·
        try clear hM
        refine id (w_load hl hh rfl trivial one2 rfl (by repeat (first | exact find_head | apply find_tail)) (by first | rfl) ?_)
        clear hl a; intro a hl
        have hM : Mem [] w := Mem.nil
        refine d_step (fun _ => hM) ?_
        refine d_one (i := 10) (by kernel_rfl) rfl ?_
        try clear hM
        refine id (w_load hl hh rfl trivial one2 rfl (by repeat (first | exact find_head | apply find_tail)) (by first | rfl) ?_)
        clear hl a; intro a hl
        have hM : Mem [] w := Mem.nil
        refine d_step (fun _ => hM) ?_
        refine d_take (i := 11) hl rfl (by kernel_rfl) (by kernel_rfl) (by kernel_rfl) (by kernel_rfl) (by kernel_rfl) rfl trivial (fun _ _ _ h => h) hM (fun w hC => r_nilCheck hl rfl) rfl ?_
        clear hl a; intro a hl
        refine d_take (i := 12) hl rfl (by kernel_rfl) (by kernel_rfl) (by kernel_rfl) (by kernel_rfl) (by kernel_rfl) rfl trivial (fun _ _ _ h => h) hM (fun w hC => r_field hl rfl fld69_10) rfl ?_
        clear hl a; intro a hl
        refine d_one (i := 13) (by kernel_rfl) rfl ?_
        try clear hM
        refine id (w_store hl hh trivial one59 rfl rfl (by repeat (first | exact find_head | apply find_tail)) (by first | (simp; done) | (simp; omega)) (by first | rfl | assumption | (apply Row.one; assumption)) (by first | (simp only [encM, setL, List.getElem?_cons_zero, List.getElem?_cons_succ, Value.cells, List.take_zero, List.take_succ_cons, List.take_nil, List.drop_zero, List.drop_succ_cons, List.drop_nil, List.length_cons, List.length_nil, List.cons_append, List.nil_append, List.append_nil, Nat.zero_add, Nat.add_zero, Nat.reduceAdd, Nat.reduceBEq, Nat.reduceEqDiff, Nat.ble, BEq.rfl, Bool.and_true, Bool.and_self, cond_true, beq_self_eq_true]; rfl) | (simp only [setL, List.getElem?_cons_zero, List.getElem?_cons_succ, Value.cells, List.take_zero, List.take_succ_cons, List.take_nil, List.drop_zero, List.drop_succ_cons, List.drop_nil, List.length_cons, List.length_nil, List.cons_append, List.nil_append, List.append_nil, Nat.zero_add, Nat.add_zero, Nat.reduceAdd, Nat.reduceBEq, Nat.reduceEqDiff, Nat.ble, BEq.rfl, Bool.and_true, Bool.and_self, cond_true, beq_self_eq_true]; rfl)) ?_)
        clear hh w; intro w hh
        have hM : Mem [] w := Mem.nil
        refine d_step (fun _ => hM) ?_
        refine d_take (i := 14) hl rfl (by kernel_rfl) (by kernel_rfl) (by kernel_rfl) (by kernel_rfl) (by kernel_rfl) rfl trivial (fun _ _ _ h => h) hM (fun w hC => r_nilCheck hl rfl) rfl ?_
        clear hl a; intro a hl
        refine d_take (i := 15) hl rfl (by kernel_rfl) (by kernel_rfl) (by kernel_rfl) (by kernel_rfl) (by kernel_rfl) rfl trivial (fun _ _ _ h => h) hM (fun w hC => r_field hl rfl fld69_11) rfl ?_
        clear hl a; intro a hl
        refine d_one (i := 16) (by kernel_rfl) rfl ?_
        try clear hM
        refine id (w_store hl hh trivial one2 rfl rfl (by repeat (first | exact find_head | apply find_tail)) (by first | (simp; done) | (simp; omega)) (by first | rfl | assumption | (apply Row.one; assumption)) (by first | (simp only [encM, setL, List.getElem?_cons_zero, List.getElem?_cons_succ, Value.cells, List.take_zero, List.take_succ_cons, List.take_nil, List.drop_zero, List.drop_succ_cons, List.drop_nil, List.length_cons, List.length_nil, List.cons_append, List.nil_append, List.append_nil, Nat.zero_add, Nat.add_zero, Nat.reduceAdd, Nat.reduceBEq, Nat.reduceEqDiff, Nat.ble, BEq.rfl, Bool.and_true, Bool.and_self, cond_true, beq_self_eq_true]; rfl) | (simp only [setL, List.getElem?_cons_zero, List.getElem?_cons_succ, Value.cells, List.take_zero, List.take_succ_cons, List.take_nil, List.drop_zero, List.drop_succ_cons, List.drop_nil, List.length_cons, List.length_nil, List.cons_append, List.nil_append, List.append_nil, Nat.zero_add, Nat.add_zero, Nat.reduceAdd, Nat.reduceBEq, Nat.reduceEqDiff, Nat.ble, BEq.rfl, Bool.and_true, Bool.and_self, cond_true, beq_self_eq_true]; rfl)) ?_)
        clear hh w; intro w hh
        have hM : Mem [] w := Mem.nil
        refine d_step (fun _ => hM) ?_
        refine d_takeL (i := 17) hl rfl (by kernel_rfl) (by kernel_rfl) (by kernel_rfl) (by kernel_rfl) (by kernel_rfl) rfl trivial (fun _ _ _ h => h) (fun w => r_nilCheck hl rfl) rfl ?_
        clear hl a; intro a hl
        refine d_takeL (i := 18) hl rfl (by kernel_rfl) (by kernel_rfl) (by kernel_rfl) (by kernel_rfl) (by kernel_rfl) rfl trivial (fun _ _ _ h => h) (fun w => r_field hl rfl fld69_12) rfl ?_
        clear hl a; intro a hl
        refine d_one (i := 19) (by kernel_rfl) rfl ?_
        try clear hM
        refine id (w_store hl hh trivial one2 rfl rfl (by repeat (first | exact find_head | apply find_tail)) (by first | (simp; done) | (simp; omega)) (by first | rfl | assumption | (apply Row.one; assumption)) (by first | (simp only [encM, setL, List.getElem?_cons_zero, List.getElem?_cons_succ, Value.cells, List.take_zero, List.take_succ_cons, List.take_nil, List.drop_zero, List.drop_succ_cons, List.drop_nil, List.length_cons, List.length_nil, List.cons_append, List.nil_append, List.append_nil, Nat.zero_add, Nat.add_zero, Nat.reduceAdd, Nat.reduceBEq, Nat.reduceEqDiff, Nat.ble, BEq.rfl, Bool.and_true, Bool.and_self, cond_true, beq_self_eq_true]; rfl) | (simp only [setL, List.getElem?_cons_zero, List.getElem?_cons_succ, Value.cells, List.take_zero, List.take_succ_cons, List.take_nil, List.drop_zero, List.drop_succ_cons, List.drop_nil, List.length_cons, List.length_nil, List.cons_append, List.nil_append, List.append_nil, Nat.zero_add, Nat.add_zero, Nat.reduceAdd, Nat.reduceBEq, Nat.reduceEqDiff, Nat.ble, BEq.rfl, Bool.and_true, Bool.and_self, cond_true, beq_self_eq_true]; rfl)) ?_)
        clear hh w; intro w hh
        refine d_step (fun h => absurd h (by decide)) ?_
        refine d_done (by kernel_rfl) ?_
        try clear hM
        have hl2 := hl.add (t := 0) (hl.nil) rfl; clear hl; have hl := hl2; clear hl2
        refine then_normal ?_
        refine c_region ?_
        refine wl (wl_val hl rfl trivial (r_move hl rfl) ?_)
        clear hl a; intro a hl
        refine wl (wl_val hl rfl trivial (r_move hl rfl) ?_)
        clear hl a; intro a hl
        refine wl (wl_val hl rfl trivial (r_nilCheck hl rfl) ?_)
        clear hl a; intro a hl
        refine wl (wl_val hl rfl trivial (r_field hl rfl fld69_14) ?_)
        clear hl a; intro a hl
        refine wl (w_store hl hh trivial one4 rfl rfl (by repeat (first | exact find_head | apply find_tail)) (by first | (simp; done) | (simp; omega)) (by first | rfl | assumption | (apply Row.one; assumption)) (by first | (simp only [encM, setL, List.getElem?_cons_zero, List.getElem?_cons_succ, Value.cells, List.take_zero, List.take_succ_cons, List.take_nil, List.drop_zero, List.drop_succ_cons, List.drop_nil, List.length_cons, List.length_nil, List.cons_append, List.nil_append, List.append_nil, Nat.zero_add, Nat.add_zero, Nat.reduceAdd, Nat.reduceBEq, Nat.reduceEqDiff, Nat.ble, BEq.rfl, Bool.and_true, Bool.and_self, cond_true, beq_self_eq_true]; rfl) | (simp only [setL, List.getElem?_cons_zero, List.getElem?_cons_succ, Value.cells, List.take_zero, List.take_succ_cons, List.take_nil, List.drop_zero, List.drop_succ_cons, List.drop_nil, List.length_cons, List.length_nil, List.cons_append, List.nil_append, List.append_nil, Nat.zero_add, Nat.add_zero, Nat.reduceAdd, Nat.reduceBEq, Nat.reduceEqDiff, Nat.ble, BEq.rfl, Bool.and_true, Bool.and_self, cond_true, beq_self_eq_true]; rfl)) ?_)
        clear hh w; intro w hh
        refine wl (wl_val hl rfl trivial (r_nilCheck hl rfl) ?_)
        clear hl a; intro a hl
        refine wl (wl_val hl rfl trivial (r_field hl rfl fld69_15) ?_)
        clear hl a; intro a hl
        refine wl (w_store hl hh trivial one4 rfl rfl (by repeat (first | exact find_head | apply find_tail)) (by first | (simp; done) | (simp; omega)) (by first | rfl | assumption | (apply Row.one; assumption)) (by first | (simp only [encM, setL, List.getElem?_cons_zero, List.getElem?_cons_succ, Value.cells, List.take_zero, List.take_succ_cons, List.take_nil, List.drop_zero, List.drop_succ_cons, List.drop_nil, List.length_cons, List.length_nil, List.cons_append, List.nil_append, List.append_nil, Nat.zero_add, Nat.add_zero, Nat.reduceAdd, Nat.reduceBEq, Nat.reduceEqDiff, Nat.ble, BEq.rfl, Bool.and_true, Bool.and_self, cond_true, beq_self_eq_true]; rfl) | (simp only [setL, List.getElem?_cons_zero, List.getElem?_cons_succ, Value.cells, List.take_zero, List.take_succ_cons, List.take_nil, List.drop_zero, List.drop_succ_cons, List.drop_nil, List.length_cons, List.length_nil, List.cons_append, List.nil_append, List.append_nil, Nat.zero_add, Nat.add_zero, Nat.reduceAdd, Nat.reduceBEq, Nat.reduceEqDiff, Nat.ble, BEq.rfl, Bool.and_true, Bool.and_self, cond_true, beq_self_eq_true]; rfl)) ?_)
        clear hh w; intro w hh
        refine w_nil ?_
        have hl2 := hl.nil; clear hl; have hl := hl2; clear hl2
        refine f_end0 (F' := [(mp, C (encM (rtoM s) st sk bp) 69)]) hl hh rfl (by repeat (first | exact keeps_nil | apply keeps_cons (by repeat (first | exact find_head | apply find_tail)) (by first  | (exact blk_eqM (congrArg (fun z => encM z st sk bp) (show ({ s9 with cwnd := s9.mss, credit := 0, dups := 0, phase := 2, recov := s9.nxt, high := s9.una, forced := true, timed := true } : CS) = rtoM s from by rw [hs9]; exact (rto_1 (by assumption) (by assumption)).symm))) | (exact blk_eqM (congrArg (fun z => encM z st sk bp) (show ({ s9 with cwnd := s9.mss, credit := 0, dups := 0, phase := 2, recov := s9.nxt, high := s9.una, forced := true, timed := true } : CS) = rtoM s from by rw [hs9]; exact (rto_2 (by assumption) (by assumption)).symm))) | rfl) | exact keeps_self | apply keeps_mv)) ?_
        exact ⟨rfl, rfl⟩
      ·
        try clear hM
        refine id (w_load hl hh rfl trivial one2 rfl (by repeat (first | exact find_head | apply find_tail)) (by first | rfl) ?_)
        clear hl a; intro a hl
        have hM : Mem [] w := Mem.nil
        refine d_step (fun _ => hM) ?_
        refine d_one (i := 6) (by kernel_rfl) rfl ?_
        try clear hM
        refine id (w_load hl hh rfl trivial one2 rfl (by repeat (first | exact find_head | apply find_tail)) (by first | rfl) ?_)
        clear hl a; intro a hl
        have hM : Mem [] w := Mem.nil
        refine d_step (fun _ => hM) ?_
        refine d_take (i := 11) hl rfl (by kernel_rfl) (by kernel_rfl) (by kernel_rfl) (by kernel_rfl) (by kernel_rfl) rfl trivial (fun _ _ _ h => h) hM (fun w hC => r_nilCheck hl rfl) rfl ?_
        clear hl a; intro a hl
        refine d_take (i := 12) hl rfl (by kernel_rfl) (by kernel_rfl) (by kernel_rfl) (by kernel_rfl) (by kernel_rfl) rfl trivial (fun _ _ _ h => h) hM (fun w hC => r_field hl rfl fld69_10) rfl ?_
        clear hl a; intro a hl
        refine d_one (i := 13) (by kernel_rfl) rfl ?_
        try clear hM
        refine id (w_store hl hh trivial one59 rfl rfl (by repeat (first | exact find_head | apply find_tail)) (by first | (simp; done) | (simp; omega)) (by first | rfl | assumption | (apply Row.one; assumption)) (by first | (simp only [encM, setL, List.getElem?_cons_zero, List.getElem?_cons_succ, Value.cells, List.take_zero, List.take_succ_cons, List.take_nil, List.drop_zero, List.drop_succ_cons, List.drop_nil, List.length_cons, List.length_nil, List.cons_append, List.nil_append, List.append_nil, Nat.zero_add, Nat.add_zero, Nat.reduceAdd, Nat.reduceBEq, Nat.reduceEqDiff, Nat.ble, BEq.rfl, Bool.and_true, Bool.and_self, cond_true, beq_self_eq_true]; rfl) | (simp only [setL, List.getElem?_cons_zero, List.getElem?_cons_succ, Value.cells, List.take_zero, List.take_succ_cons, List.take_nil, List.drop_zero, List.drop_succ_cons, List.drop_nil, List.length_cons, List.length_nil, List.cons_append, List.nil_append, List.append_nil, Nat.zero_add, Nat.add_zero, Nat.reduceAdd, Nat.reduceBEq, Nat.reduceEqDiff, Nat.ble, BEq.rfl, Bool.and_true, Bool.and_self, cond_true, beq_self_eq_true]; rfl)) ?_)
        clear hh w; intro w hh
        have hM : Mem [] w := Mem.nil
        refine d_step (fun _ => hM) ?_
        refine d_take (i := 14) hl rfl (by kernel_rfl) (by kernel_rfl) (by kernel_rfl) (by kernel_rfl) (by kernel_rfl) rfl trivial (fun _ _ _ h => h) hM (fun w hC => r_nilCheck hl rfl) rfl ?_
        clear hl a; intro a hl
        refine d_take (i := 15) hl rfl (by kernel_rfl) (by kernel_rfl) (by kernel_rfl) (by kernel_rfl) (by kernel_rfl) rfl trivial (fun _ _ _ h => h) hM (fun w hC => r_field hl rfl fld69_11) rfl ?_
        clear hl a; intro a hl
        refine d_one (i := 16) (by kernel_rfl) rfl ?_
        try clear hM
        refine id (w_store hl hh trivial one2 rfl rfl (by repeat (first | exact find_head | apply find_tail)) (by first | (simp; done) | (simp; omega)) (by first | rfl | assumption | (apply Row.one; assumption)) (by first | (simp only [encM, setL, List.getElem?_cons_zero, List.getElem?_cons_succ, Value.cells, List.take_zero, List.take_succ_cons, List.take_nil, List.drop_zero, List.drop_succ_cons, List.drop_nil, List.length_cons, List.length_nil, List.cons_append, List.nil_append, List.append_nil, Nat.zero_add, Nat.add_zero, Nat.reduceAdd, Nat.reduceBEq, Nat.reduceEqDiff, Nat.ble, BEq.rfl, Bool.and_true, Bool.and_self, cond_true, beq_self_eq_true]; rfl) | (simp only [setL, List.getElem?_cons_zero, List.getElem?_cons_succ, Value.cells, List.take_zero, List.take_succ_cons, List.take_nil, List.drop_zero, List.drop_succ_cons, List.drop_nil, List.length_cons, List.length_nil, List.cons_append, List.nil_append, List.append_nil, Nat.zero_add, Nat.add_zero, Nat.reduceAdd, Nat.reduceBEq, Nat.reduceEqDiff, Nat.ble, BEq.rfl, Bool.and_true, Bool.and_self, cond_true, beq_self_eq_true]; rfl)) ?_)
        clear hh w; intro w hh
        have hM : Mem [] w := Mem.nil
        refine d_step (fun _ => hM) ?_
        refine d_takeL (i := 17) hl rfl (by kernel_rfl) (by kernel_rfl) (by kernel_rfl) (by kernel_rfl) (by kernel_rfl) rfl trivial (fun _ _ _ h => h) (fun w => r_nilCheck hl rfl) rfl ?_
        clear hl a; intro a hl
        refine d_takeL (i := 18) hl rfl (by kernel_rfl) (by kernel_rfl) (by kernel_rfl) (by kernel_rfl) (by kernel_rfl) rfl trivial (fun _ _ _ h => h) (fun w => r_field hl rfl fld69_12) rfl ?_
        clear hl a; intro a hl
        refine d_one (i := 19) (by kernel_rfl) rfl ?_
        try clear hM
        refine id (w_store hl hh trivial one2 rfl rfl (by repeat (first | exact find_head | apply find_tail)) (by first | (simp; done) | (simp; omega)) (by first | rfl | assumption | (apply Row.one; assumption)) (by first | (simp only [encM, setL, List.getElem?_cons_zero, List.getElem?_cons_succ, Value.cells, List.take_zero, List.take_succ_cons, List.take_nil, List.drop_zero, List.drop_succ_cons, List.drop_nil, List.length_cons, List.length_nil, List.cons_append, List.nil_append, List.append_nil, Nat.zero_add, Nat.add_zero, Nat.reduceAdd, Nat.reduceBEq, Nat.reduceEqDiff, Nat.ble, BEq.rfl, Bool.and_true, Bool.and_self, cond_true, beq_self_eq_true]; rfl) | (simp only [setL, List.getElem?_cons_zero, List.getElem?_cons_succ, Value.cells, List.take_zero, List.take_succ_cons, List.take_nil, List.drop_zero, List.drop_succ_cons, List.drop_nil, List.length_cons, List.length_nil, List.cons_append, List.nil_append, List.append_nil, Nat.zero_add, Nat.add_zero, Nat.reduceAdd, Nat.reduceBEq, Nat.reduceEqDiff, Nat.ble, BEq.rfl, Bool.and_true, Bool.and_self, cond_true, beq_self_eq_true]; rfl)) ?_)
        clear hh w; intro w hh
        refine d_step (fun h => absurd h (by decide)) ?_
        refine d_done (by kernel_rfl) ?_
        try clear hM
        have hl2 := hl.add (t := 0) (hl.nil) rfl; clear hl; have hl := hl2; clear hl2
        refine then_normal ?_
        refine c_region ?_
        refine wl (wl_val hl rfl trivial (r_move hl rfl) ?_)
        clear hl a; intro a hl
        refine wl (wl_val hl rfl trivial (r_move hl rfl) ?_)
        clear hl a; intro a hl
        refine wl (wl_val hl rfl trivial (r_nilCheck hl rfl) ?_)
        clear hl a; intro a hl
        refine wl (wl_val hl rfl trivial (r_field hl rfl fld69_14) ?_)
        clear hl a; intro a hl
        refine wl (w_store hl hh trivial one4 rfl rfl (by repeat (first | exact find_head | apply find_tail)) (by first | (simp; done) | (simp; omega)) (by first | rfl | assumption | (apply Row.one; assumption)) (by first | (simp only [encM, setL, List.getElem?_cons_zero, List.getElem?_cons_succ, Value.cells, List.take_zero, List.take_succ_cons, List.take_nil, List.drop_zero, List.drop_succ_cons, List.drop_nil, List.length_cons, List.length_nil, List.cons_append, List.nil_append, List.append_nil, Nat.zero_add, Nat.add_zero, Nat.reduceAdd, Nat.reduceBEq, Nat.reduceEqDiff, Nat.ble, BEq.rfl, Bool.and_true, Bool.and_self, cond_true, beq_self_eq_true]; rfl) | (simp only [setL, List.getElem?_cons_zero, List.getElem?_cons_succ, Value.cells, List.take_zero, List.take_succ_cons, List.take_nil, List.drop_zero, List.drop_succ_cons, List.drop_nil, List.length_cons, List.length_nil, List.cons_append, List.nil_append, List.append_nil, Nat.zero_add, Nat.add_zero, Nat.reduceAdd, Nat.reduceBEq, Nat.reduceEqDiff, Nat.ble, BEq.rfl, Bool.and_true, Bool.and_self, cond_true, beq_self_eq_true]; rfl)) ?_)
        clear hh w; intro w hh
        refine wl (wl_val hl rfl trivial (r_nilCheck hl rfl) ?_)
        clear hl a; intro a hl
        refine wl (wl_val hl rfl trivial (r_field hl rfl fld69_15) ?_)
        clear hl a; intro a hl
        refine wl (w_store hl hh trivial one4 rfl rfl (by repeat (first | exact find_head | apply find_tail)) (by first | (simp; done) | (simp; omega)) (by first | rfl | assumption | (apply Row.one; assumption)) (by first | (simp only [encM, setL, List.getElem?_cons_zero, List.getElem?_cons_succ, Value.cells, List.take_zero, List.take_succ_cons, List.take_nil, List.drop_zero, List.drop_succ_cons, List.drop_nil, List.length_cons, List.length_nil, List.cons_append, List.nil_append, List.append_nil, Nat.zero_add, Nat.add_zero, Nat.reduceAdd, Nat.reduceBEq, Nat.reduceEqDiff, Nat.ble, BEq.rfl, Bool.and_true, Bool.and_self, cond_true, beq_self_eq_true]; rfl) | (simp only [setL, List.getElem?_cons_zero, List.getElem?_cons_succ, Value.cells, List.take_zero, List.take_succ_cons, List.take_nil, List.drop_zero, List.drop_succ_cons, List.drop_nil, List.length_cons, List.length_nil, List.cons_append, List.nil_append, List.append_nil, Nat.zero_add, Nat.add_zero, Nat.reduceAdd, Nat.reduceBEq, Nat.reduceEqDiff, Nat.ble, BEq.rfl, Bool.and_true, Bool.and_self, cond_true, beq_self_eq_true]; rfl)) ?_)
        clear hh w; intro w hh
        refine w_nil ?_
        have hl2 := hl.nil; clear hl; have hl := hl2; clear hl2
        refine f_end0 (F' := [(mp, C (encM (rtoM s) st sk bp) 69)]) hl hh rfl (by repeat (first | exact keeps_nil | apply keeps_cons (by repeat (first | exact find_head | apply find_tail)) (by first  | (exact blk_eqM (congrArg (fun z => encM z st sk bp) (show ({ s9 with cwnd := s9.mss, credit := 0, dups := 0, phase := 2, recov := s9.nxt, high := s9.una, forced := true, timed := true } : CS) = rtoM s from by rw [hs9]; exact (rto_1 (by assumption) (by assumption)).symm))) | (exact blk_eqM (congrArg (fun z => encM z st sk bp) (show ({ s9 with cwnd := s9.mss, credit := 0, dups := 0, phase := 2, recov := s9.nxt, high := s9.una, forced := true, timed := true } : CS) = rtoM s from by rw [hs9]; exact (rto_2 (by assumption) (by assumption)).symm))) | rfl) | exact keeps_self | apply keeps_mv)) ?_
        exact ⟨rfl, rfl⟩
    · intro hc1
      try simp only [decide_eq_true_eq, decide_eq_false_iff_not, Bool.not_eq_true', Bool.not_eq_false', Bool.not_eq_true, Bool.not_eq_false, Bool.and_eq_true, Bool.or_eq_true, Bool.and_eq_false_iff, Bool.or_eq_false_iff, Bool.not_not, ne_eq, Int.not_lt, Int.not_le, Decidable.not_not, beq_iff_eq, bne_iff_ne] at hc1
      replace hh : Has _ w0 [(mp, C (encM (s) st sk bp) 69)] w := hh
      obtain ⟨s9, hs9⟩ : ∃ z : CS, z = s := ⟨_, rfl⟩
      rw [← hs9] at hh
      refine wp_skip ?_
      refine then_normal ?_
      refine c_seq ?_
      refine c_region ?_
      refine wl (wl_val hl rfl trivial (r_move hl rfl) ?_)
      clear hl a; intro a hl
      refine wl (wl_val hl rfl trivial (r_move hl rfl) ?_)
      clear hl a; intro a hl
      refine wl (wl_val hl rfl trivial (r_move hl rfl) ?_)
      clear hl a; intro a hl
      refine wl (wl_val hl rfl trivial (r_move hl rfl) ?_)
      clear hl a; intro a hl
      refine wl (wl_val hl rfl trivial (r_nilCheck hl rfl) ?_)
      clear hl a; intro a hl
      refine wl (wl_val hl rfl trivial (r_field hl rfl fld69_1) ?_)
      clear hl a; intro a hl
      refine wl (w_load hl hh rfl trivial one2 rfl (by repeat (first | exact find_head | apply find_tail)) (by first | rfl) ?_)
      clear hl a; intro a hl
      refine wl (wl_val hl rfl trivial (r_nilCheck hl rfl) ?_)
      clear hl a; intro a hl
      refine wl (wl_val hl rfl trivial (r_field hl rfl fld69_5) ?_)
      clear hl a; intro a hl
      refine wl (w_store hl hh trivial one2 rfl rfl (by repeat (first | exact find_head | apply find_tail)) (by first | (simp; done) | (simp; omega)) (by first | rfl | assumption | (apply Row.one; assumption)) (by first | (simp only [encM, setL, List.getElem?_cons_zero, List.getElem?_cons_succ, Value.cells, List.take_zero, List.take_succ_cons, List.take_nil, List.drop_zero, List.drop_succ_cons, List.drop_nil, List.length_cons, List.length_nil, List.cons_append, List.nil_append, List.append_nil, Nat.zero_add, Nat.add_zero, Nat.reduceAdd, Nat.reduceBEq, Nat.reduceEqDiff, Nat.ble, BEq.rfl, Bool.and_true, Bool.and_self, cond_true, beq_self_eq_true]; rfl) | (simp only [setL, List.getElem?_cons_zero, List.getElem?_cons_succ, Value.cells, List.take_zero, List.take_succ_cons, List.take_nil, List.drop_zero, List.drop_succ_cons, List.drop_nil, List.length_cons, List.length_nil, List.cons_append, List.nil_append, List.append_nil, Nat.zero_add, Nat.add_zero, Nat.reduceAdd, Nat.reduceBEq, Nat.reduceEqDiff, Nat.ble, BEq.rfl, Bool.and_true, Bool.and_self, cond_true, beq_self_eq_true]; rfl)) ?_)
      clear hh w; intro w hh
      refine wl (wl_val hl rfl trivial (r_nilCheck hl rfl) ?_)
      clear hl a; intro a hl
      refine wl (wl_val hl rfl trivial (r_field hl rfl fld69_7) ?_)
      clear hl a; intro a hl
      refine wl (w_store hl hh trivial one2 rfl rfl (by repeat (first | exact find_head | apply find_tail)) (by first | (simp; done) | (simp; omega)) (by first | rfl | assumption | (apply Row.one; assumption)) (by first | (simp only [encM, setL, List.getElem?_cons_zero, List.getElem?_cons_succ, Value.cells, List.take_zero, List.take_succ_cons, List.take_nil, List.drop_zero, List.drop_succ_cons, List.drop_nil, List.length_cons, List.length_nil, List.cons_append, List.nil_append, List.append_nil, Nat.zero_add, Nat.add_zero, Nat.reduceAdd, Nat.reduceBEq, Nat.reduceEqDiff, Nat.ble, BEq.rfl, Bool.and_true, Bool.and_self, cond_true, beq_self_eq_true]; rfl) | (simp only [setL, List.getElem?_cons_zero, List.getElem?_cons_succ, Value.cells, List.take_zero, List.take_succ_cons, List.take_nil, List.drop_zero, List.drop_succ_cons, List.drop_nil, List.length_cons, List.length_nil, List.cons_append, List.nil_append, List.append_nil, Nat.zero_add, Nat.add_zero, Nat.reduceAdd, Nat.reduceBEq, Nat.reduceEqDiff, Nat.ble, BEq.rfl, Bool.and_true, Bool.and_self, cond_true, beq_self_eq_true]; rfl)) ?_)
      clear hh w; intro w hh
      refine wl (wl_val hl rfl trivial (r_nilCheck hl rfl) ?_)
      clear hl a; intro a hl
      refine wl (wl_val hl rfl trivial (r_field hl rfl fld69_13) ?_)
      clear hl a; intro a hl
      refine wl (w_store hl hh trivial one2 rfl rfl (by repeat (first | exact find_head | apply find_tail)) (by first | (simp; done) | (simp; omega)) (by first | rfl | assumption | (apply Row.one; assumption)) (by first | (simp only [encM, setL, List.getElem?_cons_zero, List.getElem?_cons_succ, Value.cells, List.take_zero, List.take_succ_cons, List.take_nil, List.drop_zero, List.drop_succ_cons, List.drop_nil, List.length_cons, List.length_nil, List.cons_append, List.nil_append, List.append_nil, Nat.zero_add, Nat.add_zero, Nat.reduceAdd, Nat.reduceBEq, Nat.reduceEqDiff, Nat.ble, BEq.rfl, Bool.and_true, Bool.and_self, cond_true, beq_self_eq_true]; rfl) | (simp only [setL, List.getElem?_cons_zero, List.getElem?_cons_succ, Value.cells, List.take_zero, List.take_succ_cons, List.take_nil, List.drop_zero, List.drop_succ_cons, List.drop_nil, List.length_cons, List.length_nil, List.cons_append, List.nil_append, List.append_nil, Nat.zero_add, Nat.add_zero, Nat.reduceAdd, Nat.reduceBEq, Nat.reduceEqDiff, Nat.ble, BEq.rfl, Bool.and_true, Bool.and_self, cond_true, beq_self_eq_true]; rfl)) ?_)
      clear hh w; intro w hh
      refine w_nil ?_
      have hl2 := hl.add (t := 0) (hl.nil) rfl; clear hl; have hl := hl2; clear hl2
      refine then_normal ?_
      refine c_seq ?_
      refine c_draw [] [17, 18, 19] mixed hh ?_
      clear hh w; intro w hh
      have hM : Mem [] w := Mem.nil
      refine d_take (i := 0) hl rfl (by kernel_rfl) (by kernel_rfl) (by kernel_rfl) (by kernel_rfl) (by kernel_rfl) rfl trivial (fun _ _ _ h => h) hM (fun w hC => r_move hl rfl) rfl ?_
      clear hl a; intro a hl
      refine d_take (i := 1) hl rfl (by kernel_rfl) (by kernel_rfl) (by kernel_rfl) (by kernel_rfl) (by kernel_rfl) rfl trivial (fun _ _ _ h => h) hM (fun w hC => r_move hl rfl) rfl ?_
      clear hl a; intro a hl
      refine d_take (i := 2) hl rfl (by kernel_rfl) (by kernel_rfl) (by kernel_rfl) (by kernel_rfl) (by kernel_rfl) rfl trivial (fun _ _ _ h => h) hM (fun w hC => r_move hl rfl) rfl ?_
      clear hl a; intro a hl
      refine d_take (i := 3) hl rfl (by kernel_rfl) (by kernel_rfl) (by kernel_rfl) (by kernel_rfl) (by kernel_rfl) rfl trivial (fun _ _ _ h => h) hM (fun w hC => r_move hl rfl) rfl ?_
      clear hl a; intro a hl
      refine d_take (i := 4) hl rfl (by kernel_rfl) (by kernel_rfl) (by kernel_rfl) (by kernel_rfl) (by kernel_rfl) rfl trivial (fun _ _ _ h => h) hM (fun w hC => r_nilCheck hl rfl) rfl ?_
      clear hl a; intro a hl
      refine d_take (i := 5) hl rfl (by kernel_rfl) (by kernel_rfl) (by kernel_rfl) (by kernel_rfl) (by kernel_rfl) rfl trivial (fun _ _ _ h => h) hM (fun w hC => r_field hl rfl fld69_9) rfl ?_
      clear hl a; intro a hl
      refine d_take (i := 7) hl rfl (by kernel_rfl) (by kernel_rfl) (by kernel_rfl) (by kernel_rfl) (by kernel_rfl) rfl trivial (fun _ _ _ h => h) hM (fun w hC => r_move hl rfl) rfl ?_
      clear hl a; intro a hl
      refine d_take (i := 8) hl rfl (by kernel_rfl) (by kernel_rfl) (by kernel_rfl) (by kernel_rfl) (by kernel_rfl) rfl trivial (fun _ _ _ h => h) hM (fun w hC => r_nilCheck hl rfl) rfl ?_
      clear hl a; intro a hl
      refine d_take (i := 9) hl rfl (by kernel_rfl) (by kernel_rfl) (by kernel_rfl) (by kernel_rfl) (by kernel_rfl) rfl trivial (fun _ _ _ h => h) hM (fun w hC => r_field hl rfl fld69_8) rfl ?_
      clear hl a; intro a hl
      refine d_two (i := 6) (j := 10) (by kernel_rfl) rfl rfl ?_ ?_
      ·
        try clear hM
        refine id (w_load hl hh rfl trivial one2 rfl (by repeat (first | exact find_head | apply find_tail)) (by first | rfl) ?_)
        clear hl a; intro a hl
        have hM : Mem [] w := Mem.nil
        refine d_step (fun _ => hM) ?_
        refine d_one (i := 10) (by kernel_rfl) rfl ?_
        try clear hM
        refine id (w_load hl hh rfl trivial one2 rfl (by repeat (first | exact find_head | apply find_tail)) (by first | rfl) ?_)
        clear hl a; intro a hl
        have hM : Mem [] w := Mem.nil
        refine d_step (fun _ => hM) ?_
        refine d_take (i := 11) hl rfl (by kernel_rfl) (by kernel_rfl) (by kernel_rfl) (by kernel_rfl) (by kernel_rfl) rfl trivial (fun _ _ _ h => h) hM (fun w hC => r_nilCheck hl rfl) rfl ?_
        clear hl a; intro a hl
        refine d_take (i := 12) hl rfl (by kernel_rfl) (by kernel_rfl) (by kernel_rfl) (by kernel_rfl) (by kernel_rfl) rfl trivial (fun _ _ _ h => h) hM (fun w hC => r_field hl rfl fld69_10) rfl ?_
        clear hl a; intro a hl
        refine d_one (i := 13) (by kernel_rfl) rfl ?_
        try clear hM
        refine id (w_store hl hh trivial one59 rfl rfl (by repeat (first | exact find_head | apply find_tail)) (by first | (simp; done) | (simp; omega)) (by first | rfl | assumption | (apply Row.one; assumption)) (by first | (simp only [encM, setL, List.getElem?_cons_zero, List.getElem?_cons_succ, Value.cells, List.take_zero, List.take_succ_cons, List.take_nil, List.drop_zero, List.drop_succ_cons, List.drop_nil, List.length_cons, List.length_nil, List.cons_append, List.nil_append, List.append_nil, Nat.zero_add, Nat.add_zero, Nat.reduceAdd, Nat.reduceBEq, Nat.reduceEqDiff, Nat.ble, BEq.rfl, Bool.and_true, Bool.and_self, cond_true, beq_self_eq_true]; rfl) | (simp only [setL, List.getElem?_cons_zero, List.getElem?_cons_succ, Value.cells, List.take_zero, List.take_succ_cons, List.take_nil, List.drop_zero, List.drop_succ_cons, List.drop_nil, List.length_cons, List.length_nil, List.cons_append, List.nil_append, List.append_nil, Nat.zero_add, Nat.add_zero, Nat.reduceAdd, Nat.reduceBEq, Nat.reduceEqDiff, Nat.ble, BEq.rfl, Bool.and_true, Bool.and_self, cond_true, beq_self_eq_true]; rfl)) ?_)
        clear hh w; intro w hh
        have hM : Mem [] w := Mem.nil
        refine d_step (fun _ => hM) ?_
        refine d_take (i := 14) hl rfl (by kernel_rfl) (by kernel_rfl) (by kernel_rfl) (by kernel_rfl) (by kernel_rfl) rfl trivial (fun _ _ _ h => h) hM (fun w hC => r_nilCheck hl rfl) rfl ?_
        clear hl a; intro a hl
        refine d_take (i := 15) hl rfl (by kernel_rfl) (by kernel_rfl) (by kernel_rfl) (by kernel_rfl) (by kernel_rfl) rfl trivial (fun _ _ _ h => h) hM (fun w hC => r_field hl rfl fld69_11) rfl ?_
        clear hl a; intro a hl
        refine d_one (i := 16) (by kernel_rfl) rfl ?_
        try clear hM
        refine id (w_store hl hh trivial one2 rfl rfl (by repeat (first | exact find_head | apply find_tail)) (by first | (simp; done) | (simp; omega)) (by first | rfl | assumption | (apply Row.one; assumption)) (by first | (simp only [encM, setL, List.getElem?_cons_zero, List.getElem?_cons_succ, Value.cells, List.take_zero, List.take_succ_cons, List.take_nil, List.drop_zero, List.drop_succ_cons, List.drop_nil, List.length_cons, List.length_nil, List.cons_append, List.nil_append, List.append_nil, Nat.zero_add, Nat.add_zero, Nat.reduceAdd, Nat.reduceBEq, Nat.reduceEqDiff, Nat.ble, BEq.rfl, Bool.and_true, Bool.and_self, cond_true, beq_self_eq_true]; rfl) | (simp only [setL, List.getElem?_cons_zero, List.getElem?_cons_succ, Value.cells, List.take_zero, List.take_succ_cons, List.take_nil, List.drop_zero, List.drop_succ_cons, List.drop_nil, List.length_cons, List.length_nil, List.cons_append, List.nil_append, List.append_nil, Nat.zero_add, Nat.add_zero, Nat.reduceAdd, Nat.reduceBEq, Nat.reduceEqDiff, Nat.ble, BEq.rfl, Bool.and_true, Bool.and_self, cond_true, beq_self_eq_true]; rfl)) ?_)
        clear hh w; intro w hh
        have hM : Mem [] w := Mem.nil
        refine d_step (fun _ => hM) ?_
        refine d_takeL (i := 17) hl rfl (by kernel_rfl) (by kernel_rfl) (by kernel_rfl) (by kernel_rfl) (by kernel_rfl) rfl trivial (fun _ _ _ h => h) (fun w => r_nilCheck hl rfl) rfl ?_
        clear hl a; intro a hl
        refine d_takeL (i := 18) hl rfl (by kernel_rfl) (by kernel_rfl) (by kernel_rfl) (by kernel_rfl) (by kernel_rfl) rfl trivial (fun _ _ _ h => h) (fun w => r_field hl rfl fld69_12) rfl ?_
        clear hl a; intro a hl
        refine d_one (i := 19) (by kernel_rfl) rfl ?_
        try clear hM
        refine id (w_store hl hh trivial one2 rfl rfl (by repeat (first | exact find_head | apply find_tail)) (by first | (simp; done) | (simp; omega)) (by first | rfl | assumption | (apply Row.one; assumption)) (by first | (simp only [encM, setL, List.getElem?_cons_zero, List.getElem?_cons_succ, Value.cells, List.take_zero, List.take_succ_cons, List.take_nil, List.drop_zero, List.drop_succ_cons, List.drop_nil, List.length_cons, List.length_nil, List.cons_append, List.nil_append, List.append_nil, Nat.zero_add, Nat.add_zero, Nat.reduceAdd, Nat.reduceBEq, Nat.reduceEqDiff, Nat.ble, BEq.rfl, Bool.and_true, Bool.and_self, cond_true, beq_self_eq_true]; rfl) | (simp only [setL, List.getElem?_cons_zero, List.getElem?_cons_succ, Value.cells, List.take_zero, List.take_succ_cons, List.take_nil, List.drop_zero, List.drop_succ_cons, List.drop_nil, List.length_cons, List.length_nil, List.cons_append, List.nil_append, List.append_nil, Nat.zero_add, Nat.add_zero, Nat.reduceAdd, Nat.reduceBEq, Nat.reduceEqDiff, Nat.ble, BEq.rfl, Bool.and_true, Bool.and_self, cond_true, beq_self_eq_true]; rfl)) ?_)
        clear hh w; intro w hh
        refine d_step (fun h => absurd h (by decide)) ?_
        refine d_done (by kernel_rfl) ?_
        try clear hM
        have hl2 := hl.add (t := 0) (hl.nil) rfl; clear hl; have hl := hl2; clear hl2
        refine then_normal ?_
        refine c_region ?_
        refine wl (wl_val hl rfl trivial (r_move hl rfl) ?_)
        clear hl a; intro a hl
        refine wl (wl_val hl rfl trivial (r_move hl rfl) ?_)
        clear hl a; intro a hl
        refine wl (wl_val hl rfl trivial (r_nilCheck hl rfl) ?_)
        clear hl a; intro a hl
        refine wl (wl_val hl rfl trivial (r_field hl rfl fld69_14) ?_)
        clear hl a; intro a hl
        refine wl (w_store hl hh trivial one4 rfl rfl (by repeat (first | exact find_head | apply find_tail)) (by first | (simp; done) | (simp; omega)) (by first | rfl | assumption | (apply Row.one; assumption)) (by first | (simp only [encM, setL, List.getElem?_cons_zero, List.getElem?_cons_succ, Value.cells, List.take_zero, List.take_succ_cons, List.take_nil, List.drop_zero, List.drop_succ_cons, List.drop_nil, List.length_cons, List.length_nil, List.cons_append, List.nil_append, List.append_nil, Nat.zero_add, Nat.add_zero, Nat.reduceAdd, Nat.reduceBEq, Nat.reduceEqDiff, Nat.ble, BEq.rfl, Bool.and_true, Bool.and_self, cond_true, beq_self_eq_true]; rfl) | (simp only [setL, List.getElem?_cons_zero, List.getElem?_cons_succ, Value.cells, List.take_zero, List.take_succ_cons, List.take_nil, List.drop_zero, List.drop_succ_cons, List.drop_nil, List.length_cons, List.length_nil, List.cons_append, List.nil_append, List.append_nil, Nat.zero_add, Nat.add_zero, Nat.reduceAdd, Nat.reduceBEq, Nat.reduceEqDiff, Nat.ble, BEq.rfl, Bool.and_true, Bool.and_self, cond_true, beq_self_eq_true]; rfl)) ?_)
        clear hh w; intro w hh
        refine wl (wl_val hl rfl trivial (r_nilCheck hl rfl) ?_)
        clear hl a; intro a hl
        refine wl (wl_val hl rfl trivial (r_field hl rfl fld69_15) ?_)
        clear hl a; intro a hl
        refine wl (w_store hl hh trivial one4 rfl rfl (by repeat (first | exact find_head | apply find_tail)) (by first | (simp; done) | (simp; omega)) (by first | rfl | assumption | (apply Row.one; assumption)) (by first | (simp only [encM, setL, List.getElem?_cons_zero, List.getElem?_cons_succ, Value.cells, List.take_zero, List.take_succ_cons, List.take_nil, List.drop_zero, List.drop_succ_cons, List.drop_nil, List.length_cons, List.length_nil, List.cons_append, List.nil_append, List.append_nil, Nat.zero_add, Nat.add_zero, Nat.reduceAdd, Nat.reduceBEq, Nat.reduceEqDiff, Nat.ble, BEq.rfl, Bool.and_true, Bool.and_self, cond_true, beq_self_eq_true]; rfl) | (simp only [setL, List.getElem?_cons_zero, List.getElem?_cons_succ, Value.cells, List.take_zero, List.take_succ_cons, List.take_nil, List.drop_zero, List.drop_succ_cons, List.drop_nil, List.length_cons, List.length_nil, List.cons_append, List.nil_append, List.append_nil, Nat.zero_add, Nat.add_zero, Nat.reduceAdd, Nat.reduceBEq, Nat.reduceEqDiff, Nat.ble, BEq.rfl, Bool.and_true, Bool.and_self, cond_true, beq_self_eq_true]; rfl)) ?_)
        clear hh w; intro w hh
        refine w_nil ?_
        have hl2 := hl.nil; clear hl; have hl := hl2; clear hl2
        refine f_end0 (F' := [(mp, C (encM (rtoM s) st sk bp) 69)]) hl hh rfl (by repeat (first | exact keeps_nil | apply keeps_cons (by repeat (first | exact find_head | apply find_tail)) (by first  | (exact blk_eqM (congrArg (fun z => encM z st sk bp) (show ({ s9 with cwnd := s9.mss, credit := 0, dups := 0, phase := 2, recov := s9.nxt, high := s9.una, forced := true, timed := true } : CS) = rtoM s from by rw [hs9]; exact (rto_1 (by assumption) (by assumption)).symm))) | (exact blk_eqM (congrArg (fun z => encM z st sk bp) (show ({ s9 with cwnd := s9.mss, credit := 0, dups := 0, phase := 2, recov := s9.nxt, high := s9.una, forced := true, timed := true } : CS) = rtoM s from by rw [hs9]; exact (rto_2 (by assumption) (by assumption)).symm))) | rfl) | exact keeps_self | apply keeps_mv)) ?_
        exact ⟨rfl, rfl⟩
      ·
        try clear hM
        refine id (w_load hl hh rfl trivial one2 rfl (by repeat (first | exact find_head | apply find_tail)) (by first | rfl) ?_)
        clear hl a; intro a hl
        have hM : Mem [] w := Mem.nil
        refine d_step (fun _ => hM) ?_
        refine d_one (i := 6) (by kernel_rfl) rfl ?_
        try clear hM
        refine id (w_load hl hh rfl trivial one2 rfl (by repeat (first | exact find_head | apply find_tail)) (by first | rfl) ?_)
        clear hl a; intro a hl
        have hM : Mem [] w := Mem.nil
        refine d_step (fun _ => hM) ?_
        refine d_take (i := 11) hl rfl (by kernel_rfl) (by kernel_rfl) (by kernel_rfl) (by kernel_rfl) (by kernel_rfl) rfl trivial (fun _ _ _ h => h) hM (fun w hC => r_nilCheck hl rfl) rfl ?_
        clear hl a; intro a hl
        refine d_take (i := 12) hl rfl (by kernel_rfl) (by kernel_rfl) (by kernel_rfl) (by kernel_rfl) (by kernel_rfl) rfl trivial (fun _ _ _ h => h) hM (fun w hC => r_field hl rfl fld69_10) rfl ?_
        clear hl a; intro a hl
        refine d_one (i := 13) (by kernel_rfl) rfl ?_
        try clear hM
        refine id (w_store hl hh trivial one59 rfl rfl (by repeat (first | exact find_head | apply find_tail)) (by first | (simp; done) | (simp; omega)) (by first | rfl | assumption | (apply Row.one; assumption)) (by first | (simp only [encM, setL, List.getElem?_cons_zero, List.getElem?_cons_succ, Value.cells, List.take_zero, List.take_succ_cons, List.take_nil, List.drop_zero, List.drop_succ_cons, List.drop_nil, List.length_cons, List.length_nil, List.cons_append, List.nil_append, List.append_nil, Nat.zero_add, Nat.add_zero, Nat.reduceAdd, Nat.reduceBEq, Nat.reduceEqDiff, Nat.ble, BEq.rfl, Bool.and_true, Bool.and_self, cond_true, beq_self_eq_true]; rfl) | (simp only [setL, List.getElem?_cons_zero, List.getElem?_cons_succ, Value.cells, List.take_zero, List.take_succ_cons, List.take_nil, List.drop_zero, List.drop_succ_cons, List.drop_nil, List.length_cons, List.length_nil, List.cons_append, List.nil_append, List.append_nil, Nat.zero_add, Nat.add_zero, Nat.reduceAdd, Nat.reduceBEq, Nat.reduceEqDiff, Nat.ble, BEq.rfl, Bool.and_true, Bool.and_self, cond_true, beq_self_eq_true]; rfl)) ?_)
        clear hh w; intro w hh
        have hM : Mem [] w := Mem.nil
        refine d_step (fun _ => hM) ?_
        refine d_take (i := 14) hl rfl (by kernel_rfl) (by kernel_rfl) (by kernel_rfl) (by kernel_rfl) (by kernel_rfl) rfl trivial (fun _ _ _ h => h) hM (fun w hC => r_nilCheck hl rfl) rfl ?_
        clear hl a; intro a hl
        refine d_take (i := 15) hl rfl (by kernel_rfl) (by kernel_rfl) (by kernel_rfl) (by kernel_rfl) (by kernel_rfl) rfl trivial (fun _ _ _ h => h) hM (fun w hC => r_field hl rfl fld69_11) rfl ?_
        clear hl a; intro a hl
        refine d_one (i := 16) (by kernel_rfl) rfl ?_
        try clear hM
        refine id (w_store hl hh trivial one2 rfl rfl (by repeat (first | exact find_head | apply find_tail)) (by first | (simp; done) | (simp; omega)) (by first | rfl | assumption | (apply Row.one; assumption)) (by first | (simp only [encM, setL, List.getElem?_cons_zero, List.getElem?_cons_succ, Value.cells, List.take_zero, List.take_succ_cons, List.take_nil, List.drop_zero, List.drop_succ_cons, List.drop_nil, List.length_cons, List.length_nil, List.cons_append, List.nil_append, List.append_nil, Nat.zero_add, Nat.add_zero, Nat.reduceAdd, Nat.reduceBEq, Nat.reduceEqDiff, Nat.ble, BEq.rfl, Bool.and_true, Bool.and_self, cond_true, beq_self_eq_true]; rfl) | (simp only [setL, List.getElem?_cons_zero, List.getElem?_cons_succ, Value.cells, List.take_zero, List.take_succ_cons, List.take_nil, List.drop_zero, List.drop_succ_cons, List.drop_nil, List.length_cons, List.length_nil, List.cons_append, List.nil_append, List.append_nil, Nat.zero_add, Nat.add_zero, Nat.reduceAdd, Nat.reduceBEq, Nat.reduceEqDiff, Nat.ble, BEq.rfl, Bool.and_true, Bool.and_self, cond_true, beq_self_eq_true]; rfl)) ?_)
        clear hh w; intro w hh
        have hM : Mem [] w := Mem.nil
        refine d_step (fun _ => hM) ?_
        refine d_takeL (i := 17) hl rfl (by kernel_rfl) (by kernel_rfl) (by kernel_rfl) (by kernel_rfl) (by kernel_rfl) rfl trivial (fun _ _ _ h => h) (fun w => r_nilCheck hl rfl) rfl ?_
        clear hl a; intro a hl
        refine d_takeL (i := 18) hl rfl (by kernel_rfl) (by kernel_rfl) (by kernel_rfl) (by kernel_rfl) (by kernel_rfl) rfl trivial (fun _ _ _ h => h) (fun w => r_field hl rfl fld69_12) rfl ?_
        clear hl a; intro a hl
        refine d_one (i := 19) (by kernel_rfl) rfl ?_
        try clear hM
        refine id (w_store hl hh trivial one2 rfl rfl (by repeat (first | exact find_head | apply find_tail)) (by first | (simp; done) | (simp; omega)) (by first | rfl | assumption | (apply Row.one; assumption)) (by first | (simp only [encM, setL, List.getElem?_cons_zero, List.getElem?_cons_succ, Value.cells, List.take_zero, List.take_succ_cons, List.take_nil, List.drop_zero, List.drop_succ_cons, List.drop_nil, List.length_cons, List.length_nil, List.cons_append, List.nil_append, List.append_nil, Nat.zero_add, Nat.add_zero, Nat.reduceAdd, Nat.reduceBEq, Nat.reduceEqDiff, Nat.ble, BEq.rfl, Bool.and_true, Bool.and_self, cond_true, beq_self_eq_true]; rfl) | (simp only [setL, List.getElem?_cons_zero, List.getElem?_cons_succ, Value.cells, List.take_zero, List.take_succ_cons, List.take_nil, List.drop_zero, List.drop_succ_cons, List.drop_nil, List.length_cons, List.length_nil, List.cons_append, List.nil_append, List.append_nil, Nat.zero_add, Nat.add_zero, Nat.reduceAdd, Nat.reduceBEq, Nat.reduceEqDiff, Nat.ble, BEq.rfl, Bool.and_true, Bool.and_self, cond_true, beq_self_eq_true]; rfl)) ?_)
        clear hh w; intro w hh
        refine d_step (fun h => absurd h (by decide)) ?_
        refine d_done (by kernel_rfl) ?_
        try clear hM
        have hl2 := hl.add (t := 0) (hl.nil) rfl; clear hl; have hl := hl2; clear hl2
        refine then_normal ?_
        refine c_region ?_
        refine wl (wl_val hl rfl trivial (r_move hl rfl) ?_)
        clear hl a; intro a hl
        refine wl (wl_val hl rfl trivial (r_move hl rfl) ?_)
        clear hl a; intro a hl
        refine wl (wl_val hl rfl trivial (r_nilCheck hl rfl) ?_)
        clear hl a; intro a hl
        refine wl (wl_val hl rfl trivial (r_field hl rfl fld69_14) ?_)
        clear hl a; intro a hl
        refine wl (w_store hl hh trivial one4 rfl rfl (by repeat (first | exact find_head | apply find_tail)) (by first | (simp; done) | (simp; omega)) (by first | rfl | assumption | (apply Row.one; assumption)) (by first | (simp only [encM, setL, List.getElem?_cons_zero, List.getElem?_cons_succ, Value.cells, List.take_zero, List.take_succ_cons, List.take_nil, List.drop_zero, List.drop_succ_cons, List.drop_nil, List.length_cons, List.length_nil, List.cons_append, List.nil_append, List.append_nil, Nat.zero_add, Nat.add_zero, Nat.reduceAdd, Nat.reduceBEq, Nat.reduceEqDiff, Nat.ble, BEq.rfl, Bool.and_true, Bool.and_self, cond_true, beq_self_eq_true]; rfl) | (simp only [setL, List.getElem?_cons_zero, List.getElem?_cons_succ, Value.cells, List.take_zero, List.take_succ_cons, List.take_nil, List.drop_zero, List.drop_succ_cons, List.drop_nil, List.length_cons, List.length_nil, List.cons_append, List.nil_append, List.append_nil, Nat.zero_add, Nat.add_zero, Nat.reduceAdd, Nat.reduceBEq, Nat.reduceEqDiff, Nat.ble, BEq.rfl, Bool.and_true, Bool.and_self, cond_true, beq_self_eq_true]; rfl)) ?_)
        clear hh w; intro w hh
        refine wl (wl_val hl rfl trivial (r_nilCheck hl rfl) ?_)
        clear hl a; intro a hl
        refine wl (wl_val hl rfl trivial (r_field hl rfl fld69_15) ?_)
        clear hl a; intro a hl
        refine wl (w_store hl hh trivial one4 rfl rfl (by repeat (first | exact find_head | apply find_tail)) (by first | (simp; done) | (simp; omega)) (by first | rfl | assumption | (apply Row.one; assumption)) (by first | (simp only [encM, setL, List.getElem?_cons_zero, List.getElem?_cons_succ, Value.cells, List.take_zero, List.take_succ_cons, List.take_nil, List.drop_zero, List.drop_succ_cons, List.drop_nil, List.length_cons, List.length_nil, List.cons_append, List.nil_append, List.append_nil, Nat.zero_add, Nat.add_zero, Nat.reduceAdd, Nat.reduceBEq, Nat.reduceEqDiff, Nat.ble, BEq.rfl, Bool.and_true, Bool.and_self, cond_true, beq_self_eq_true]; rfl) | (simp only [setL, List.getElem?_cons_zero, List.getElem?_cons_succ, Value.cells, List.take_zero, List.take_succ_cons, List.take_nil, List.drop_zero, List.drop_succ_cons, List.drop_nil, List.length_cons, List.length_nil, List.cons_append, List.nil_append, List.append_nil, Nat.zero_add, Nat.add_zero, Nat.reduceAdd, Nat.reduceBEq, Nat.reduceEqDiff, Nat.ble, BEq.rfl, Bool.and_true, Bool.and_self, cond_true, beq_self_eq_true]; rfl)) ?_)
        clear hh w; intro w hh
        refine w_nil ?_
        have hl2 := hl.nil; clear hl; have hl := hl2; clear hl2
        refine f_end0 (F' := [(mp, C (encM (rtoM s) st sk bp) 69)]) hl hh rfl (by repeat (first | exact keeps_nil | apply keeps_cons (by repeat (first | exact find_head | apply find_tail)) (by first  | (exact blk_eqM (congrArg (fun z => encM z st sk bp) (show ({ s9 with cwnd := s9.mss, credit := 0, dups := 0, phase := 2, recov := s9.nxt, high := s9.una, forced := true, timed := true } : CS) = rtoM s from by rw [hs9]; exact (rto_1 (by assumption) (by assumption)).symm))) | (exact blk_eqM (congrArg (fun z => encM z st sk bp) (show ({ s9 with cwnd := s9.mss, credit := 0, dups := 0, phase := 2, recov := s9.nxt, high := s9.una, forced := true, timed := true } : CS) = rtoM s from by rw [hs9]; exact (rto_2 (by assumption) (by assumption)).symm))) | rfl) | exact keeps_self | apply keeps_mv)) ?_
        exact ⟨rfl, rfl⟩

set_option maxHeartbeats 1000000 in
theorem idle_m (mp : Nat) (s : CS) (st : Int) (sk : Bool) (bp : Nat) (hs : Mk s) : Sp Tryz.prog 25 #[.pointer (some ⟨mp, 0, none⟩)] [(mp, C (encM (s) st sk bp) 69)] (fun v F' => v = .tuple #[] ∧ F' = [(mp, C (encM (idleM s) st sk bp) 69)]) := by
  refine f_enter (args := [.pointer (some ⟨mp, 0, none⟩)]) Tryz.func25 rfl Tryz.ntmps25 rfl ?_
  intro w0 w a hpre hl hh
  have o1 := hs.init; have o2 := hs.maxc; have o3 := hs.bn; have o4 := hs.bd; have o5 := hs.abc; have o6 := hs.dupt; have o7 := hs.mss; have o8 := hs.cwnd; have o9 := hs.ssth; have o10 := hs.credit; have o11 := hs.una; have o12 := hs.nxt; have o13 := hs.phase; have o14 := hs.recov; have o15 := hs.high; have o16 := hs.dups; have o17 := hs.fl
  simp only [slotsFrom, Nat.reduceAdd] at hl
  refine c_seq ?_
  refine c_draw [(mp, C (encM (s) st sk bp) 69)] [14, 15] mixed hh ?_
  clear hh w; intro w hh
  have hM : Mem [(mp, C (encM (s) st sk bp) 69)] w := (by (repeat (first | exact Mem.nil | refine Mem.cons hh.mem (by (repeat (first | exact find_head | apply find_tail)); done) ?_ | refine Mem.consR hh (by assumption) (by simp) ?_ | fail)); done)
  refine d_take (i := 0) hl rfl (by kernel_rfl) (by kernel_rfl) (by kernel_rfl) (by kernel_rfl) (by kernel_rfl) rfl trivial (fun _ _ _ h => h) hM (fun w hC => r_move hl rfl) rfl ?_
  clear hl a; intro a hl
  refine d_take (i := 1) hl rfl (by kernel_rfl) (by kernel_rfl) (by kernel_rfl) (by kernel_rfl) (by kernel_rfl) rfl trivial (fun _ _ _ h => h) hM (fun w hC => r_nilCheck hl rfl) rfl ?_
  clear hl a; intro a hl
  refine d_take (i := 2) hl rfl (by kernel_rfl) (by kernel_rfl) (by kernel_rfl) (by kernel_rfl) (by kernel_rfl) rfl trivial (fun _ _ _ h => h) hM (fun w hC => r_field hl rfl fld69_0) rfl ?_
  clear hl a; intro a hl
  refine d_take (i := 3) hl rfl (by kernel_rfl) (by kernel_rfl) (by kernel_rfl) (by kernel_rfl) (by kernel_rfl) rfl trivial (fun _ _ _ h => h) hM (fun w hC => r_field hl rfl fld31_6) rfl ?_
  clear hl a; intro a hl
  refine d_take (i := 4) hl rfl (by kernel_rfl) (by kernel_rfl) (by kernel_rfl) (by kernel_rfl) (by kernel_rfl) rfl trivial (fun _ _ _ h => h) hM (fun w hC => r_loadC hl rfl one4 hC (by repeat (first | exact find_head | apply find_tail)) (by first | rfl)) rfl ?_
  clear hl a; intro a hl
  refine d_take (i := 5) hl rfl (by kernel_rfl) (by kernel_rfl) (by kernel_rfl) (by kernel_rfl) (by kernel_rfl) rfl trivial (fun _ _ _ h => h) hM (fun w hC => r_move hl rfl) rfl ?_
  clear hl a; intro a hl
  refine sl_split (t := 7) hl rfl ?_ ?_
  · intro hg1; clear hl; intro hl
    try simp only [decide_eq_true_eq, decide_eq_false_iff_not, Bool.not_eq_true', Bool.not_eq_false', Bool.not_eq_true, Bool.not_eq_false, Bool.and_eq_true, Bool.or_eq_true, Bool.and_eq_false_iff, Bool.or_eq_false_iff, Bool.not_not, ne_eq, Int.not_lt, Int.not_le, Decidable.not_not, beq_iff_eq, bne_iff_ne] at hg1
    refine d_take (i := 6) hl rfl (by kernel_rfl) (by kernel_rfl) (by kernel_rfl) (by kernel_rfl) (by kernel_rfl) rfl ⟨_, _, rfl, rfl, rfl⟩ (fun _ _ _ h => h) hM (fun w hC => r_move hl rfl) rfl ?_
    clear hl a; intro a hl
    refine d_take (i := 7) hl rfl (by kernel_rfl) (by kernel_rfl) (by kernel_rfl) (by kernel_rfl) (by kernel_rfl) rfl ⟨_, _, rfl, rfl, rfl⟩ (fun _ _ _ h => h) hM (fun w hC => r_nilCheck hl rfl) rfl ?_
    clear hl a; intro a hl
    refine d_take (i := 8) hl rfl (by kernel_rfl) (by kernel_rfl) (by kernel_rfl) (by kernel_rfl) (by kernel_rfl) rfl ⟨_, _, rfl, rfl, rfl⟩ (fun _ _ _ h => h) hM (fun w hC => r_field hl rfl fld69_9) rfl ?_
    clear hl a; intro a hl
    refine d_take (i := 9) hl rfl (by kernel_rfl) (by kernel_rfl) (by kernel_rfl) (by kernel_rfl) (by kernel_rfl) rfl ⟨_, _, rfl, rfl, rfl⟩ (fun _ _ _ h => h) hM (fun w hC => r_loadC hl rfl one2 hC (by repeat (first | exact find_head | apply find_tail)) (by first | rfl)) rfl ?_
    clear hl a; intro a hl
    refine d_take (i := 10) hl rfl (by kernel_rfl) (by kernel_rfl) (by kernel_rfl) (by kernel_rfl) (by kernel_rfl) rfl ⟨_, _, rfl, rfl, rfl⟩ (fun _ _ _ h => h) hM (fun w hC => r_move hl rfl) rfl ?_
    clear hl a; intro a hl
    refine d_take (i := 11) hl rfl (by kernel_rfl) (by kernel_rfl) (by kernel_rfl) (by kernel_rfl) (by kernel_rfl) rfl ⟨_, _, rfl, rfl, rfl⟩ (fun _ _ _ h => h) hM (fun w hC => r_nilCheck hl rfl) rfl ?_
    clear hl a; intro a hl
    refine d_take (i := 12) hl rfl (by kernel_rfl) (by kernel_rfl) (by kernel_rfl) (by kernel_rfl) (by kernel_rfl) rfl ⟨_, _, rfl, rfl, rfl⟩ (fun _ _ _ h => h) hM (fun w hC => r_field hl rfl fld69_8) rfl ?_
    clear hl a; intro a hl
    refine d_take (i := 13) hl rfl (by kernel_rfl) (by kernel_rfl) (by kernel_rfl) (by kernel_rfl) (by kernel_rfl) rfl ⟨_, _, rfl, rfl, rfl⟩ (fun _ _ _ h => h) hM (fun w hC => r_loadC hl rfl one2 hC (by repeat (first | exact find_head | apply find_tail)) (by first | rfl)) rfl ?_
    clear hl a; intro a hl
    refine d_takeL (i := 14) hl rfl (by kernel_rfl) (by kernel_rfl) (by kernel_rfl) (by kernel_rfl) (by kernel_rfl) rfl ⟨_, _, rfl, rfl, rfl⟩ (fun _ _ _ h => h) (fun w => r_eql hl rfl rfl) rfl ?_
    clear hl a; intro a hl
    refine d_takeL (i := 15) hl rfl (by kernel_rfl) (by kernel_rfl) (by kernel_rfl) (by kernel_rfl) (by kernel_rfl) rfl trivial (fun _ _ _ h => h) (fun w => r_pickT hl rfl rfl) rfl ?_
    clear hl a; intro a hl
    refine d_done (by kernel_rfl) ?_
    try clear hM
    have hl2 := hl.add (t := 0) (hl.add (t := 17) (hl.nil) rfl) rfl; clear hl; have hl := hl2; clear hl2
    refine then_normal ?_
    refine c_cond hl rfl ?_ ?_
    · intro hc0
      try simp only [decide_eq_true_eq, decide_eq_false_iff_not, Bool.not_eq_true', Bool.not_eq_false', Bool.not_eq_true, Bool.not_eq_false, Bool.and_eq_true, Bool.or_eq_true, Bool.and_eq_false_iff, Bool.or_eq_false_iff, Bool.not_not, ne_eq, Int.not_lt, Int.not_le, Decidable.not_not, beq_iff_eq, bne_iff_ne] at hc0
      refine c_draw [] [12, 13, 14] mixed hh ?_
      clear hh w; intro w hh
      have hM : Mem [] w := Mem.nil
      refine d_take (i := 0) hl rfl (by kernel_rfl) (by kernel_rfl) (by kernel_rfl) (by kernel_rfl) (by kernel_rfl) rfl trivial (fun _ _ _ h => h) hM (fun w hC => r_move hl rfl) rfl ?_
      clear hl a; intro a hl
      refine d_take (i := 1) hl rfl (by kernel_rfl) (by kernel_rfl) (by kernel_rfl) (by kernel_rfl) (by kernel_rfl) rfl trivial (fun _ _ _ h => h) hM (fun w hC => r_move hl rfl) rfl ?_
      clear hl a; intro a hl
      refine d_take (i := 2) hl rfl (by kernel_rfl) (by kernel_rfl) (by kernel_rfl) (by kernel_rfl) (by kernel_rfl) rfl trivial (fun _ _ _ h => h) hM (fun w hC => r_move hl rfl) rfl ?_
      clear hl a; intro a hl
      refine d_take (i := 3) hl rfl (by kernel_rfl) (by kernel_rfl) (by kernel_rfl) (by kernel_rfl) (by kernel_rfl) rfl trivial (fun _ _ _ h => h) hM (fun w hC => r_nilCheck hl rfl) rfl ?_
      clear hl a; intro a hl
      refine d_take (i := 4) hl rfl (by kernel_rfl) (by kernel_rfl) (by kernel_rfl) (by kernel_rfl) (by kernel_rfl) rfl trivial (fun _ _ _ h => h) hM (fun w hC => r_field hl rfl fld69_5) rfl ?_
      clear hl a; intro a hl
      refine d_take (i := 6) hl rfl (by kernel_rfl) (by kernel_rfl) (by kernel_rfl) (by kernel_rfl) (by kernel_rfl) rfl trivial (fun _ _ _ h => h) hM (fun w hC => r_move hl rfl) rfl ?_
      clear hl a; intro a hl
      refine d_two (i := 5) (j := 7) (by kernel_rfl) rfl rfl ?_ ?_
      ·
        try clear hM
        refine id (w_load hl hh rfl trivial one2 rfl (by repeat (first | exact find_head | apply find_tail)) (by first | rfl) ?_)
        clear hl a; intro a hl
        have hM : Mem [] w := Mem.nil
        refine d_step (fun _ => hM) ?_
        refine d_one (i := 7) (by kernel_rfl) rfl ?_
        try clear hM
        refine id (w_call hl hh rfl trivial rfl cal32 rfl (initial_m mp s st sk bp hs) (by repeat (first | exact keeps_nil | apply keeps_cons (by repeat (first | exact find_head | apply find_tail)) (by first  | rfl) | exact keeps_self | apply keeps_mv)) (hh.mem _ _ (Find.mem (by repeat (first | exact find_head | apply find_tail)))) ?_)
        clear hl hh a w; intro vc Fc a w hR hl hh
        obtain ⟨rfl, rfl⟩ := hR
        try simp only [List.cons_append, List.nil_append] at hh
        have hM : Mem [] w := Mem.nil
        refine d_step (fun _ => hM) ?_
        refine d_take (i := 8) hl rfl (by kernel_rfl) (by kernel_rfl) (by kernel_rfl) (by kernel_rfl) (by kernel_rfl) rfl trivial (fun _ _ _ h => h) hM (fun w hC => r_minI hl rfl rfl) rfl ?_
        clear hl a; intro a hl
        refine d_take (i := 9) hl rfl (by kernel_rfl) (by kernel_rfl) (by kernel_rfl) (by kernel_rfl) (by kernel_rfl) rfl trivial (fun _ _ _ h => h) hM (fun w hC => r_nilCheck hl rfl) rfl ?_
        clear hl a; intro a hl
        refine d_take (i := 10) hl rfl (by kernel_rfl) (by kernel_rfl) (by kernel_rfl) (by kernel_rfl) (by kernel_rfl) rfl trivial (fun _ _ _ h => h) hM (fun w hC => r_field hl rfl fld69_5) rfl ?_
        clear hl a; intro a hl
        refine d_one (i := 11) (by kernel_rfl) rfl ?_
        try clear hM
        refine id (w_store hl hh trivial one2 rfl rfl (by repeat (first | exact find_head | apply find_tail)) (by first | (simp; done) | (simp; omega)) (by first | rfl | assumption | (apply Row.one; assumption)) (by first | (simp only [encM, setL, List.getElem?_cons_zero, List.getElem?_cons_succ, Value.cells, List.take_zero, List.take_succ_cons, List.take_nil, List.drop_zero, List.drop_succ_cons, List.drop_nil, List.length_cons, List.length_nil, List.cons_append, List.nil_append, List.append_nil, Nat.zero_add, Nat.add_zero, Nat.reduceAdd, Nat.reduceBEq, Nat.reduceEqDiff, Nat.ble, BEq.rfl, Bool.and_true, Bool.and_self, cond_true, beq_self_eq_true]; rfl) | (simp only [setL, List.getElem?_cons_zero, List.getElem?_cons_succ, Value.cells, List.take_zero, List.take_succ_cons, List.take_nil, List.drop_zero, List.drop_succ_cons, List.drop_nil, List.length_cons, List.length_nil, List.cons_append, List.nil_append, List.append_nil, Nat.zero_add, Nat.add_zero, Nat.reduceAdd, Nat.reduceBEq, Nat.reduceEqDiff, Nat.ble, BEq.rfl, Bool.and_true, Bool.and_self, cond_true, beq_self_eq_true]; rfl)) ?_)
        clear hh w; intro w hh
        have hM : Mem [] w := Mem.nil
        refine d_step (fun _ => hM) ?_
        refine d_takeL (i := 12) hl rfl (by kernel_rfl) (by kernel_rfl) (by kernel_rfl) (by kernel_rfl) (by kernel_rfl) rfl trivial (fun _ _ _ h => h) (fun w => r_nilCheck hl rfl) rfl ?_
        clear hl a; intro a hl
        refine d_takeL (i := 13) hl rfl (by kernel_rfl) (by kernel_rfl) (by kernel_rfl) (by kernel_rfl) (by kernel_rfl) rfl trivial (fun _ _ _ h => h) (fun w => r_field hl rfl fld69_7) rfl ?_
        clear hl a; intro a hl
        refine d_one (i := 14) (by kernel_rfl) rfl ?_
        try clear hM
        refine id (w_store hl hh trivial one2 rfl rfl (by repeat (first | exact find_head | apply find_tail)) (by first | (simp; done) | (simp; omega)) (by first | rfl | assumption | (apply Row.one; assumption)) (by first | (simp only [encM, setL, List.getElem?_cons_zero, List.getElem?_cons_succ, Value.cells, List.take_zero, List.take_succ_cons, List.take_nil, List.drop_zero, List.drop_succ_cons, List.drop_nil, List.length_cons, List.length_nil, List.cons_append, List.nil_append, List.append_nil, Nat.zero_add, Nat.add_zero, Nat.reduceAdd, Nat.reduceBEq, Nat.reduceEqDiff, Nat.ble, BEq.rfl, Bool.and_true, Bool.and_self, cond_true, beq_self_eq_true]; rfl) | (simp only [setL, List.getElem?_cons_zero, List.getElem?_cons_succ, Value.cells, List.take_zero, List.take_succ_cons, List.take_nil, List.drop_zero, List.drop_succ_cons, List.drop_nil, List.length_cons, List.length_nil, List.cons_append, List.nil_append, List.append_nil, Nat.zero_add, Nat.add_zero, Nat.reduceAdd, Nat.reduceBEq, Nat.reduceEqDiff, Nat.ble, BEq.rfl, Bool.and_true, Bool.and_self, cond_true, beq_self_eq_true]; rfl)) ?_)
        clear hh w; intro w hh
        refine d_step (fun h => absurd h (by decide)) ?_
        refine d_done (by kernel_rfl) ?_
        try clear hM
        have hl2 := hl.nil; clear hl; have hl := hl2; clear hl2
        refine f_end0 (F' := [(mp, C (encM (idleM s) st sk bp) 69)]) hl hh rfl (by repeat (first | exact keeps_nil | apply keeps_cons (by repeat (first | exact find_head | apply find_tail)) (by first  | (have h9 := idle_1 (s := s) ⟨(by assumption), (by assumption)⟩; exact blk_eqM (congrArg (fun z => encM z st sk bp) h9.symm)) | (have h9 := idle_2 (s := s) (by simp_all); exact blk_eqM (congrArg (fun z => encM z st sk bp) h9.symm)) | rfl) | exact keeps_self | apply keeps_mv)) ?_
        exact ⟨rfl, rfl⟩
      ·
        try clear hM
        refine id (w_call hl hh rfl trivial rfl cal32 rfl (initial_m mp s st sk bp hs) (by repeat (first | exact keeps_nil | apply keeps_cons (by repeat (first | exact find_head | apply find_tail)) (by first  | rfl) | exact keeps_self | apply keeps_mv)) (hh.mem _ _ (Find.mem (by repeat (first | exact find_head | apply find_tail)))) ?_)
        clear hl hh a w; intro vc Fc a w hR hl hh
        obtain ⟨rfl, rfl⟩ := hR
        try simp only [List.cons_append, List.nil_append] at hh
        have hM : Mem [] w := Mem.nil
        refine d_step (fun _ => hM) ?_
        refine d_one (i := 5) (by kernel_rfl) rfl ?_
        try clear hM
        refine id (w_load hl hh rfl trivial one2 rfl (by repeat (first | exact find_head | apply find_tail)) (by first | rfl) ?_)
        clear hl a; intro a hl
        have hM : Mem [] w := Mem.nil
        refine d_step (fun _ => hM) ?_
        refine d_take (i := 8) hl rfl (by kernel_rfl) (by kernel_rfl) (by kernel_rfl) (by kernel_rfl) (by kernel_rfl) rfl trivial (fun _ _ _ h => h) hM (fun w hC => r_minI hl rfl rfl) rfl ?_
        clear hl a; intro a hl
        refine d_take (i := 9) hl rfl (by kernel_rfl) (by kernel_rfl) (by kernel_rfl) (by kernel_rfl) (by kernel_rfl) rfl trivial (fun _ _ _ h => h) hM (fun w hC => r_nilCheck hl rfl) rfl ?_
        clear hl a; intro a hl
        refine d_take (i := 10) hl rfl (by kernel_rfl) (by kernel_rfl) (by kernel_rfl) (by kernel_rfl) (by kernel_rfl) rfl trivial (fun _ _ _ h => h) hM (fun w hC => r_field hl rfl fld69_5) rfl ?_
        clear hl a; intro a hl
        refine d_one (i := 11) (by kernel_rfl) rfl ?_
        try clear hM
        refine id (w_store hl hh trivial one2 rfl rfl (by repeat (first | exact find_head | apply find_tail)) (by first | (simp; done) | (simp; omega)) (by first | rfl | assumption | (apply Row.one; assumption)) (by first | (simp only [encM, setL, List.getElem?_cons_zero, List.getElem?_cons_succ, Value.cells, List.take_zero, List.take_succ_cons, List.take_nil, List.drop_zero, List.drop_succ_cons, List.drop_nil, List.length_cons, List.length_nil, List.cons_append, List.nil_append, List.append_nil, Nat.zero_add, Nat.add_zero, Nat.reduceAdd, Nat.reduceBEq, Nat.reduceEqDiff, Nat.ble, BEq.rfl, Bool.and_true, Bool.and_self, cond_true, beq_self_eq_true]; rfl) | (simp only [setL, List.getElem?_cons_zero, List.getElem?_cons_succ, Value.cells, List.take_zero, List.take_succ_cons, List.take_nil, List.drop_zero, List.drop_succ_cons, List.drop_nil, List.length_cons, List.length_nil, List.cons_append, List.nil_append, List.append_nil, Nat.zero_add, Nat.add_zero, Nat.reduceAdd, Nat.reduceBEq, Nat.reduceEqDiff, Nat.ble, BEq.rfl, Bool.and_true, Bool.and_self, cond_true, beq_self_eq_true]; rfl)) ?_)
        clear hh w; intro w hh
        have hM : Mem [] w := Mem.nil
        refine d_step (fun _ => hM) ?_
        refine d_takeL (i := 12) hl rfl (by kernel_rfl) (by kernel_rfl) (by kernel_rfl) (by kernel_rfl) (by kernel_rfl) rfl trivial (fun _ _ _ h => h) (fun w => r_nilCheck hl rfl) rfl ?_
        clear hl a; intro a hl
        refine d_takeL (i := 13) hl rfl (by kernel_rfl) (by kernel_rfl) (by kernel_rfl) (by kernel_rfl) (by kernel_rfl) rfl trivial (fun _ _ _ h => h) (fun w => r_field hl rfl fld69_7) rfl ?_
        clear hl a; intro a hl
        refine d_one (i := 14) (by kernel_rfl) rfl ?_
        try clear hM
        refine id (w_store hl hh trivial one2 rfl rfl (by repeat (first | exact find_head | apply find_tail)) (by first | (simp; done) | (simp; omega)) (by first | rfl | assumption | (apply Row.one; assumption)) (by first | (simp only [encM, setL, List.getElem?_cons_zero, List.getElem?_cons_succ, Value.cells, List.take_zero, List.take_succ_cons, List.take_nil, List.drop_zero, List.drop_succ_cons, List.drop_nil, List.length_cons, List.length_nil, List.cons_append, List.nil_append, List.append_nil, Nat.zero_add, Nat.add_zero, Nat.reduceAdd, Nat.reduceBEq, Nat.reduceEqDiff, Nat.ble, BEq.rfl, Bool.and_true, Bool.and_self, cond_true, beq_self_eq_true]; rfl) | (simp only [setL, List.getElem?_cons_zero, List.getElem?_cons_succ, Value.cells, List.take_zero, List.take_succ_cons, List.take_nil, List.drop_zero, List.drop_succ_cons, List.drop_nil, List.length_cons, List.length_nil, List.cons_append, List.nil_append, List.append_nil, Nat.zero_add, Nat.add_zero, Nat.reduceAdd, Nat.reduceBEq, Nat.reduceEqDiff, Nat.ble, BEq.rfl, Bool.and_true, Bool.and_self, cond_true, beq_self_eq_true]; rfl)) ?_)
        clear hh w; intro w hh
        refine d_step (fun h => absurd h (by decide)) ?_
        refine d_done (by kernel_rfl) ?_
        try clear hM
        have hl2 := hl.nil; clear hl; have hl := hl2; clear hl2
        refine f_end0 (F' := [(mp, C (encM (idleM s) st sk bp) 69)]) hl hh rfl (by repeat (first | exact keeps_nil | apply keeps_cons (by repeat (first | exact find_head | apply find_tail)) (by first  | (have h9 := idle_1 (s := s) ⟨(by assumption), (by assumption)⟩; exact blk_eqM (congrArg (fun z => encM z st sk bp) h9.symm)) | (have h9 := idle_2 (s := s) (by simp_all); exact blk_eqM (congrArg (fun z => encM z st sk bp) h9.symm)) | rfl) | exact keeps_self | apply keeps_mv)) ?_
        exact ⟨rfl, rfl⟩
    · intro hc0
      try simp only [decide_eq_true_eq, decide_eq_false_iff_not, Bool.not_eq_true', Bool.not_eq_false', Bool.not_eq_true, Bool.not_eq_false, Bool.and_eq_true, Bool.or_eq_true, Bool.and_eq_false_iff, Bool.or_eq_false_iff, Bool.not_not, ne_eq, Int.not_lt, Int.not_le, Decidable.not_not, beq_iff_eq, bne_iff_ne] at hc0
      refine wp_skip ?_
      refine f_end0 (F' := [(mp, C (encM (idleM s) st sk bp) 69)]) hl hh rfl (by repeat (first | exact keeps_nil | apply keeps_cons (by repeat (first | exact find_head | apply find_tail)) (by first  | (have h9 := idle_1 (s := s) ⟨(by assumption), (by assumption)⟩; exact blk_eqM (congrArg (fun z => encM z st sk bp) h9.symm)) | (have h9 := idle_2 (s := s) (by simp_all); exact blk_eqM (congrArg (fun z => encM z st sk bp) h9.symm)) | rfl) | exact keeps_self | apply keeps_mv)) ?_
      exact ⟨rfl, rfl⟩
  · intro hg1; clear hl; intro hl
    try simp only [decide_eq_true_eq, decide_eq_false_iff_not, Bool.not_eq_true', Bool.not_eq_false', Bool.not_eq_true, Bool.not_eq_false, Bool.and_eq_true, Bool.or_eq_true, Bool.and_eq_false_iff, Bool.or_eq_false_iff, Bool.not_not, ne_eq, Int.not_lt, Int.not_le, Decidable.not_not, beq_iff_eq, bne_iff_ne] at hg1
    refine d_skip (i := 6) hl rfl (by kernel_rfl) (by kernel_rfl) (by kernel_rfl) (by kernel_rfl) (by kernel_rfl) rfl ⟨_, _, rfl, rfl, rfl⟩ (fun _ _ _ h => h) hM ?_
    clear hl a; intro a hl
    refine d_skip (i := 7) hl rfl (by kernel_rfl) (by kernel_rfl) (by kernel_rfl) (by kernel_rfl) (by kernel_rfl) rfl ⟨_, _, rfl, rfl, rfl⟩ (fun _ _ _ h => h) hM ?_
    clear hl a; intro a hl
    refine d_skip (i := 8) hl rfl (by kernel_rfl) (by kernel_rfl) (by kernel_rfl) (by kernel_rfl) (by kernel_rfl) rfl ⟨_, _, rfl, rfl, rfl⟩ (fun _ _ _ h => h) hM ?_
    clear hl a; intro a hl
    refine d_skip (i := 9) hl rfl (by kernel_rfl) (by kernel_rfl) (by kernel_rfl) (by kernel_rfl) (by kernel_rfl) rfl ⟨_, _, rfl, rfl, rfl⟩ (fun _ _ _ h => h) hM ?_
    clear hl a; intro a hl
    refine d_skip (i := 10) hl rfl (by kernel_rfl) (by kernel_rfl) (by kernel_rfl) (by kernel_rfl) (by kernel_rfl) rfl ⟨_, _, rfl, rfl, rfl⟩ (fun _ _ _ h => h) hM ?_
    clear hl a; intro a hl
    refine d_skip (i := 11) hl rfl (by kernel_rfl) (by kernel_rfl) (by kernel_rfl) (by kernel_rfl) (by kernel_rfl) rfl ⟨_, _, rfl, rfl, rfl⟩ (fun _ _ _ h => h) hM ?_
    clear hl a; intro a hl
    refine d_skip (i := 12) hl rfl (by kernel_rfl) (by kernel_rfl) (by kernel_rfl) (by kernel_rfl) (by kernel_rfl) rfl ⟨_, _, rfl, rfl, rfl⟩ (fun _ _ _ h => h) hM ?_
    clear hl a; intro a hl
    refine d_skip (i := 13) hl rfl (by kernel_rfl) (by kernel_rfl) (by kernel_rfl) (by kernel_rfl) (by kernel_rfl) rfl ⟨_, _, rfl, rfl, rfl⟩ (fun _ _ _ h => h) hM ?_
    clear hl a; intro a hl
    refine d_skip (i := 14) hl rfl (by kernel_rfl) (by kernel_rfl) (by kernel_rfl) (by kernel_rfl) (by kernel_rfl) rfl ⟨_, _, rfl, rfl, rfl⟩ (fun _ _ _ h => h) hM ?_
    clear hl a; intro a hl
    refine d_takeL (i := 15) hl rfl (by kernel_rfl) (by kernel_rfl) (by kernel_rfl) (by kernel_rfl) (by kernel_rfl) rfl trivial (fun _ _ _ h => h) (fun w => r_pickF hl rfl rfl) rfl ?_
    clear hl a; intro a hl
    refine d_done (by kernel_rfl) ?_
    try clear hM
    have hl2 := hl.add (t := 0) (hl.add (t := 17) (hl.nil) rfl) rfl; clear hl; have hl := hl2; clear hl2
    refine then_normal ?_
    refine c_condF hl rfl ?_
    refine wp_skip ?_
    refine f_end0 (F' := [(mp, C (encM (idleM s) st sk bp) 69)]) hl hh rfl (by repeat (first | exact keeps_nil | apply keeps_cons (by repeat (first | exact find_head | apply find_tail)) (by first  | (have h9 := idle_1 (s := s) ⟨(by assumption), (by assumption)⟩; exact blk_eqM (congrArg (fun z => encM z st sk bp) h9.symm)) | (have h9 := idle_2 (s := s) (by simp_all); exact blk_eqM (congrArg (fun z => encM z st sk bp) h9.symm)) | rfl) | exact keeps_self | apply keeps_mv)) ?_
    exact ⟨rfl, rfl⟩
end Go.Proofs.Qxb6500912aGreatDoor

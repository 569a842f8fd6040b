import Derived.Test.Qxb6500912aGreatDoorA10
namespace Go.Proofs.Qxb6500912aGreatDoor
open Go.Eng
set_option linter.unusedVariables false
set_option linter.unusedSimpArgs false
theorem cal51 : callable Tryz.prog 51 = true := by kernel_rfl
theorem cal52 : callable Tryz.prog 52 = true := by kernel_rfl
theorem cal53 : callable Tryz.prog 53 = true := by kernel_rfl
theorem cal34 : callable Tryz.prog 34 = true := by kernel_rfl
theorem cal35 : callable Tryz.prog 35 = true := by kernel_rfl
theorem agg61 : aggOk Tryz.prog 61 7 = true := by kernel_rfl
theorem zero61 : zeroOk Tryz.prog 61 (.agg #[(.int .u32 0), (.int .u32 0), (.int .u32 0), (.int .u32 0), (.int .u32 0), (.int .u8 0), (.bool false)]) := by unfold zeroOk; kernel_rfl
theorem bld61 : buildOk Tryz.prog 61 [(0, 1), (1, 1), (2, 1), (3, 1), (4, 1), (5, 1), (6, 1)] = true := by kernel_rfl
set_option maxHeartbeats 4000000 in
theorem cand_spec {Z : List (Nat × Obj)} (cp : Nat) (s : CS) (hs : Ok s) (sp : Option Addr) (bl : List (Int × Int)) (hZ : CtlR Z cp s sp bl) (hf : flightP s ≤ 2147483647) (fresh : Int) (hfr : U fresh) : SpK Tryz.prog 34 #[.pointer (some ⟨cp, 0, none⟩), .int .u32 fresh] (Mem Z) [] (fun v F' => v = .agg ⟨grc (candP s sp.isNone bl fresh)⟩ ∧ F' = []) := by
  refine f_enter (args := [.pointer (some ⟨cp, 0, none⟩), .int .u32 fresh]) Tryz.func34 rfl Tryz.ntmps34 rfl ?_
  intro w0 w a hpre hl hh
  have o1 := hs.init; have o2 := hs.maxc; have o3 := hs.bn; have o4 := hs.bd; have o5 := hs.abc; have o6 := hs.dupt; have o7 := hs.mss; have o8 := hs.cwnd; have o9 := hs.ssth; have o10 := hs.credit; have o11 := hs.una; have o12 := hs.nxt; have o13 := hs.phase; have o14 := hs.recov; have o15 := hs.high; have o16 := hs.dups; have o17 := flightP_U s
  have hm := hpre _ _ hZ.mem
  simp only [slotsFrom, Nat.reduceAdd] at hl
  refine c_seq ?_
  refine c_region ?_
  refine wl (w_alloc hl hh rfl trivial zero40 rfl ?_)
  clear hl hh a w; intro k4 a w hl hh
  refine w_nil ?_
  have hl2 := hl.add (t := 0) (hl.add (t := 1) (hl.add (t := 4) (hl.nil) rfl) rfl) rfl; clear hl; have hl := hl2; clear hl2
  refine then_normal ?_
  refine c_seq ?_
  refine c_seq ?_
  refine c_region ?_
  refine wl (wl_val hl rfl trivial (r_move hl rfl) ?_)
  clear hl a; intro a hl
  refine wl (w_call hl hh rfl trivial rfl cal51 rfl (repairs_spec cp s sp hs) (by repeat (first | exact keeps_nil | apply keeps_cons (by repeat (first | exact find_head | apply find_tail)) (by first  | rfl) | exact keeps_self | apply keeps_mv)) (heap_keep hh hm) ?_)
  clear hl hh a w; intro vc Fc a w hR hl hh
  obtain ⟨rfl, rfl⟩ := hR
  try simp only [List.cons_append, List.nil_append] at hh
  refine w_nil ?_
  have hl2 := hl.add (t := 0) (hl.add (t := 1) (hl.add (t := 4) (hl.add (t := 13) (hl.nil) rfl) rfl) rfl) rfl; clear hl; have hl := hl2; clear hl2
  refine then_normal ?_
  refine c_cond hl rfl ?_ ?_
  · intro hc0
    try simp only [decide_eq_true_eq, decide_eq_false_iff_not, Bool.not_eq_true', Bool.not_eq_false', Bool.not_eq_true, Bool.not_eq_false, Bool.and_eq_true, Bool.or_eq_true, Bool.and_eq_false_iff, Bool.or_eq_false_iff, Bool.not_not, ne_eq, Int.not_lt, Int.not_le, Decidable.not_not, beq_iff_eq, bne_iff_ne] at hc0
    refine c_seq ?_
    refine c_region ?_
    refine wl (wl_val hl rfl trivial (r_move hl rfl) ?_)
    clear hl a; intro a hl
    refine wl (w_call hl hh rfl trivial rfl cal52 rfl (nextHole_spec cp s hs sp bl hZ true) (by repeat (first | exact keeps_nil | apply keeps_cons (by repeat (first | exact find_head | apply find_tail)) (by first  | rfl) | exact keeps_self | apply keeps_mv)) (mem_keep hh hpre) ?_)
    clear hl hh a w; intro vc Fc a w hR hl hh
    obtain ⟨rfl, rfl⟩ := hR
    try simp only [List.cons_append, List.nil_append] at hh
    refine wl (wl_val hl rfl trivial (r_move hl rfl) ?_)
    clear hl a; intro a hl
    refine wl (wl_val hl rfl trivial (r_extract hl rfl (by simp only [List.getElem?_toArray, List.getElem?_cons_zero, List.getElem?_cons_succ]; rfl)) ?_)
    clear hl a; intro a hl
    refine wl (wl_val hl rfl trivial (r_extract hl rfl (by simp only [List.getElem?_toArray, List.getElem?_cons_zero, List.getElem?_cons_succ]; rfl)) ?_)
    clear hl a; intro a hl
    refine wl (w_alloc hl hh rfl trivial zero40 rfl ?_)
    clear hl hh a w; intro k5 a w hl hh
    refine wl (w_storeA hl hh trivial agg40 rfl rfl (by repeat (first | exact find_head | apply find_tail)) (by first | rfl | (simp; done) | rfl) (by first | (simp; done) | (simp; omega) | (simp [grc]; done) | decide) (by first | rfl | (simp; done) | rfl) (by first | rfl | (simp only [setL, List.getElem?_cons_zero, List.getElem?_cons_succ, Value.cells, List.take_zero, List.take_succ_cons, List.take_nil, List.drop_zero, List.drop_succ_cons, List.drop_nil, List.length_cons, List.length_nil, List.cons_append, List.nil_append, List.append_nil, Nat.zero_add, Nat.add_zero, Nat.reduceAdd, Nat.reduceBEq, Nat.reduceEqDiff, Nat.ble, BEq.rfl, Bool.and_true, Bool.and_self, cond_true, beq_self_eq_true]; rfl) | (simp only [setL, List.getElem?_cons_zero, List.getElem?_cons_succ, Value.cells, List.take_zero, List.take_succ_cons, List.take_nil, List.drop_zero, List.drop_succ_cons, List.drop_nil, List.length_cons, List.length_nil, List.cons_append, List.nil_append, List.append_nil, Nat.zero_add, Nat.add_zero, Nat.reduceAdd, Nat.reduceBEq, Nat.reduceEqDiff, Nat.ble, BEq.rfl, Bool.and_true, Bool.and_self, cond_true, beq_self_eq_true]; rfl)) ?_)
    clear hh w; intro w hh
    refine wl (wl_val hl rfl trivial (r_assign hl rfl) ?_)
    clear hl a; intro a hl
    refine w_nil ?_
    have hl2 := hl.add (t := 0) (hl.add (t := 1) (hl.add (t := 4) (hl.add (t := 5) (hl.add (t := 6) (hl.nil) rfl) rfl) rfl) rfl) rfl; clear hl; have hl := hl2; clear hl2
    refine then_normal ?_
    refine c_seq ?_
    refine c_region ?_
    refine wl (wl_val hl rfl trivial (r_move hl rfl) ?_)
    clear hl a; intro a hl
    refine w_nil ?_
    have hl2 := hl.add (t := 0) (hl.add (t := 1) (hl.add (t := 4) (hl.add (t := 5) (hl.add (t := 19) (hl.nil) rfl) rfl) rfl) rfl) rfl; clear hl; have hl := hl2; clear hl2
    refine then_normal ?_
    refine c_cond hl rfl ?_ ?_
    · intro hc1
      try simp only [decide_eq_true_eq, decide_eq_false_iff_not, Bool.not_eq_true', Bool.not_eq_false', Bool.not_eq_true, Bool.not_eq_false, Bool.and_eq_true, Bool.or_eq_true, Bool.and_eq_false_iff, Bool.or_eq_false_iff, Bool.not_not, ne_eq, Int.not_lt, Int.not_le, Decidable.not_not, beq_iff_eq, bne_iff_ne] at hc1
      refine c_seq ?_
      refine c_region ?_
      refine wl (w_loadA hl hh rfl trivial agg40 rfl (by repeat (first | exact find_head | apply find_tail)) (by first | rfl | (simp only [List.getElem?_cons_zero, List.getElem?_cons_succ, Value.cells, List.take_zero, List.take_succ_cons, List.take_nil, List.drop_zero, List.drop_succ_cons, List.drop_nil, List.length_cons, List.length_nil, List.cons_append, List.nil_append, List.append_nil, Nat.zero_add, Nat.add_zero, Nat.reduceAdd, Nat.reduceBEq, Nat.reduceEqDiff, Nat.ble, BEq.rfl, Bool.and_true, Bool.and_self, cond_true, beq_self_eq_true]; rfl)) (by first | rfl | (simp; done)) ?_)
      clear hl a; intro a hl
      refine wl (w_storeA hl hh trivial agg40 rfl rfl (by repeat (first | exact find_head | apply find_tail)) (by first | rfl | (simp; done) | rfl) (by first | (simp; done) | (simp; omega) | (simp [grc]; done) | decide) (by first | rfl | (simp; done) | rfl) (by first | rfl | (simp only [setL, List.getElem?_cons_zero, List.getElem?_cons_succ, Value.cells, List.take_zero, List.take_succ_cons, List.take_nil, List.drop_zero, List.drop_succ_cons, List.drop_nil, List.length_cons, List.length_nil, List.cons_append, List.nil_append, List.append_nil, Nat.zero_add, Nat.add_zero, Nat.reduceAdd, Nat.reduceBEq, Nat.reduceEqDiff, Nat.ble, BEq.rfl, Bool.and_true, Bool.and_self, cond_true, beq_self_eq_true]; rfl) | (simp only [setL, List.getElem?_cons_zero, List.getElem?_cons_succ, Value.cells, List.take_zero, List.take_succ_cons, List.take_nil, List.drop_zero, List.drop_succ_cons, List.drop_nil, List.length_cons, List.length_nil, List.cons_append, List.nil_append, List.append_nil, Nat.zero_add, Nat.add_zero, Nat.reduceAdd, Nat.reduceBEq, Nat.reduceEqDiff, Nat.ble, BEq.rfl, Bool.and_true, Bool.and_self, cond_true, beq_self_eq_true]; rfl)) ?_)
      clear hh w; intro w hh
      refine w_nil ?_
      have hl2 := hl.add (t := 4) (hl.nil) rfl; clear hl; have hl := hl2; clear hl2
      refine then_normal ?_
      refine wp_ret ?_
      refine then_ret ?_
      refine f_retC (F' := []) hl hh rfl rfl agg40 (by repeat (first | exact find_head | apply find_tail)) (by first | rfl | (simp; done)) keeps_nil ?_
      refine ⟨?_, rfl⟩
      first | (have h9 := candP_1 (s := s) (ns := sp.isNone) (bl := bl) (fresh := fresh) (by assumption) (by assumption); exact congrArg (fun z => Value.agg ⟨grc z⟩) h9) | (have h9 := (cand1_1 (s := s) (ns := sp.isNone) (bl := bl) (fresh := fresh) (by assumption)).trans (candP_2 (s := s) (ns := sp.isNone) (bl := bl) (fresh := fresh) (by assumption) (by assumption)); exact congrArg (fun z => Value.agg ⟨grc z⟩) h9) | (have h9 := ((cand2_1 (s := s) (ns := sp.isNone) (bl := bl) (by assumption) (by assumption) (by assumption)).trans (cand1_2 (s := s) (ns := sp.isNone) (bl := bl) (fresh := fresh) (by assumption))).trans (candP_2 (s := s) (ns := sp.isNone) (bl := bl) (fresh := fresh) (by assumption) (by assumption)); exact congrArg (fun z => Value.agg ⟨grc z⟩) h9) | (have h9 := ((cand2_2 (s := s) (ns := sp.isNone) (bl := bl) (by assumption) (by assumption) (by assumption) (by assumption) (by assumption)).trans (cand1_2 (s := s) (ns := sp.isNone) (bl := bl) (fresh := fresh) (by assumption))).trans (candP_2 (s := s) (ns := sp.isNone) (bl := bl) (fresh := fresh) (by assumption) (by assumption)); exact congrArg (fun z => Value.agg ⟨grc z⟩) h9) | (have h9 := ((cand2_3 (s := s) (ns := sp.isNone) (bl := bl) (by assumption) (by assumption) (by assumption) (by first | exact fun z => absurd z.1 (by omega) | exact fun z => absurd (z.2.symm.trans (show s.resc = true by assumption)) (by decide))).trans (cand1_2 (s := s) (ns := sp.isNone) (bl := bl) (fresh := fresh) (by assumption))).trans (candP_2 (s := s) (ns := sp.isNone) (bl := bl) (fresh := fresh) (by assumption) (by assumption)); exact congrArg (fun z => Value.agg ⟨grc z⟩) h9) | (have h9 := ((cand2_4 (s := s) (ns := sp.isNone) (bl := bl) (by first | exact fun z => absurd z.1 (by assumption) | exact fun z => absurd (z.2.symm.trans (show sp.isNone = true by assumption)) (by decide))).trans (cand1_2 (s := s) (ns := sp.isNone) (bl := bl) (fresh := fresh) (by assumption))).trans (candP_2 (s := s) (ns := sp.isNone) (bl := bl) (fresh := fresh) (by assumption) (by assumption)); exact congrArg (fun z => Value.agg ⟨grc z⟩) h9) | (have h9 := (cand1_1 (s := s) (ns := sp.isNone) (bl := bl) (fresh := fresh) (by assumption)).trans (candP_3 (s := s) (ns := sp.isNone) (bl := bl) (fresh := fresh) (by assumption)); exact congrArg (fun z => Value.agg ⟨grc z⟩) h9) | (have h9 := ((cand2_1 (s := s) (ns := sp.isNone) (bl := bl) (by assumption) (by assumption) (by assumption)).trans (cand1_2 (s := s) (ns := sp.isNone) (bl := bl) (fresh := fresh) (by assumption))).trans (candP_3 (s := s) (ns := sp.isNone) (bl := bl) (fresh := fresh) (by assumption)); exact congrArg (fun z => Value.agg ⟨grc z⟩) h9) | (have h9 := ((cand2_2 (s := s) (ns := sp.isNone) (bl := bl) (by assumption) (by assumption) (by assumption) (by assumption) (by assumption)).trans (cand1_2 (s := s) (ns := sp.isNone) (bl := bl) (fresh := fresh) (by assumption))).trans (candP_3 (s := s) (ns := sp.isNone) (bl := bl) (fresh := fresh) (by assumption)); exact congrArg (fun z => Value.agg ⟨grc z⟩) h9) | (have h9 := ((cand2_3 (s := s) (ns := sp.isNone) (bl := bl) (by assumption) (by assumption) (by assumption) (by first | exact fun z => absurd z.1 (by omega) | exact fun z => absurd (z.2.symm.trans (show s.resc = true by assumption)) (by decide))).trans (cand1_2 (s := s) (ns := sp.isNone) (bl := bl) (fresh := fresh) (by assumption))).trans (candP_3 (s := s) (ns := sp.isNone) (bl := bl) (fresh := fresh) (by assumption)); exact congrArg (fun z => Value.agg ⟨grc z⟩) h9) | (have h9 := ((cand2_4 (s := s) (ns := sp.isNone) (bl := bl) (by first | exact fun z => absurd z.1 (by assumption) | exact fun z => absurd (z.2.symm.trans (show sp.isNone = true by assumption)) (by decide))).trans (cand1_2 (s := s) (ns := sp.isNone) (bl := bl) (fresh := fresh) (by assumption))).trans (candP_3 (s := s) (ns := sp.isNone) (bl := bl) (fresh := fresh) (by assumption)); exact congrArg (fun z => Value.agg ⟨grc z⟩) h9)
    · intro hc1
      try simp only [decide_eq_true_eq, decide_eq_false_iff_not, Bool.not_eq_true', Bool.not_eq_false', Bool.not_eq_true, Bool.not_eq_false, Bool.and_eq_true, Bool.or_eq_true, Bool.and_eq_false_iff, Bool.or_eq_false_iff, Bool.not_not, ne_eq, Int.not_lt, Int.not_le, Decidable.not_not, beq_iff_eq, bne_iff_ne] at hc1
      refine wp_skip ?_
      refine then_normal ?_
      refine c_seq ?_
      refine c_seq ?_
      refine c_draw [(cp, C (encC s sp) 66)] [8, 9] mixed hh ?_
      clear hh w; intro w hh
      have hM : Mem [(cp, C (encC s sp) 66)] w := (by (repeat (first | exact Mem.nil | refine Mem.consR hh (by assumption) (by simp) ?_ | refine Mem.cons hh.mem (by (repeat (first | exact find_head | apply find_tail)); done) ?_ | fail)); done)
      refine d_take (i := 0) hl rfl (by kernel_rfl) (by kernel_rfl) (by kernel_rfl) (by kernel_rfl) (by kernel_rfl) rfl trivial (fun _ _ _ h => h) hM (fun w hC => r_move hl rfl) rfl ?_
      clear hl a; intro a hl
      refine d_take (i := 1) hl rfl (by kernel_rfl) (by kernel_rfl) (by kernel_rfl) (by kernel_rfl) (by kernel_rfl) rfl trivial (fun _ _ _ h => h) hM (fun w hC => r_move hl rfl) rfl ?_
      clear hl a; intro a hl
      refine d_take (i := 2) hl rfl (by kernel_rfl) (by kernel_rfl) (by kernel_rfl) (by kernel_rfl) (by kernel_rfl) rfl trivial (fun _ _ _ h => h) hM (fun w hC => r_nilCheck hl rfl) rfl ?_
      clear hl a; intro a hl
      refine d_take (i := 3) hl rfl (by kernel_rfl) (by kernel_rfl) (by kernel_rfl) (by kernel_rfl) (by kernel_rfl) rfl trivial (fun _ _ _ h => h) hM (fun w hC => r_field hl rfl fld66_1) rfl ?_
      clear hl a; intro a hl
      refine d_take (i := 4) hl rfl (by kernel_rfl) (by kernel_rfl) (by kernel_rfl) (by kernel_rfl) (by kernel_rfl) rfl trivial (fun _ _ _ h => h) hM (fun w hC => r_loadC hl rfl one29 hC (by repeat (first | exact find_head | apply find_tail)) (by first | rfl)) rfl ?_
      clear hl a; intro a hl
      refine d_take (i := 5) hl rfl (by kernel_rfl) (by kernel_rfl) (by kernel_rfl) (by kernel_rfl) (by kernel_rfl) rfl trivial (fun _ _ _ h => h) hM (fun w hC => r_move hl rfl) rfl ?_
      clear hl a; intro a hl
      refine d_one (i := 6) (by kernel_rfl) rfl ?_
      try clear hM
      refine id (w_call hl hh rfl trivial rfl cal33 rfl (flight_spec cp s sp) (by repeat (first | exact keeps_nil | apply keeps_cons (by repeat (first | exact find_head | apply find_tail)) (by first  | rfl) | exact keeps_self | apply keeps_mv)) (heap_keep hh hm) ?_)
      clear hl hh a w; intro vc Fc a w hR hl hh
      obtain ⟨rfl, rfl⟩ := hR
      try simp only [List.cons_append, List.nil_append] at hh
      have hM : Mem [(cp, C (encC s sp) 66)] w := (by (repeat (first | exact Mem.nil | refine Mem.consR hh (by assumption) (by simp) ?_ | refine Mem.cons hh.mem (by (repeat (first | exact find_head | apply find_tail)); done) ?_ | fail)); done)
      refine d_step (fun _ => hM) ?_
      first | refine d_take (i := 7) hl rfl (by kernel_rfl) (by kernel_rfl) (by kernel_rfl) (by kernel_rfl) (by kernel_rfl) rfl trivial (fun _ _ _ h => h) hM (fun w hC => r_sub hl rfl rfl (by simp only [Fits]; omega)) rfl ?_ | refine d_take (i := 7) hl rfl (by kernel_rfl) (by kernel_rfl) (by kernel_rfl) (by kernel_rfl) (by kernel_rfl) rfl trivial (fun _ _ _ h => h) hM (fun w hC => r_subM wm_u32 hl rfl rfl) rfl ?_
      clear hl a; intro a hl
      refine d_takeL (i := 8) hl rfl (by kernel_rfl) (by kernel_rfl) (by kernel_rfl) (by kernel_rfl) (by kernel_rfl) rfl trivial (fun _ _ _ h => h) (fun w => r_minI3 hl rfl rfl rfl) rfl ?_
      clear hl a; intro a hl
      refine d_takeL (i := 9) hl rfl (by kernel_rfl) (by kernel_rfl) (by kernel_rfl) (by kernel_rfl) (by kernel_rfl) rfl trivial (fun _ _ _ h => h) (fun w => r_assign hl rfl) rfl ?_
      clear hl a; intro a hl
      refine d_done (by kernel_rfl) ?_
      try clear hM
      have hl2 := hl.add (t := 0) (hl.add (t := 4) (hl.add (t := 7) (hl.nil) rfl) rfl) rfl; clear hl; have hl := hl2; clear hl2
      refine then_normal ?_
      refine c_seq ?_
      refine c_region ?_
      refine wl (wl_val hl rfl trivial (r_move hl rfl) ?_)
      clear hl a; intro a hl
      refine wl (wl_val hl rfl trivial (r_gtr hl rfl rfl) ?_)
      clear hl a; intro a hl
      refine w_nil ?_
      have hl2 := hl.add (t := 0) (hl.add (t := 4) (hl.add (t := 7) (hl.add (t := 31) (hl.nil) rfl) rfl) rfl) rfl; clear hl; have hl := hl2; clear hl2
      refine then_normal ?_
      refine c_cond hl rfl ?_ ?_
      · intro hc2
        try simp only [decide_eq_true_eq, decide_eq_false_iff_not, Bool.not_eq_true', Bool.not_eq_false', Bool.not_eq_true, Bool.not_eq_false, Bool.and_eq_true, Bool.or_eq_true, Bool.and_eq_false_iff, Bool.or_eq_false_iff, Bool.not_not, ne_eq, Int.not_lt, Int.not_le, Decidable.not_not, beq_iff_eq, bne_iff_ne] at hc2
        refine c_seq ?_
        refine c_region ?_
        refine wl (wl_val hl rfl trivial (r_move hl rfl) ?_)
        clear hl a; intro a hl
        refine wl (wl_val hl rfl trivial (r_nilCheck hl rfl) ?_)
        clear hl a; intro a hl
        refine wl (wl_val hl rfl trivial (r_field hl rfl fld66_7) ?_)
        clear hl a; intro a hl
        first | refine wl (w_load hl hh rfl trivial one29 rfl (by repeat (first | exact find_head | apply find_tail)) (by first | rfl) ?_) | refine wl (w_loadR hl hh rfl trivial one29 rfl hm (by simp) rfl ?_)
        clear hl a; intro a hl
        refine wl (wl_val hl rfl trivial (r_move hl rfl) ?_)
        clear hl a; intro a hl
        refine wl (wl_val hl rfl trivial (r_build hl rfl zero40 bld40 (by simp only [fillL, setL, List.getElem?_cons_zero, List.getElem?_cons_succ, Value.cells, List.take_zero, List.take_succ_cons, List.take_nil, List.drop_zero, List.drop_succ_cons, List.drop_nil, List.length_cons, List.length_nil, List.cons_append, List.nil_append, List.append_nil, Nat.zero_add, Nat.add_zero, Nat.reduceAdd, Nat.reduceBEq, Nat.reduceEqDiff, Nat.ble, BEq.rfl, Bool.and_true, Bool.and_self, cond_true, beq_self_eq_true]; rfl)) ?_)
        clear hl a; intro a hl
        refine wl (w_storeA hl hh trivial agg40 rfl rfl (by repeat (first | exact find_head | apply find_tail)) (by first | rfl | (simp; done) | rfl) (by first | (simp; done) | (simp; omega) | (simp [grc]; done) | decide) (by first | rfl | (simp; done) | rfl) (by first | rfl | (simp only [setL, List.getElem?_cons_zero, List.getElem?_cons_succ, Value.cells, List.take_zero, List.take_succ_cons, List.take_nil, List.drop_zero, List.drop_succ_cons, List.drop_nil, List.length_cons, List.length_nil, List.cons_append, List.nil_append, List.append_nil, Nat.zero_add, Nat.add_zero, Nat.reduceAdd, Nat.reduceBEq, Nat.reduceEqDiff, Nat.ble, BEq.rfl, Bool.and_true, Bool.and_self, cond_true, beq_self_eq_true]; rfl) | (simp only [setL, List.getElem?_cons_zero, List.getElem?_cons_succ, Value.cells, List.take_zero, List.take_succ_cons, List.take_nil, List.drop_zero, List.drop_succ_cons, List.drop_nil, List.length_cons, List.length_nil, List.cons_append, List.nil_append, List.append_nil, Nat.zero_add, Nat.add_zero, Nat.reduceAdd, Nat.reduceBEq, Nat.reduceEqDiff, Nat.ble, BEq.rfl, Bool.and_true, Bool.and_self, cond_true, beq_self_eq_true]; rfl)) ?_)
        clear hh w; intro w hh
        refine w_nil ?_
        have hl2 := hl.add (t := 4) (hl.nil) rfl; clear hl; have hl := hl2; clear hl2
        refine then_normal ?_
        refine wp_ret ?_
        refine then_ret ?_
        refine f_retC (F' := []) hl hh rfl rfl agg40 (by repeat (first | exact find_head | apply find_tail)) (by first | rfl | (simp; done)) keeps_nil ?_
        refine ⟨?_, rfl⟩
        first | (have h9 := candP_1 (s := s) (ns := sp.isNone) (bl := bl) (fresh := fresh) (by assumption) (by assumption); exact congrArg (fun z => Value.agg ⟨grc z⟩) h9) | (have h9 := (cand1_1 (s := s) (ns := sp.isNone) (bl := bl) (fresh := fresh) (by assumption)).trans (candP_2 (s := s) (ns := sp.isNone) (bl := bl) (fresh := fresh) (by assumption) (by assumption)); exact congrArg (fun z => Value.agg ⟨grc z⟩) h9) | (have h9 := ((cand2_1 (s := s) (ns := sp.isNone) (bl := bl) (by assumption) (by assumption) (by assumption)).trans (cand1_2 (s := s) (ns := sp.isNone) (bl := bl) (fresh := fresh) (by assumption))).trans (candP_2 (s := s) (ns := sp.isNone) (bl := bl) (fresh := fresh) (by assumption) (by assumption)); exact congrArg (fun z => Value.agg ⟨grc z⟩) h9) | (have h9 := ((cand2_2 (s := s) (ns := sp.isNone) (bl := bl) (by assumption) (by assumption) (by assumption) (by assumption) (by assumption)).trans (cand1_2 (s := s) (ns := sp.isNone) (bl := bl) (fresh := fresh) (by assumption))).trans (candP_2 (s := s) (ns := sp.isNone) (bl := bl) (fresh := fresh) (by assumption) (by assumption)); exact congrArg (fun z => Value.agg ⟨grc z⟩) h9) | (have h9 := ((cand2_3 (s := s) (ns := sp.isNone) (bl := bl) (by assumption) (by assumption) (by assumption) (by first | exact fun z => absurd z.1 (by omega) | exact fun z => absurd (z.2.symm.trans (show s.resc = true by assumption)) (by decide))).trans (cand1_2 (s := s) (ns := sp.isNone) (bl := bl) (fresh := fresh) (by assumption))).trans (candP_2 (s := s) (ns := sp.isNone) (bl := bl) (fresh := fresh) (by assumption) (by assumption)); exact congrArg (fun z => Value.agg ⟨grc z⟩) h9) | (have h9 := ((cand2_4 (s := s) (ns := sp.isNone) (bl := bl) (by first | exact fun z => absurd z.1 (by assumption) | exact fun z => absurd (z.2.symm.trans (show sp.isNone = true by assumption)) (by decide))).trans (cand1_2 (s := s) (ns := sp.isNone) (bl := bl) (fresh := fresh) (by assumption))).trans (candP_2 (s := s) (ns := sp.isNone) (bl := bl) (fresh := fresh) (by assumption) (by assumption)); exact congrArg (fun z => Value.agg ⟨grc z⟩) h9) | (have h9 := (cand1_1 (s := s) (ns := sp.isNone) (bl := bl) (fresh := fresh) (by assumption)).trans (candP_3 (s := s) (ns := sp.isNone) (bl := bl) (fresh := fresh) (by assumption)); exact congrArg (fun z => Value.agg ⟨grc z⟩) h9) | (have h9 := ((cand2_1 (s := s) (ns := sp.isNone) (bl := bl) (by assumption) (by assumption) (by assumption)).trans (cand1_2 (s := s) (ns := sp.isNone) (bl := bl) (fresh := fresh) (by assumption))).trans (candP_3 (s := s) (ns := sp.isNone) (bl := bl) (fresh := fresh) (by assumption)); exact congrArg (fun z => Value.agg ⟨grc z⟩) h9) | (have h9 := ((cand2_2 (s := s) (ns := sp.isNone) (bl := bl) (by assumption) (by assumption) (by assumption) (by assumption) (by assumption)).trans (cand1_2 (s := s) (ns := sp.isNone) (bl := bl) (fresh := fresh) (by assumption))).trans (candP_3 (s := s) (ns := sp.isNone) (bl := bl) (fresh := fresh) (by assumption)); exact congrArg (fun z => Value.agg ⟨grc z⟩) h9) | (have h9 := ((cand2_3 (s := s) (ns := sp.isNone) (bl := bl) (by assumption) (by assumption) (by assumption) (by first | exact fun z => absurd z.1 (by omega) | exact fun z => absurd (z.2.symm.trans (show s.resc = true by assumption)) (by decide))).trans (cand1_2 (s := s) (ns := sp.isNone) (bl := bl) (fresh := fresh) (by assumption))).trans (candP_3 (s := s) (ns := sp.isNone) (bl := bl) (fresh := fresh) (by assumption)); exact congrArg (fun z => Value.agg ⟨grc z⟩) h9) | (have h9 := ((cand2_4 (s := s) (ns := sp.isNone) (bl := bl) (by first | exact fun z => absurd z.1 (by assumption) | exact fun z => absurd (z.2.symm.trans (show sp.isNone = true by assumption)) (by decide))).trans (cand1_2 (s := s) (ns := sp.isNone) (bl := bl) (fresh := fresh) (by assumption))).trans (candP_3 (s := s) (ns := sp.isNone) (bl := bl) (fresh := fresh) (by assumption)); exact congrArg (fun z => Value.agg ⟨grc z⟩) h9)
      · intro hc2
        try simp only [decide_eq_true_eq, decide_eq_false_iff_not, Bool.not_eq_true', Bool.not_eq_false', Bool.not_eq_true, Bool.not_eq_false, Bool.and_eq_true, Bool.or_eq_true, Bool.and_eq_false_iff, Bool.or_eq_false_iff, Bool.not_not, ne_eq, Int.not_lt, Int.not_le, Decidable.not_not, beq_iff_eq, bne_iff_ne] at hc2
        refine wp_skip ?_
        refine then_normal ?_
        refine c_seq ?_
        refine c_seq ?_
        refine c_region ?_
        refine wl (wl_val hl rfl trivial (r_move hl rfl) ?_)
        clear hl a; intro a hl
        refine wl (wl_val hl rfl trivial (r_nilCheck hl rfl) ?_)
        clear hl a; intro a hl
        refine wl (wl_val hl rfl trivial (r_field hl rfl fld66_8) ?_)
        clear hl a; intro a hl
        first | refine wl (w_load hl hh rfl trivial one59 rfl (by repeat (first | exact find_head | apply find_tail)) (by first | rfl) ?_) | refine wl (w_loadR hl hh rfl trivial one59 rfl hm (by simp) rfl ?_)
        clear hl a; intro a hl
        refine wl (wl_val hl rfl trivial (r_eql hl rfl rfl) ?_)
        clear hl a; intro a hl
        refine wl (wl_val hl rfl trivial (r_move hl rfl) ?_)
        clear hl a; intro a hl
        refine sl_split (t := 43) hl rfl ?_ ?_
        · intro hg1; clear hl; intro hl
          try simp only [decide_eq_true_eq, decide_eq_false_iff_not, Bool.not_eq_true', Bool.not_eq_false', Bool.not_eq_true, Bool.not_eq_false, Bool.and_eq_true, Bool.or_eq_true, Bool.and_eq_false_iff, Bool.or_eq_false_iff, Bool.not_not, ne_eq, Int.not_lt, Int.not_le, Decidable.not_not, beq_iff_eq, bne_iff_ne] at hg1
          refine wl (wl_val hl rfl ⟨_, _, rfl, rfl, rfl⟩ (r_move hl rfl) ?_)
          clear hl a; intro a hl
          refine wl (wl_val hl rfl ⟨_, _, rfl, rfl, rfl⟩ (r_nilCheck hl rfl) ?_)
          clear hl a; intro a hl
          refine wl (wl_val hl rfl ⟨_, _, rfl, rfl, rfl⟩ (r_field hl rfl fld66_2) ?_)
          clear hl a; intro a hl
          first | refine wl (w_load hl hh rfl ⟨_, _, rfl, rfl, rfl⟩ one64 rfl (by repeat (first | exact find_head | apply find_tail)) (by first | rfl) ?_) | refine wl (w_loadR hl hh rfl ⟨_, _, rfl, rfl, rfl⟩ one64 rfl hm (by simp) rfl ?_)
          clear hl a; intro a hl
          refine wl (wl_val hl rfl ⟨_, _, rfl, rfl, rfl⟩ (r_neq_pointer hl rfl rfl ptr64) ?_)
          clear hl a; intro a hl
          refine wl (wl_val hl rfl trivial (r_pickT hl rfl rfl) ?_)
          clear hl a; intro a hl
          refine w_nil ?_
          have hl2 := hl.add (t := 0) (hl.add (t := 4) (hl.add (t := 49) (hl.nil) rfl) rfl) rfl; clear hl; have hl := hl2; clear hl2
          refine then_normal ?_
          refine c_cond hl rfl ?_ ?_
          · intro hc3
            try simp only [decide_eq_true_eq, decide_eq_false_iff_not, Bool.not_eq_true', Bool.not_eq_false', Bool.not_eq_true, Bool.not_eq_false, Bool.and_eq_true, Bool.or_eq_true, Bool.and_eq_false_iff, Bool.or_eq_false_iff, Bool.not_not, ne_eq, Int.not_lt, Int.not_le, Decidable.not_not, beq_iff_eq, bne_iff_ne] at hc3
            refine c_seq ?_
            refine c_seq ?_
            refine c_region ?_
            refine wl (wl_val hl rfl trivial (r_move hl rfl) ?_)
            clear hl a; intro a hl
            refine wl (w_call hl hh rfl trivial rfl cal52 rfl (nextHole_spec cp s hs sp bl hZ false) (by repeat (first | exact keeps_nil | apply keeps_cons (by repeat (first | exact find_head | apply find_tail)) (by first  | rfl) | exact keeps_self | apply keeps_mv)) (mem_keep hh hpre) ?_)
            clear hl hh a w; intro vc Fc a w hR hl hh
            obtain ⟨rfl, rfl⟩ := hR
            try simp only [List.cons_append, List.nil_append] at hh
            refine wl (wl_val hl rfl trivial (r_move hl rfl) ?_)
            clear hl a; intro a hl
            refine wl (wl_val hl rfl trivial (r_extract hl rfl (by simp only [List.getElem?_toArray, List.getElem?_cons_zero, List.getElem?_cons_succ]; rfl)) ?_)
            clear hl a; intro a hl
            refine wl (wl_val hl rfl trivial (r_extract hl rfl (by simp only [List.getElem?_toArray, List.getElem?_cons_zero, List.getElem?_cons_succ]; rfl)) ?_)
            clear hl a; intro a hl
            refine wl (w_alloc hl hh rfl trivial zero40 rfl ?_)
            clear hl hh a w; intro k8 a w hl hh
            refine wl (w_storeA hl hh trivial agg40 rfl rfl (by repeat (first | exact find_head | apply find_tail)) (by first | rfl | (simp; done) | rfl) (by first | (simp; done) | (simp; omega) | (simp [grc]; done) | decide) (by first | rfl | (simp; done) | rfl) (by first | rfl | (simp only [setL, List.getElem?_cons_zero, List.getElem?_cons_succ, Value.cells, List.take_zero, List.take_succ_cons, List.take_nil, List.drop_zero, List.drop_succ_cons, List.drop_nil, List.length_cons, List.length_nil, List.cons_append, List.nil_append, List.append_nil, Nat.zero_add, Nat.add_zero, Nat.reduceAdd, Nat.reduceBEq, Nat.reduceEqDiff, Nat.ble, BEq.rfl, Bool.and_true, Bool.and_self, cond_true, beq_self_eq_true]; rfl) | (simp only [setL, List.getElem?_cons_zero, List.getElem?_cons_succ, Value.cells, List.take_zero, List.take_succ_cons, List.take_nil, List.drop_zero, List.drop_succ_cons, List.drop_nil, List.length_cons, List.length_nil, List.cons_append, List.nil_append, List.append_nil, Nat.zero_add, Nat.add_zero, Nat.reduceAdd, Nat.reduceBEq, Nat.reduceEqDiff, Nat.ble, BEq.rfl, Bool.and_true, Bool.and_self, cond_true, beq_self_eq_true]; rfl)) ?_)
            clear hh w; intro w hh
            refine wl (wl_val hl rfl trivial (r_assign hl rfl) ?_)
            clear hl a; intro a hl
            refine w_nil ?_
            have hl2 := hl.add (t := 0) (hl.add (t := 4) (hl.add (t := 8) (hl.add (t := 9) (hl.nil) rfl) rfl) rfl) rfl; clear hl; have hl := hl2; clear hl2
            refine then_normal ?_
            refine c_seq ?_
            refine c_region ?_
            refine wl (wl_val hl rfl trivial (r_move hl rfl) ?_)
            clear hl a; intro a hl
            refine w_nil ?_
            have hl2 := hl.add (t := 0) (hl.add (t := 4) (hl.add (t := 8) (hl.add (t := 55) (hl.nil) rfl) rfl) rfl) rfl; clear hl; have hl := hl2; clear hl2
            refine then_normal ?_
            refine c_cond hl rfl ?_ ?_
            · intro hc4
              try simp only [decide_eq_true_eq, decide_eq_false_iff_not, Bool.not_eq_true', Bool.not_eq_false', Bool.not_eq_true, Bool.not_eq_false, Bool.and_eq_true, Bool.or_eq_true, Bool.and_eq_false_iff, Bool.or_eq_false_iff, Bool.not_not, ne_eq, Int.not_lt, Int.not_le, Decidable.not_not, beq_iff_eq, bne_iff_ne] at hc4
              refine c_seq ?_
              refine c_region ?_
              refine wl (w_loadA hl hh rfl trivial agg40 rfl (by repeat (first | exact find_head | apply find_tail)) (by first | rfl | (simp only [List.getElem?_cons_zero, List.getElem?_cons_succ, Value.cells, List.take_zero, List.take_succ_cons, List.take_nil, List.drop_zero, List.drop_succ_cons, List.drop_nil, List.length_cons, List.length_nil, List.cons_append, List.nil_append, List.append_nil, Nat.zero_add, Nat.add_zero, Nat.reduceAdd, Nat.reduceBEq, Nat.reduceEqDiff, Nat.ble, BEq.rfl, Bool.and_true, Bool.and_self, cond_true, beq_self_eq_true]; rfl)) (by first | rfl | (simp; done)) ?_)
              clear hl a; intro a hl
              refine wl (w_storeA hl hh trivial agg40 rfl rfl (by repeat (first | exact find_head | apply find_tail)) (by first | rfl | (simp; done) | rfl) (by first | (simp; done) | (simp; omega) | (simp [grc]; done) | decide) (by first | rfl | (simp; done) | rfl) (by first | rfl | (simp only [setL, List.getElem?_cons_zero, List.getElem?_cons_succ, Value.cells, List.take_zero, List.take_succ_cons, List.take_nil, List.drop_zero, List.drop_succ_cons, List.drop_nil, List.length_cons, List.length_nil, List.cons_append, List.nil_append, List.append_nil, Nat.zero_add, Nat.add_zero, Nat.reduceAdd, Nat.reduceBEq, Nat.reduceEqDiff, Nat.ble, BEq.rfl, Bool.and_true, Bool.and_self, cond_true, beq_self_eq_true]; rfl) | (simp only [setL, List.getElem?_cons_zero, List.getElem?_cons_succ, Value.cells, List.take_zero, List.take_succ_cons, List.take_nil, List.drop_zero, List.drop_succ_cons, List.drop_nil, List.length_cons, List.length_nil, List.cons_append, List.nil_append, List.append_nil, Nat.zero_add, Nat.add_zero, Nat.reduceAdd, Nat.reduceBEq, Nat.reduceEqDiff, Nat.ble, BEq.rfl, Bool.and_true, Bool.and_self, cond_true, beq_self_eq_true]; rfl)) ?_)
              clear hh w; intro w hh
              refine w_nil ?_
              have hl2 := hl.add (t := 4) (hl.nil) rfl; clear hl; have hl := hl2; clear hl2
              refine then_normal ?_
              refine wp_ret ?_
              refine then_ret ?_
              refine then_ret ?_
              refine f_retC (F' := []) hl hh rfl rfl agg40 (by repeat (first | exact find_head | apply find_tail)) (by first | rfl | (simp; done)) keeps_nil ?_
              refine ⟨?_, rfl⟩
              first | (have h9 := candP_1 (s := s) (ns := sp.isNone) (bl := bl) (fresh := fresh) (by assumption) (by assumption); exact congrArg (fun z => Value.agg ⟨grc z⟩) h9) | (have h9 := (cand1_1 (s := s) (ns := sp.isNone) (bl := bl) (fresh := fresh) (by assumption)).trans (candP_2 (s := s) (ns := sp.isNone) (bl := bl) (fresh := fresh) (by assumption) (by assumption)); exact congrArg (fun z => Value.agg ⟨grc z⟩) h9) | (have h9 := ((cand2_1 (s := s) (ns := sp.isNone) (bl := bl) (by assumption) (by assumption) (by assumption)).trans (cand1_2 (s := s) (ns := sp.isNone) (bl := bl) (fresh := fresh) (by assumption))).trans (candP_2 (s := s) (ns := sp.isNone) (bl := bl) (fresh := fresh) (by assumption) (by assumption)); exact congrArg (fun z => Value.agg ⟨grc z⟩) h9) | (have h9 := ((cand2_2 (s := s) (ns := sp.isNone) (bl := bl) (by assumption) (by assumption) (by assumption) (by assumption) (by assumption)).trans (cand1_2 (s := s) (ns := sp.isNone) (bl := bl) (fresh := fresh) (by assumption))).trans (candP_2 (s := s) (ns := sp.isNone) (bl := bl) (fresh := fresh) (by assumption) (by assumption)); exact congrArg (fun z => Value.agg ⟨grc z⟩) h9) | (have h9 := ((cand2_3 (s := s) (ns := sp.isNone) (bl := bl) (by assumption) (by assumption) (by assumption) (by first | exact fun z => absurd z.1 (by omega) | exact fun z => absurd (z.2.symm.trans (show s.resc = true by assumption)) (by decide))).trans (cand1_2 (s := s) (ns := sp.isNone) (bl := bl) (fresh := fresh) (by assumption))).trans (candP_2 (s := s) (ns := sp.isNone) (bl := bl) (fresh := fresh) (by assumption) (by assumption)); exact congrArg (fun z => Value.agg ⟨grc z⟩) h9) | (have h9 := ((cand2_4 (s := s) (ns := sp.isNone) (bl := bl) (by first | exact fun z => absurd z.1 (by assumption) | exact fun z => absurd (z.2.symm.trans (show sp.isNone = true by assumption)) (by decide))).trans (cand1_2 (s := s) (ns := sp.isNone) (bl := bl) (fresh := fresh) (by assumption))).trans (candP_2 (s := s) (ns := sp.isNone) (bl := bl) (fresh := fresh) (by assumption) (by assumption)); exact congrArg (fun z => Value.agg ⟨grc z⟩) h9) | (have h9 := (cand1_1 (s := s) (ns := sp.isNone) (bl := bl) (fresh := fresh) (by assumption)).trans (candP_3 (s := s) (ns := sp.isNone) (bl := bl) (fresh := fresh) (by assumption)); exact congrArg (fun z => Value.agg ⟨grc z⟩) h9) | (have h9 := ((cand2_1 (s := s) (ns := sp.isNone) (bl := bl) (by assumption) (by assumption) (by assumption)).trans (cand1_2 (s := s) (ns := sp.isNone) (bl := bl) (fresh := fresh) (by assumption))).trans (candP_3 (s := s) (ns := sp.isNone) (bl := bl) (fresh := fresh) (by assumption)); exact congrArg (fun z => Value.agg ⟨grc z⟩) h9) | (have h9 := ((cand2_2 (s := s) (ns := sp.isNone) (bl := bl) (by assumption) (by assumption) (by assumption) (by assumption) (by assumption)).trans (cand1_2 (s := s) (ns := sp.isNone) (bl := bl) (fresh := fresh) (by assumption))).trans (candP_3 (s := s) (ns := sp.isNone) (bl := bl) (fresh := fresh) (by assumption)); exact congrArg (fun z => Value.agg ⟨grc z⟩) h9) | (have h9 := ((cand2_3 (s := s) (ns := sp.isNone) (bl := bl) (by assumption) (by assumption) (by assumption) (by first | exact fun z => absurd z.1 (by omega) | exact fun z => absurd (z.2.symm.trans (show s.resc = true by assumption)) (by decide))).trans (cand1_2 (s := s) (ns := sp.isNone) (bl := bl) (fresh := fresh) (by assumption))).trans (candP_3 (s := s) (ns := sp.isNone) (bl := bl) (fresh := fresh) (by assumption)); exact congrArg (fun z => Value.agg ⟨grc z⟩) h9) | (have h9 := ((cand2_4 (s := s) (ns := sp.isNone) (bl := bl) (by first | exact fun z => absurd z.1 (by assumption) | exact fun z => absurd (z.2.symm.trans (show sp.isNone = true by assumption)) (by decide))).trans (cand1_2 (s := s) (ns := sp.isNone) (bl := bl) (fresh := fresh) (by assumption))).trans (candP_3 (s := s) (ns := sp.isNone) (bl := bl) (fresh := fresh) (by assumption)); exact congrArg (fun z => Value.agg ⟨grc z⟩) h9)
            · intro hc4
              try simp only [decide_eq_true_eq, decide_eq_false_iff_not, Bool.not_eq_true', Bool.not_eq_false', Bool.not_eq_true, Bool.not_eq_false, Bool.and_eq_true, Bool.or_eq_true, Bool.and_eq_false_iff, Bool.or_eq_false_iff, Bool.not_not, ne_eq, Int.not_lt, Int.not_le, Decidable.not_not, beq_iff_eq, bne_iff_ne] at hc4
              refine wp_skip ?_
              refine then_normal ?_
              refine c_seq ?_
              refine c_region ?_
              refine wl (wl_val hl rfl trivial (r_move hl rfl) ?_)
              clear hl a; intro a hl
              refine wl (w_call hl hh rfl trivial rfl cal53 rfl (rescue_spec cp s hs sp bl hZ) (by repeat (first | exact keeps_nil | apply keeps_cons (by repeat (first | exact find_head | apply find_tail)) (by first  | rfl) | exact keeps_self | apply keeps_mv)) (mem_keep hh hpre) ?_)
              clear hl hh a w; intro vc Fc a w hR hl hh
              obtain ⟨rfl, rfl⟩ := hR
              try simp only [List.cons_append, List.nil_append] at hh
              refine wl (wl_val hl rfl trivial (r_move hl rfl) ?_)
              clear hl a; intro a hl
              refine wl (wl_val hl rfl trivial (r_extract hl rfl (by simp only [List.getElem?_toArray, List.getElem?_cons_zero, List.getElem?_cons_succ]; rfl)) ?_)
              clear hl a; intro a hl
              refine wl (wl_val hl rfl trivial (r_extract hl rfl (by simp only [List.getElem?_toArray, List.getElem?_cons_zero, List.getElem?_cons_succ]; rfl)) ?_)
              clear hl a; intro a hl
              refine wl (w_alloc hl hh rfl trivial zero40 rfl ?_)
              clear hl hh a w; intro k10 a w hl hh
              refine wl (w_storeA hl hh trivial agg40 rfl rfl (by repeat (first | exact find_head | apply find_tail)) (by first | rfl | (simp; done) | rfl) (by first | (simp; done) | (simp; omega) | (simp [grc]; done) | decide) (by first | rfl | (simp; done) | rfl) (by first | rfl | (simp only [setL, List.getElem?_cons_zero, List.getElem?_cons_succ, Value.cells, List.take_zero, List.take_succ_cons, List.take_nil, List.drop_zero, List.drop_succ_cons, List.drop_nil, List.length_cons, List.length_nil, List.cons_append, List.nil_append, List.append_nil, Nat.zero_add, Nat.add_zero, Nat.reduceAdd, Nat.reduceBEq, Nat.reduceEqDiff, Nat.ble, BEq.rfl, Bool.and_true, Bool.and_self, cond_true, beq_self_eq_true]; rfl) | (simp only [setL, List.getElem?_cons_zero, List.getElem?_cons_succ, Value.cells, List.take_zero, List.take_succ_cons, List.take_nil, List.drop_zero, List.drop_succ_cons, List.drop_nil, List.length_cons, List.length_nil, List.cons_append, List.nil_append, List.append_nil, Nat.zero_add, Nat.add_zero, Nat.reduceAdd, Nat.reduceBEq, Nat.reduceEqDiff, Nat.ble, BEq.rfl, Bool.and_true, Bool.and_self, cond_true, beq_self_eq_true]; rfl)) ?_)
              clear hh w; intro w hh
              refine wl (wl_val hl rfl trivial (r_assign hl rfl) ?_)
              clear hl a; intro a hl
              refine w_nil ?_
              have hl2 := hl.add (t := 0) (hl.add (t := 4) (hl.add (t := 10) (hl.add (t := 11) (hl.nil) rfl) rfl) rfl) rfl; clear hl; have hl := hl2; clear hl2
              refine then_normal ?_
              refine c_seq ?_
              refine c_region ?_
              refine wl (wl_val hl rfl trivial (r_move hl rfl) ?_)
              clear hl a; intro a hl
              refine wl (wl_val hl rfl trivial (r_move hl rfl) ?_)
              clear hl a; intro a hl
              refine sl_split (t := 63) hl rfl ?_ ?_
              · intro hg2; clear hl; intro hl
                try simp only [decide_eq_true_eq, decide_eq_false_iff_not, Bool.not_eq_true', Bool.not_eq_false', Bool.not_eq_true, Bool.not_eq_false, Bool.and_eq_true, Bool.or_eq_true, Bool.and_eq_false_iff, Bool.or_eq_false_iff, Bool.not_not, ne_eq, Int.not_lt, Int.not_le, Decidable.not_not, beq_iff_eq, bne_iff_ne] at hg2
                refine wl (wl_val hl rfl ⟨_, _, rfl, rfl, rfl⟩ (r_move hl rfl) ?_)
                clear hl a; intro a hl
                refine wl (wl_val hl rfl ⟨_, _, rfl, rfl, rfl⟩ (r_nilCheck hl rfl) ?_)
                clear hl a; intro a hl
                refine wl (wl_val hl rfl ⟨_, _, rfl, rfl, rfl⟩ (r_field hl rfl fld66_14) ?_)
                clear hl a; intro a hl
                first | refine wl (w_load hl hh rfl ⟨_, _, rfl, rfl, rfl⟩ one4 rfl (by repeat (first | exact find_head | apply find_tail)) (by first | rfl) ?_) | refine wl (w_loadR hl hh rfl ⟨_, _, rfl, rfl, rfl⟩ one4 rfl hm (by simp) rfl ?_)
                clear hl a; intro a hl
                refine wl (wl_val hl rfl ⟨_, _, rfl, rfl, rfl⟩ (r_not hl rfl) ?_)
                clear hl a; intro a hl
                refine wl (wl_val hl rfl trivial (r_pickT hl rfl rfl) ?_)
                clear hl a; intro a hl
                refine w_nil ?_
                have hl2 := hl.add (t := 4) (hl.add (t := 10) (hl.add (t := 69) (hl.nil) rfl) rfl) rfl; clear hl; have hl := hl2; clear hl2
                refine then_normal ?_
                refine c_cond hl rfl ?_ ?_
                · intro hc5
                  try simp only [decide_eq_true_eq, decide_eq_false_iff_not, Bool.not_eq_true', Bool.not_eq_false', Bool.not_eq_true, Bool.not_eq_false, Bool.and_eq_true, Bool.or_eq_true, Bool.and_eq_false_iff, Bool.or_eq_false_iff, Bool.not_not, ne_eq, Int.not_lt, Int.not_le, Decidable.not_not, beq_iff_eq, bne_iff_ne] at hc5
                  refine c_seq ?_
                  refine c_region ?_
                  refine wl (w_loadA hl hh rfl trivial agg40 rfl (by repeat (first | exact find_head | apply find_tail)) (by first | rfl | (simp only [List.getElem?_cons_zero, List.getElem?_cons_succ, Value.cells, List.take_zero, List.take_succ_cons, List.take_nil, List.drop_zero, List.drop_succ_cons, List.drop_nil, List.length_cons, List.length_nil, List.cons_append, List.nil_append, List.append_nil, Nat.zero_add, Nat.add_zero, Nat.reduceAdd, Nat.reduceBEq, Nat.reduceEqDiff, Nat.ble, BEq.rfl, Bool.and_true, Bool.and_self, cond_true, beq_self_eq_true]; rfl)) (by first | rfl | (simp; done)) ?_)
                  clear hl a; intro a hl
                  refine wl (w_storeA hl hh trivial agg40 rfl rfl (by repeat (first | exact find_head | apply find_tail)) (by first | rfl | (simp; done) | rfl) (by first | (simp; done) | (simp; omega) | (simp [grc]; done) | decide) (by first | rfl | (simp; done) | rfl) (by first | rfl | (simp only [setL, List.getElem?_cons_zero, List.getElem?_cons_succ, Value.cells, List.take_zero, List.take_succ_cons, List.take_nil, List.drop_zero, List.drop_succ_cons, List.drop_nil, List.length_cons, List.length_nil, List.cons_append, List.nil_append, List.append_nil, Nat.zero_add, Nat.add_zero, Nat.reduceAdd, Nat.reduceBEq, Nat.reduceEqDiff, Nat.ble, BEq.rfl, Bool.and_true, Bool.and_self, cond_true, beq_self_eq_true]; rfl) | (simp only [setL, List.getElem?_cons_zero, List.getElem?_cons_succ, Value.cells, List.take_zero, List.take_succ_cons, List.take_nil, List.drop_zero, List.drop_succ_cons, List.drop_nil, List.length_cons, List.length_nil, List.cons_append, List.nil_append, List.append_nil, Nat.zero_add, Nat.add_zero, Nat.reduceAdd, Nat.reduceBEq, Nat.reduceEqDiff, Nat.ble, BEq.rfl, Bool.and_true, Bool.and_self, cond_true, beq_self_eq_true]; rfl)) ?_)
                  clear hh w; intro w hh
                  refine w_nil ?_
                  have hl2 := hl.add (t := 4) (hl.nil) rfl; clear hl; have hl := hl2; clear hl2
                  refine then_normal ?_
                  refine wp_ret ?_
                  refine then_ret ?_
                  refine f_retC (F' := []) hl hh rfl rfl agg40 (by repeat (first | exact find_head | apply find_tail)) (by first | rfl | (simp; done)) keeps_nil ?_
                  refine ⟨?_, rfl⟩
                  first | (have h9 := candP_1 (s := s) (ns := sp.isNone) (bl := bl) (fresh := fresh) (by assumption) (by assumption); exact congrArg (fun z => Value.agg ⟨grc z⟩) h9) | (have h9 := (cand1_1 (s := s) (ns := sp.isNone) (bl := bl) (fresh := fresh) (by assumption)).trans (candP_2 (s := s) (ns := sp.isNone) (bl := bl) (fresh := fresh) (by assumption) (by assumption)); exact congrArg (fun z => Value.agg ⟨grc z⟩) h9) | (have h9 := ((cand2_1 (s := s) (ns := sp.isNone) (bl := bl) (by assumption) (by assumption) (by assumption)).trans (cand1_2 (s := s) (ns := sp.isNone) (bl := bl) (fresh := fresh) (by assumption))).trans (candP_2 (s := s) (ns := sp.isNone) (bl := bl) (fresh := fresh) (by assumption) (by assumption)); exact congrArg (fun z => Value.agg ⟨grc z⟩) h9) | (have h9 := ((cand2_2 (s := s) (ns := sp.isNone) (bl := bl) (by assumption) (by assumption) (by assumption) (by assumption) (by assumption)).trans (cand1_2 (s := s) (ns := sp.isNone) (bl := bl) (fresh := fresh) (by assumption))).trans (candP_2 (s := s) (ns := sp.isNone) (bl := bl) (fresh := fresh) (by assumption) (by assumption)); exact congrArg (fun z => Value.agg ⟨grc z⟩) h9) | (have h9 := ((cand2_3 (s := s) (ns := sp.isNone) (bl := bl) (by assumption) (by assumption) (by assumption) (by first | exact fun z => absurd z.1 (by omega) | exact fun z => absurd (z.2.symm.trans (show s.resc = true by assumption)) (by decide))).trans (cand1_2 (s := s) (ns := sp.isNone) (bl := bl) (fresh := fresh) (by assumption))).trans (candP_2 (s := s) (ns := sp.isNone) (bl := bl) (fresh := fresh) (by assumption) (by assumption)); exact congrArg (fun z => Value.agg ⟨grc z⟩) h9) | (have h9 := ((cand2_4 (s := s) (ns := sp.isNone) (bl := bl) (by first | exact fun z => absurd z.1 (by assumption) | exact fun z => absurd (z.2.symm.trans (show sp.isNone = true by assumption)) (by decide))).trans (cand1_2 (s := s) (ns := sp.isNone) (bl := bl) (fresh := fresh) (by assumption))).trans (candP_2 (s := s) (ns := sp.isNone) (bl := bl) (fresh := fresh) (by assumption) (by assumption)); exact congrArg (fun z => Value.agg ⟨grc z⟩) h9) | (have h9 := (cand1_1 (s := s) (ns := sp.isNone) (bl := bl) (fresh := fresh) (by assumption)).trans (candP_3 (s := s) (ns := sp.isNone) (bl := bl) (fresh := fresh) (by assumption)); exact congrArg (fun z => Value.agg ⟨grc z⟩) h9) | (have h9 := ((cand2_1 (s := s) (ns := sp.isNone) (bl := bl) (by assumption) (by assumption) (by assumption)).trans (cand1_2 (s := s) (ns := sp.isNone) (bl := bl) (fresh := fresh) (by assumption))).trans (candP_3 (s := s) (ns := sp.isNone) (bl := bl) (fresh := fresh) (by assumption)); exact congrArg (fun z => Value.agg ⟨grc z⟩) h9) | (have h9 := ((cand2_2 (s := s) (ns := sp.isNone) (bl := bl) (by assumption) (by assumption) (by assumption) (by assumption) (by assumption)).trans (cand1_2 (s := s) (ns := sp.isNone) (bl := bl) (fresh := fresh) (by assumption))).trans (candP_3 (s := s) (ns := sp.isNone) (bl := bl) (fresh := fresh) (by assumption)); exact congrArg (fun z => Value.agg ⟨grc z⟩) h9) | (have h9 := ((cand2_3 (s := s) (ns := sp.isNone) (bl := bl) (by assumption) (by assumption) (by assumption) (by first | exact fun z => absurd z.1 (by omega) | exact fun z => absurd (z.2.symm.trans (show s.resc = true by assumption)) (by decide))).trans (cand1_2 (s := s) (ns := sp.isNone) (bl := bl) (fresh := fresh) (by assumption))).trans (candP_3 (s := s) (ns := sp.isNone) (bl := bl) (fresh := fresh) (by assumption)); exact congrArg (fun z => Value.agg ⟨grc z⟩) h9) | (have h9 := ((cand2_4 (s := s) (ns := sp.isNone) (bl := bl) (by first | exact fun z => absurd z.1 (by assumption) | exact fun z => absurd (z.2.symm.trans (show sp.isNone = true by assumption)) (by decide))).trans (cand1_2 (s := s) (ns := sp.isNone) (bl := bl) (fresh := fresh) (by assumption))).trans (candP_3 (s := s) (ns := sp.isNone) (bl := bl) (fresh := fresh) (by assumption)); exact congrArg (fun z => Value.agg ⟨grc z⟩) h9)
                · intro hc5
                  try simp only [decide_eq_true_eq, decide_eq_false_iff_not, Bool.not_eq_true', Bool.not_eq_false', Bool.not_eq_true, Bool.not_eq_false, Bool.and_eq_true, Bool.or_eq_true, Bool.and_eq_false_iff, Bool.or_eq_false_iff, Bool.not_not, ne_eq, Int.not_lt, Int.not_le, Decidable.not_not, beq_iff_eq, bne_iff_ne] at hc5
                  refine wp_skip ?_
                  refine then_normal ?_
                  refine c_seq ?_
                  refine c_region ?_
                  refine wl (wl_val hl rfl trivial (r_build hl rfl zero40 bld40 (by simp only [fillL, setL, List.getElem?_cons_zero, List.getElem?_cons_succ, Value.cells, List.take_zero, List.take_succ_cons, List.take_nil, List.drop_zero, List.drop_succ_cons, List.drop_nil, List.length_cons, List.length_nil, List.cons_append, List.nil_append, List.append_nil, Nat.zero_add, Nat.add_zero, Nat.reduceAdd, Nat.reduceBEq, Nat.reduceEqDiff, Nat.ble, BEq.rfl, Bool.and_true, Bool.and_self, cond_true, beq_self_eq_true]; rfl)) ?_)
                  clear hl a; intro a hl
                  refine wl (w_storeA hl hh trivial agg40 rfl rfl (by repeat (first | exact find_head | apply find_tail)) (by first | rfl | (simp; done) | rfl) (by first | (simp; done) | (simp; omega) | (simp [grc]; done) | decide) (by first | rfl | (simp; done) | rfl) (by first | rfl | (simp only [setL, List.getElem?_cons_zero, List.getElem?_cons_succ, Value.cells, List.take_zero, List.take_succ_cons, List.take_nil, List.drop_zero, List.drop_succ_cons, List.drop_nil, List.length_cons, List.length_nil, List.cons_append, List.nil_append, List.append_nil, Nat.zero_add, Nat.add_zero, Nat.reduceAdd, Nat.reduceBEq, Nat.reduceEqDiff, Nat.ble, BEq.rfl, Bool.and_true, Bool.and_self, cond_true, beq_self_eq_true]; rfl) | (simp only [setL, List.getElem?_cons_zero, List.getElem?_cons_succ, Value.cells, List.take_zero, List.take_succ_cons, List.take_nil, List.drop_zero, List.drop_succ_cons, List.drop_nil, List.length_cons, List.length_nil, List.cons_append, List.nil_append, List.append_nil, Nat.zero_add, Nat.add_zero, Nat.reduceAdd, Nat.reduceBEq, Nat.reduceEqDiff, Nat.ble, BEq.rfl, Bool.and_true, Bool.and_self, cond_true, beq_self_eq_true]; rfl)) ?_)
                  clear hh w; intro w hh
                  refine w_nil ?_
                  have hl2 := hl.add (t := 4) (hl.nil) rfl; clear hl; have hl := hl2; clear hl2
                  refine then_normal ?_
                  refine wp_ret ?_
                  refine f_retC (F' := []) hl hh rfl rfl agg40 (by repeat (first | exact find_head | apply find_tail)) (by first | rfl | (simp; done)) keeps_nil ?_
                  refine ⟨?_, rfl⟩
                  first | (have h9 := candP_1 (s := s) (ns := sp.isNone) (bl := bl) (fresh := fresh) (by assumption) (by assumption); exact congrArg (fun z => Value.agg ⟨grc z⟩) h9) | (have h9 := (cand1_1 (s := s) (ns := sp.isNone) (bl := bl) (fresh := fresh) (by assumption)).trans (candP_2 (s := s) (ns := sp.isNone) (bl := bl) (fresh := fresh) (by assumption) (by assumption)); exact congrArg (fun z => Value.agg ⟨grc z⟩) h9) | (have h9 := ((cand2_1 (s := s) (ns := sp.isNone) (bl := bl) (by assumption) (by assumption) (by assumption)).trans (cand1_2 (s := s) (ns := sp.isNone) (bl := bl) (fresh := fresh) (by assumption))).trans (candP_2 (s := s) (ns := sp.isNone) (bl := bl) (fresh := fresh) (by assumption) (by assumption)); exact congrArg (fun z => Value.agg ⟨grc z⟩) h9) | (have h9 := ((cand2_2 (s := s) (ns := sp.isNone) (bl := bl) (by assumption) (by assumption) (by assumption) (by assumption) (by assumption)).trans (cand1_2 (s := s) (ns := sp.isNone) (bl := bl) (fresh := fresh) (by assumption))).trans (candP_2 (s := s) (ns := sp.isNone) (bl := bl) (fresh := fresh) (by assumption) (by assumption)); exact congrArg (fun z => Value.agg ⟨grc z⟩) h9) | (have h9 := ((cand2_3 (s := s) (ns := sp.isNone) (bl := bl) (by assumption) (by assumption) (by assumption) (by first | exact fun z => absurd z.1 (by omega) | exact fun z => absurd (z.2.symm.trans (show s.resc = true by assumption)) (by decide))).trans (cand1_2 (s := s) (ns := sp.isNone) (bl := bl) (fresh := fresh) (by assumption))).trans (candP_2 (s := s) (ns := sp.isNone) (bl := bl) (fresh := fresh) (by assumption) (by assumption)); exact congrArg (fun z => Value.agg ⟨grc z⟩) h9) | (have h9 := ((cand2_4 (s := s) (ns := sp.isNone) (bl := bl) (by first | exact fun z => absurd z.1 (by assumption) | exact fun z => absurd (z.2.symm.trans (show sp.isNone = true by assumption)) (by decide))).trans (cand1_2 (s := s) (ns := sp.isNone) (bl := bl) (fresh := fresh) (by assumption))).trans (candP_2 (s := s) (ns := sp.isNone) (bl := bl) (fresh := fresh) (by assumption) (by assumption)); exact congrArg (fun z => Value.agg ⟨grc z⟩) h9) | (have h9 := (cand1_1 (s := s) (ns := sp.isNone) (bl := bl) (fresh := fresh) (by assumption)).trans (candP_3 (s := s) (ns := sp.isNone) (bl := bl) (fresh := fresh) (by assumption)); exact congrArg (fun z => Value.agg ⟨grc z⟩) h9) | (have h9 := ((cand2_1 (s := s) (ns := sp.isNone) (bl := bl) (by assumption) (by assumption) (by assumption)).trans (cand1_2 (s := s) (ns := sp.isNone) (bl := bl) (fresh := fresh) (by assumption))).trans (candP_3 (s := s) (ns := sp.isNone) (bl := bl) (fresh := fresh) (by assumption)); exact congrArg (fun z => Value.agg ⟨grc z⟩) h9) | (have h9 := ((cand2_2 (s := s) (ns := sp.isNone) (bl := bl) (by assumption) (by assumption) (by assumption) (by assumption) (by assumption)).trans (cand1_2 (s := s) (ns := sp.isNone) (bl := bl) (fresh := fresh) (by assumption))).trans (candP_3 (s := s) (ns := sp.isNone) (bl := bl) (fresh := fresh) (by assumption)); exact congrArg (fun z => Value.agg ⟨grc z⟩) h9) | (have h9 := ((cand2_3 (s := s) (ns := sp.isNone) (bl := bl) (by assumption) (by assumption) (by assumption) (by first | exact fun z => absurd z.1 (by omega) | exact fun z => absurd (z.2.symm.trans (show s.resc = true by assumption)) (by decide))).trans (cand1_2 (s := s) (ns := sp.isNone) (bl := bl) (fresh := fresh) (by assumption))).trans (candP_3 (s := s) (ns := sp.isNone) (bl := bl) (fresh := fresh) (by assumption)); exact congrArg (fun z => Value.agg ⟨grc z⟩) h9) | (have h9 := ((cand2_4 (s := s) (ns := sp.isNone) (bl := bl) (by first | exact fun z => absurd z.1 (by assumption) | exact fun z => absurd (z.2.symm.trans (show sp.isNone = true by assumption)) (by decide))).trans (cand1_2 (s := s) (ns := sp.isNone) (bl := bl) (fresh := fresh) (by assumption))).trans (candP_3 (s := s) (ns := sp.isNone) (bl := bl) (fresh := fresh) (by assumption)); exact congrArg (fun z => Value.agg ⟨grc z⟩) h9)
              · intro hg2; clear hl; intro hl
                try simp only [decide_eq_true_eq, decide_eq_false_iff_not, Bool.not_eq_true', Bool.not_eq_false', Bool.not_eq_true, Bool.not_eq_false, Bool.and_eq_true, Bool.or_eq_true, Bool.and_eq_false_iff, Bool.or_eq_false_iff, Bool.not_not, ne_eq, Int.not_lt, Int.not_le, Decidable.not_not, beq_iff_eq, bne_iff_ne] at hg2
                refine wl (wl_skip hl rfl ⟨_, _, rfl, rfl, rfl⟩ ?_)
                clear hl a; intro a hl
                refine wl (wl_skip hl rfl ⟨_, _, rfl, rfl, rfl⟩ ?_)
                clear hl a; intro a hl
                refine wl (wl_skip hl rfl ⟨_, _, rfl, rfl, rfl⟩ ?_)
                clear hl a; intro a hl
                refine wl (wl_skip hl rfl ⟨_, _, rfl, rfl, rfl⟩ ?_)
                clear hl a; intro a hl
                refine wl (wl_skip hl rfl ⟨_, _, rfl, rfl, rfl⟩ ?_)
                clear hl a; intro a hl
                refine wl (wl_val hl rfl trivial (r_pickF hl rfl rfl) ?_)
                clear hl a; intro a hl
                refine w_nil ?_
                have hl2 := hl.add (t := 4) (hl.add (t := 10) (hl.add (t := 69) (hl.nil) rfl) rfl) rfl; clear hl; have hl := hl2; clear hl2
                refine then_normal ?_
                refine c_condF hl rfl ?_
                refine wp_skip ?_
                refine then_normal ?_
                refine c_seq ?_
                refine c_region ?_
                refine wl (wl_val hl rfl trivial (r_build hl rfl zero40 bld40 (by simp only [fillL, setL, List.getElem?_cons_zero, List.getElem?_cons_succ, Value.cells, List.take_zero, List.take_succ_cons, List.take_nil, List.drop_zero, List.drop_succ_cons, List.drop_nil, List.length_cons, List.length_nil, List.cons_append, List.nil_append, List.append_nil, Nat.zero_add, Nat.add_zero, Nat.reduceAdd, Nat.reduceBEq, Nat.reduceEqDiff, Nat.ble, BEq.rfl, Bool.and_true, Bool.and_self, cond_true, beq_self_eq_true]; rfl)) ?_)
                clear hl a; intro a hl
                refine wl (w_storeA hl hh trivial agg40 rfl rfl (by repeat (first | exact find_head | apply find_tail)) (by first | rfl | (simp; done) | rfl) (by first | (simp; done) | (simp; omega) | (simp [grc]; done) | decide) (by first | rfl | (simp; done) | rfl) (by first | rfl | (simp only [setL, List.getElem?_cons_zero, List.getElem?_cons_succ, Value.cells, List.take_zero, List.take_succ_cons, List.take_nil, List.drop_zero, List.drop_succ_cons, List.drop_nil, List.length_cons, List.length_nil, List.cons_append, List.nil_append, List.append_nil, Nat.zero_add, Nat.add_zero, Nat.reduceAdd, Nat.reduceBEq, Nat.reduceEqDiff, Nat.ble, BEq.rfl, Bool.and_true, Bool.and_self, cond_true, beq_self_eq_true]; rfl) | (simp only [setL, List.getElem?_cons_zero, List.getElem?_cons_succ, Value.cells, List.take_zero, List.take_succ_cons, List.take_nil, List.drop_zero, List.drop_succ_cons, List.drop_nil, List.length_cons, List.length_nil, List.cons_append, List.nil_append, List.append_nil, Nat.zero_add, Nat.add_zero, Nat.reduceAdd, Nat.reduceBEq, Nat.reduceEqDiff, Nat.ble, BEq.rfl, Bool.and_true, Bool.and_self, cond_true, beq_self_eq_true]; rfl)) ?_)
                clear hh w; intro w hh
                refine w_nil ?_
                have hl2 := hl.add (t := 4) (hl.nil) rfl; clear hl; have hl := hl2; clear hl2
                refine then_normal ?_
                refine wp_ret ?_
                refine f_retC (F' := []) hl hh rfl rfl agg40 (by repeat (first | exact find_head | apply find_tail)) (by first | rfl | (simp; done)) keeps_nil ?_
                refine ⟨?_, rfl⟩
                first | (have h9 := candP_1 (s := s) (ns := sp.isNone) (bl := bl) (fresh := fresh) (by assumption) (by assumption); exact congrArg (fun z => Value.agg ⟨grc z⟩) h9) | (have h9 := (cand1_1 (s := s) (ns := sp.isNone) (bl := bl) (fresh := fresh) (by assumption)).trans (candP_2 (s := s) (ns := sp.isNone) (bl := bl) (fresh := fresh) (by assumption) (by assumption)); exact congrArg (fun z => Value.agg ⟨grc z⟩) h9) | (have h9 := ((cand2_1 (s := s) (ns := sp.isNone) (bl := bl) (by assumption) (by assumption) (by assumption)).trans (cand1_2 (s := s) (ns := sp.isNone) (bl := bl) (fresh := fresh) (by assumption))).trans (candP_2 (s := s) (ns := sp.isNone) (bl := bl) (fresh := fresh) (by assumption) (by assumption)); exact congrArg (fun z => Value.agg ⟨grc z⟩) h9) | (have h9 := ((cand2_2 (s := s) (ns := sp.isNone) (bl := bl) (by assumption) (by assumption) (by assumption) (by assumption) (by assumption)).trans (cand1_2 (s := s) (ns := sp.isNone) (bl := bl) (fresh := fresh) (by assumption))).trans (candP_2 (s := s) (ns := sp.isNone) (bl := bl) (fresh := fresh) (by assumption) (by assumption)); exact congrArg (fun z => Value.agg ⟨grc z⟩) h9) | (have h9 := ((cand2_3 (s := s) (ns := sp.isNone) (bl := bl) (by assumption) (by assumption) (by assumption) (by first | exact fun z => absurd z.1 (by omega) | exact fun z => absurd (z.2.symm.trans (show s.resc = true by assumption)) (by decide))).trans (cand1_2 (s := s) (ns := sp.isNone) (bl := bl) (fresh := fresh) (by assumption))).trans (candP_2 (s := s) (ns := sp.isNone) (bl := bl) (fresh := fresh) (by assumption) (by assumption)); exact congrArg (fun z => Value.agg ⟨grc z⟩) h9) | (have h9 := ((cand2_4 (s := s) (ns := sp.isNone) (bl := bl) (by first | exact fun z => absurd z.1 (by assumption) | exact fun z => absurd (z.2.symm.trans (show sp.isNone = true by assumption)) (by decide))).trans (cand1_2 (s := s) (ns := sp.isNone) (bl := bl) (fresh := fresh) (by assumption))).trans (candP_2 (s := s) (ns := sp.isNone) (bl := bl) (fresh := fresh) (by assumption) (by assumption)); exact congrArg (fun z => Value.agg ⟨grc z⟩) h9) | (have h9 := (cand1_1 (s := s) (ns := sp.isNone) (bl := bl) (fresh := fresh) (by assumption)).trans (candP_3 (s := s) (ns := sp.isNone) (bl := bl) (fresh := fresh) (by assumption)); exact congrArg (fun z => Value.agg ⟨grc z⟩) h9) | (have h9 := ((cand2_1 (s := s) (ns := sp.isNone) (bl := bl) (by assumption) (by assumption) (by assumption)).trans (cand1_2 (s := s) (ns := sp.isNone) (bl := bl) (fresh := fresh) (by assumption))).trans (candP_3 (s := s) (ns := sp.isNone) (bl := bl) (fresh := fresh) (by assumption)); exact congrArg (fun z => Value.agg ⟨grc z⟩) h9) | (have h9 := ((cand2_2 (s := s) (ns := sp.isNone) (bl := bl) (by assumption) (by assumption) (by assumption) (by assumption) (by assumption)).trans (cand1_2 (s := s) (ns := sp.isNone) (bl := bl) (fresh := fresh) (by assumption))).trans (candP_3 (s := s) (ns := sp.isNone) (bl := bl) (fresh := fresh) (by assumption)); exact congrArg (fun z => Value.agg ⟨grc z⟩) h9) | (have h9 := ((cand2_3 (s := s) (ns := sp.isNone) (bl := bl) (by assumption) (by assumption) (by assumption) (by first | exact fun z => absurd z.1 (by omega) | exact fun z => absurd (z.2.symm.trans (show s.resc = true by assumption)) (by decide))).trans (cand1_2 (s := s) (ns := sp.isNone) (bl := bl) (fresh := fresh) (by assumption))).trans (candP_3 (s := s) (ns := sp.isNone) (bl := bl) (fresh := fresh) (by assumption)); exact congrArg (fun z => Value.agg ⟨grc z⟩) h9) | (have h9 := ((cand2_4 (s := s) (ns := sp.isNone) (bl := bl) (by first | exact fun z => absurd z.1 (by assumption) | exact fun z => absurd (z.2.symm.trans (show sp.isNone = true by assumption)) (by decide))).trans (cand1_2 (s := s) (ns := sp.isNone) (bl := bl) (fresh := fresh) (by assumption))).trans (candP_3 (s := s) (ns := sp.isNone) (bl := bl) (fresh := fresh) (by assumption)); exact congrArg (fun z => Value.agg ⟨grc z⟩) h9)
          · intro hc3
            try simp only [decide_eq_true_eq, decide_eq_false_iff_not, Bool.not_eq_true', Bool.not_eq_false', Bool.not_eq_true, Bool.not_eq_false, Bool.and_eq_true, Bool.or_eq_true, Bool.and_eq_false_iff, Bool.or_eq_false_iff, Bool.not_not, ne_eq, Int.not_lt, Int.not_le, Decidable.not_not, beq_iff_eq, bne_iff_ne] at hc3
            refine wp_skip ?_
            refine then_normal ?_
            refine c_seq ?_
            refine c_region ?_
            refine wl (wl_val hl rfl trivial (r_build hl rfl zero40 bld40 (by simp only [fillL, setL, List.getElem?_cons_zero, List.getElem?_cons_succ, Value.cells, List.take_zero, List.take_succ_cons, List.take_nil, List.drop_zero, List.drop_succ_cons, List.drop_nil, List.length_cons, List.length_nil, List.cons_append, List.nil_append, List.append_nil, Nat.zero_add, Nat.add_zero, Nat.reduceAdd, Nat.reduceBEq, Nat.reduceEqDiff, Nat.ble, BEq.rfl, Bool.and_true, Bool.and_self, cond_true, beq_self_eq_true]; rfl)) ?_)
            clear hl a; intro a hl
            refine wl (w_storeA hl hh trivial agg40 rfl rfl (by repeat (first | exact find_head | apply find_tail)) (by first | rfl | (simp; done) | rfl) (by first | (simp; done) | (simp; omega) | (simp [grc]; done) | decide) (by first | rfl | (simp; done) | rfl) (by first | rfl | (simp only [setL, List.getElem?_cons_zero, List.getElem?_cons_succ, Value.cells, List.take_zero, List.take_succ_cons, List.take_nil, List.drop_zero, List.drop_succ_cons, List.drop_nil, List.length_cons, List.length_nil, List.cons_append, List.nil_append, List.append_nil, Nat.zero_add, Nat.add_zero, Nat.reduceAdd, Nat.reduceBEq, Nat.reduceEqDiff, Nat.ble, BEq.rfl, Bool.and_true, Bool.and_self, cond_true, beq_self_eq_true]; rfl) | (simp only [setL, List.getElem?_cons_zero, List.getElem?_cons_succ, Value.cells, List.take_zero, List.take_succ_cons, List.take_nil, List.drop_zero, List.drop_succ_cons, List.drop_nil, List.length_cons, List.length_nil, List.cons_append, List.nil_append, List.append_nil, Nat.zero_add, Nat.add_zero, Nat.reduceAdd, Nat.reduceBEq, Nat.reduceEqDiff, Nat.ble, BEq.rfl, Bool.and_true, Bool.and_self, cond_true, beq_self_eq_true]; rfl)) ?_)
            clear hh w; intro w hh
            refine w_nil ?_
            have hl2 := hl.add (t := 4) (hl.nil) rfl; clear hl; have hl := hl2; clear hl2
            refine then_normal ?_
            refine wp_ret ?_
            refine f_retC (F' := []) hl hh rfl rfl agg40 (by repeat (first | exact find_head | apply find_tail)) (by first | rfl | (simp; done)) keeps_nil ?_
            refine ⟨?_, rfl⟩
            first | (have h9 := candP_1 (s := s) (ns := sp.isNone) (bl := bl) (fresh := fresh) (by assumption) (by assumption); exact congrArg (fun z => Value.agg ⟨grc z⟩) h9) | (have h9 := (cand1_1 (s := s) (ns := sp.isNone) (bl := bl) (fresh := fresh) (by assumption)).trans (candP_2 (s := s) (ns := sp.isNone) (bl := bl) (fresh := fresh) (by assumption) (by assumption)); exact congrArg (fun z => Value.agg ⟨grc z⟩) h9) | (have h9 := ((cand2_1 (s := s) (ns := sp.isNone) (bl := bl) (by assumption) (by assumption) (by assumption)).trans (cand1_2 (s := s) (ns := sp.isNone) (bl := bl) (fresh := fresh) (by assumption))).trans (candP_2 (s := s) (ns := sp.isNone) (bl := bl) (fresh := fresh) (by assumption) (by assumption)); exact congrArg (fun z => Value.agg ⟨grc z⟩) h9) | (have h9 := ((cand2_2 (s := s) (ns := sp.isNone) (bl := bl) (by assumption) (by assumption) (by assumption) (by assumption) (by assumption)).trans (cand1_2 (s := s) (ns := sp.isNone) (bl := bl) (fresh := fresh) (by assumption))).trans (candP_2 (s := s) (ns := sp.isNone) (bl := bl) (fresh := fresh) (by assumption) (by assumption)); exact congrArg (fun z => Value.agg ⟨grc z⟩) h9) | (have h9 := ((cand2_3 (s := s) (ns := sp.isNone) (bl := bl) (by assumption) (by assumption) (by assumption) (by first | exact fun z => absurd z.1 (by omega) | exact fun z => absurd (z.2.symm.trans (show s.resc = true by assumption)) (by decide))).trans (cand1_2 (s := s) (ns := sp.isNone) (bl := bl) (fresh := fresh) (by assumption))).trans (candP_2 (s := s) (ns := sp.isNone) (bl := bl) (fresh := fresh) (by assumption) (by assumption)); exact congrArg (fun z => Value.agg ⟨grc z⟩) h9) | (have h9 := ((cand2_4 (s := s) (ns := sp.isNone) (bl := bl) (by first | exact fun z => absurd z.1 (by assumption) | exact fun z => absurd (z.2.symm.trans (show sp.isNone = true by assumption)) (by decide))).trans (cand1_2 (s := s) (ns := sp.isNone) (bl := bl) (fresh := fresh) (by assumption))).trans (candP_2 (s := s) (ns := sp.isNone) (bl := bl) (fresh := fresh) (by assumption) (by assumption)); exact congrArg (fun z => Value.agg ⟨grc z⟩) h9) | (have h9 := (cand1_1 (s := s) (ns := sp.isNone) (bl := bl) (fresh := fresh) (by assumption)).trans (candP_3 (s := s) (ns := sp.isNone) (bl := bl) (fresh := fresh) (by assumption)); exact congrArg (fun z => Value.agg ⟨grc z⟩) h9) | (have h9 := ((cand2_1 (s := s) (ns := sp.isNone) (bl := bl) (by assumption) (by assumption) (by assumption)).trans (cand1_2 (s := s) (ns := sp.isNone) (bl := bl) (fresh := fresh) (by assumption))).trans (candP_3 (s := s) (ns := sp.isNone) (bl := bl) (fresh := fresh) (by assumption)); exact congrArg (fun z => Value.agg ⟨grc z⟩) h9) | (have h9 := ((cand2_2 (s := s) (ns := sp.isNone) (bl := bl) (by assumption) (by assumption) (by assumption) (by assumption) (by assumption)).trans (cand1_2 (s := s) (ns := sp.isNone) (bl := bl) (fresh := fresh) (by assumption))).trans (candP_3 (s := s) (ns := sp.isNone) (bl := bl) (fresh := fresh) (by assumption)); exact congrArg (fun z => Value.agg ⟨grc z⟩) h9) | (have h9 := ((cand2_3 (s := s) (ns := sp.isNone) (bl := bl) (by assumption) (by assumption) (by assumption) (by first | exact fun z => absurd z.1 (by omega) | exact fun z => absurd (z.2.symm.trans (show s.resc = true by assumption)) (by decide))).trans (cand1_2 (s := s) (ns := sp.isNone) (bl := bl) (fresh := fresh) (by assumption))).trans (candP_3 (s := s) (ns := sp.isNone) (bl := bl) (fresh := fresh) (by assumption)); exact congrArg (fun z => Value.agg ⟨grc z⟩) h9) | (have h9 := ((cand2_4 (s := s) (ns := sp.isNone) (bl := bl) (by first | exact fun z => absurd z.1 (by assumption) | exact fun z => absurd (z.2.symm.trans (show sp.isNone = true by assumption)) (by decide))).trans (cand1_2 (s := s) (ns := sp.isNone) (bl := bl) (fresh := fresh) (by assumption))).trans (candP_3 (s := s) (ns := sp.isNone) (bl := bl) (fresh := fresh) (by assumption)); exact congrArg (fun z => Value.agg ⟨grc z⟩) h9)
        · intro hg1; clear hl; intro hl
          try simp only [decide_eq_true_eq, decide_eq_false_iff_not, Bool.not_eq_true', Bool.not_eq_false', Bool.not_eq_true, Bool.not_eq_false, Bool.and_eq_true, Bool.or_eq_true, Bool.and_eq_false_iff, Bool.or_eq_false_iff, Bool.not_not, ne_eq, Int.not_lt, Int.not_le, Decidable.not_not, beq_iff_eq, bne_iff_ne] at hg1
          refine wl (wl_skip hl rfl ⟨_, _, rfl, rfl, rfl⟩ ?_)
          clear hl a; intro a hl
          refine wl (wl_skip hl rfl ⟨_, _, rfl, rfl, rfl⟩ ?_)
          clear hl a; intro a hl
          refine wl (wl_skip hl rfl ⟨_, _, rfl, rfl, rfl⟩ ?_)
          clear hl a; intro a hl
          refine wl (wl_skip hl rfl ⟨_, _, rfl, rfl, rfl⟩ ?_)
          clear hl a; intro a hl
          refine wl (wl_skip hl rfl ⟨_, _, rfl, rfl, rfl⟩ ?_)
          clear hl a; intro a hl
          refine wl (wl_val hl rfl trivial (r_pickF hl rfl rfl) ?_)
          clear hl a; intro a hl
          refine w_nil ?_
          have hl2 := hl.add (t := 0) (hl.add (t := 4) (hl.add (t := 49) (hl.nil) rfl) rfl) rfl; clear hl; have hl := hl2; clear hl2
          refine then_normal ?_
          refine c_condF hl rfl ?_
          refine wp_skip ?_
          refine then_normal ?_
          refine c_seq ?_
          refine c_region ?_
          refine wl (wl_val hl rfl trivial (r_build hl rfl zero40 bld40 (by simp only [fillL, setL, List.getElem?_cons_zero, List.getElem?_cons_succ, Value.cells, List.take_zero, List.take_succ_cons, List.take_nil, List.drop_zero, List.drop_succ_cons, List.drop_nil, List.length_cons, List.length_nil, List.cons_append, List.nil_append, List.append_nil, Nat.zero_add, Nat.add_zero, Nat.reduceAdd, Nat.reduceBEq, Nat.reduceEqDiff, Nat.ble, BEq.rfl, Bool.and_true, Bool.and_self, cond_true, beq_self_eq_true]; rfl)) ?_)
          clear hl a; intro a hl
          refine wl (w_storeA hl hh trivial agg40 rfl rfl (by repeat (first | exact find_head | apply find_tail)) (by first | rfl | (simp; done) | rfl) (by first | (simp; done) | (simp; omega) | (simp [grc]; done) | decide) (by first | rfl | (simp; done) | rfl) (by first | rfl | (simp only [setL, List.getElem?_cons_zero, List.getElem?_cons_succ, Value.cells, List.take_zero, List.take_succ_cons, List.take_nil, List.drop_zero, List.drop_succ_cons, List.drop_nil, List.length_cons, List.length_nil, List.cons_append, List.nil_append, List.append_nil, Nat.zero_add, Nat.add_zero, Nat.reduceAdd, Nat.reduceBEq, Nat.reduceEqDiff, Nat.ble, BEq.rfl, Bool.and_true, Bool.and_self, cond_true, beq_self_eq_true]; rfl) | (simp only [setL, List.getElem?_cons_zero, List.getElem?_cons_succ, Value.cells, List.take_zero, List.take_succ_cons, List.take_nil, List.drop_zero, List.drop_succ_cons, List.drop_nil, List.length_cons, List.length_nil, List.cons_append, List.nil_append, List.append_nil, Nat.zero_add, Nat.add_zero, Nat.reduceAdd, Nat.reduceBEq, Nat.reduceEqDiff, Nat.ble, BEq.rfl, Bool.and_true, Bool.and_self, cond_true, beq_self_eq_true]; rfl)) ?_)
          clear hh w; intro w hh
          refine w_nil ?_
          have hl2 := hl.add (t := 4) (hl.nil) rfl; clear hl; have hl := hl2; clear hl2
          refine then_normal ?_
          refine wp_ret ?_
          refine f_retC (F' := []) hl hh rfl rfl agg40 (by repeat (first | exact find_head | apply find_tail)) (by first | rfl | (simp; done)) keeps_nil ?_
          refine ⟨?_, rfl⟩
          first | (have h9 := candP_1 (s := s) (ns := sp.isNone) (bl := bl) (fresh := fresh) (by assumption) (by assumption); exact congrArg (fun z => Value.agg ⟨grc z⟩) h9) | (have h9 := (cand1_1 (s := s) (ns := sp.isNone) (bl := bl) (fresh := fresh) (by assumption)).trans (candP_2 (s := s) (ns := sp.isNone) (bl := bl) (fresh := fresh) (by assumption) (by assumption)); exact congrArg (fun z => Value.agg ⟨grc z⟩) h9) | (have h9 := ((cand2_1 (s := s) (ns := sp.isNone) (bl := bl) (by assumption) (by assumption) (by assumption)).trans (cand1_2 (s := s) (ns := sp.isNone) (bl := bl) (fresh := fresh) (by assumption))).trans (candP_2 (s := s) (ns := sp.isNone) (bl := bl) (fresh := fresh) (by assumption) (by assumption)); exact congrArg (fun z => Value.agg ⟨grc z⟩) h9) | (have h9 := ((cand2_2 (s := s) (ns := sp.isNone) (bl := bl) (by assumption) (by assumption) (by assumption) (by assumption) (by assumption)).trans (cand1_2 (s := s) (ns := sp.isNone) (bl := bl) (fresh := fresh) (by assumption))).trans (candP_2 (s := s) (ns := sp.isNone) (bl := bl) (fresh := fresh) (by assumption) (by assumption)); exact congrArg (fun z => Value.agg ⟨grc z⟩) h9) | (have h9 := ((cand2_3 (s := s) (ns := sp.isNone) (bl := bl) (by assumption) (by assumption) (by assumption) (by first | exact fun z => absurd z.1 (by omega) | exact fun z => absurd (z.2.symm.trans (show s.resc = true by assumption)) (by decide))).trans (cand1_2 (s := s) (ns := sp.isNone) (bl := bl) (fresh := fresh) (by assumption))).trans (candP_2 (s := s) (ns := sp.isNone) (bl := bl) (fresh := fresh) (by assumption) (by assumption)); exact congrArg (fun z => Value.agg ⟨grc z⟩) h9) | (have h9 := ((cand2_4 (s := s) (ns := sp.isNone) (bl := bl) (by first | exact fun z => absurd z.1 (by assumption) | exact fun z => absurd (z.2.symm.trans (show sp.isNone = true by assumption)) (by decide))).trans (cand1_2 (s := s) (ns := sp.isNone) (bl := bl) (fresh := fresh) (by assumption))).trans (candP_2 (s := s) (ns := sp.isNone) (bl := bl) (fresh := fresh) (by assumption) (by assumption)); exact congrArg (fun z => Value.agg ⟨grc z⟩) h9) | (have h9 := (cand1_1 (s := s) (ns := sp.isNone) (bl := bl) (fresh := fresh) (by assumption)).trans (candP_3 (s := s) (ns := sp.isNone) (bl := bl) (fresh := fresh) (by assumption)); exact congrArg (fun z => Value.agg ⟨grc z⟩) h9) | (have h9 := ((cand2_1 (s := s) (ns := sp.isNone) (bl := bl) (by assumption) (by assumption) (by assumption)).trans (cand1_2 (s := s) (ns := sp.isNone) (bl := bl) (fresh := fresh) (by assumption))).trans (candP_3 (s := s) (ns := sp.isNone) (bl := bl) (fresh := fresh) (by assumption)); exact congrArg (fun z => Value.agg ⟨grc z⟩) h9) | (have h9 := ((cand2_2 (s := s) (ns := sp.isNone) (bl := bl) (by assumption) (by assumption) (by assumption) (by assumption) (by assumption)).trans (cand1_2 (s := s) (ns := sp.isNone) (bl := bl) (fresh := fresh) (by assumption))).trans (candP_3 (s := s) (ns := sp.isNone) (bl := bl) (fresh := fresh) (by assumption)); exact congrArg (fun z => Value.agg ⟨grc z⟩) h9) | (have h9 := ((cand2_3 (s := s) (ns := sp.isNone) (bl := bl) (by assumption) (by assumption) (by assumption) (by first | exact fun z => absurd z.1 (by omega) | exact fun z => absurd (z.2.symm.trans (show s.resc = true by assumption)) (by decide))).trans (cand1_2 (s := s) (ns := sp.isNone) (bl := bl) (fresh := fresh) (by assumption))).trans (candP_3 (s := s) (ns := sp.isNone) (bl := bl) (fresh := fresh) (by assumption)); exact congrArg (fun z => Value.agg ⟨grc z⟩) h9) | (have h9 := ((cand2_4 (s := s) (ns := sp.isNone) (bl := bl) (by first | exact fun z => absurd z.1 (by assumption) | exact fun z => absurd (z.2.symm.trans (show sp.isNone = true by assumption)) (by decide))).trans (cand1_2 (s := s) (ns := sp.isNone) (bl := bl) (fresh := fresh) (by assumption))).trans (candP_3 (s := s) (ns := sp.isNone) (bl := bl) (fresh := fresh) (by assumption)); exact congrArg (fun z => Value.agg ⟨grc z⟩) h9)
  · intro hc0
    try simp only [decide_eq_true_eq, decide_eq_false_iff_not, Bool.not_eq_true', Bool.not_eq_false', Bool.not_eq_true, Bool.not_eq_false, Bool.and_eq_true, Bool.or_eq_true, Bool.and_eq_false_iff, Bool.or_eq_false_iff, Bool.not_not, ne_eq, Int.not_lt, Int.not_le, Decidable.not_not, beq_iff_eq, bne_iff_ne] at hc0
    refine wp_skip ?_
    refine then_normal ?_
    refine c_seq ?_
    refine c_seq ?_
    refine c_draw [(cp, C (encC s sp) 66)] [8, 9] mixed hh ?_
    clear hh w; intro w hh
    have hM : Mem [(cp, C (encC s sp) 66)] w := (by (repeat (first | exact Mem.nil | refine Mem.consR hh (by assumption) (by simp) ?_ | refine Mem.cons hh.mem (by (repeat (first | exact find_head | apply find_tail)); done) ?_ | fail)); done)
    refine d_take (i := 0) hl rfl (by kernel_rfl) (by kernel_rfl) (by kernel_rfl) (by kernel_rfl) (by kernel_rfl) rfl trivial (fun _ _ _ h => h) hM (fun w hC => r_move hl rfl) rfl ?_
    clear hl a; intro a hl
    refine d_take (i := 1) hl rfl (by kernel_rfl) (by kernel_rfl) (by kernel_rfl) (by kernel_rfl) (by kernel_rfl) rfl trivial (fun _ _ _ h => h) hM (fun w hC => r_move hl rfl) rfl ?_
    clear hl a; intro a hl
    refine d_take (i := 2) hl rfl (by kernel_rfl) (by kernel_rfl) (by kernel_rfl) (by kernel_rfl) (by kernel_rfl) rfl trivial (fun _ _ _ h => h) hM (fun w hC => r_nilCheck hl rfl) rfl ?_
    clear hl a; intro a hl
    refine d_take (i := 3) hl rfl (by kernel_rfl) (by kernel_rfl) (by kernel_rfl) (by kernel_rfl) (by kernel_rfl) rfl trivial (fun _ _ _ h => h) hM (fun w hC => r_field hl rfl fld66_1) rfl ?_
    clear hl a; intro a hl
    refine d_take (i := 4) hl rfl (by kernel_rfl) (by kernel_rfl) (by kernel_rfl) (by kernel_rfl) (by kernel_rfl) rfl trivial (fun _ _ _ h => h) hM (fun w hC => r_loadC hl rfl one29 hC (by repeat (first | exact find_head | apply find_tail)) (by first | rfl)) rfl ?_
    clear hl a; intro a hl
    refine d_take (i := 5) hl rfl (by kernel_rfl) (by kernel_rfl) (by kernel_rfl) (by kernel_rfl) (by kernel_rfl) rfl trivial (fun _ _ _ h => h) hM (fun w hC => r_move hl rfl) rfl ?_
    clear hl a; intro a hl
    refine d_one (i := 6) (by kernel_rfl) rfl ?_
    try clear hM
    refine id (w_call hl hh rfl trivial rfl cal33 rfl (flight_spec cp s sp) (by repeat (first | exact keeps_nil | apply keeps_cons (by repeat (first | exact find_head | apply find_tail)) (by first  | rfl) | exact keeps_self | apply keeps_mv)) (heap_keep hh hm) ?_)
    clear hl hh a w; intro vc Fc a w hR hl hh
    obtain ⟨rfl, rfl⟩ := hR
    try simp only [List.cons_append, List.nil_append] at hh
    have hM : Mem [(cp, C (encC s sp) 66)] w := (by (repeat (first | exact Mem.nil | refine Mem.consR hh (by assumption) (by simp) ?_ | refine Mem.cons hh.mem (by (repeat (first | exact find_head | apply find_tail)); done) ?_ | fail)); done)
    refine d_step (fun _ => hM) ?_
    first | refine d_take (i := 7) hl rfl (by kernel_rfl) (by kernel_rfl) (by kernel_rfl) (by kernel_rfl) (by kernel_rfl) rfl trivial (fun _ _ _ h => h) hM (fun w hC => r_sub hl rfl rfl (by simp only [Fits]; omega)) rfl ?_ | refine d_take (i := 7) hl rfl (by kernel_rfl) (by kernel_rfl) (by kernel_rfl) (by kernel_rfl) (by kernel_rfl) rfl trivial (fun _ _ _ h => h) hM (fun w hC => r_subM wm_u32 hl rfl rfl) rfl ?_
    clear hl a; intro a hl
    refine d_takeL (i := 8) hl rfl (by kernel_rfl) (by kernel_rfl) (by kernel_rfl) (by kernel_rfl) (by kernel_rfl) rfl trivial (fun _ _ _ h => h) (fun w => r_minI3 hl rfl rfl rfl) rfl ?_
    clear hl a; intro a hl
    refine d_takeL (i := 9) hl rfl (by kernel_rfl) (by kernel_rfl) (by kernel_rfl) (by kernel_rfl) (by kernel_rfl) rfl trivial (fun _ _ _ h => h) (fun w => r_assign hl rfl) rfl ?_
    clear hl a; intro a hl
    refine d_done (by kernel_rfl) ?_
    try clear hM
    have hl2 := hl.add (t := 0) (hl.add (t := 4) (hl.add (t := 7) (hl.nil) rfl) rfl) rfl; clear hl; have hl := hl2; clear hl2
    refine then_normal ?_
    refine c_seq ?_
    refine c_region ?_
    refine wl (wl_val hl rfl trivial (r_move hl rfl) ?_)
    clear hl a; intro a hl
    refine wl (wl_val hl rfl trivial (r_gtr hl rfl rfl) ?_)
    clear hl a; intro a hl
    refine w_nil ?_
    have hl2 := hl.add (t := 0) (hl.add (t := 4) (hl.add (t := 7) (hl.add (t := 31) (hl.nil) rfl) rfl) rfl) rfl; clear hl; have hl := hl2; clear hl2
    refine then_normal ?_
    refine c_cond hl rfl ?_ ?_
    · intro hc2
      try simp only [decide_eq_true_eq, decide_eq_false_iff_not, Bool.not_eq_true', Bool.not_eq_false', Bool.not_eq_true, Bool.not_eq_false, Bool.and_eq_true, Bool.or_eq_true, Bool.and_eq_false_iff, Bool.or_eq_false_iff, Bool.not_not, ne_eq, Int.not_lt, Int.not_le, Decidable.not_not, beq_iff_eq, bne_iff_ne] at hc2
      refine c_seq ?_
      refine c_region ?_
      refine wl (wl_val hl rfl trivial (r_move hl rfl) ?_)
      clear hl a; intro a hl
      refine wl (wl_val hl rfl trivial (r_nilCheck hl rfl) ?_)
      clear hl a; intro a hl
      refine wl (wl_val hl rfl trivial (r_field hl rfl fld66_7) ?_)
      clear hl a; intro a hl
      first | refine wl (w_load hl hh rfl trivial one29 rfl (by repeat (first | exact find_head | apply find_tail)) (by first | rfl) ?_) | refine wl (w_loadR hl hh rfl trivial one29 rfl hm (by simp) rfl ?_)
      clear hl a; intro a hl
      refine wl (wl_val hl rfl trivial (r_move hl rfl) ?_)
      clear hl a; intro a hl
      refine wl (wl_val hl rfl trivial (r_build hl rfl zero40 bld40 (by simp only [fillL, setL, List.getElem?_cons_zero, List.getElem?_cons_succ, Value.cells, List.take_zero, List.take_succ_cons, List.take_nil, List.drop_zero, List.drop_succ_cons, List.drop_nil, List.length_cons, List.length_nil, List.cons_append, List.nil_append, List.append_nil, Nat.zero_add, Nat.add_zero, Nat.reduceAdd, Nat.reduceBEq, Nat.reduceEqDiff, Nat.ble, BEq.rfl, Bool.and_true, Bool.and_self, cond_true, beq_self_eq_true]; rfl)) ?_)
      clear hl a; intro a hl
      refine wl (w_storeA hl hh trivial agg40 rfl rfl (by repeat (first | exact find_head | apply find_tail)) (by first | rfl | (simp; done) | rfl) (by first | (simp; done) | (simp; omega) | (simp [grc]; done) | decide) (by first | rfl | (simp; done) | rfl) (by first | rfl | (simp only [setL, List.getElem?_cons_zero, List.getElem?_cons_succ, Value.cells, List.take_zero, List.take_succ_cons, List.take_nil, List.drop_zero, List.drop_succ_cons, List.drop_nil, List.length_cons, List.length_nil, List.cons_append, List.nil_append, List.append_nil, Nat.zero_add, Nat.add_zero, Nat.reduceAdd, Nat.reduceBEq, Nat.reduceEqDiff, Nat.ble, BEq.rfl, Bool.and_true, Bool.and_self, cond_true, beq_self_eq_true]; rfl) | (simp only [setL, List.getElem?_cons_zero, List.getElem?_cons_succ, Value.cells, List.take_zero, List.take_succ_cons, List.take_nil, List.drop_zero, List.drop_succ_cons, List.drop_nil, List.length_cons, List.length_nil, List.cons_append, List.nil_append, List.append_nil, Nat.zero_add, Nat.add_zero, Nat.reduceAdd, Nat.reduceBEq, Nat.reduceEqDiff, Nat.ble, BEq.rfl, Bool.and_true, Bool.and_self, cond_true, beq_self_eq_true]; rfl)) ?_)
      clear hh w; intro w hh
      refine w_nil ?_
      have hl2 := hl.add (t := 4) (hl.nil) rfl; clear hl; have hl := hl2; clear hl2
      refine then_normal ?_
      refine wp_ret ?_
      refine then_ret ?_
      refine f_retC (F' := []) hl hh rfl rfl agg40 (by repeat (first | exact find_head | apply find_tail)) (by first | rfl | (simp; done)) keeps_nil ?_
      refine ⟨?_, rfl⟩
      first | (have h9 := candP_1 (s := s) (ns := sp.isNone) (bl := bl) (fresh := fresh) (by assumption) (by assumption); exact congrArg (fun z => Value.agg ⟨grc z⟩) h9) | (have h9 := (cand1_1 (s := s) (ns := sp.isNone) (bl := bl) (fresh := fresh) (by assumption)).trans (candP_2 (s := s) (ns := sp.isNone) (bl := bl) (fresh := fresh) (by assumption) (by assumption)); exact congrArg (fun z => Value.agg ⟨grc z⟩) h9) | (have h9 := ((cand2_1 (s := s) (ns := sp.isNone) (bl := bl) (by assumption) (by assumption) (by assumption)).trans (cand1_2 (s := s) (ns := sp.isNone) (bl := bl) (fresh := fresh) (by assumption))).trans (candP_2 (s := s) (ns := sp.isNone) (bl := bl) (fresh := fresh) (by assumption) (by assumption)); exact congrArg (fun z => Value.agg ⟨grc z⟩) h9) | (have h9 := ((cand2_2 (s := s) (ns := sp.isNone) (bl := bl) (by assumption) (by assumption) (by assumption) (by assumption) (by assumption)).trans (cand1_2 (s := s) (ns := sp.isNone) (bl := bl) (fresh := fresh) (by assumption))).trans (candP_2 (s := s) (ns := sp.isNone) (bl := bl) (fresh := fresh) (by assumption) (by assumption)); exact congrArg (fun z => Value.agg ⟨grc z⟩) h9) | (have h9 := ((cand2_3 (s := s) (ns := sp.isNone) (bl := bl) (by assumption) (by assumption) (by assumption) (by first | exact fun z => absurd z.1 (by omega) | exact fun z => absurd (z.2.symm.trans (show s.resc = true by assumption)) (by decide))).trans (cand1_2 (s := s) (ns := sp.isNone) (bl := bl) (fresh := fresh) (by assumption))).trans (candP_2 (s := s) (ns := sp.isNone) (bl := bl) (fresh := fresh) (by assumption) (by assumption)); exact congrArg (fun z => Value.agg ⟨grc z⟩) h9) | (have h9 := ((cand2_4 (s := s) (ns := sp.isNone) (bl := bl) (by first | exact fun z => absurd z.1 (by assumption) | exact fun z => absurd (z.2.symm.trans (show sp.isNone = true by assumption)) (by decide))).trans (cand1_2 (s := s) (ns := sp.isNone) (bl := bl) (fresh := fresh) (by assumption))).trans (candP_2 (s := s) (ns := sp.isNone) (bl := bl) (fresh := fresh) (by assumption) (by assumption)); exact congrArg (fun z => Value.agg ⟨grc z⟩) h9) | (have h9 := (cand1_1 (s := s) (ns := sp.isNone) (bl := bl) (fresh := fresh) (by assumption)).trans (candP_3 (s := s) (ns := sp.isNone) (bl := bl) (fresh := fresh) (by assumption)); exact congrArg (fun z => Value.agg ⟨grc z⟩) h9) | (have h9 := ((cand2_1 (s := s) (ns := sp.isNone) (bl := bl) (by assumption) (by assumption) (by assumption)).trans (cand1_2 (s := s) (ns := sp.isNone) (bl := bl) (fresh := fresh) (by assumption))).trans (candP_3 (s := s) (ns := sp.isNone) (bl := bl) (fresh := fresh) (by assumption)); exact congrArg (fun z => Value.agg ⟨grc z⟩) h9) | (have h9 := ((cand2_2 (s := s) (ns := sp.isNone) (bl := bl) (by assumption) (by assumption) (by assumption) (by assumption) (by assumption)).trans (cand1_2 (s := s) (ns := sp.isNone) (bl := bl) (fresh := fresh) (by assumption))).trans (candP_3 (s := s) (ns := sp.isNone) (bl := bl) (fresh := fresh) (by assumption)); exact congrArg (fun z => Value.agg ⟨grc z⟩) h9) | (have h9 := ((cand2_3 (s := s) (ns := sp.isNone) (bl := bl) (by assumption) (by assumption) (by assumption) (by first | exact fun z => absurd z.1 (by omega) | exact fun z => absurd (z.2.symm.trans (show s.resc = true by assumption)) (by decide))).trans (cand1_2 (s := s) (ns := sp.isNone) (bl := bl) (fresh := fresh) (by assumption))).trans (candP_3 (s := s) (ns := sp.isNone) (bl := bl) (fresh := fresh) (by assumption)); exact congrArg (fun z => Value.agg ⟨grc z⟩) h9) | (have h9 := ((cand2_4 (s := s) (ns := sp.isNone) (bl := bl) (by first | exact fun z => absurd z.1 (by assumption) | exact fun z => absurd (z.2.symm.trans (show sp.isNone = true by assumption)) (by decide))).trans (cand1_2 (s := s) (ns := sp.isNone) (bl := bl) (fresh := fresh) (by assumption))).trans (candP_3 (s := s) (ns := sp.isNone) (bl := bl) (fresh := fresh) (by assumption)); exact congrArg (fun z => Value.agg ⟨grc z⟩) h9)
    · intro hc2
      try simp only [decide_eq_true_eq, decide_eq_false_iff_not, Bool.not_eq_true', Bool.not_eq_false', Bool.not_eq_true, Bool.not_eq_false, Bool.and_eq_true, Bool.or_eq_true, Bool.and_eq_false_iff, Bool.or_eq_false_iff, Bool.not_not, ne_eq, Int.not_lt, Int.not_le, Decidable.not_not, beq_iff_eq, bne_iff_ne] at hc2
      refine wp_skip ?_
      refine then_normal ?_
      refine c_seq ?_
      refine c_seq ?_
      refine c_region ?_
      refine wl (wl_val hl rfl trivial (r_move hl rfl) ?_)
      clear hl a; intro a hl
      refine wl (wl_val hl rfl trivial (r_nilCheck hl rfl) ?_)
      clear hl a; intro a hl
      refine wl (wl_val hl rfl trivial (r_field hl rfl fld66_8) ?_)
      clear hl a; intro a hl
      first | refine wl (w_load hl hh rfl trivial one59 rfl (by repeat (first | exact find_head | apply find_tail)) (by first | rfl) ?_) | refine wl (w_loadR hl hh rfl trivial one59 rfl hm (by simp) rfl ?_)
      clear hl a; intro a hl
      refine wl (wl_val hl rfl trivial (r_eql hl rfl rfl) ?_)
      clear hl a; intro a hl
      refine wl (wl_val hl rfl trivial (r_move hl rfl) ?_)
      clear hl a; intro a hl
      refine sl_split (t := 43) hl rfl ?_ ?_
      · intro hg3; clear hl; intro hl
        try simp only [decide_eq_true_eq, decide_eq_false_iff_not, Bool.not_eq_true', Bool.not_eq_false', Bool.not_eq_true, Bool.not_eq_false, Bool.and_eq_true, Bool.or_eq_true, Bool.and_eq_false_iff, Bool.or_eq_false_iff, Bool.not_not, ne_eq, Int.not_lt, Int.not_le, Decidable.not_not, beq_iff_eq, bne_iff_ne] at hg3
        refine wl (wl_val hl rfl ⟨_, _, rfl, rfl, rfl⟩ (r_move hl rfl) ?_)
        clear hl a; intro a hl
        refine wl (wl_val hl rfl ⟨_, _, rfl, rfl, rfl⟩ (r_nilCheck hl rfl) ?_)
        clear hl a; intro a hl
        refine wl (wl_val hl rfl ⟨_, _, rfl, rfl, rfl⟩ (r_field hl rfl fld66_2) ?_)
        clear hl a; intro a hl
        first | refine wl (w_load hl hh rfl ⟨_, _, rfl, rfl, rfl⟩ one64 rfl (by repeat (first | exact find_head | apply find_tail)) (by first | rfl) ?_) | refine wl (w_loadR hl hh rfl ⟨_, _, rfl, rfl, rfl⟩ one64 rfl hm (by simp) rfl ?_)
        clear hl a; intro a hl
        refine wl (wl_val hl rfl ⟨_, _, rfl, rfl, rfl⟩ (r_neq_pointer hl rfl rfl ptr64) ?_)
        clear hl a; intro a hl
        refine wl (wl_val hl rfl trivial (r_pickT hl rfl rfl) ?_)
        clear hl a; intro a hl
        refine w_nil ?_
        have hl2 := hl.add (t := 0) (hl.add (t := 4) (hl.add (t := 49) (hl.nil) rfl) rfl) rfl; clear hl; have hl := hl2; clear hl2
        refine then_normal ?_
        refine c_cond hl rfl ?_ ?_
        · intro hc3
          try simp only [decide_eq_true_eq, decide_eq_false_iff_not, Bool.not_eq_true', Bool.not_eq_false', Bool.not_eq_true, Bool.not_eq_false, Bool.and_eq_true, Bool.or_eq_true, Bool.and_eq_false_iff, Bool.or_eq_false_iff, Bool.not_not, ne_eq, Int.not_lt, Int.not_le, Decidable.not_not, beq_iff_eq, bne_iff_ne] at hc3
          refine c_seq ?_
          refine c_seq ?_
          refine c_region ?_
          refine wl (wl_val hl rfl trivial (r_move hl rfl) ?_)
          clear hl a; intro a hl
          refine wl (w_call hl hh rfl trivial rfl cal52 rfl (nextHole_spec cp s hs sp bl hZ false) (by repeat (first | exact keeps_nil | apply keeps_cons (by repeat (first | exact find_head | apply find_tail)) (by first  | rfl) | exact keeps_self | apply keeps_mv)) (mem_keep hh hpre) ?_)
          clear hl hh a w; intro vc Fc a w hR hl hh
          obtain ⟨rfl, rfl⟩ := hR
          try simp only [List.cons_append, List.nil_append] at hh
          refine wl (wl_val hl rfl trivial (r_move hl rfl) ?_)
          clear hl a; intro a hl
          refine wl (wl_val hl rfl trivial (r_extract hl rfl (by simp only [List.getElem?_toArray, List.getElem?_cons_zero, List.getElem?_cons_succ]; rfl)) ?_)
          clear hl a; intro a hl
          refine wl (wl_val hl rfl trivial (r_extract hl rfl (by simp only [List.getElem?_toArray, List.getElem?_cons_zero, List.getElem?_cons_succ]; rfl)) ?_)
          clear hl a; intro a hl
          refine wl (w_alloc hl hh rfl trivial zero40 rfl ?_)
          clear hl hh a w; intro k8 a w hl hh
          refine wl (w_storeA hl hh trivial agg40 rfl rfl (by repeat (first | exact find_head | apply find_tail)) (by first | rfl | (simp; done) | rfl) (by first | (simp; done) | (simp; omega) | (simp [grc]; done) | decide) (by first | rfl | (simp; done) | rfl) (by first | rfl | (simp only [setL, List.getElem?_cons_zero, List.getElem?_cons_succ, Value.cells, List.take_zero, List.take_succ_cons, List.take_nil, List.drop_zero, List.drop_succ_cons, List.drop_nil, List.length_cons, List.length_nil, List.cons_append, List.nil_append, List.append_nil, Nat.zero_add, Nat.add_zero, Nat.reduceAdd, Nat.reduceBEq, Nat.reduceEqDiff, Nat.ble, BEq.rfl, Bool.and_true, Bool.and_self, cond_true, beq_self_eq_true]; rfl) | (simp only [setL, List.getElem?_cons_zero, List.getElem?_cons_succ, Value.cells, List.take_zero, List.take_succ_cons, List.take_nil, List.drop_zero, List.drop_succ_cons, List.drop_nil, List.length_cons, List.length_nil, List.cons_append, List.nil_append, List.append_nil, Nat.zero_add, Nat.add_zero, Nat.reduceAdd, Nat.reduceBEq, Nat.reduceEqDiff, Nat.ble, BEq.rfl, Bool.and_true, Bool.and_self, cond_true, beq_self_eq_true]; rfl)) ?_)
          clear hh w; intro w hh
          refine wl (wl_val hl rfl trivial (r_assign hl rfl) ?_)
          clear hl a; intro a hl
          refine w_nil ?_
          have hl2 := hl.add (t := 0) (hl.add (t := 4) (hl.add (t := 8) (hl.add (t := 9) (hl.nil) rfl) rfl) rfl) rfl; clear hl; have hl := hl2; clear hl2
          refine then_normal ?_
          refine c_seq ?_
          refine c_region ?_
          refine wl (wl_val hl rfl trivial (r_move hl rfl) ?_)
          clear hl a; intro a hl
          refine w_nil ?_
          have hl2 := hl.add (t := 0) (hl.add (t := 4) (hl.add (t := 8) (hl.add (t := 55) (hl.nil) rfl) rfl) rfl) rfl; clear hl; have hl := hl2; clear hl2
          refine then_normal ?_
          refine c_cond hl rfl ?_ ?_
          · intro hc4
            try simp only [decide_eq_true_eq, decide_eq_false_iff_not, Bool.not_eq_true', Bool.not_eq_false', Bool.not_eq_true, Bool.not_eq_false, Bool.and_eq_true, Bool.or_eq_true, Bool.and_eq_false_iff, Bool.or_eq_false_iff, Bool.not_not, ne_eq, Int.not_lt, Int.not_le, Decidable.not_not, beq_iff_eq, bne_iff_ne] at hc4
            refine c_seq ?_
            refine c_region ?_
            refine wl (w_loadA hl hh rfl trivial agg40 rfl (by repeat (first | exact find_head | apply find_tail)) (by first | rfl | (simp only [List.getElem?_cons_zero, List.getElem?_cons_succ, Value.cells, List.take_zero, List.take_succ_cons, List.take_nil, List.drop_zero, List.drop_succ_cons, List.drop_nil, List.length_cons, List.length_nil, List.cons_append, List.nil_append, List.append_nil, Nat.zero_add, Nat.add_zero, Nat.reduceAdd, Nat.reduceBEq, Nat.reduceEqDiff, Nat.ble, BEq.rfl, Bool.and_true, Bool.and_self, cond_true, beq_self_eq_true]; rfl)) (by first | rfl | (simp; done)) ?_)
            clear hl a; intro a hl
            refine wl (w_storeA hl hh trivial agg40 rfl rfl (by repeat (first | exact find_head | apply find_tail)) (by first | rfl | (simp; done) | rfl) (by first | (simp; done) | (simp; omega) | (simp [grc]; done) | decide) (by first | rfl | (simp; done) | rfl) (by first | rfl | (simp only [setL, List.getElem?_cons_zero, List.getElem?_cons_succ, Value.cells, List.take_zero, List.take_succ_cons, List.take_nil, List.drop_zero, List.drop_succ_cons, List.drop_nil, List.length_cons, List.length_nil, List.cons_append, List.nil_append, List.append_nil, Nat.zero_add, Nat.add_zero, Nat.reduceAdd, Nat.reduceBEq, Nat.reduceEqDiff, Nat.ble, BEq.rfl, Bool.and_true, Bool.and_self, cond_true, beq_self_eq_true]; rfl) | (simp only [setL, List.getElem?_cons_zero, List.getElem?_cons_succ, Value.cells, List.take_zero, List.take_succ_cons, List.take_nil, List.drop_zero, List.drop_succ_cons, List.drop_nil, List.length_cons, List.length_nil, List.cons_append, List.nil_append, List.append_nil, Nat.zero_add, Nat.add_zero, Nat.reduceAdd, Nat.reduceBEq, Nat.reduceEqDiff, Nat.ble, BEq.rfl, Bool.and_true, Bool.and_self, cond_true, beq_self_eq_true]; rfl)) ?_)
            clear hh w; intro w hh
            refine w_nil ?_
            have hl2 := hl.add (t := 4) (hl.nil) rfl; clear hl; have hl := hl2; clear hl2
            refine then_normal ?_
            refine wp_ret ?_
            refine then_ret ?_
            refine then_ret ?_
            refine f_retC (F' := []) hl hh rfl rfl agg40 (by repeat (first | exact find_head | apply find_tail)) (by first | rfl | (simp; done)) keeps_nil ?_
            refine ⟨?_, rfl⟩
            first | (have h9 := candP_1 (s := s) (ns := sp.isNone) (bl := bl) (fresh := fresh) (by assumption) (by assumption); exact congrArg (fun z => Value.agg ⟨grc z⟩) h9) | (have h9 := (cand1_1 (s := s) (ns := sp.isNone) (bl := bl) (fresh := fresh) (by assumption)).trans (candP_2 (s := s) (ns := sp.isNone) (bl := bl) (fresh := fresh) (by assumption) (by assumption)); exact congrArg (fun z => Value.agg ⟨grc z⟩) h9) | (have h9 := ((cand2_1 (s := s) (ns := sp.isNone) (bl := bl) (by assumption) (by assumption) (by assumption)).trans (cand1_2 (s := s) (ns := sp.isNone) (bl := bl) (fresh := fresh) (by assumption))).trans (candP_2 (s := s) (ns := sp.isNone) (bl := bl) (fresh := fresh) (by assumption) (by assumption)); exact congrArg (fun z => Value.agg ⟨grc z⟩) h9) | (have h9 := ((cand2_2 (s := s) (ns := sp.isNone) (bl := bl) (by assumption) (by assumption) (by assumption) (by assumption) (by assumption)).trans (cand1_2 (s := s) (ns := sp.isNone) (bl := bl) (fresh := fresh) (by assumption))).trans (candP_2 (s := s) (ns := sp.isNone) (bl := bl) (fresh := fresh) (by assumption) (by assumption)); exact congrArg (fun z => Value.agg ⟨grc z⟩) h9) | (have h9 := ((cand2_3 (s := s) (ns := sp.isNone) (bl := bl) (by assumption) (by assumption) (by assumption) (by first | exact fun z => absurd z.1 (by omega) | exact fun z => absurd (z.2.symm.trans (show s.resc = true by assumption)) (by decide))).trans (cand1_2 (s := s) (ns := sp.isNone) (bl := bl) (fresh := fresh) (by assumption))).trans (candP_2 (s := s) (ns := sp.isNone) (bl := bl) (fresh := fresh) (by assumption) (by assumption)); exact congrArg (fun z => Value.agg ⟨grc z⟩) h9) | (have h9 := ((cand2_4 (s := s) (ns := sp.isNone) (bl := bl) (by first | exact fun z => absurd z.1 (by assumption) | exact fun z => absurd (z.2.symm.trans (show sp.isNone = true by assumption)) (by decide))).trans (cand1_2 (s := s) (ns := sp.isNone) (bl := bl) (fresh := fresh) (by assumption))).trans (candP_2 (s := s) (ns := sp.isNone) (bl := bl) (fresh := fresh) (by assumption) (by assumption)); exact congrArg (fun z => Value.agg ⟨grc z⟩) h9) | (have h9 := (cand1_1 (s := s) (ns := sp.isNone) (bl := bl) (fresh := fresh) (by assumption)).trans (candP_3 (s := s) (ns := sp.isNone) (bl := bl) (fresh := fresh) (by assumption)); exact congrArg (fun z => Value.agg ⟨grc z⟩) h9) | (have h9 := ((cand2_1 (s := s) (ns := sp.isNone) (bl := bl) (by assumption) (by assumption) (by assumption)).trans (cand1_2 (s := s) (ns := sp.isNone) (bl := bl) (fresh := fresh) (by assumption))).trans (candP_3 (s := s) (ns := sp.isNone) (bl := bl) (fresh := fresh) (by assumption)); exact congrArg (fun z => Value.agg ⟨grc z⟩) h9) | (have h9 := ((cand2_2 (s := s) (ns := sp.isNone) (bl := bl) (by assumption) (by assumption) (by assumption) (by assumption) (by assumption)).trans (cand1_2 (s := s) (ns := sp.isNone) (bl := bl) (fresh := fresh) (by assumption))).trans (candP_3 (s := s) (ns := sp.isNone) (bl := bl) (fresh := fresh) (by assumption)); exact congrArg (fun z => Value.agg ⟨grc z⟩) h9) | (have h9 := ((cand2_3 (s := s) (ns := sp.isNone) (bl := bl) (by assumption) (by assumption) (by assumption) (by first | exact fun z => absurd z.1 (by omega) | exact fun z => absurd (z.2.symm.trans (show s.resc = true by assumption)) (by decide))).trans (cand1_2 (s := s) (ns := sp.isNone) (bl := bl) (fresh := fresh) (by assumption))).trans (candP_3 (s := s) (ns := sp.isNone) (bl := bl) (fresh := fresh) (by assumption)); exact congrArg (fun z => Value.agg ⟨grc z⟩) h9) | (have h9 := ((cand2_4 (s := s) (ns := sp.isNone) (bl := bl) (by first | exact fun z => absurd z.1 (by assumption) | exact fun z => absurd (z.2.symm.trans (show sp.isNone = true by assumption)) (by decide))).trans (cand1_2 (s := s) (ns := sp.isNone) (bl := bl) (fresh := fresh) (by assumption))).trans (candP_3 (s := s) (ns := sp.isNone) (bl := bl) (fresh := fresh) (by assumption)); exact congrArg (fun z => Value.agg ⟨grc z⟩) h9)
          · intro hc4
            try simp only [decide_eq_true_eq, decide_eq_false_iff_not, Bool.not_eq_true', Bool.not_eq_false', Bool.not_eq_true, Bool.not_eq_false, Bool.and_eq_true, Bool.or_eq_true, Bool.and_eq_false_iff, Bool.or_eq_false_iff, Bool.not_not, ne_eq, Int.not_lt, Int.not_le, Decidable.not_not, beq_iff_eq, bne_iff_ne] at hc4
            refine wp_skip ?_
            refine then_normal ?_
            refine c_seq ?_
            refine c_region ?_
            refine wl (wl_val hl rfl trivial (r_move hl rfl) ?_)
            clear hl a; intro a hl
            refine wl (w_call hl hh rfl trivial rfl cal53 rfl (rescue_spec cp s hs sp bl hZ) (by repeat (first | exact keeps_nil | apply keeps_cons (by repeat (first | exact find_head | apply find_tail)) (by first  | rfl) | exact keeps_self | apply keeps_mv)) (mem_keep hh hpre) ?_)
            clear hl hh a w; intro vc Fc a w hR hl hh
            obtain ⟨rfl, rfl⟩ := hR
            try simp only [List.cons_append, List.nil_append] at hh
            refine wl (wl_val hl rfl trivial (r_move hl rfl) ?_)
            clear hl a; intro a hl
            refine wl (wl_val hl rfl trivial (r_extract hl rfl (by simp only [List.getElem?_toArray, List.getElem?_cons_zero, List.getElem?_cons_succ]; rfl)) ?_)
            clear hl a; intro a hl
            refine wl (wl_val hl rfl trivial (r_extract hl rfl (by simp only [List.getElem?_toArray, List.getElem?_cons_zero, List.getElem?_cons_succ]; rfl)) ?_)
            clear hl a; intro a hl
            refine wl (w_alloc hl hh rfl trivial zero40 rfl ?_)
            clear hl hh a w; intro k10 a w hl hh
            refine wl (w_storeA hl hh trivial agg40 rfl rfl (by repeat (first | exact find_head | apply find_tail)) (by first | rfl | (simp; done) | rfl) (by first | (simp; done) | (simp; omega) | (simp [grc]; done) | decide) (by first | rfl | (simp; done) | rfl) (by first | rfl | (simp only [setL, List.getElem?_cons_zero, List.getElem?_cons_succ, Value.cells, List.take_zero, List.take_succ_cons, List.take_nil, List.drop_zero, List.drop_succ_cons, List.drop_nil, List.length_cons, List.length_nil, List.cons_append, List.nil_append, List.append_nil, Nat.zero_add, Nat.add_zero, Nat.reduceAdd, Nat.reduceBEq, Nat.reduceEqDiff, Nat.ble, BEq.rfl, Bool.and_true, Bool.and_self, cond_true, beq_self_eq_true]; rfl) | (simp only [setL, List.getElem?_cons_zero, List.getElem?_cons_succ, Value.cells, List.take_zero, List.take_succ_cons, List.take_nil, List.drop_zero, List.drop_succ_cons, List.drop_nil, List.length_cons, List.length_nil, List.cons_append, List.nil_append, List.append_nil, Nat.zero_add, Nat.add_zero, Nat.reduceAdd, Nat.reduceBEq, Nat.reduceEqDiff, Nat.ble, BEq.rfl, Bool.and_true, Bool.and_self, cond_true, beq_self_eq_true]; rfl)) ?_)
            clear hh w; intro w hh
            refine wl (wl_val hl rfl trivial (r_assign hl rfl) ?_)
            clear hl a; intro a hl
            refine w_nil ?_
            have hl2 := hl.add (t := 0) (hl.add (t := 4) (hl.add (t := 10) (hl.add (t := 11) (hl.nil) rfl) rfl) rfl) rfl; clear hl; have hl := hl2; clear hl2
            refine then_normal ?_
            refine c_seq ?_
            refine c_region ?_
            refine wl (wl_val hl rfl trivial (r_move hl rfl) ?_)
            clear hl a; intro a hl
            refine wl (wl_val hl rfl trivial (r_move hl rfl) ?_)
            clear hl a; intro a hl
            refine sl_split (t := 63) hl rfl ?_ ?_
            · intro hg4; clear hl; intro hl
              try simp only [decide_eq_true_eq, decide_eq_false_iff_not, Bool.not_eq_true', Bool.not_eq_false', Bool.not_eq_true, Bool.not_eq_false, Bool.and_eq_true, Bool.or_eq_true, Bool.and_eq_false_iff, Bool.or_eq_false_iff, Bool.not_not, ne_eq, Int.not_lt, Int.not_le, Decidable.not_not, beq_iff_eq, bne_iff_ne] at hg4
              refine wl (wl_val hl rfl ⟨_, _, rfl, rfl, rfl⟩ (r_move hl rfl) ?_)
              clear hl a; intro a hl
              refine wl (wl_val hl rfl ⟨_, _, rfl, rfl, rfl⟩ (r_nilCheck hl rfl) ?_)
              clear hl a; intro a hl
              refine wl (wl_val hl rfl ⟨_, _, rfl, rfl, rfl⟩ (r_field hl rfl fld66_14) ?_)
              clear hl a; intro a hl
              first | refine wl (w_load hl hh rfl ⟨_, _, rfl, rfl, rfl⟩ one4 rfl (by repeat (first | exact find_head | apply find_tail)) (by first | rfl) ?_) | refine wl (w_loadR hl hh rfl ⟨_, _, rfl, rfl, rfl⟩ one4 rfl hm (by simp) rfl ?_)
              clear hl a; intro a hl
              refine wl (wl_val hl rfl ⟨_, _, rfl, rfl, rfl⟩ (r_not hl rfl) ?_)
              clear hl a; intro a hl
              refine wl (wl_val hl rfl trivial (r_pickT hl rfl rfl) ?_)
              clear hl a; intro a hl
              refine w_nil ?_
              have hl2 := hl.add (t := 4) (hl.add (t := 10) (hl.add (t := 69) (hl.nil) rfl) rfl) rfl; clear hl; have hl := hl2; clear hl2
              refine then_normal ?_
              refine c_cond hl rfl ?_ ?_
              · intro hc5
                try simp only [decide_eq_true_eq, decide_eq_false_iff_not, Bool.not_eq_true', Bool.not_eq_false', Bool.not_eq_true, Bool.not_eq_false, Bool.and_eq_true, Bool.or_eq_true, Bool.and_eq_false_iff, Bool.or_eq_false_iff, Bool.not_not, ne_eq, Int.not_lt, Int.not_le, Decidable.not_not, beq_iff_eq, bne_iff_ne] at hc5
                refine c_seq ?_
                refine c_region ?_
                refine wl (w_loadA hl hh rfl trivial agg40 rfl (by repeat (first | exact find_head | apply find_tail)) (by first | rfl | (simp only [List.getElem?_cons_zero, List.getElem?_cons_succ, Value.cells, List.take_zero, List.take_succ_cons, List.take_nil, List.drop_zero, List.drop_succ_cons, List.drop_nil, List.length_cons, List.length_nil, List.cons_append, List.nil_append, List.append_nil, Nat.zero_add, Nat.add_zero, Nat.reduceAdd, Nat.reduceBEq, Nat.reduceEqDiff, Nat.ble, BEq.rfl, Bool.and_true, Bool.and_self, cond_true, beq_self_eq_true]; rfl)) (by first | rfl | (simp; done)) ?_)
                clear hl a; intro a hl
                refine wl (w_storeA hl hh trivial agg40 rfl rfl (by repeat (first | exact find_head | apply find_tail)) (by first | rfl | (simp; done) | rfl) (by first | (simp; done) | (simp; omega) | (simp [grc]; done) | decide) (by first | rfl | (simp; done) | rfl) (by first | rfl | (simp only [setL, List.getElem?_cons_zero, List.getElem?_cons_succ, Value.cells, List.take_zero, List.take_succ_cons, List.take_nil, List.drop_zero, List.drop_succ_cons, List.drop_nil, List.length_cons, List.length_nil, List.cons_append, List.nil_append, List.append_nil, Nat.zero_add, Nat.add_zero, Nat.reduceAdd, Nat.reduceBEq, Nat.reduceEqDiff, Nat.ble, BEq.rfl, Bool.and_true, Bool.and_self, cond_true, beq_self_eq_true]; rfl) | (simp only [setL, List.getElem?_cons_zero, List.getElem?_cons_succ, Value.cells, List.take_zero, List.take_succ_cons, List.take_nil, List.drop_zero, List.drop_succ_cons, List.drop_nil, List.length_cons, List.length_nil, List.cons_append, List.nil_append, List.append_nil, Nat.zero_add, Nat.add_zero, Nat.reduceAdd, Nat.reduceBEq, Nat.reduceEqDiff, Nat.ble, BEq.rfl, Bool.and_true, Bool.and_self, cond_true, beq_self_eq_true]; rfl)) ?_)
                clear hh w; intro w hh
                refine w_nil ?_
                have hl2 := hl.add (t := 4) (hl.nil) rfl; clear hl; have hl := hl2; clear hl2
                refine then_normal ?_
                refine wp_ret ?_
                refine then_ret ?_
                refine f_retC (F' := []) hl hh rfl rfl agg40 (by repeat (first | exact find_head | apply find_tail)) (by first | rfl | (simp; done)) keeps_nil ?_
                refine ⟨?_, rfl⟩
                first | (have h9 := candP_1 (s := s) (ns := sp.isNone) (bl := bl) (fresh := fresh) (by assumption) (by assumption); exact congrArg (fun z => Value.agg ⟨grc z⟩) h9) | (have h9 := (cand1_1 (s := s) (ns := sp.isNone) (bl := bl) (fresh := fresh) (by assumption)).trans (candP_2 (s := s) (ns := sp.isNone) (bl := bl) (fresh := fresh) (by assumption) (by assumption)); exact congrArg (fun z => Value.agg ⟨grc z⟩) h9) | (have h9 := ((cand2_1 (s := s) (ns := sp.isNone) (bl := bl) (by assumption) (by assumption) (by assumption)).trans (cand1_2 (s := s) (ns := sp.isNone) (bl := bl) (fresh := fresh) (by assumption))).trans (candP_2 (s := s) (ns := sp.isNone) (bl := bl) (fresh := fresh) (by assumption) (by assumption)); exact congrArg (fun z => Value.agg ⟨grc z⟩) h9) | (have h9 := ((cand2_2 (s := s) (ns := sp.isNone) (bl := bl) (by assumption) (by assumption) (by assumption) (by assumption) (by assumption)).trans (cand1_2 (s := s) (ns := sp.isNone) (bl := bl) (fresh := fresh) (by assumption))).trans (candP_2 (s := s) (ns := sp.isNone) (bl := bl) (fresh := fresh) (by assumption) (by assumption)); exact congrArg (fun z => Value.agg ⟨grc z⟩) h9) | (have h9 := ((cand2_3 (s := s) (ns := sp.isNone) (bl := bl) (by assumption) (by assumption) (by assumption) (by first | exact fun z => absurd z.1 (by omega) | exact fun z => absurd (z.2.symm.trans (show s.resc = true by assumption)) (by decide))).trans (cand1_2 (s := s) (ns := sp.isNone) (bl := bl) (fresh := fresh) (by assumption))).trans (candP_2 (s := s) (ns := sp.isNone) (bl := bl) (fresh := fresh) (by assumption) (by assumption)); exact congrArg (fun z => Value.agg ⟨grc z⟩) h9) | (have h9 := ((cand2_4 (s := s) (ns := sp.isNone) (bl := bl) (by first | exact fun z => absurd z.1 (by assumption) | exact fun z => absurd (z.2.symm.trans (show sp.isNone = true by assumption)) (by decide))).trans (cand1_2 (s := s) (ns := sp.isNone) (bl := bl) (fresh := fresh) (by assumption))).trans (candP_2 (s := s) (ns := sp.isNone) (bl := bl) (fresh := fresh) (by assumption) (by assumption)); exact congrArg (fun z => Value.agg ⟨grc z⟩) h9) | (have h9 := (cand1_1 (s := s) (ns := sp.isNone) (bl := bl) (fresh := fresh) (by assumption)).trans (candP_3 (s := s) (ns := sp.isNone) (bl := bl) (fresh := fresh) (by assumption)); exact congrArg (fun z => Value.agg ⟨grc z⟩) h9) | (have h9 := ((cand2_1 (s := s) (ns := sp.isNone) (bl := bl) (by assumption) (by assumption) (by assumption)).trans (cand1_2 (s := s) (ns := sp.isNone) (bl := bl) (fresh := fresh) (by assumption))).trans (candP_3 (s := s) (ns := sp.isNone) (bl := bl) (fresh := fresh) (by assumption)); exact congrArg (fun z => Value.agg ⟨grc z⟩) h9) | (have h9 := ((cand2_2 (s := s) (ns := sp.isNone) (bl := bl) (by assumption) (by assumption) (by assumption) (by assumption) (by assumption)).trans (cand1_2 (s := s) (ns := sp.isNone) (bl := bl) (fresh := fresh) (by assumption))).trans (candP_3 (s := s) (ns := sp.isNone) (bl := bl) (fresh := fresh) (by assumption)); exact congrArg (fun z => Value.agg ⟨grc z⟩) h9) | (have h9 := ((cand2_3 (s := s) (ns := sp.isNone) (bl := bl) (by assumption) (by assumption) (by assumption) (by first | exact fun z => absurd z.1 (by omega) | exact fun z => absurd (z.2.symm.trans (show s.resc = true by assumption)) (by decide))).trans (cand1_2 (s := s) (ns := sp.isNone) (bl := bl) (fresh := fresh) (by assumption))).trans (candP_3 (s := s) (ns := sp.isNone) (bl := bl) (fresh := fresh) (by assumption)); exact congrArg (fun z => Value.agg ⟨grc z⟩) h9) | (have h9 := ((cand2_4 (s := s) (ns := sp.isNone) (bl := bl) (by first | exact fun z => absurd z.1 (by assumption) | exact fun z => absurd (z.2.symm.trans (show sp.isNone = true by assumption)) (by decide))).trans (cand1_2 (s := s) (ns := sp.isNone) (bl := bl) (fresh := fresh) (by assumption))).trans (candP_3 (s := s) (ns := sp.isNone) (bl := bl) (fresh := fresh) (by assumption)); exact congrArg (fun z => Value.agg ⟨grc z⟩) h9)
              · intro hc5
                try simp only [decide_eq_true_eq, decide_eq_false_iff_not, Bool.not_eq_true', Bool.not_eq_false', Bool.not_eq_true, Bool.not_eq_false, Bool.and_eq_true, Bool.or_eq_true, Bool.and_eq_false_iff, Bool.or_eq_false_iff, Bool.not_not, ne_eq, Int.not_lt, Int.not_le, Decidable.not_not, beq_iff_eq, bne_iff_ne] at hc5
                refine wp_skip ?_
                refine then_normal ?_
                refine c_seq ?_
                refine c_region ?_
                refine wl (wl_val hl rfl trivial (r_build hl rfl zero40 bld40 (by simp only [fillL, setL, List.getElem?_cons_zero, List.getElem?_cons_succ, Value.cells, List.take_zero, List.take_succ_cons, List.take_nil, List.drop_zero, List.drop_succ_cons, List.drop_nil, List.length_cons, List.length_nil, List.cons_append, List.nil_append, List.append_nil, Nat.zero_add, Nat.add_zero, Nat.reduceAdd, Nat.reduceBEq, Nat.reduceEqDiff, Nat.ble, BEq.rfl, Bool.and_true, Bool.and_self, cond_true, beq_self_eq_true]; rfl)) ?_)
                clear hl a; intro a hl
                refine wl (w_storeA hl hh trivial agg40 rfl rfl (by repeat (first | exact find_head | apply find_tail)) (by first | rfl | (simp; done) | rfl) (by first | (simp; done) | (simp; omega) | (simp [grc]; done) | decide) (by first | rfl | (simp; done) | rfl) (by first | rfl | (simp only [setL, List.getElem?_cons_zero, List.getElem?_cons_succ, Value.cells, List.take_zero, List.take_succ_cons, List.take_nil, List.drop_zero, List.drop_succ_cons, List.drop_nil, List.length_cons, List.length_nil, List.cons_append, List.nil_append, List.append_nil, Nat.zero_add, Nat.add_zero, Nat.reduceAdd, Nat.reduceBEq, Nat.reduceEqDiff, Nat.ble, BEq.rfl, Bool.and_true, Bool.and_self, cond_true, beq_self_eq_true]; rfl) | (simp only [setL, List.getElem?_cons_zero, List.getElem?_cons_succ, Value.cells, List.take_zero, List.take_succ_cons, List.take_nil, List.drop_zero, List.drop_succ_cons, List.drop_nil, List.length_cons, List.length_nil, List.cons_append, List.nil_append, List.append_nil, Nat.zero_add, Nat.add_zero, Nat.reduceAdd, Nat.reduceBEq, Nat.reduceEqDiff, Nat.ble, BEq.rfl, Bool.and_true, Bool.and_self, cond_true, beq_self_eq_true]; rfl)) ?_)
                clear hh w; intro w hh
                refine w_nil ?_
                have hl2 := hl.add (t := 4) (hl.nil) rfl; clear hl; have hl := hl2; clear hl2
                refine then_normal ?_
                refine wp_ret ?_
                refine f_retC (F' := []) hl hh rfl rfl agg40 (by repeat (first | exact find_head | apply find_tail)) (by first | rfl | (simp; done)) keeps_nil ?_
                refine ⟨?_, rfl⟩
                first | (have h9 := candP_1 (s := s) (ns := sp.isNone) (bl := bl) (fresh := fresh) (by assumption) (by assumption); exact congrArg (fun z => Value.agg ⟨grc z⟩) h9) | (have h9 := (cand1_1 (s := s) (ns := sp.isNone) (bl := bl) (fresh := fresh) (by assumption)).trans (candP_2 (s := s) (ns := sp.isNone) (bl := bl) (fresh := fresh) (by assumption) (by assumption)); exact congrArg (fun z => Value.agg ⟨grc z⟩) h9) | (have h9 := ((cand2_1 (s := s) (ns := sp.isNone) (bl := bl) (by assumption) (by assumption) (by assumption)).trans (cand1_2 (s := s) (ns := sp.isNone) (bl := bl) (fresh := fresh) (by assumption))).trans (candP_2 (s := s) (ns := sp.isNone) (bl := bl) (fresh := fresh) (by assumption) (by assumption)); exact congrArg (fun z => Value.agg ⟨grc z⟩) h9) | (have h9 := ((cand2_2 (s := s) (ns := sp.isNone) (bl := bl) (by assumption) (by assumption) (by assumption) (by assumption) (by assumption)).trans (cand1_2 (s := s) (ns := sp.isNone) (bl := bl) (fresh := fresh) (by assumption))).trans (candP_2 (s := s) (ns := sp.isNone) (bl := bl) (fresh := fresh) (by assumption) (by assumption)); exact congrArg (fun z => Value.agg ⟨grc z⟩) h9) | (have h9 := ((cand2_3 (s := s) (ns := sp.isNone) (bl := bl) (by assumption) (by assumption) (by assumption) (by first | exact fun z => absurd z.1 (by omega) | exact fun z => absurd (z.2.symm.trans (show s.resc = true by assumption)) (by decide))).trans (cand1_2 (s := s) (ns := sp.isNone) (bl := bl) (fresh := fresh) (by assumption))).trans (candP_2 (s := s) (ns := sp.isNone) (bl := bl) (fresh := fresh) (by assumption) (by assumption)); exact congrArg (fun z => Value.agg ⟨grc z⟩) h9) | (have h9 := ((cand2_4 (s := s) (ns := sp.isNone) (bl := bl) (by first | exact fun z => absurd z.1 (by assumption) | exact fun z => absurd (z.2.symm.trans (show sp.isNone = true by assumption)) (by decide))).trans (cand1_2 (s := s) (ns := sp.isNone) (bl := bl) (fresh := fresh) (by assumption))).trans (candP_2 (s := s) (ns := sp.isNone) (bl := bl) (fresh := fresh) (by assumption) (by assumption)); exact congrArg (fun z => Value.agg ⟨grc z⟩) h9) | (have h9 := (cand1_1 (s := s) (ns := sp.isNone) (bl := bl) (fresh := fresh) (by assumption)).trans (candP_3 (s := s) (ns := sp.isNone) (bl := bl) (fresh := fresh) (by assumption)); exact congrArg (fun z => Value.agg ⟨grc z⟩) h9) | (have h9 := ((cand2_1 (s := s) (ns := sp.isNone) (bl := bl) (by assumption) (by assumption) (by assumption)).trans (cand1_2 (s := s) (ns := sp.isNone) (bl := bl) (fresh := fresh) (by assumption))).trans (candP_3 (s := s) (ns := sp.isNone) (bl := bl) (fresh := fresh) (by assumption)); exact congrArg (fun z => Value.agg ⟨grc z⟩) h9) | (have h9 := ((cand2_2 (s := s) (ns := sp.isNone) (bl := bl) (by assumption) (by assumption) (by assumption) (by assumption) (by assumption)).trans (cand1_2 (s := s) (ns := sp.isNone) (bl := bl) (fresh := fresh) (by assumption))).trans (candP_3 (s := s) (ns := sp.isNone) (bl := bl) (fresh := fresh) (by assumption)); exact congrArg (fun z => Value.agg ⟨grc z⟩) h9) | (have h9 := ((cand2_3 (s := s) (ns := sp.isNone) (bl := bl) (by assumption) (by assumption) (by assumption) (by first | exact fun z => absurd z.1 (by omega) | exact fun z => absurd (z.2.symm.trans (show s.resc = true by assumption)) (by decide))).trans (cand1_2 (s := s) (ns := sp.isNone) (bl := bl) (fresh := fresh) (by assumption))).trans (candP_3 (s := s) (ns := sp.isNone) (bl := bl) (fresh := fresh) (by assumption)); exact congrArg (fun z => Value.agg ⟨grc z⟩) h9) | (have h9 := ((cand2_4 (s := s) (ns := sp.isNone) (bl := bl) (by first | exact fun z => absurd z.1 (by assumption) | exact fun z => absurd (z.2.symm.trans (show sp.isNone = true by assumption)) (by decide))).trans (cand1_2 (s := s) (ns := sp.isNone) (bl := bl) (fresh := fresh) (by assumption))).trans (candP_3 (s := s) (ns := sp.isNone) (bl := bl) (fresh := fresh) (by assumption)); exact congrArg (fun z => Value.agg ⟨grc z⟩) h9)
            · intro hg4; clear hl; intro hl
              try simp only [decide_eq_true_eq, decide_eq_false_iff_not, Bool.not_eq_true', Bool.not_eq_false', Bool.not_eq_true, Bool.not_eq_false, Bool.and_eq_true, Bool.or_eq_true, Bool.and_eq_false_iff, Bool.or_eq_false_iff, Bool.not_not, ne_eq, Int.not_lt, Int.not_le, Decidable.not_not, beq_iff_eq, bne_iff_ne] at hg4
              refine wl (wl_skip hl rfl ⟨_, _, rfl, rfl, rfl⟩ ?_)
              clear hl a; intro a hl
              refine wl (wl_skip hl rfl ⟨_, _, rfl, rfl, rfl⟩ ?_)
              clear hl a; intro a hl
              refine wl (wl_skip hl rfl ⟨_, _, rfl, rfl, rfl⟩ ?_)
              clear hl a; intro a hl
              refine wl (wl_skip hl rfl ⟨_, _, rfl, rfl, rfl⟩ ?_)
              clear hl a; intro a hl
              refine wl (wl_skip hl rfl ⟨_, _, rfl, rfl, rfl⟩ ?_)
              clear hl a; intro a hl
              refine wl (wl_val hl rfl trivial (r_pickF hl rfl rfl) ?_)
              clear hl a; intro a hl
              refine w_nil ?_
              have hl2 := hl.add (t := 4) (hl.add (t := 10) (hl.add (t := 69) (hl.nil) rfl) rfl) rfl; clear hl; have hl := hl2; clear hl2
              refine then_normal ?_
              refine c_condF hl rfl ?_
              refine wp_skip ?_
              refine then_normal ?_
              refine c_seq ?_
              refine c_region ?_
              refine wl (wl_val hl rfl trivial (r_build hl rfl zero40 bld40 (by simp only [fillL, setL, List.getElem?_cons_zero, List.getElem?_cons_succ, Value.cells, List.take_zero, List.take_succ_cons, List.take_nil, List.drop_zero, List.drop_succ_cons, List.drop_nil, List.length_cons, List.length_nil, List.cons_append, List.nil_append, List.append_nil, Nat.zero_add, Nat.add_zero, Nat.reduceAdd, Nat.reduceBEq, Nat.reduceEqDiff, Nat.ble, BEq.rfl, Bool.and_true, Bool.and_self, cond_true, beq_self_eq_true]; rfl)) ?_)
              clear hl a; intro a hl
              refine wl (w_storeA hl hh trivial agg40 rfl rfl (by repeat (first | exact find_head | apply find_tail)) (by first | rfl | (simp; done) | rfl) (by first | (simp; done) | (simp; omega) | (simp [grc]; done) | decide) (by first | rfl | (simp; done) | rfl) (by first | rfl | (simp only [setL, List.getElem?_cons_zero, List.getElem?_cons_succ, Value.cells, List.take_zero, List.take_succ_cons, List.take_nil, List.drop_zero, List.drop_succ_cons, List.drop_nil, List.length_cons, List.length_nil, List.cons_append, List.nil_append, List.append_nil, Nat.zero_add, Nat.add_zero, Nat.reduceAdd, Nat.reduceBEq, Nat.reduceEqDiff, Nat.ble, BEq.rfl, Bool.and_true, Bool.and_self, cond_true, beq_self_eq_true]; rfl) | (simp only [setL, List.getElem?_cons_zero, List.getElem?_cons_succ, Value.cells, List.take_zero, List.take_succ_cons, List.take_nil, List.drop_zero, List.drop_succ_cons, List.drop_nil, List.length_cons, List.length_nil, List.cons_append, List.nil_append, List.append_nil, Nat.zero_add, Nat.add_zero, Nat.reduceAdd, Nat.reduceBEq, Nat.reduceEqDiff, Nat.ble, BEq.rfl, Bool.and_true, Bool.and_self, cond_true, beq_self_eq_true]; rfl)) ?_)
              clear hh w; intro w hh
              refine w_nil ?_
              have hl2 := hl.add (t := 4) (hl.nil) rfl; clear hl; have hl := hl2; clear hl2
              refine then_normal ?_
              refine wp_ret ?_
              refine f_retC (F' := []) hl hh rfl rfl agg40 (by repeat (first | exact find_head | apply find_tail)) (by first | rfl | (simp; done)) keeps_nil ?_
              refine ⟨?_, rfl⟩
              first | (have h9 := candP_1 (s := s) (ns := sp.isNone) (bl := bl) (fresh := fresh) (by assumption) (by assumption); exact congrArg (fun z => Value.agg ⟨grc z⟩) h9) | (have h9 := (cand1_1 (s := s) (ns := sp.isNone) (bl := bl) (fresh := fresh) (by assumption)).trans (candP_2 (s := s) (ns := sp.isNone) (bl := bl) (fresh := fresh) (by assumption) (by assumption)); exact congrArg (fun z => Value.agg ⟨grc z⟩) h9) | (have h9 := ((cand2_1 (s := s) (ns := sp.isNone) (bl := bl) (by assumption) (by assumption) (by assumption)).trans (cand1_2 (s := s) (ns := sp.isNone) (bl := bl) (fresh := fresh) (by assumption))).trans (candP_2 (s := s) (ns := sp.isNone) (bl := bl) (fresh := fresh) (by assumption) (by assumption)); exact congrArg (fun z => Value.agg ⟨grc z⟩) h9) | (have h9 := ((cand2_2 (s := s) (ns := sp.isNone) (bl := bl) (by assumption) (by assumption) (by assumption) (by assumption) (by assumption)).trans (cand1_2 (s := s) (ns := sp.isNone) (bl := bl) (fresh := fresh) (by assumption))).trans (candP_2 (s := s) (ns := sp.isNone) (bl := bl) (fresh := fresh) (by assumption) (by assumption)); exact congrArg (fun z => Value.agg ⟨grc z⟩) h9) | (have h9 := ((cand2_3 (s := s) (ns := sp.isNone) (bl := bl) (by assumption) (by assumption) (by assumption) (by first | exact fun z => absurd z.1 (by omega) | exact fun z => absurd (z.2.symm.trans (show s.resc = true by assumption)) (by decide))).trans (cand1_2 (s := s) (ns := sp.isNone) (bl := bl) (fresh := fresh) (by assumption))).trans (candP_2 (s := s) (ns := sp.isNone) (bl := bl) (fresh := fresh) (by assumption) (by assumption)); exact congrArg (fun z => Value.agg ⟨grc z⟩) h9) | (have h9 := ((cand2_4 (s := s) (ns := sp.isNone) (bl := bl) (by first | exact fun z => absurd z.1 (by assumption) | exact fun z => absurd (z.2.symm.trans (show sp.isNone = true by assumption)) (by decide))).trans (cand1_2 (s := s) (ns := sp.isNone) (bl := bl) (fresh := fresh) (by assumption))).trans (candP_2 (s := s) (ns := sp.isNone) (bl := bl) (fresh := fresh) (by assumption) (by assumption)); exact congrArg (fun z => Value.agg ⟨grc z⟩) h9) | (have h9 := (cand1_1 (s := s) (ns := sp.isNone) (bl := bl) (fresh := fresh) (by assumption)).trans (candP_3 (s := s) (ns := sp.isNone) (bl := bl) (fresh := fresh) (by assumption)); exact congrArg (fun z => Value.agg ⟨grc z⟩) h9) | (have h9 := ((cand2_1 (s := s) (ns := sp.isNone) (bl := bl) (by assumption) (by assumption) (by assumption)).trans (cand1_2 (s := s) (ns := sp.isNone) (bl := bl) (fresh := fresh) (by assumption))).trans (candP_3 (s := s) (ns := sp.isNone) (bl := bl) (fresh := fresh) (by assumption)); exact congrArg (fun z => Value.agg ⟨grc z⟩) h9) | (have h9 := ((cand2_2 (s := s) (ns := sp.isNone) (bl := bl) (by assumption) (by assumption) (by assumption) (by assumption) (by assumption)).trans (cand1_2 (s := s) (ns := sp.isNone) (bl := bl) (fresh := fresh) (by assumption))).trans (candP_3 (s := s) (ns := sp.isNone) (bl := bl) (fresh := fresh) (by assumption)); exact congrArg (fun z => Value.agg ⟨grc z⟩) h9) | (have h9 := ((cand2_3 (s := s) (ns := sp.isNone) (bl := bl) (by assumption) (by assumption) (by assumption) (by first | exact fun z => absurd z.1 (by omega) | exact fun z => absurd (z.2.symm.trans (show s.resc = true by assumption)) (by decide))).trans (cand1_2 (s := s) (ns := sp.isNone) (bl := bl) (fresh := fresh) (by assumption))).trans (candP_3 (s := s) (ns := sp.isNone) (bl := bl) (fresh := fresh) (by assumption)); exact congrArg (fun z => Value.agg ⟨grc z⟩) h9) | (have h9 := ((cand2_4 (s := s) (ns := sp.isNone) (bl := bl) (by first | exact fun z => absurd z.1 (by assumption) | exact fun z => absurd (z.2.symm.trans (show sp.isNone = true by assumption)) (by decide))).trans (cand1_2 (s := s) (ns := sp.isNone) (bl := bl) (fresh := fresh) (by assumption))).trans (candP_3 (s := s) (ns := sp.isNone) (bl := bl) (fresh := fresh) (by assumption)); exact congrArg (fun z => Value.agg ⟨grc z⟩) h9)
        · intro hc3
          try simp only [decide_eq_true_eq, decide_eq_false_iff_not, Bool.not_eq_true', Bool.not_eq_false', Bool.not_eq_true, Bool.not_eq_false, Bool.and_eq_true, Bool.or_eq_true, Bool.and_eq_false_iff, Bool.or_eq_false_iff, Bool.not_not, ne_eq, Int.not_lt, Int.not_le, Decidable.not_not, beq_iff_eq, bne_iff_ne] at hc3
          refine wp_skip ?_
          refine then_normal ?_
          refine c_seq ?_
          refine c_region ?_
          refine wl (wl_val hl rfl trivial (r_build hl rfl zero40 bld40 (by simp only [fillL, setL, List.getElem?_cons_zero, List.getElem?_cons_succ, Value.cells, List.take_zero, List.take_succ_cons, List.take_nil, List.drop_zero, List.drop_succ_cons, List.drop_nil, List.length_cons, List.length_nil, List.cons_append, List.nil_append, List.append_nil, Nat.zero_add, Nat.add_zero, Nat.reduceAdd, Nat.reduceBEq, Nat.reduceEqDiff, Nat.ble, BEq.rfl, Bool.and_true, Bool.and_self, cond_true, beq_self_eq_true]; rfl)) ?_)
          clear hl a; intro a hl
          refine wl (w_storeA hl hh trivial agg40 rfl rfl (by repeat (first | exact find_head | apply find_tail)) (by first | rfl | (simp; done) | rfl) (by first | (simp; done) | (simp; omega) | (simp [grc]; done) | decide) (by first | rfl | (simp; done) | rfl) (by first | rfl | (simp only [setL, List.getElem?_cons_zero, List.getElem?_cons_succ, Value.cells, List.take_zero, List.take_succ_cons, List.take_nil, List.drop_zero, List.drop_succ_cons, List.drop_nil, List.length_cons, List.length_nil, List.cons_append, List.nil_append, List.append_nil, Nat.zero_add, Nat.add_zero, Nat.reduceAdd, Nat.reduceBEq, Nat.reduceEqDiff, Nat.ble, BEq.rfl, Bool.and_true, Bool.and_self, cond_true, beq_self_eq_true]; rfl) | (simp only [setL, List.getElem?_cons_zero, List.getElem?_cons_succ, Value.cells, List.take_zero, List.take_succ_cons, List.take_nil, List.drop_zero, List.drop_succ_cons, List.drop_nil, List.length_cons, List.length_nil, List.cons_append, List.nil_append, List.append_nil, Nat.zero_add, Nat.add_zero, Nat.reduceAdd, Nat.reduceBEq, Nat.reduceEqDiff, Nat.ble, BEq.rfl, Bool.and_true, Bool.and_self, cond_true, beq_self_eq_true]; rfl)) ?_)
          clear hh w; intro w hh
          refine w_nil ?_
          have hl2 := hl.add (t := 4) (hl.nil) rfl; clear hl; have hl := hl2; clear hl2
          refine then_normal ?_
          refine wp_ret ?_
          refine f_retC (F' := []) hl hh rfl rfl agg40 (by repeat (first | exact find_head | apply find_tail)) (by first | rfl | (simp; done)) keeps_nil ?_
          refine ⟨?_, rfl⟩
          first | (have h9 := candP_1 (s := s) (ns := sp.isNone) (bl := bl) (fresh := fresh) (by assumption) (by assumption); exact congrArg (fun z => Value.agg ⟨grc z⟩) h9) | (have h9 := (cand1_1 (s := s) (ns := sp.isNone) (bl := bl) (fresh := fresh) (by assumption)).trans (candP_2 (s := s) (ns := sp.isNone) (bl := bl) (fresh := fresh) (by assumption) (by assumption)); exact congrArg (fun z => Value.agg ⟨grc z⟩) h9) | (have h9 := ((cand2_1 (s := s) (ns := sp.isNone) (bl := bl) (by assumption) (by assumption) (by assumption)).trans (cand1_2 (s := s) (ns := sp.isNone) (bl := bl) (fresh := fresh) (by assumption))).trans (candP_2 (s := s) (ns := sp.isNone) (bl := bl) (fresh := fresh) (by assumption) (by assumption)); exact congrArg (fun z => Value.agg ⟨grc z⟩) h9) | (have h9 := ((cand2_2 (s := s) (ns := sp.isNone) (bl := bl) (by assumption) (by assumption) (by assumption) (by assumption) (by assumption)).trans (cand1_2 (s := s) (ns := sp.isNone) (bl := bl) (fresh := fresh) (by assumption))).trans (candP_2 (s := s) (ns := sp.isNone) (bl := bl) (fresh := fresh) (by assumption) (by assumption)); exact congrArg (fun z => Value.agg ⟨grc z⟩) h9) | (have h9 := ((cand2_3 (s := s) (ns := sp.isNone) (bl := bl) (by assumption) (by assumption) (by assumption) (by first | exact fun z => absurd z.1 (by omega) | exact fun z => absurd (z.2.symm.trans (show s.resc = true by assumption)) (by decide))).trans (cand1_2 (s := s) (ns := sp.isNone) (bl := bl) (fresh := fresh) (by assumption))).trans (candP_2 (s := s) (ns := sp.isNone) (bl := bl) (fresh := fresh) (by assumption) (by assumption)); exact congrArg (fun z => Value.agg ⟨grc z⟩) h9) | (have h9 := ((cand2_4 (s := s) (ns := sp.isNone) (bl := bl) (by first | exact fun z => absurd z.1 (by assumption) | exact fun z => absurd (z.2.symm.trans (show sp.isNone = true by assumption)) (by decide))).trans (cand1_2 (s := s) (ns := sp.isNone) (bl := bl) (fresh := fresh) (by assumption))).trans (candP_2 (s := s) (ns := sp.isNone) (bl := bl) (fresh := fresh) (by assumption) (by assumption)); exact congrArg (fun z => Value.agg ⟨grc z⟩) h9) | (have h9 := (cand1_1 (s := s) (ns := sp.isNone) (bl := bl) (fresh := fresh) (by assumption)).trans (candP_3 (s := s) (ns := sp.isNone) (bl := bl) (fresh := fresh) (by assumption)); exact congrArg (fun z => Value.agg ⟨grc z⟩) h9) | (have h9 := ((cand2_1 (s := s) (ns := sp.isNone) (bl := bl) (by assumption) (by assumption) (by assumption)).trans (cand1_2 (s := s) (ns := sp.isNone) (bl := bl) (fresh := fresh) (by assumption))).trans (candP_3 (s := s) (ns := sp.isNone) (bl := bl) (fresh := fresh) (by assumption)); exact congrArg (fun z => Value.agg ⟨grc z⟩) h9) | (have h9 := ((cand2_2 (s := s) (ns := sp.isNone) (bl := bl) (by assumption) (by assumption) (by assumption) (by assumption) (by assumption)).trans (cand1_2 (s := s) (ns := sp.isNone) (bl := bl) (fresh := fresh) (by assumption))).trans (candP_3 (s := s) (ns := sp.isNone) (bl := bl) (fresh := fresh) (by assumption)); exact congrArg (fun z => Value.agg ⟨grc z⟩) h9) | (have h9 := ((cand2_3 (s := s) (ns := sp.isNone) (bl := bl) (by assumption) (by assumption) (by assumption) (by first | exact fun z => absurd z.1 (by omega) | exact fun z => absurd (z.2.symm.trans (show s.resc = true by assumption)) (by decide))).trans (cand1_2 (s := s) (ns := sp.isNone) (bl := bl) (fresh := fresh) (by assumption))).trans (candP_3 (s := s) (ns := sp.isNone) (bl := bl) (fresh := fresh) (by assumption)); exact congrArg (fun z => Value.agg ⟨grc z⟩) h9) | (have h9 := ((cand2_4 (s := s) (ns := sp.isNone) (bl := bl) (by first | exact fun z => absurd z.1 (by assumption) | exact fun z => absurd (z.2.symm.trans (show sp.isNone = true by assumption)) (by decide))).trans (cand1_2 (s := s) (ns := sp.isNone) (bl := bl) (fresh := fresh) (by assumption))).trans (candP_3 (s := s) (ns := sp.isNone) (bl := bl) (fresh := fresh) (by assumption)); exact congrArg (fun z => Value.agg ⟨grc z⟩) h9)
      · intro hg3; clear hl; intro hl
        try simp only [decide_eq_true_eq, decide_eq_false_iff_not, Bool.not_eq_true', Bool.not_eq_false', Bool.not_eq_true, Bool.not_eq_false, Bool.and_eq_true, Bool.or_eq_true, Bool.and_eq_false_iff, Bool.or_eq_false_iff, Bool.not_not, ne_eq, Int.not_lt, Int.not_le, Decidable.not_not, beq_iff_eq, bne_iff_ne] at hg3
        refine wl (wl_skip hl rfl ⟨_, _, rfl, rfl, rfl⟩ ?_)
        clear hl a; intro a hl
        refine wl (wl_skip hl rfl ⟨_, _, rfl, rfl, rfl⟩ ?_)
        clear hl a; intro a hl
        refine wl (wl_skip hl rfl ⟨_, _, rfl, rfl, rfl⟩ ?_)
        clear hl a; intro a hl
        refine wl (wl_skip hl rfl ⟨_, _, rfl, rfl, rfl⟩ ?_)
        clear hl a; intro a hl
        refine wl (wl_skip hl rfl ⟨_, _, rfl, rfl, rfl⟩ ?_)
        clear hl a; intro a hl
        refine wl (wl_val hl rfl trivial (r_pickF hl rfl rfl) ?_)
        clear hl a; intro a hl
        refine w_nil ?_
        have hl2 := hl.add (t := 0) (hl.add (t := 4) (hl.add (t := 49) (hl.nil) rfl) rfl) rfl; clear hl; have hl := hl2; clear hl2
        refine then_normal ?_
        refine c_condF hl rfl ?_
        refine wp_skip ?_
        refine then_normal ?_
        refine c_seq ?_
        refine c_region ?_
        refine wl (wl_val hl rfl trivial (r_build hl rfl zero40 bld40 (by simp only [fillL, setL, List.getElem?_cons_zero, List.getElem?_cons_succ, Value.cells, List.take_zero, List.take_succ_cons, List.take_nil, List.drop_zero, List.drop_succ_cons, List.drop_nil, List.length_cons, List.length_nil, List.cons_append, List.nil_append, List.append_nil, Nat.zero_add, Nat.add_zero, Nat.reduceAdd, Nat.reduceBEq, Nat.reduceEqDiff, Nat.ble, BEq.rfl, Bool.and_true, Bool.and_self, cond_true, beq_self_eq_true]; rfl)) ?_)
        clear hl a; intro a hl
        refine wl (w_storeA hl hh trivial agg40 rfl rfl (by repeat (first | exact find_head | apply find_tail)) (by first | rfl | (simp; done) | rfl) (by first | (simp; done) | (simp; omega) | (simp [grc]; done) | decide) (by first | rfl | (simp; done) | rfl) (by first | rfl | (simp only [setL, List.getElem?_cons_zero, List.getElem?_cons_succ, Value.cells, List.take_zero, List.take_succ_cons, List.take_nil, List.drop_zero, List.drop_succ_cons, List.drop_nil, List.length_cons, List.length_nil, List.cons_append, List.nil_append, List.append_nil, Nat.zero_add, Nat.add_zero, Nat.reduceAdd, Nat.reduceBEq, Nat.reduceEqDiff, Nat.ble, BEq.rfl, Bool.and_true, Bool.and_self, cond_true, beq_self_eq_true]; rfl) | (simp only [setL, List.getElem?_cons_zero, List.getElem?_cons_succ, Value.cells, List.take_zero, List.take_succ_cons, List.take_nil, List.drop_zero, List.drop_succ_cons, List.drop_nil, List.length_cons, List.length_nil, List.cons_append, List.nil_append, List.append_nil, Nat.zero_add, Nat.add_zero, Nat.reduceAdd, Nat.reduceBEq, Nat.reduceEqDiff, Nat.ble, BEq.rfl, Bool.and_true, Bool.and_self, cond_true, beq_self_eq_true]; rfl)) ?_)
        clear hh w; intro w hh
        refine w_nil ?_
        have hl2 := hl.add (t := 4) (hl.nil) rfl; clear hl; have hl := hl2; clear hl2
        refine then_normal ?_
        refine wp_ret ?_
        refine f_retC (F' := []) hl hh rfl rfl agg40 (by repeat (first | exact find_head | apply find_tail)) (by first | rfl | (simp; done)) keeps_nil ?_
        refine ⟨?_, rfl⟩
        first | (have h9 := candP_1 (s := s) (ns := sp.isNone) (bl := bl) (fresh := fresh) (by assumption) (by assumption); exact congrArg (fun z => Value.agg ⟨grc z⟩) h9) | (have h9 := (cand1_1 (s := s) (ns := sp.isNone) (bl := bl) (fresh := fresh) (by assumption)).trans (candP_2 (s := s) (ns := sp.isNone) (bl := bl) (fresh := fresh) (by assumption) (by assumption)); exact congrArg (fun z => Value.agg ⟨grc z⟩) h9) | (have h9 := ((cand2_1 (s := s) (ns := sp.isNone) (bl := bl) (by assumption) (by assumption) (by assumption)).trans (cand1_2 (s := s) (ns := sp.isNone) (bl := bl) (fresh := fresh) (by assumption))).trans (candP_2 (s := s) (ns := sp.isNone) (bl := bl) (fresh := fresh) (by assumption) (by assumption)); exact congrArg (fun z => Value.agg ⟨grc z⟩) h9) | (have h9 := ((cand2_2 (s := s) (ns := sp.isNone) (bl := bl) (by assumption) (by assumption) (by assumption) (by assumption) (by assumption)).trans (cand1_2 (s := s) (ns := sp.isNone) (bl := bl) (fresh := fresh) (by assumption))).trans (candP_2 (s := s) (ns := sp.isNone) (bl := bl) (fresh := fresh) (by assumption) (by assumption)); exact congrArg (fun z => Value.agg ⟨grc z⟩) h9) | (have h9 := ((cand2_3 (s := s) (ns := sp.isNone) (bl := bl) (by assumption) (by assumption) (by assumption) (by first | exact fun z => absurd z.1 (by omega) | exact fun z => absurd (z.2.symm.trans (show s.resc = true by assumption)) (by decide))).trans (cand1_2 (s := s) (ns := sp.isNone) (bl := bl) (fresh := fresh) (by assumption))).trans (candP_2 (s := s) (ns := sp.isNone) (bl := bl) (fresh := fresh) (by assumption) (by assumption)); exact congrArg (fun z => Value.agg ⟨grc z⟩) h9) | (have h9 := ((cand2_4 (s := s) (ns := sp.isNone) (bl := bl) (by first | exact fun z => absurd z.1 (by assumption) | exact fun z => absurd (z.2.symm.trans (show sp.isNone = true by assumption)) (by decide))).trans (cand1_2 (s := s) (ns := sp.isNone) (bl := bl) (fresh := fresh) (by assumption))).trans (candP_2 (s := s) (ns := sp.isNone) (bl := bl) (fresh := fresh) (by assumption) (by assumption)); exact congrArg (fun z => Value.agg ⟨grc z⟩) h9) | (have h9 := (cand1_1 (s := s) (ns := sp.isNone) (bl := bl) (fresh := fresh) (by assumption)).trans (candP_3 (s := s) (ns := sp.isNone) (bl := bl) (fresh := fresh) (by assumption)); exact congrArg (fun z => Value.agg ⟨grc z⟩) h9) | (have h9 := ((cand2_1 (s := s) (ns := sp.isNone) (bl := bl) (by assumption) (by assumption) (by assumption)).trans (cand1_2 (s := s) (ns := sp.isNone) (bl := bl) (fresh := fresh) (by assumption))).trans (candP_3 (s := s) (ns := sp.isNone) (bl := bl) (fresh := fresh) (by assumption)); exact congrArg (fun z => Value.agg ⟨grc z⟩) h9) | (have h9 := ((cand2_2 (s := s) (ns := sp.isNone) (bl := bl) (by assumption) (by assumption) (by assumption) (by assumption) (by assumption)).trans (cand1_2 (s := s) (ns := sp.isNone) (bl := bl) (fresh := fresh) (by assumption))).trans (candP_3 (s := s) (ns := sp.isNone) (bl := bl) (fresh := fresh) (by assumption)); exact congrArg (fun z => Value.agg ⟨grc z⟩) h9) | (have h9 := ((cand2_3 (s := s) (ns := sp.isNone) (bl := bl) (by assumption) (by assumption) (by assumption) (by first | exact fun z => absurd z.1 (by omega) | exact fun z => absurd (z.2.symm.trans (show s.resc = true by assumption)) (by decide))).trans (cand1_2 (s := s) (ns := sp.isNone) (bl := bl) (fresh := fresh) (by assumption))).trans (candP_3 (s := s) (ns := sp.isNone) (bl := bl) (fresh := fresh) (by assumption)); exact congrArg (fun z => Value.agg ⟨grc z⟩) h9) | (have h9 := ((cand2_4 (s := s) (ns := sp.isNone) (bl := bl) (by first | exact fun z => absurd z.1 (by assumption) | exact fun z => absurd (z.2.symm.trans (show sp.isNone = true by assumption)) (by decide))).trans (cand1_2 (s := s) (ns := sp.isNone) (bl := bl) (fresh := fresh) (by assumption))).trans (candP_3 (s := s) (ns := sp.isNone) (bl := bl) (fresh := fresh) (by assumption)); exact congrArg (fun z => Value.agg ⟨grc z⟩) h9)

set_option maxHeartbeats 4000000 in
theorem next_spec {Z : List (Nat × Obj)} (cp : Nat) (s : CS) (hs : Ok s) (sp : Option Addr) (bl : List (Int × Int)) (hZ : CtlR Z cp s sp bl) (hf : flightP s ≤ 2147483647) (fresh : Int) (hfr : U fresh) : SpK Tryz.prog 12 #[.pointer (some ⟨cp, 0, none⟩), .int .u32 fresh] (Mem Z) [] (fun v F' => v = .agg ⟨grc (nextP s sp.isNone bl fresh)⟩ ∧ F' = []) := by
  refine f_enter (args := [.pointer (some ⟨cp, 0, none⟩), .int .u32 fresh]) Tryz.func12 rfl Tryz.ntmps12 rfl ?_
  intro w0 w a hpre hl hh
  have o1 := hs.init; have o2 := hs.maxc; have o3 := hs.bn; have o4 := hs.bd; have o5 := hs.abc; have o6 := hs.dupt; have o7 := hs.mss; have o8 := hs.cwnd; have o9 := hs.ssth; have o10 := hs.credit; have o11 := hs.una; have o12 := hs.nxt; have o13 := hs.phase; have o14 := hs.recov; have o15 := hs.high; have o16 := hs.dups; have o17 := flightP_U s
  have hm := hpre _ _ hZ.mem
  have hpu := pipeP_U hs sp.isNone bl
  simp only [slotsFrom, Nat.reduceAdd] at hl
  refine c_seq ?_
  refine c_region ?_
  refine wl (w_alloc hl hh rfl trivial zero40 rfl ?_)
  clear hl hh a w; intro k4 a w hl hh
  refine w_nil ?_
  have hl2 := hl.add (t := 0) (hl.add (t := 1) (hl.add (t := 4) (hl.nil) rfl) rfl) rfl; clear hl; have hl := hl2; clear hl2
  refine then_normal ?_
  refine c_seq ?_
  refine c_seq ?_
  refine c_region ?_
  refine wl (wl_val hl rfl trivial (r_move hl rfl) ?_)
  clear hl a; intro a hl
  refine wl (wl_val hl rfl trivial (r_nilCheck hl rfl) ?_)
  clear hl a; intro a hl
  refine wl (wl_val hl rfl trivial (r_field hl rfl fld66_12) ?_)
  clear hl a; intro a hl
  first | refine wl (w_load hl hh rfl trivial one4 rfl (by repeat (first | exact find_head | apply find_tail)) (by first | rfl) ?_) | refine wl (w_loadR hl hh rfl trivial one4 rfl hm (by simp) rfl ?_)
  clear hl a; intro a hl
  refine w_nil ?_
  have hl2 := hl.add (t := 0) (hl.add (t := 1) (hl.add (t := 4) (hl.add (t := 10) (hl.nil) rfl) rfl) rfl) rfl; clear hl; have hl := hl2; clear hl2
  refine then_normal ?_
  refine c_cond hl rfl ?_ ?_
  · intro hc0
    try simp only [decide_eq_true_eq, decide_eq_false_iff_not, Bool.not_eq_true', Bool.not_eq_false', Bool.not_eq_true, Bool.not_eq_false, Bool.and_eq_true, Bool.or_eq_true, Bool.and_eq_false_iff, Bool.or_eq_false_iff, Bool.not_not, ne_eq, Int.not_lt, Int.not_le, Decidable.not_not, beq_iff_eq, bne_iff_ne] at hc0
    refine c_seq ?_
    refine c_draw [(cp, C (encC s sp) 66)] [11, 12] mixed hh ?_
    clear hh w; intro w hh
    have hM : Mem [(cp, C (encC s sp) 66)] w := (by (repeat (first | exact Mem.nil | refine Mem.consR hh (by assumption) (by simp) ?_ | refine Mem.cons hh.mem (by (repeat (first | exact find_head | apply find_tail)); done) ?_ | fail)); done)
    refine d_take (i := 0) hl rfl (by kernel_rfl) (by kernel_rfl) (by kernel_rfl) (by kernel_rfl) (by kernel_rfl) rfl trivial (fun _ _ _ h => h) hM (fun w hC => r_move hl rfl) rfl ?_
    clear hl a; intro a hl
    refine d_take (i := 1) hl rfl (by kernel_rfl) (by kernel_rfl) (by kernel_rfl) (by kernel_rfl) (by kernel_rfl) rfl trivial (fun _ _ _ h => h) hM (fun w hC => r_nilCheck hl rfl) rfl ?_
    clear hl a; intro a hl
    refine d_take (i := 2) hl rfl (by kernel_rfl) (by kernel_rfl) (by kernel_rfl) (by kernel_rfl) (by kernel_rfl) rfl trivial (fun _ _ _ h => h) hM (fun w hC => r_field hl rfl fld66_6) rfl ?_
    clear hl a; intro a hl
    refine d_take (i := 3) hl rfl (by kernel_rfl) (by kernel_rfl) (by kernel_rfl) (by kernel_rfl) (by kernel_rfl) rfl trivial (fun _ _ _ h => h) hM (fun w hC => r_loadC hl rfl one29 hC (by repeat (first | exact find_head | apply find_tail)) (by first | rfl)) rfl ?_
    clear hl a; intro a hl
    refine d_take (i := 4) hl rfl (by kernel_rfl) (by kernel_rfl) (by kernel_rfl) (by kernel_rfl) (by kernel_rfl) rfl trivial (fun _ _ _ h => h) hM (fun w hC => r_move hl rfl) rfl ?_
    clear hl a; intro a hl
    refine d_take (i := 5) hl rfl (by kernel_rfl) (by kernel_rfl) (by kernel_rfl) (by kernel_rfl) (by kernel_rfl) rfl trivial (fun _ _ _ h => h) hM (fun w hC => r_nilCheck hl rfl) rfl ?_
    clear hl a; intro a hl
    refine d_take (i := 6) hl rfl (by kernel_rfl) (by kernel_rfl) (by kernel_rfl) (by kernel_rfl) (by kernel_rfl) rfl trivial (fun _ _ _ h => h) hM (fun w hC => r_field hl rfl fld66_1) rfl ?_
    clear hl a; intro a hl
    refine d_take (i := 7) hl rfl (by kernel_rfl) (by kernel_rfl) (by kernel_rfl) (by kernel_rfl) (by kernel_rfl) rfl trivial (fun _ _ _ h => h) hM (fun w hC => r_loadC hl rfl one29 hC (by repeat (first | exact find_head | apply find_tail)) (by first | rfl)) rfl ?_
    clear hl a; intro a hl
    refine d_take (i := 8) hl rfl (by kernel_rfl) (by kernel_rfl) (by kernel_rfl) (by kernel_rfl) (by kernel_rfl) rfl trivial (fun _ _ _ h => h) hM (fun w hC => r_move hl rfl) rfl ?_
    clear hl a; intro a hl
    refine d_one (i := 9) (by kernel_rfl) rfl ?_
    try clear hM
    refine id (w_call hl hh rfl trivial rfl cal33 rfl (flight_spec cp s sp) (by repeat (first | exact keeps_nil | apply keeps_cons (by repeat (first | exact find_head | apply find_tail)) (by first  | rfl) | exact keeps_self | apply keeps_mv)) (heap_keep hh hm) ?_)
    clear hl hh a w; intro vc Fc a w hR hl hh
    obtain ⟨rfl, rfl⟩ := hR
    try simp only [List.cons_append, List.nil_append] at hh
    have hM : Mem [(cp, C (encC s sp) 66)] w := (by (repeat (first | exact Mem.nil | refine Mem.consR hh (by assumption) (by simp) ?_ | refine Mem.cons hh.mem (by (repeat (first | exact find_head | apply find_tail)); done) ?_ | fail)); done)
    refine d_step (fun _ => hM) ?_
    refine d_take (i := 10) hl rfl (by kernel_rfl) (by kernel_rfl) (by kernel_rfl) (by kernel_rfl) (by kernel_rfl) rfl trivial (fun _ _ _ h => h) hM (fun w hC => r_minI hl rfl rfl) rfl ?_
    clear hl a; intro a hl
    refine d_takeL (i := 11) hl rfl (by kernel_rfl) (by kernel_rfl) (by kernel_rfl) (by kernel_rfl) (by kernel_rfl) rfl trivial (fun _ _ _ h => h) (fun w => r_build hl rfl zero40 bld40 (by simp only [fillL, setL, List.getElem?_cons_zero, List.getElem?_cons_succ, Value.cells, List.take_zero, List.take_succ_cons, List.take_nil, List.drop_zero, List.drop_succ_cons, List.drop_nil, List.length_cons, List.length_nil, List.cons_append, List.nil_append, List.append_nil, Nat.zero_add, Nat.add_zero, Nat.reduceAdd, Nat.reduceBEq, Nat.reduceEqDiff, Nat.ble, BEq.rfl, Bool.and_true, Bool.and_self, cond_true, beq_self_eq_true]; rfl)) rfl ?_
    clear hl a; intro a hl
    refine d_one (i := 12) (by kernel_rfl) rfl ?_
    try clear hM
    refine id (w_storeA hl hh trivial agg40 rfl rfl (by repeat (first | exact find_head | apply find_tail)) (by first | rfl | (simp; done)) (by first | (simp; done) | (simp; omega) | decide) (by first | rfl | (simp; done) | rfl) (by first | (simp only [setL, List.getElem?_cons_zero, List.getElem?_cons_succ, Value.cells, List.take_zero, List.take_succ_cons, List.take_nil, List.drop_zero, List.drop_succ_cons, List.drop_nil, List.length_cons, List.length_nil, List.cons_append, List.nil_append, List.append_nil, Nat.zero_add, Nat.add_zero, Nat.reduceAdd, Nat.reduceBEq, Nat.reduceEqDiff, Nat.ble, BEq.rfl, Bool.and_true, Bool.and_self, cond_true, beq_self_eq_true]; rfl) | rfl | (simp only [setL, List.getElem?_cons_zero, List.getElem?_cons_succ, Value.cells, List.take_zero, List.take_succ_cons, List.take_nil, List.drop_zero, List.drop_succ_cons, List.drop_nil, List.length_cons, List.length_nil, List.cons_append, List.nil_append, List.append_nil, Nat.zero_add, Nat.add_zero, Nat.reduceAdd, Nat.reduceBEq, Nat.reduceEqDiff, Nat.ble, BEq.rfl, Bool.and_true, Bool.and_self, cond_true, beq_self_eq_true]; rfl)) ?_)
    clear hh w; intro w hh
    refine d_step (fun h => absurd h (by decide)) ?_
    refine d_done (by kernel_rfl) ?_
    try clear hM
    have hl2 := hl.add (t := 4) (hl.nil) rfl; clear hl; have hl := hl2; clear hl2
    refine then_normal ?_
    refine wp_ret ?_
    refine then_ret ?_
    refine f_retC (F' := []) hl hh rfl rfl agg40 (by repeat (first | exact find_head | apply find_tail)) (by first | rfl | (simp; done)) keeps_nil ?_
    refine ⟨?_, rfl⟩
    first | (have h9 := nextP_1 (s := s) (ns := sp.isNone) (bl := bl) (fresh := fresh) (by assumption); exact congrArg (fun z => Value.agg ⟨grc z⟩) h9) | (have h9 := nextP_2 (s := s) (ns := sp.isNone) (bl := bl) (fresh := fresh) (by assumption) (by assumption); exact congrArg (fun z => Value.agg ⟨grc z⟩) h9) | (have h9 := nextP_3 (s := s) (ns := sp.isNone) (bl := bl) (fresh := fresh) (by assumption) (by assumption); exact congrArg (fun z => Value.agg ⟨grc z⟩) h9) | (have h9 := nextP_4 (s := s) (ns := sp.isNone) (bl := bl) (fresh := fresh) (by assumption) (by assumption) (by assumption); exact congrArg (fun z => Value.agg ⟨grc z⟩) h9)
  · intro hc0
    try simp only [decide_eq_true_eq, decide_eq_false_iff_not, Bool.not_eq_true', Bool.not_eq_false', Bool.not_eq_true, Bool.not_eq_false, Bool.and_eq_true, Bool.or_eq_true, Bool.and_eq_false_iff, Bool.or_eq_false_iff, Bool.not_not, ne_eq, Int.not_lt, Int.not_le, Decidable.not_not, beq_iff_eq, bne_iff_ne] at hc0
    refine wp_skip ?_
    refine then_normal ?_
    refine c_seq ?_
    refine c_region ?_
    refine wl (wl_val hl rfl trivial (r_move hl rfl) ?_)
    clear hl a; intro a hl
    refine wl (wl_val hl rfl trivial (r_move hl rfl) ?_)
    clear hl a; intro a hl
    refine wl (w_call hl hh rfl trivial rfl cal34 rfl (cand_spec cp s hs sp bl hZ hf fresh hfr) (by repeat (first | exact keeps_nil | apply keeps_cons (by repeat (first | exact find_head | apply find_tail)) (by first  | rfl) | exact keeps_self | apply keeps_mv)) (mem_keep hh hpre) ?_)
    clear hl hh a w; intro vc Fc a w hR hl hh
    obtain ⟨rfl, rfl⟩ := hR
    try simp only [List.cons_append, List.nil_append] at hh
    simp only [grc] at hl
    refine wl (w_alloc hl hh rfl trivial zero40 rfl ?_)
    clear hl hh a w; intro k5 a w hl hh
    refine wl (w_storeA hl hh trivial agg40 rfl rfl (by repeat (first | exact find_head | apply find_tail)) (by first | rfl | (simp; done)) (by first | (simp; done) | (simp; omega) | decide) (by first | rfl | (simp; done) | rfl) (by first | (simp only [setL, List.getElem?_cons_zero, List.getElem?_cons_succ, Value.cells, List.take_zero, List.take_succ_cons, List.take_nil, List.drop_zero, List.drop_succ_cons, List.drop_nil, List.length_cons, List.length_nil, List.cons_append, List.nil_append, List.append_nil, Nat.zero_add, Nat.add_zero, Nat.reduceAdd, Nat.reduceBEq, Nat.reduceEqDiff, Nat.ble, BEq.rfl, Bool.and_true, Bool.and_self, cond_true, beq_self_eq_true]; rfl) | rfl | (simp only [setL, List.getElem?_cons_zero, List.getElem?_cons_succ, Value.cells, List.take_zero, List.take_succ_cons, List.take_nil, List.drop_zero, List.drop_succ_cons, List.drop_nil, List.length_cons, List.length_nil, List.cons_append, List.nil_append, List.append_nil, Nat.zero_add, Nat.add_zero, Nat.reduceAdd, Nat.reduceBEq, Nat.reduceEqDiff, Nat.ble, BEq.rfl, Bool.and_true, Bool.and_self, cond_true, beq_self_eq_true]; rfl)) ?_)
    clear hh w; intro w hh
    refine w_nil ?_
    have hl2 := hl.add (t := 0) (hl.add (t := 4) (hl.add (t := 5) (hl.nil) rfl) rfl) rfl; clear hl; have hl := hl2; clear hl2
    refine then_normal ?_
    refine c_seq ?_
    refine c_seq ?_
    refine c_region ?_
    refine wl (wl_val hl rfl trivial (r_move hl rfl) ?_)
    clear hl a; intro a hl
    refine wl (w_call hl hh rfl trivial rfl cal35 rfl (pipe_spec cp s hs sp bl hZ) (by repeat (first | exact keeps_nil | apply keeps_cons (by repeat (first | exact find_head | apply find_tail)) (by first  | rfl) | exact keeps_self | apply keeps_mv)) (mem_keep hh hpre) ?_)
    clear hl hh a w; intro vc Fc a w hR hl hh
    obtain ⟨rfl, rfl⟩ := hR
    try simp only [List.cons_append, List.nil_append] at hh
    refine wl (wl_val hl rfl trivial (r_assign hl rfl) ?_)
    clear hl a; intro a hl
    refine w_nil ?_
    have hl2 := hl.add (t := 0) (hl.add (t := 4) (hl.add (t := 5) (hl.add (t := 6) (hl.nil) rfl) rfl) rfl) rfl; clear hl; have hl := hl2; clear hl2
    refine then_normal ?_
    refine c_seq ?_
    refine c_draw [(k5, C [.int .u8 (candP s sp.isNone bl fresh).k, .int .u32 (candP s sp.isNone bl fresh).q, .int .u32 (candP s sp.isNone bl fresh).n] 40), (cp, C (encC s sp) 66)] [15, 16] mixed hh ?_
    clear hh w; intro w hh
    have hM : Mem [(k5, C [.int .u8 (candP s sp.isNone bl fresh).k, .int .u32 (candP s sp.isNone bl fresh).q, .int .u32 (candP s sp.isNone bl fresh).n] 40), (cp, C (encC s sp) 66)] w := (by (repeat (first | exact Mem.nil | refine Mem.consR hh (by assumption) (by simp) ?_ | refine Mem.cons hh.mem (by (repeat (first | exact find_head | apply find_tail)); done) ?_ | fail)); done)
    refine d_take (i := 0) hl rfl (by kernel_rfl) (by kernel_rfl) (by kernel_rfl) (by kernel_rfl) (by kernel_rfl) rfl trivial (fun _ _ _ h => h) hM (fun w hC => r_move hl rfl) rfl ?_
    clear hl a; intro a hl
    refine d_take (i := 1) hl rfl (by kernel_rfl) (by kernel_rfl) (by kernel_rfl) (by kernel_rfl) (by kernel_rfl) rfl trivial (fun _ _ _ h => h) hM (fun w hC => r_move hl rfl) rfl ?_
    clear hl a; intro a hl
    refine d_take (i := 2) hl rfl (by kernel_rfl) (by kernel_rfl) (by kernel_rfl) (by kernel_rfl) (by kernel_rfl) rfl trivial (fun _ _ _ h => h) hM (fun w hC => r_nilCheck hl rfl) rfl ?_
    clear hl a; intro a hl
    refine d_take (i := 3) hl rfl (by kernel_rfl) (by kernel_rfl) (by kernel_rfl) (by kernel_rfl) (by kernel_rfl) rfl trivial (fun _ _ _ h => h) hM (fun w hC => r_field hl rfl fld66_3) rfl ?_
    clear hl a; intro a hl
    refine d_take (i := 4) hl rfl (by kernel_rfl) (by kernel_rfl) (by kernel_rfl) (by kernel_rfl) (by kernel_rfl) rfl trivial (fun _ _ _ h => h) hM (fun w hC => r_loadC hl rfl one29 hC (by repeat (first | exact find_head | apply find_tail)) (by first | rfl)) rfl ?_
    clear hl a; intro a hl
    refine d_take (i := 5) hl rfl (by kernel_rfl) (by kernel_rfl) (by kernel_rfl) (by kernel_rfl) (by kernel_rfl) rfl trivial (fun _ _ _ h => h) hM (fun w hC => r_gtr hl rfl rfl) rfl ?_
    clear hl a; intro a hl
    refine d_take (i := 6) hl rfl (by kernel_rfl) (by kernel_rfl) (by kernel_rfl) (by kernel_rfl) (by kernel_rfl) rfl trivial (fun _ _ _ h => h) hM (fun w hC => r_move hl rfl) rfl ?_
    clear hl a; intro a hl
    refine sl_split (t := 34) hl rfl ?_ ?_
    · intro hg1; clear hl; intro hl
      try simp only [decide_eq_true_eq, decide_eq_false_iff_not, Bool.not_eq_true', Bool.not_eq_false', Bool.not_eq_true, Bool.not_eq_false, Bool.and_eq_true, Bool.or_eq_true, Bool.and_eq_false_iff, Bool.or_eq_false_iff, Bool.not_not, ne_eq, Int.not_lt, Int.not_le, Decidable.not_not, beq_iff_eq, bne_iff_ne] at hg1
      refine d_skip (i := 7) hl rfl (by kernel_rfl) (by kernel_rfl) (by kernel_rfl) (by kernel_rfl) (by kernel_rfl) rfl ⟨_, _, rfl, rfl, rfl⟩ (fun _ _ _ h => h) hM ?_
      clear hl a; intro a hl
      refine d_skip (i := 8) hl rfl (by kernel_rfl) (by kernel_rfl) (by kernel_rfl) (by kernel_rfl) (by kernel_rfl) rfl ⟨_, _, rfl, rfl, rfl⟩ (fun _ _ _ h => h) hM ?_
      clear hl a; intro a hl
      refine d_skip (i := 9) hl rfl (by kernel_rfl) (by kernel_rfl) (by kernel_rfl) (by kernel_rfl) (by kernel_rfl) rfl ⟨_, _, rfl, rfl, rfl⟩ (fun _ _ _ h => h) hM ?_
      clear hl a; intro a hl
      refine d_skip (i := 10) hl rfl (by kernel_rfl) (by kernel_rfl) (by kernel_rfl) (by kernel_rfl) (by kernel_rfl) rfl ⟨_, _, rfl, rfl, rfl⟩ (fun _ _ _ h => h) hM ?_
      clear hl a; intro a hl
      refine d_skip (i := 11) hl rfl (by kernel_rfl) (by kernel_rfl) (by kernel_rfl) (by kernel_rfl) (by kernel_rfl) rfl ⟨_, _, rfl, rfl, rfl⟩ (fun _ _ _ h => h) hM ?_
      clear hl a; intro a hl
      refine d_skip (i := 12) hl rfl (by kernel_rfl) (by kernel_rfl) (by kernel_rfl) (by kernel_rfl) (by kernel_rfl) rfl ⟨_, _, rfl, rfl, rfl⟩ (fun _ _ _ h => h) hM ?_
      clear hl a; intro a hl
      refine d_skip (i := 13) hl rfl (by kernel_rfl) (by kernel_rfl) (by kernel_rfl) (by kernel_rfl) (by kernel_rfl) rfl ⟨_, _, rfl, rfl, rfl⟩ (fun _ _ _ h => h) hM ?_
      clear hl a; intro a hl
      refine d_skip (i := 14) hl rfl (by kernel_rfl) (by kernel_rfl) (by kernel_rfl) (by kernel_rfl) (by kernel_rfl) rfl ⟨_, _, rfl, rfl, rfl⟩ (fun _ _ _ h => h) hM ?_
      clear hl a; intro a hl
      refine d_skip (i := 15) hl rfl (by kernel_rfl) (by kernel_rfl) (by kernel_rfl) (by kernel_rfl) (by kernel_rfl) rfl ⟨_, _, rfl, rfl, rfl⟩ (fun _ _ _ h => h) hM ?_
      clear hl a; intro a hl
      refine d_takeL (i := 16) hl rfl (by kernel_rfl) (by kernel_rfl) (by kernel_rfl) (by kernel_rfl) (by kernel_rfl) rfl trivial (fun _ _ _ h => h) (fun w => r_pickT hl rfl rfl) rfl ?_
      clear hl a; intro a hl
      refine d_done (by kernel_rfl) ?_
      try clear hM
      have hl2 := hl.add (t := 4) (hl.add (t := 5) (hl.add (t := 44) (hl.nil) rfl) rfl) rfl; clear hl; have hl := hl2; clear hl2
      refine then_normal ?_
      refine c_condT hl rfl ?_
      refine c_seq ?_
      refine c_region ?_
      refine wl (wl_val hl rfl trivial (r_build hl rfl zero40 bld40 (by simp only [fillL, setL, List.getElem?_cons_zero, List.getElem?_cons_succ, Value.cells, List.take_zero, List.take_succ_cons, List.take_nil, List.drop_zero, List.drop_succ_cons, List.drop_nil, List.length_cons, List.length_nil, List.cons_append, List.nil_append, List.append_nil, Nat.zero_add, Nat.add_zero, Nat.reduceAdd, Nat.reduceBEq, Nat.reduceEqDiff, Nat.ble, BEq.rfl, Bool.and_true, Bool.and_self, cond_true, beq_self_eq_true]; rfl)) ?_)
      clear hl a; intro a hl
      refine wl (w_storeA hl hh trivial agg40 rfl rfl (by repeat (first | exact find_head | apply find_tail)) (by first | rfl | (simp; done)) (by first | (simp; done) | (simp; omega) | decide) (by first | rfl | (simp; done) | rfl) (by first | (simp only [setL, List.getElem?_cons_zero, List.getElem?_cons_succ, Value.cells, List.take_zero, List.take_succ_cons, List.take_nil, List.drop_zero, List.drop_succ_cons, List.drop_nil, List.length_cons, List.length_nil, List.cons_append, List.nil_append, List.append_nil, Nat.zero_add, Nat.add_zero, Nat.reduceAdd, Nat.reduceBEq, Nat.reduceEqDiff, Nat.ble, BEq.rfl, Bool.and_true, Bool.and_self, cond_true, beq_self_eq_true]; rfl) | rfl | (simp only [setL, List.getElem?_cons_zero, List.getElem?_cons_succ, Value.cells, List.take_zero, List.take_succ_cons, List.take_nil, List.drop_zero, List.drop_succ_cons, List.drop_nil, List.length_cons, List.length_nil, List.cons_append, List.nil_append, List.append_nil, Nat.zero_add, Nat.add_zero, Nat.reduceAdd, Nat.reduceBEq, Nat.reduceEqDiff, Nat.ble, BEq.rfl, Bool.and_true, Bool.and_self, cond_true, beq_self_eq_true]; rfl)) ?_)
      clear hh w; intro w hh
      refine w_nil ?_
      have hl2 := hl.add (t := 4) (hl.nil) rfl; clear hl; have hl := hl2; clear hl2
      refine then_normal ?_
      refine wp_ret ?_
      refine then_ret ?_
      refine f_retC (F' := []) hl hh rfl rfl agg40 (by repeat (first | exact find_head | apply find_tail)) (by first | rfl | (simp; done)) keeps_nil ?_
      refine ⟨?_, rfl⟩
      first | (have h9 := nextP_1 (s := s) (ns := sp.isNone) (bl := bl) (fresh := fresh) (by assumption); exact congrArg (fun z => Value.agg ⟨grc z⟩) h9) | (have h9 := nextP_2 (s := s) (ns := sp.isNone) (bl := bl) (fresh := fresh) (by assumption) (by assumption); exact congrArg (fun z => Value.agg ⟨grc z⟩) h9) | (have h9 := nextP_3 (s := s) (ns := sp.isNone) (bl := bl) (fresh := fresh) (by assumption) (by assumption); exact congrArg (fun z => Value.agg ⟨grc z⟩) h9) | (have h9 := nextP_4 (s := s) (ns := sp.isNone) (bl := bl) (fresh := fresh) (by assumption) (by assumption) (by assumption); exact congrArg (fun z => Value.agg ⟨grc z⟩) h9)
    · intro hg1; clear hl; intro hl
      try simp only [decide_eq_true_eq, decide_eq_false_iff_not, Bool.not_eq_true', Bool.not_eq_false', Bool.not_eq_true, Bool.not_eq_false, Bool.and_eq_true, Bool.or_eq_true, Bool.and_eq_false_iff, Bool.or_eq_false_iff, Bool.not_not, ne_eq, Int.not_lt, Int.not_le, Decidable.not_not, beq_iff_eq, bne_iff_ne] at hg1
      refine d_take (i := 7) hl rfl (by kernel_rfl) (by kernel_rfl) (by kernel_rfl) (by kernel_rfl) (by kernel_rfl) rfl ⟨_, _, rfl, rfl, rfl⟩ (fun _ _ _ h => h) hM (fun w hC => r_field hl rfl fld40_2) rfl ?_
      clear hl a; intro a hl
      refine d_take (i := 8) hl rfl (by kernel_rfl) (by kernel_rfl) (by kernel_rfl) (by kernel_rfl) (by kernel_rfl) rfl ⟨_, _, rfl, rfl, rfl⟩ (fun _ _ _ h => h) hM (fun w hC => r_loadC hl rfl one29 hC (by repeat (first | exact find_head | apply find_tail)) (by first | rfl)) rfl ?_
      clear hl a; intro a hl
      refine d_take (i := 9) hl rfl (by kernel_rfl) (by kernel_rfl) (by kernel_rfl) (by kernel_rfl) (by kernel_rfl) rfl ⟨_, _, rfl, rfl, rfl⟩ (fun _ _ _ h => h) hM (fun w hC => r_move hl rfl) rfl ?_
      clear hl a; intro a hl
      refine d_take (i := 10) hl rfl (by kernel_rfl) (by kernel_rfl) (by kernel_rfl) (by kernel_rfl) (by kernel_rfl) rfl ⟨_, _, rfl, rfl, rfl⟩ (fun _ _ _ h => h) hM (fun w hC => r_nilCheck hl rfl) rfl ?_
      clear hl a; intro a hl
      refine d_take (i := 11) hl rfl (by kernel_rfl) (by kernel_rfl) (by kernel_rfl) (by kernel_rfl) (by kernel_rfl) rfl ⟨_, _, rfl, rfl, rfl⟩ (fun _ _ _ h => h) hM (fun w hC => r_field hl rfl fld66_3) rfl ?_
      clear hl a; intro a hl
      refine d_take (i := 12) hl rfl (by kernel_rfl) (by kernel_rfl) (by kernel_rfl) (by kernel_rfl) (by kernel_rfl) rfl ⟨_, _, rfl, rfl, rfl⟩ (fun _ _ _ h => h) hM (fun w hC => r_loadC hl rfl one29 hC (by repeat (first | exact find_head | apply find_tail)) (by first | rfl)) rfl ?_
      clear hl a; intro a hl
      refine d_take (i := 13) hl rfl (by kernel_rfl) (by kernel_rfl) (by kernel_rfl) (by kernel_rfl) (by kernel_rfl) rfl ⟨_, _, rfl, rfl, rfl⟩ (fun _ _ _ h => h) hM (fun w hC => r_move hl rfl) rfl ?_
      clear hl a; intro a hl
      first | refine d_take (i := 14) hl rfl (by kernel_rfl) (by kernel_rfl) (by kernel_rfl) (by kernel_rfl) (by kernel_rfl) rfl ⟨_, _, rfl, rfl, rfl⟩ (fun _ _ _ h => h) hM (fun w hC => r_sub hl rfl rfl (by simp only [Fits]; omega)) rfl ?_ | refine d_take (i := 14) hl rfl (by kernel_rfl) (by kernel_rfl) (by kernel_rfl) (by kernel_rfl) (by kernel_rfl) rfl ⟨_, _, rfl, rfl, rfl⟩ (fun _ _ _ h => h) hM (fun w hC => r_subM wm_u32 hl rfl rfl) rfl ?_
      clear hl a; intro a hl
      refine d_takeL (i := 15) hl rfl (by kernel_rfl) (by kernel_rfl) (by kernel_rfl) (by kernel_rfl) (by kernel_rfl) rfl ⟨_, _, rfl, rfl, rfl⟩ (fun _ _ _ h => h) (fun w => r_gtr hl rfl rfl) rfl ?_
      clear hl a; intro a hl
      refine d_takeL (i := 16) hl rfl (by kernel_rfl) (by kernel_rfl) (by kernel_rfl) (by kernel_rfl) (by kernel_rfl) rfl trivial (fun _ _ _ h => h) (fun w => r_pickF hl rfl rfl) rfl ?_
      clear hl a; intro a hl
      refine d_done (by kernel_rfl) ?_
      try clear hM
      have hl2 := hl.add (t := 4) (hl.add (t := 5) (hl.add (t := 44) (hl.nil) rfl) rfl) rfl; clear hl; have hl := hl2; clear hl2
      refine then_normal ?_
      refine c_cond hl rfl ?_ ?_
      · intro hc1
        try simp only [decide_eq_true_eq, decide_eq_false_iff_not, Bool.not_eq_true', Bool.not_eq_false', Bool.not_eq_true, Bool.not_eq_false, Bool.and_eq_true, Bool.or_eq_true, Bool.and_eq_false_iff, Bool.or_eq_false_iff, Bool.not_not, ne_eq, Int.not_lt, Int.not_le, Decidable.not_not, beq_iff_eq, bne_iff_ne] at hc1
        refine c_seq ?_
        refine c_region ?_
        refine wl (wl_val hl rfl trivial (r_build hl rfl zero40 bld40 (by simp only [fillL, setL, List.getElem?_cons_zero, List.getElem?_cons_succ, Value.cells, List.take_zero, List.take_succ_cons, List.take_nil, List.drop_zero, List.drop_succ_cons, List.drop_nil, List.length_cons, List.length_nil, List.cons_append, List.nil_append, List.append_nil, Nat.zero_add, Nat.add_zero, Nat.reduceAdd, Nat.reduceBEq, Nat.reduceEqDiff, Nat.ble, BEq.rfl, Bool.and_true, Bool.and_self, cond_true, beq_self_eq_true]; rfl)) ?_)
        clear hl a; intro a hl
        refine wl (w_storeA hl hh trivial agg40 rfl rfl (by repeat (first | exact find_head | apply find_tail)) (by first | rfl | (simp; done)) (by first | (simp; done) | (simp; omega) | decide) (by first | rfl | (simp; done) | rfl) (by first | (simp only [setL, List.getElem?_cons_zero, List.getElem?_cons_succ, Value.cells, List.take_zero, List.take_succ_cons, List.take_nil, List.drop_zero, List.drop_succ_cons, List.drop_nil, List.length_cons, List.length_nil, List.cons_append, List.nil_append, List.append_nil, Nat.zero_add, Nat.add_zero, Nat.reduceAdd, Nat.reduceBEq, Nat.reduceEqDiff, Nat.ble, BEq.rfl, Bool.and_true, Bool.and_self, cond_true, beq_self_eq_true]; rfl) | rfl | (simp only [setL, List.getElem?_cons_zero, List.getElem?_cons_succ, Value.cells, List.take_zero, List.take_succ_cons, List.take_nil, List.drop_zero, List.drop_succ_cons, List.drop_nil, List.length_cons, List.length_nil, List.cons_append, List.nil_append, List.append_nil, Nat.zero_add, Nat.add_zero, Nat.reduceAdd, Nat.reduceBEq, Nat.reduceEqDiff, Nat.ble, BEq.rfl, Bool.and_true, Bool.and_self, cond_true, beq_self_eq_true]; rfl)) ?_)
        clear hh w; intro w hh
        refine w_nil ?_
        have hl2 := hl.add (t := 4) (hl.nil) rfl; clear hl; have hl := hl2; clear hl2
        refine then_normal ?_
        refine wp_ret ?_
        refine then_ret ?_
        refine f_retC (F' := []) hl hh rfl rfl agg40 (by repeat (first | exact find_head | apply find_tail)) (by first | rfl | (simp; done)) keeps_nil ?_
        refine ⟨?_, rfl⟩
        first | (have h9 := nextP_1 (s := s) (ns := sp.isNone) (bl := bl) (fresh := fresh) (by assumption); exact congrArg (fun z => Value.agg ⟨grc z⟩) h9) | (have h9 := nextP_2 (s := s) (ns := sp.isNone) (bl := bl) (fresh := fresh) (by assumption) (by assumption); exact congrArg (fun z => Value.agg ⟨grc z⟩) h9) | (have h9 := nextP_3 (s := s) (ns := sp.isNone) (bl := bl) (fresh := fresh) (by assumption) (by assumption); exact congrArg (fun z => Value.agg ⟨grc z⟩) h9) | (have h9 := nextP_4 (s := s) (ns := sp.isNone) (bl := bl) (fresh := fresh) (by assumption) (by assumption) (by assumption); exact congrArg (fun z => Value.agg ⟨grc z⟩) h9)
      · intro hc1
        try simp only [decide_eq_true_eq, decide_eq_false_iff_not, Bool.not_eq_true', Bool.not_eq_false', Bool.not_eq_true, Bool.not_eq_false, Bool.and_eq_true, Bool.or_eq_true, Bool.and_eq_false_iff, Bool.or_eq_false_iff, Bool.not_not, ne_eq, Int.not_lt, Int.not_le, Decidable.not_not, beq_iff_eq, bne_iff_ne] at hc1
        refine wp_skip ?_
        refine then_normal ?_
        refine c_seq ?_
        refine c_region ?_
        refine wl (w_loadA hl hh rfl trivial agg40 rfl (by repeat (first | exact find_head | apply find_tail)) (by first | (simp only [List.getElem?_cons_zero, List.getElem?_cons_succ, Value.cells, List.take_zero, List.take_succ_cons, List.take_nil, List.drop_zero, List.drop_succ_cons, List.drop_nil, List.length_cons, List.length_nil, List.cons_append, List.nil_append, List.append_nil, Nat.zero_add, Nat.add_zero, Nat.reduceAdd, Nat.reduceBEq, Nat.reduceEqDiff, Nat.ble, BEq.rfl, Bool.and_true, Bool.and_self, cond_true, beq_self_eq_true]; rfl)) (by first | rfl | (simp; done)) ?_)
        clear hl a; intro a hl
        refine wl (w_storeA hl hh trivial agg40 rfl rfl (by repeat (first | exact find_head | apply find_tail)) (by first | rfl | (simp; done)) (by first | (simp; done) | (simp; omega) | decide) (by first | rfl | (simp; done) | rfl) (by first | (simp only [setL, List.getElem?_cons_zero, List.getElem?_cons_succ, Value.cells, List.take_zero, List.take_succ_cons, List.take_nil, List.drop_zero, List.drop_succ_cons, List.drop_nil, List.length_cons, List.length_nil, List.cons_append, List.nil_append, List.append_nil, Nat.zero_add, Nat.add_zero, Nat.reduceAdd, Nat.reduceBEq, Nat.reduceEqDiff, Nat.ble, BEq.rfl, Bool.and_true, Bool.and_self, cond_true, beq_self_eq_true]; rfl) | rfl | (simp only [setL, List.getElem?_cons_zero, List.getElem?_cons_succ, Value.cells, List.take_zero, List.take_succ_cons, List.take_nil, List.drop_zero, List.drop_succ_cons, List.drop_nil, List.length_cons, List.length_nil, List.cons_append, List.nil_append, List.append_nil, Nat.zero_add, Nat.add_zero, Nat.reduceAdd, Nat.reduceBEq, Nat.reduceEqDiff, Nat.ble, BEq.rfl, Bool.and_true, Bool.and_self, cond_true, beq_self_eq_true]; rfl)) ?_)
        clear hh w; intro w hh
        refine w_nil ?_
        have hl2 := hl.add (t := 4) (hl.nil) rfl; clear hl; have hl := hl2; clear hl2
        refine then_normal ?_
        refine wp_ret ?_
        refine f_retC (F' := []) hl hh rfl rfl agg40 (by repeat (first | exact find_head | apply find_tail)) (by first | rfl | (simp; done)) keeps_nil ?_
        refine ⟨?_, rfl⟩
        first | (have h9 := nextP_1 (s := s) (ns := sp.isNone) (bl := bl) (fresh := fresh) (by assumption); exact congrArg (fun z => Value.agg ⟨grc z⟩) h9) | (have h9 := nextP_2 (s := s) (ns := sp.isNone) (bl := bl) (fresh := fresh) (by assumption) (by assumption); exact congrArg (fun z => Value.agg ⟨grc z⟩) h9) | (have h9 := nextP_3 (s := s) (ns := sp.isNone) (bl := bl) (fresh := fresh) (by assumption) (by assumption); exact congrArg (fun z => Value.agg ⟨grc z⟩) h9) | (have h9 := nextP_4 (s := s) (ns := sp.isNone) (bl := bl) (fresh := fresh) (by assumption) (by assumption) (by assumption); exact congrArg (fun z => Value.agg ⟨grc z⟩) h9)

set_option maxHeartbeats 4000000 in
theorem view_spec {Z : List (Nat × Obj)} (cp : Nat) (s : CS) (hs : Ok s) (sp : Option Addr) (bl : List (Int × Int)) (hZ : CtlR Z cp s sp bl) : SpK Tryz.prog 26 #[.pointer (some ⟨cp, 0, none⟩)] (Mem Z) [] (fun v F' => v = .agg ⟨vwc (viewP s sp.isNone bl)⟩ ∧ F' = []) := by
  refine f_enter (args := [.pointer (some ⟨cp, 0, none⟩)]) Tryz.func26 rfl Tryz.ntmps26 rfl ?_
  intro w0 w a hpre hl hh
  have o1 := hs.init; have o2 := hs.maxc; have o3 := hs.bn; have o4 := hs.bd; have o5 := hs.abc; have o6 := hs.dupt; have o7 := hs.mss; have o8 := hs.cwnd; have o9 := hs.ssth; have o10 := hs.credit; have o11 := hs.una; have o12 := hs.nxt; have o13 := hs.phase; have o14 := hs.recov; have o15 := hs.high; have o16 := hs.dups; have o17 := flightP_U s
  have hm := hpre _ _ hZ.mem
  simp only [slotsFrom, Nat.reduceAdd] at hl
  refine c_seq ?_
  refine c_region ?_
  refine wl (w_alloc hl hh rfl trivial zero61 rfl ?_)
  clear hl hh a w; intro k2 a w hl hh
  refine w_nil ?_
  have hl2 := hl.add (t := 0) (hl.add (t := 2) (hl.nil) rfl) rfl; clear hl; have hl := hl2; clear hl2
  refine then_normal ?_
  refine c_seq ?_
  refine c_draw [(cp, C (encC s sp) 66)] [24, 25] mixed hh ?_
  clear hh w; intro w hh
  have hM : Mem [(cp, C (encC s sp) 66)] w := (by (repeat (first | exact Mem.nil | refine Mem.consR hh (by assumption) (by simp) ?_ | refine Mem.cons hh.mem (by (repeat (first | exact find_head | apply find_tail)); done) ?_ | fail)); done)
  refine d_take (i := 0) hl rfl (by kernel_rfl) (by kernel_rfl) (by kernel_rfl) (by kernel_rfl) (by kernel_rfl) rfl trivial (fun _ _ _ h => h) hM (fun w hC => r_move hl rfl) rfl ?_
  clear hl a; intro a hl
  refine d_take (i := 1) hl rfl (by kernel_rfl) (by kernel_rfl) (by kernel_rfl) (by kernel_rfl) (by kernel_rfl) rfl trivial (fun _ _ _ h => h) hM (fun w hC => r_nilCheck hl rfl) rfl ?_
  clear hl a; intro a hl
  refine d_take (i := 2) hl rfl (by kernel_rfl) (by kernel_rfl) (by kernel_rfl) (by kernel_rfl) (by kernel_rfl) rfl trivial (fun _ _ _ h => h) hM (fun w hC => r_field hl rfl fld66_3) rfl ?_
  clear hl a; intro a hl
  refine d_take (i := 3) hl rfl (by kernel_rfl) (by kernel_rfl) (by kernel_rfl) (by kernel_rfl) (by kernel_rfl) rfl trivial (fun _ _ _ h => h) hM (fun w hC => r_loadC hl rfl one29 hC (by repeat (first | exact find_head | apply find_tail)) (by first | rfl)) rfl ?_
  clear hl a; intro a hl
  refine d_take (i := 4) hl rfl (by kernel_rfl) (by kernel_rfl) (by kernel_rfl) (by kernel_rfl) (by kernel_rfl) rfl trivial (fun _ _ _ h => h) hM (fun w hC => r_move hl rfl) rfl ?_
  clear hl a; intro a hl
  refine d_take (i := 5) hl rfl (by kernel_rfl) (by kernel_rfl) (by kernel_rfl) (by kernel_rfl) (by kernel_rfl) rfl trivial (fun _ _ _ h => h) hM (fun w hC => r_nilCheck hl rfl) rfl ?_
  clear hl a; intro a hl
  refine d_take (i := 6) hl rfl (by kernel_rfl) (by kernel_rfl) (by kernel_rfl) (by kernel_rfl) (by kernel_rfl) rfl trivial (fun _ _ _ h => h) hM (fun w hC => r_field hl rfl fld66_4) rfl ?_
  clear hl a; intro a hl
  refine d_take (i := 7) hl rfl (by kernel_rfl) (by kernel_rfl) (by kernel_rfl) (by kernel_rfl) (by kernel_rfl) rfl trivial (fun _ _ _ h => h) hM (fun w hC => r_loadC hl rfl one29 hC (by repeat (first | exact find_head | apply find_tail)) (by first | rfl)) rfl ?_
  clear hl a; intro a hl
  refine d_take (i := 8) hl rfl (by kernel_rfl) (by kernel_rfl) (by kernel_rfl) (by kernel_rfl) (by kernel_rfl) rfl trivial (fun _ _ _ h => h) hM (fun w hC => r_move hl rfl) rfl ?_
  clear hl a; intro a hl
  refine d_take (i := 10) hl rfl (by kernel_rfl) (by kernel_rfl) (by kernel_rfl) (by kernel_rfl) (by kernel_rfl) rfl trivial (fun _ _ _ h => h) hM (fun w hC => r_move hl rfl) rfl ?_
  clear hl a; intro a hl
  refine d_take (i := 12) hl rfl (by kernel_rfl) (by kernel_rfl) (by kernel_rfl) (by kernel_rfl) (by kernel_rfl) rfl trivial (fun _ _ _ h => h) hM (fun w hC => r_move hl rfl) rfl ?_
  clear hl a; intro a hl
  refine d_take (i := 13) hl rfl (by kernel_rfl) (by kernel_rfl) (by kernel_rfl) (by kernel_rfl) (by kernel_rfl) rfl trivial (fun _ _ _ h => h) hM (fun w hC => r_nilCheck hl rfl) rfl ?_
  clear hl a; intro a hl
  refine d_take (i := 14) hl rfl (by kernel_rfl) (by kernel_rfl) (by kernel_rfl) (by kernel_rfl) (by kernel_rfl) rfl trivial (fun _ _ _ h => h) hM (fun w hC => r_field hl rfl fld66_11) rfl ?_
  clear hl a; intro a hl
  refine d_take (i := 15) hl rfl (by kernel_rfl) (by kernel_rfl) (by kernel_rfl) (by kernel_rfl) (by kernel_rfl) rfl trivial (fun _ _ _ h => h) hM (fun w hC => r_loadC hl rfl one29 hC (by repeat (first | exact find_head | apply find_tail)) (by first | rfl)) rfl ?_
  clear hl a; intro a hl
  refine d_take (i := 16) hl rfl (by kernel_rfl) (by kernel_rfl) (by kernel_rfl) (by kernel_rfl) (by kernel_rfl) rfl trivial (fun _ _ _ h => h) hM (fun w hC => r_move hl rfl) rfl ?_
  clear hl a; intro a hl
  refine d_take (i := 17) hl rfl (by kernel_rfl) (by kernel_rfl) (by kernel_rfl) (by kernel_rfl) (by kernel_rfl) rfl trivial (fun _ _ _ h => h) hM (fun w hC => r_nilCheck hl rfl) rfl ?_
  clear hl a; intro a hl
  refine d_take (i := 18) hl rfl (by kernel_rfl) (by kernel_rfl) (by kernel_rfl) (by kernel_rfl) (by kernel_rfl) rfl trivial (fun _ _ _ h => h) hM (fun w hC => r_field hl rfl fld66_8) rfl ?_
  clear hl a; intro a hl
  refine d_take (i := 19) hl rfl (by kernel_rfl) (by kernel_rfl) (by kernel_rfl) (by kernel_rfl) (by kernel_rfl) rfl trivial (fun _ _ _ h => h) hM (fun w hC => r_loadC hl rfl one59 hC (by repeat (first | exact find_head | apply find_tail)) (by first | rfl)) rfl ?_
  clear hl a; intro a hl
  refine d_take (i := 20) hl rfl (by kernel_rfl) (by kernel_rfl) (by kernel_rfl) (by kernel_rfl) (by kernel_rfl) rfl trivial (fun _ _ _ h => h) hM (fun w hC => r_move hl rfl) rfl ?_
  clear hl a; intro a hl
  refine d_take (i := 21) hl rfl (by kernel_rfl) (by kernel_rfl) (by kernel_rfl) (by kernel_rfl) (by kernel_rfl) rfl trivial (fun _ _ _ h => h) hM (fun w hC => r_nilCheck hl rfl) rfl ?_
  clear hl a; intro a hl
  refine d_take (i := 22) hl rfl (by kernel_rfl) (by kernel_rfl) (by kernel_rfl) (by kernel_rfl) (by kernel_rfl) rfl trivial (fun _ _ _ h => h) hM (fun w hC => r_field hl rfl fld66_12) rfl ?_
  clear hl a; intro a hl
  refine d_take (i := 23) hl rfl (by kernel_rfl) (by kernel_rfl) (by kernel_rfl) (by kernel_rfl) (by kernel_rfl) rfl trivial (fun _ _ _ h => h) hM (fun w hC => r_loadC hl rfl one4 hC (by repeat (first | exact find_head | apply find_tail)) (by first | rfl)) rfl ?_
  clear hl a; intro a hl
  refine d_one (i := 9) (by kernel_rfl) rfl ?_
  try clear hM
  refine id (w_call hl hh rfl trivial rfl cal33 rfl (flight_spec cp s sp) (by repeat (first | exact keeps_nil | apply keeps_cons (by repeat (first | exact find_head | apply find_tail)) (by first  | rfl) | exact keeps_self | apply keeps_mv)) (heap_keep hh hm) ?_)
  clear hl hh a w; intro vc Fc a w hR hl hh
  obtain ⟨rfl, rfl⟩ := hR
  try simp only [List.cons_append, List.nil_append] at hh
  have hM : Mem [(cp, C (encC s sp) 66)] w := (by (repeat (first | exact Mem.nil | refine Mem.consR hh (by assumption) (by simp) ?_ | refine Mem.cons hh.mem (by (repeat (first | exact find_head | apply find_tail)); done) ?_ | fail)); done)
  refine d_step (fun _ => hM) ?_
  refine d_one (i := 11) (by kernel_rfl) rfl ?_
  try clear hM
  refine id (w_call hl hh rfl trivial rfl cal35 rfl (pipe_spec cp s hs sp bl hZ) (by repeat (first | exact keeps_nil | apply keeps_cons (by repeat (first | exact find_head | apply find_tail)) (by first  | rfl) | exact keeps_self | apply keeps_mv)) (mem_keep hh hpre) ?_)
  clear hl hh a w; intro vc Fc a w hR hl hh
  obtain ⟨rfl, rfl⟩ := hR
  try simp only [List.cons_append, List.nil_append] at hh
  have hM : Mem [(cp, C (encC s sp) 66)] w := (by (repeat (first | exact Mem.nil | refine Mem.consR hh (by assumption) (by simp) ?_ | refine Mem.cons hh.mem (by (repeat (first | exact find_head | apply find_tail)); done) ?_ | fail)); done)
  refine d_step (fun _ => hM) ?_
  refine d_takeL (i := 24) hl rfl (by kernel_rfl) (by kernel_rfl) (by kernel_rfl) (by kernel_rfl) (by kernel_rfl) rfl trivial (fun _ _ _ h => h) (fun w => r_build hl rfl zero61 bld61 (by simp only [fillL, setL, List.getElem?_cons_zero, List.getElem?_cons_succ, Value.cells, List.take_zero, List.take_succ_cons, List.take_nil, List.drop_zero, List.drop_succ_cons, List.drop_nil, List.length_cons, List.length_nil, List.cons_append, List.nil_append, List.append_nil, Nat.zero_add, Nat.add_zero, Nat.reduceAdd, Nat.reduceBEq, Nat.reduceEqDiff, Nat.ble, BEq.rfl, Bool.and_true, Bool.and_self, cond_true, beq_self_eq_true]; rfl)) rfl ?_
  clear hl a; intro a hl
  refine d_one (i := 25) (by kernel_rfl) rfl ?_
  try clear hM
  refine id (w_storeA hl hh trivial agg61 rfl rfl (by repeat (first | exact find_head | apply find_tail)) (by first | rfl | (simp; done)) (by first | (simp; done) | (simp; omega) | decide) (by first | rfl | (simp; done) | rfl) (by first | (simp only [setL, List.getElem?_cons_zero, List.getElem?_cons_succ, Value.cells, List.take_zero, List.take_succ_cons, List.take_nil, List.drop_zero, List.drop_succ_cons, List.drop_nil, List.length_cons, List.length_nil, List.cons_append, List.nil_append, List.append_nil, Nat.zero_add, Nat.add_zero, Nat.reduceAdd, Nat.reduceBEq, Nat.reduceEqDiff, Nat.ble, BEq.rfl, Bool.and_true, Bool.and_self, cond_true, beq_self_eq_true]; rfl) | rfl | (simp only [setL, List.getElem?_cons_zero, List.getElem?_cons_succ, Value.cells, List.take_zero, List.take_succ_cons, List.take_nil, List.drop_zero, List.drop_succ_cons, List.drop_nil, List.length_cons, List.length_nil, List.cons_append, List.nil_append, List.append_nil, Nat.zero_add, Nat.add_zero, Nat.reduceAdd, Nat.reduceBEq, Nat.reduceEqDiff, Nat.ble, BEq.rfl, Bool.and_true, Bool.and_self, cond_true, beq_self_eq_true]; rfl)) ?_)
  clear hh w; intro w hh
  refine d_step (fun h => absurd h (by decide)) ?_
  refine d_done (by kernel_rfl) ?_
  try clear hM
  have hl2 := hl.add (t := 2) (hl.nil) rfl; clear hl; have hl := hl2; clear hl2
  refine then_normal ?_
  refine wp_ret ?_
  refine f_retC (F' := []) hl hh rfl rfl agg61 (by repeat (first | exact find_head | apply find_tail)) rfl keeps_nil ?_
  exact ⟨rfl, rfl⟩
end Go.Proofs.Qxb6500912aGreatDoor

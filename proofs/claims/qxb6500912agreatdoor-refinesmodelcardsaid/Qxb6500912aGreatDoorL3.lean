import Derived.Test.Qxb6500912aGreatDoorZ30
import Derived.Test.Qxb6500912aGreatDoorByt
namespace Go.Proofs.Qxb6500912aGreatDoor
open Go.Eng
set_option linter.unusedVariables false
set_option linter.unusedSimpArgs false
theorem ptrc137 : ptrCmp Tryz.prog 137 155 = true := by kernel_rfl
theorem cal7 : callable Tryz.prog 7 = true := by kernel_rfl
theorem cal11 : callable Tryz.prog 11 = true := by kernel_rfl
theorem cal4 : callable Tryz.prog 4 = true := by kernel_rfl
theorem cal5 : callable Tryz.prog 5 = true := by kernel_rfl
theorem zero24 : zeroOk Tryz.prog 24 (.pointer none) := by unfold zeroOk; kernel_rfl
theorem cal6 : callable Tryz.prog 6 = true := by kernel_rfl
theorem zero34 : zeroOk Tryz.prog 34 (.pointer none) := by unfold zeroOk; kernel_rfl
theorem agg50 : aggOk Tryz.prog 50 16 = true := by kernel_rfl
theorem zero50 : zeroOk Tryz.prog 50 (.agg #[(.int .u8 0), (.int .u32 0), (.int .u32 0), (.int .u32 0), (.int .u32 0), (.int .u32 0), (.int .u32 0), (.bool false), (.int .u32 0), (.int .u32 0), (.bool false), (.int .u32 0), (.int .u32 0), (.bool false), (.int .u8 0), (.slice none 0 0)]) := by unfold zeroOk; kernel_rfl
theorem fld50_0 : fieldOk Tryz.prog 50 0 0 = true := by kernel_rfl
theorem one47 : oneOk Tryz.prog 47 = true := by kernel_rfl
theorem fld50_2 : fieldOk Tryz.prog 50 2 11 = true := by kernel_rfl
theorem fld50_1 : fieldOk Tryz.prog 50 1 1 = true := by kernel_rfl
theorem cal15 : callable Tryz.prog 15 = true := by kernel_rfl
theorem ptr24 : ptrT Tryz.prog 24 = true := by kernel_rfl
theorem cal26 : callable Tryz.prog 26 = true := by kernel_rfl
theorem cal27 : callable Tryz.prog 27 = true := by kernel_rfl
theorem shp61 : shapeT Tryz.prog 8 61 = some [.int .u32, .int .u32, .int .u32, .int .u32, .int .u32, .int .u8, .bool] := by kernel_rfl
theorem eqf61 : eqOk Tryz.prog 8 61 = true := by kernel_rfl
theorem cal18 : callable Tryz.prog 18 = true := by kernel_rfl
theorem cal28 : callable Tryz.prog 28 = true := by kernel_rfl
theorem fld50_3 : fieldOk Tryz.prog 50 3 12 = true := by kernel_rfl
theorem cal16 : callable Tryz.prog 16 = true := by kernel_rfl
theorem cal17 : callable Tryz.prog 17 = true := by kernel_rfl
theorem fld50_5 : fieldOk Tryz.prog 50 5 14 = true := by kernel_rfl
theorem cal19 : callable Tryz.prog 19 = true := by kernel_rfl
theorem fld50_4 : fieldOk Tryz.prog 50 4 13 = true := by kernel_rfl
theorem cal20 : callable Tryz.prog 20 = true := by kernel_rfl
theorem cal21 : callable Tryz.prog 21 = true := by kernel_rfl
theorem cal22 : callable Tryz.prog 22 = true := by kernel_rfl
theorem cal23 : callable Tryz.prog 23 = true := by kernel_rfl
theorem cal24 : callable Tryz.prog 24 = true := by kernel_rfl
theorem cal25 : callable Tryz.prog 25 = true := by kernel_rfl
set_option maxHeartbeats 32000000 in
theorem law3 (sb : Nat) (c : List Value) (T : TypeId) (fr : Nat × Nat) (p : Option Addr) (n cap : Nat) (ops : List DO) (hn : n = ops.length) (hlen : n ≤ 9223372036854775807) (h : DOps sb c p cap ops) (ga : Addr) (GT : TypeId) (gf : Nat × Nat) (HT : TypeId) (hf : Nat × Nat) : SpK Tryz.prog 3 #[.slice p n cap] (fun w => DIn sb c T fr ops w ∧ w.heap[0]? = some (.cells ⟨cfL cfg0⟩ HT hf) ∧ w.heap[1]? = some (.cells ⟨[.iface 137 (.pointer (some ga))]⟩ GT gf)) [] (fun v F' => v = .bool true ∧ F' = []) := by
  refine f_enter (args := [.slice p n cap]) Tryz.func3 rfl Tryz.ntmps3 rfl ?_
  intro w0 w a hpre hl hh
  have hg0 := hpre.2.1; have hg1 := hpre.2.2
  simp only [slotsFrom, Nat.reduceAdd] at hl
  refine c_seq ?_
  refine c_region ?_
  refine wl (wl_val hl rfl trivial (r_assign hl rfl) ?_)
  clear hl a; intro a hl
  refine w_nil ?_
  have hl2 := hl.add (t := 0) (hl.nil) rfl; clear hl; have hl := hl2; clear hl2
  refine then_normal ?_
  refine c_seq ?_
  refine c_seq ?_
  refine c_region ?_
  refine wl (wl_val hl rfl trivial (r_move hl rfl) ?_)
  clear hl a; intro a hl
  refine wl (w_call hl hh rfl trivial rfl cal4 rfl (small_spec sb c T fr p n cap ops hn hlen h) (by repeat (first | exact keeps_nil | apply keeps_cons (by repeat (first | exact find_head | apply find_tail)) (by first  | rfl) | exact keeps_self | exact keeps_left | exact keeps_right | exact keeps_swap | apply keeps_mv)) (DIn.keep hh hpre.1) ?_)
  clear hl hh a w; intro vc Fc a w hR hl hh
  rcases hR with ⟨rfl, rfl⟩ | ⟨⟨rfl, hn65, hsm⟩, rfl⟩
  ·
    try simp only [List.cons_append, List.nil_append, List.append_nil] at hh
    refine wl (wl_val hl rfl trivial (r_not hl rfl) ?_)
    clear hl a; intro a hl
    refine w_nil ?_
    have hl2 := hl.add (t := 0) (hl.add (t := 24) (hl.nil) rfl) rfl; clear hl; have hl := hl2; clear hl2
    refine then_normal ?_
    refine c_condT hl rfl ?_
    refine c_seq ?_
    refine c_region ?_
    refine wl (wl_val hl rfl trivial (r_assign hl rfl) ?_)
    clear hl a; intro a hl
    refine w_nil ?_
    have hl2 := hl.add (t := 2) (hl.nil) rfl; clear hl; have hl := hl2; clear hl2
    refine then_normal ?_
    refine wp_ret ?_
    refine then_ret ?_
    refine f_ret1 (F' := []) hl hh rfl rfl (by repeat (first | exact keeps_nil | apply keeps_cons (by repeat (first | exact find_head | apply find_tail)) (by first  | rfl) | exact keeps_self | exact keeps_left | exact keeps_right | exact keeps_swap | apply keeps_mv)) ?_
    exact ⟨rfl, rfl⟩
  ·
    try simp only [List.cons_append, List.nil_append, List.append_nil] at hh
    refine wl (wl_val hl rfl trivial (r_not hl rfl) ?_)
    clear hl a; intro a hl
    refine w_nil ?_
    have hl2 := hl.add (t := 0) (hl.add (t := 24) (hl.nil) rfl) rfl; clear hl; have hl := hl2; clear hl2
    refine then_normal ?_
    refine c_condF hl rfl ?_
    refine wp_skip ?_
    refine then_normal ?_
    refine c_seq ?_
    refine c_region ?_
    first | refine wl (w_loadA hl hh rfl trivial agg33 rfl (by repeat (first | exact find_head | apply find_tail)) (by first | (simp only [List.getElem?_cons_zero, List.getElem?_cons_succ, Value.cells, List.take_zero, List.take_succ_cons, List.take_nil, List.drop_zero, List.drop_succ_cons, List.drop_nil, List.length_cons, List.length_nil, List.cons_append, List.nil_append, List.append_nil, Nat.zero_add, Nat.add_zero, Nat.reduceAdd, Nat.reduceBEq, Nat.reduceEqDiff, Nat.ble, BEq.rfl, Bool.and_true, Bool.and_self, cond_true, beq_self_eq_true]; rfl) | rfl | (simp only [List.getElem?_cons_zero, List.getElem?_cons_succ, Value.cells, List.take_zero, List.take_succ_cons, List.take_nil, List.drop_zero, List.drop_succ_cons, List.drop_nil, List.length_cons, List.length_nil, List.cons_append, List.nil_append, List.append_nil, Nat.zero_add, Nat.add_zero, Nat.reduceAdd, Nat.reduceBEq, Nat.reduceEqDiff, Nat.ble, BEq.rfl, Bool.and_true, Bool.and_self, cond_true, beq_self_eq_true]; rfl)) (by first | rfl | (simp; done)) ?_) | refine wl (w_loadRA hl hh rfl trivial agg33 rfl hm (by simp) hqv rfl ?_) | refine wl (w_loadRA hl hh rfl trivial agg33 rfl hg0 (by simp) rfl rfl ?_)
    clear hl a; intro a hl
    refine wl (w_call hl hh rfl trivial rfl cal5 rfl (new_cm cfg0 cfg0_ok 137 (.pointer (some ga)) GT gf) (by repeat (first | exact keeps_nil | apply keeps_cons (by repeat (first | exact find_head | apply find_tail)) (by first  | rfl) | exact keeps_self | exact keeps_left | exact keeps_right | exact keeps_swap | apply keeps_mv)) (heap_keep hh hg1) ?_)
    clear hl hh a w; intro vc Fc a w hR hl hh
    rcases hR with ⟨hcv, rfl, rfl⟩ | ⟨hcv, cp0, rfl, hcm0⟩
    ·
      try simp only [List.cons_append, List.nil_append, List.append_nil] at hh
      exact absurd cfg0_cv hcv
    ·
      try simp only [List.cons_append, List.nil_append, List.append_nil] at hh
      generalize Fc = Zc0 at hh hcm0
      refine wl (wl_val hl rfl trivial (r_move hl rfl) ?_)
      clear hl a; intro a hl
      refine wl (wl_val hl rfl trivial (r_extract hl rfl (by simp only [List.getElem?_toArray, List.getElem?_cons_zero, List.getElem?_cons_succ]; rfl)) ?_)
      clear hl a; intro a hl
      refine wl (wl_val hl rfl trivial (r_extract hl rfl (by simp only [List.getElem?_toArray, List.getElem?_cons_zero, List.getElem?_cons_succ]; rfl)) ?_)
      clear hl a; intro a hl
      refine wl (w_alloc hl hh rfl trivial zero24 rfl ?_)
      clear hl hh a w; intro k3 a w hl hh
      refine wl (w_store hl hh trivial one24 rfl rfl (by repeat (first | exact find_head | apply find_tail)) (by first | (simp; done) | (simp; omega) | (simp [cfL]; done)) (by first | rfl | assumption | (apply Row.one; assumption)) (by first | (simp only [setL, cfL, List.getElem?_cons_zero, List.getElem?_cons_succ, Value.cells, List.take_zero, List.take_succ_cons, List.take_nil, List.drop_zero, List.drop_succ_cons, List.drop_nil, List.length_cons, List.length_nil, List.cons_append, List.nil_append, List.append_nil, Nat.zero_add, Nat.add_zero, Nat.reduceAdd, Nat.reduceBEq, Nat.reduceEqDiff, Nat.ble, BEq.rfl, Bool.and_true, Bool.and_self, cond_true, beq_self_eq_true]; rfl) | (simp only [setL, List.getElem?_cons_zero, List.getElem?_cons_succ, Value.cells, List.take_zero, List.take_succ_cons, List.take_nil, List.drop_zero, List.drop_succ_cons, List.drop_nil, List.length_cons, List.length_nil, List.cons_append, List.nil_append, List.append_nil, Nat.zero_add, Nat.add_zero, Nat.reduceAdd, Nat.reduceBEq, Nat.reduceEqDiff, Nat.ble, BEq.rfl, Bool.and_true, Bool.and_self, cond_true, beq_self_eq_true]; rfl) | (simp only [setL, List.getElem?_cons_zero, List.getElem?_cons_succ, Value.cells, List.take_zero, List.take_succ_cons, List.take_nil, List.drop_zero, List.drop_succ_cons, List.drop_nil, List.length_cons, List.length_nil, List.cons_append, List.nil_append, List.append_nil, Nat.zero_add, Nat.add_zero, Nat.reduceAdd, Nat.reduceBEq, Nat.reduceEqDiff, Nat.ble, BEq.rfl, Bool.and_true, Bool.and_self, cond_true, beq_self_eq_true]; rfl)) ?_)
      clear hh w; intro w hh
      refine wl (wl_val hl rfl trivial (r_assign hl rfl) ?_)
      clear hl a; intro a hl
      refine w_nil ?_
      have hl2 := hl.add (t := 0) (hl.add (t := 3) (hl.nil) rfl) rfl; clear hl; have hl := hl2; clear hl2
      refine then_normal ?_
      refine c_seq ?_
      refine c_region ?_
      first | refine wl (w_loadA hl hh rfl trivial agg33 rfl (by repeat (first | exact find_head | apply find_tail)) (by first | (simp only [List.getElem?_cons_zero, List.getElem?_cons_succ, Value.cells, List.take_zero, List.take_succ_cons, List.take_nil, List.drop_zero, List.drop_succ_cons, List.drop_nil, List.length_cons, List.length_nil, List.cons_append, List.nil_append, List.append_nil, Nat.zero_add, Nat.add_zero, Nat.reduceAdd, Nat.reduceBEq, Nat.reduceEqDiff, Nat.ble, BEq.rfl, Bool.and_true, Bool.and_self, cond_true, beq_self_eq_true]; rfl) | rfl | (simp only [List.getElem?_cons_zero, List.getElem?_cons_succ, Value.cells, List.take_zero, List.take_succ_cons, List.take_nil, List.drop_zero, List.drop_succ_cons, List.drop_nil, List.length_cons, List.length_nil, List.cons_append, List.nil_append, List.append_nil, Nat.zero_add, Nat.add_zero, Nat.reduceAdd, Nat.reduceBEq, Nat.reduceEqDiff, Nat.ble, BEq.rfl, Bool.and_true, Bool.and_self, cond_true, beq_self_eq_true]; rfl)) (by first | rfl | (simp; done)) ?_) | refine wl (w_loadRA hl hh rfl trivial agg33 rfl hm (by simp) hqv rfl ?_) | refine wl (w_loadRA hl hh rfl trivial agg33 rfl hg0 (by simp) rfl rfl ?_)
      clear hl a; intro a hl
      refine wl (w_call hl hh rfl trivial rfl cal6 rfl (new_mm cfg0 cfg0_ok cfg0_cv) (by repeat (first | exact keeps_nil | apply keeps_cons (by repeat (first | exact find_head | apply find_tail)) (by first  | rfl) | exact keeps_self | exact keeps_left | exact keeps_right | exact keeps_swap | apply keeps_mv)) trivial ?_)
      clear hl hh a w; intro vc Fc a w hR hl hh
      obtain ⟨mp0, rfl, hmm0⟩ := hR
      try simp only [List.cons_append, List.nil_append] at hh
      generalize Fc = Zm0 at hh hmm0
      refine wl (w_alloc hl hh rfl trivial zero34 rfl ?_)
      clear hl hh a w; intro k5 a w hl hh
      refine wl (w_store hl hh trivial one34 rfl rfl (by repeat (first | exact find_head | apply find_tail)) (by first | (simp; done) | (simp; omega) | (simp [cfL]; done)) (by first | rfl | assumption | (apply Row.one; assumption)) (by first | (simp only [setL, cfL, List.getElem?_cons_zero, List.getElem?_cons_succ, Value.cells, List.take_zero, List.take_succ_cons, List.take_nil, List.drop_zero, List.drop_succ_cons, List.drop_nil, List.length_cons, List.length_nil, List.cons_append, List.nil_append, List.append_nil, Nat.zero_add, Nat.add_zero, Nat.reduceAdd, Nat.reduceBEq, Nat.reduceEqDiff, Nat.ble, BEq.rfl, Bool.and_true, Bool.and_self, cond_true, beq_self_eq_true]; rfl) | (simp only [setL, List.getElem?_cons_zero, List.getElem?_cons_succ, Value.cells, List.take_zero, List.take_succ_cons, List.take_nil, List.drop_zero, List.drop_succ_cons, List.drop_nil, List.length_cons, List.length_nil, List.cons_append, List.nil_append, List.append_nil, Nat.zero_add, Nat.add_zero, Nat.reduceAdd, Nat.reduceBEq, Nat.reduceEqDiff, Nat.ble, BEq.rfl, Bool.and_true, Bool.and_self, cond_true, beq_self_eq_true]; rfl) | (simp only [setL, List.getElem?_cons_zero, List.getElem?_cons_succ, Value.cells, List.take_zero, List.take_succ_cons, List.take_nil, List.drop_zero, List.drop_succ_cons, List.drop_nil, List.length_cons, List.length_nil, List.cons_append, List.nil_append, List.append_nil, Nat.zero_add, Nat.add_zero, Nat.reduceAdd, Nat.reduceBEq, Nat.reduceEqDiff, Nat.ble, BEq.rfl, Bool.and_true, Bool.and_self, cond_true, beq_self_eq_true]; rfl)) ?_)
      clear hh w; intro w hh
      refine w_nil ?_
      have hl2 := hl.add (t := 0) (hl.add (t := 3) (hl.add (t := 5) (hl.nil) rfl) rfl) rfl; clear hl; have hl := hl2; clear hl2
      replace hh := has_start hh
      obtain ⟨Z0, hZ0⟩ : ∃ Z, Z = Zm0 ++ Zc0 := ⟨_, rfl⟩
      have hpw0 : PW Z0 cp0 mp0 ⟨cfg0, newP cfg0, []⟩ (newMP cfg0) cfg0.start cfg0.sack [] := by rw [hZ0]; exact pw_new hcm0 hmm0
      rw [← hZ0] at hh
      clear hZ0
      refine then_normal ?_
      refine c_seq ?_
      refine c_region ?_
      refine wl (wl_val hl rfl trivial (r_makeFunc hl rfl) ?_)
      clear hl a; intro a hl
      refine wl (wl_val hl rfl trivial (r_assign hl rfl) ?_)
      clear hl a; intro a hl
      refine w_nil ?_
      have hl2 := hl.add (t := 0) (hl.add (t := 3) (hl.add (t := 5) (hl.add (t := 6) (hl.nil) rfl) rfl) rfl) rfl; clear hl; have hl := hl2; clear hl2
      refine then_normal ?_
      refine c_seq ?_
      refine c_region ?_
      refine wl (wl_val hl rfl trivial (r_makeFunc hl rfl) ?_)
      clear hl a; intro a hl
      refine wl (wl_val hl rfl trivial (r_assign hl rfl) ?_)
      clear hl a; intro a hl
      refine w_nil ?_
      have hl2 := hl.add (t := 0) (hl.add (t := 3) (hl.add (t := 5) (hl.add (t := 6) (hl.add (t := 7) (hl.nil) rfl) rfl) rfl) rfl) rfl; clear hl; have hl := hl2; clear hl2
      refine then_normal ?_
      refine c_seq ?_
      refine c_seq ?_
      refine c_region ?_
      refine wl (wl_val hl rfl trivial (r_move hl rfl) ?_)
      clear hl a; intro a hl
      refine wl (wl_val hl rfl trivial (r_lenS hl rfl slc22) ?_)
      clear hl a; intro a hl
      refine wl (wl_val hl rfl trivial (r_move hl rfl) ?_)
      clear hl a; intro a hl
      refine w_nil ?_
      have hl2 := hl.add (t := 3) (hl.add (t := 5) (hl.add (t := 6) (hl.add (t := 7) (hl.add (t := 34) (hl.add (t := 35) (hl.add (t := 36) (hl.nil) rfl) rfl) rfl) rfl) rfl) rfl) rfl; clear hl; have hl := hl2; clear hl2
      refine then_normal ?_
      refine wp_block ?_
      obtain ⟨KS0, hKS0, hk⟩ := (hl.add (t := 3) (hl.add (t := 5) (hl.add (t := 6) (hl.add (t := 7) (hl.add (t := 34) (hl.add (t := 35) (hl.nil) rfl) rfl) rfl) rfl) rfl) rfl).name
      obtain ⟨HS0, hHS0, hh2⟩ := hh.nameT (A := [(k3, C [.pointer (some ⟨cp0, 0, none⟩)] 24), (k5, C [.pointer (some ⟨mp0, 0, none⟩)] 34)]) (U := Z0) (keeps_cons (b := k3) (o' := C [.pointer (some ⟨cp0, 0, none⟩)] 24) (by repeat (first | exact find_head | apply find_tail)) (by first | rfl) (keeps_cons (b := k5) (o' := C [.pointer (some ⟨mp0, 0, none⟩)] 34) (by repeat (first | exact find_head | apply find_tail)) (by first | rfl) ((by repeat (first | exact keeps_nil | exact keeps_self | exact keeps_swap | apply keeps_mv)))))
      refine c_loop (α := LZ) (fun z => n - z.i) (fun z a w => ((PI ((z.i : Int) * 137438953472) (z.i : Int) z.t z.m z.st ∧ PW z.Z z.cp z.mp z.t z.m z.st z.t.cfg.sack z.t.os) ∧ z.i ≤ n) ∧ Sl 237 ([(36, .int .i64 (z.i : Int))] ++ KS0) a ∧ Has _ w0 ([(k3, C [.pointer (some ⟨z.cp, 0, none⟩)] 24), (k5, C [.pointer (some ⟨z.mp, 0, none⟩)] 34)] ++ (HS0 ++ z.Z)) w) ⟨⟨cfg0, newP cfg0, []⟩, newMP cfg0, cfg0.start, cp0, mp0, Z0, 0⟩ ⟨⟨⟨pi_new cfg0_ok cfg0_cv (by simp) (by simp), hpw0⟩, Nat.zero_le _⟩, hl.addE (t := 36) (hk) rfl (by first | rfl), hh2⟩ ?_
      clear hk hh2 hl hh a w
      intro z a w hI
      obtain ⟨⟨⟨hpiz, hpwz⟩, hzi⟩, hl, hh⟩ := hI
      subst hKS0; subst hHS0
      simp only [List.cons_append, List.nil_append, List.append_nil] at hl hh
      refine c_seq ?_
      refine c_region ?_
      refine wl (wl_val hl rfl trivial (r_lss hl rfl rfl) ?_)
      clear hl a; intro a hl
      refine w_nil ?_
      have hl2 := hl.add (t := 3) (hl.add (t := 5) (hl.add (t := 6) (hl.add (t := 7) (hl.add (t := 34) (hl.add (t := 35) (hl.add (t := 36) (hl.add (t := 37) (hl.nil) rfl) rfl) rfl) rfl) rfl) rfl) rfl) rfl; clear hl; have hl := hl2; clear hl2
      refine then_normal ?_
      refine c_seq ?_
      refine c_cond hl rfl ?_ ?_
      · intro hc1
        try simp only [decide_eq_true_eq, decide_eq_false_iff_not, Bool.not_eq_true', Bool.not_eq_false', Bool.not_eq_true, Bool.not_eq_false, Bool.and_eq_true, Bool.or_eq_true, Bool.and_eq_false_iff, Bool.or_eq_false_iff, Bool.not_not, ne_eq, Int.not_lt, Int.not_le, Decidable.not_not, beq_iff_eq, bne_iff_ne] at hc1
        obtain ⟨so, rfl, hat⟩ := h.at_ (by omega)
        obtain ⟨d, hd⟩ : ∃ d, ops[z.i]? = some d := ⟨_, List.getElem?_eq_getElem (by omega)⟩
        have hqv := hat z.i d hd
        have hdm := List.mem_of_getElem? hd
        have hdok := h.ok d hdm
        have hds := h.sm d hdm
        have hm := hpre.1.1 (by omega)
        have hms := hpre.1.2 d hdm
        simp only [DO.vals] at hqv
        have hdB := hdok.B; have hdA := hdok.A; have hdl := hsm d hdm; have hwA := i32_bd d.A; have hzu := hpiz.hm.una; have hzn := hpiz.nx; have hzk := hpiz.hm.nxt; have hzd := hpiz.dp
        have hwk9 : z.t.cfg.sack = true → z.m.una + IntKind.i32.wrap d.A = z.m.una → (farM z.m z.t.cfg.sack = true → False) → z.m.nxt - z.m.una ≤ 262144 := fun h1 _ h3 => far_no (by cases hq : farM z.m z.t.cfg.sack with | false => rfl | true => exact (h3 hq).elim) (.inl h1)
        refine wp_skip ?_
        refine then_normal ?_
        refine c_seq ?_
        refine wp_block ?_
        refine c_seq ?_
        refine c_region ?_
        refine wl (wl_val hl rfl trivial (r_indexS hl rfl rfl slc22 (by omega) (by omega) (by first | (simp only [Int.reduceToNat]; rfl) | exact toNat_add1 _ | exact toNat_add2 _ _ | exact toNat_emod _ _ | exact Int.toNat_natCast _ | rfl)) ?_)
        clear hl a; intro a hl
        first | refine wl (w_loadA hl hh rfl trivial agg50 rfl (by repeat (first | exact find_head | apply find_tail)) (by first | (simp only [List.getElem?_cons_zero, List.getElem?_cons_succ, Value.cells, List.take_zero, List.take_succ_cons, List.take_nil, List.drop_zero, List.drop_succ_cons, List.drop_nil, List.length_cons, List.length_nil, List.cons_append, List.nil_append, List.append_nil, Nat.zero_add, Nat.add_zero, Nat.reduceAdd, Nat.reduceBEq, Nat.reduceEqDiff, Nat.ble, BEq.rfl, Bool.and_true, Bool.and_self, cond_true, beq_self_eq_true]; rfl) | rfl | (simp only [List.getElem?_cons_zero, List.getElem?_cons_succ, Value.cells, List.take_zero, List.take_succ_cons, List.take_nil, List.drop_zero, List.drop_succ_cons, List.drop_nil, List.length_cons, List.length_nil, List.cons_append, List.nil_append, List.append_nil, Nat.zero_add, Nat.add_zero, Nat.reduceAdd, Nat.reduceBEq, Nat.reduceEqDiff, Nat.ble, BEq.rfl, Bool.and_true, Bool.and_self, cond_true, beq_self_eq_true]; rfl)) (by first | rfl | (simp; done)) ?_) | refine wl (w_loadRA hl hh rfl trivial agg50 rfl hm (by simp) hqv rfl ?_) | refine wl (w_loadRA hl hh rfl trivial agg50 rfl hg0 (by simp) rfl rfl ?_)
        clear hl a; intro a hl
        refine wl (w_alloc hl hh rfl trivial zero50 rfl ?_)
        clear hl hh a w; intro k9 a w hl hh
        refine wl (w_storeA hl hh trivial agg50 rfl rfl (by repeat (first | exact find_head | apply find_tail)) (by first | rfl | (simp; done) | (simp only [List.getElem?_cons_zero, List.getElem?_cons_succ, Value.cells, List.take_zero, List.take_succ_cons, List.take_nil, List.drop_zero, List.drop_succ_cons, List.drop_nil, List.length_cons, List.length_nil, List.cons_append, List.nil_append, List.append_nil, Nat.zero_add, Nat.add_zero, Nat.reduceAdd, Nat.reduceBEq, Nat.reduceEqDiff, Nat.ble, BEq.rfl, Bool.and_true, Bool.and_self, cond_true, beq_self_eq_true]; rfl) | rfl) (by first | (simp; done) | (simp; omega) | (simp [cfL]; done)) (by first | rfl | (simp; done) | rfl) (by first | (simp only [setL, cfL, List.getElem?_cons_zero, List.getElem?_cons_succ, Value.cells, List.take_zero, List.take_succ_cons, List.take_nil, List.drop_zero, List.drop_succ_cons, List.drop_nil, List.length_cons, List.length_nil, List.cons_append, List.nil_append, List.append_nil, Nat.zero_add, Nat.add_zero, Nat.reduceAdd, Nat.reduceBEq, Nat.reduceEqDiff, Nat.ble, BEq.rfl, Bool.and_true, Bool.and_self, cond_true, beq_self_eq_true]; rfl) | (simp only [setL, List.getElem?_cons_zero, List.getElem?_cons_succ, Value.cells, List.take_zero, List.take_succ_cons, List.take_nil, List.drop_zero, List.drop_succ_cons, List.drop_nil, List.length_cons, List.length_nil, List.cons_append, List.nil_append, List.append_nil, Nat.zero_add, Nat.add_zero, Nat.reduceAdd, Nat.reduceBEq, Nat.reduceEqDiff, Nat.ble, BEq.rfl, Bool.and_true, Bool.and_self, cond_true, beq_self_eq_true]; rfl) | (simp only [setL, List.getElem?_cons_zero, List.getElem?_cons_succ, Value.cells, List.take_zero, List.take_succ_cons, List.take_nil, List.drop_zero, List.drop_succ_cons, List.drop_nil, List.length_cons, List.length_nil, List.cons_append, List.nil_append, List.append_nil, Nat.zero_add, Nat.add_zero, Nat.reduceAdd, Nat.reduceBEq, Nat.reduceEqDiff, Nat.ble, BEq.rfl, Bool.and_true, Bool.and_self, cond_true, beq_self_eq_true]; rfl)) ?_)
        clear hh w; intro w hh
        refine w_nil ?_
        have hl2 := hl.add (t := 3) (hl.add (t := 5) (hl.add (t := 6) (hl.add (t := 7) (hl.add (t := 9) (hl.add (t := 34) (hl.add (t := 35) (hl.add (t := 36) (hl.nil) rfl) rfl) rfl) rfl) rfl) rfl) rfl) rfl; clear hl; have hl := hl2; clear hl2
        refine then_normal ?_
        refine c_seq ?_
        refine c_seq ?_
        refine cut_region (fun a w => ∃ b : Bool, (b = false → farM z.m z.t.cfg.sack = true → ¬ d.kd = 1 ∧ ¬ (d.kd = 3 ∧ d.A = 0)) ∧ Sl 237 [(3, .pointer (some ⟨k3, 0, none⟩)), (5, .pointer (some ⟨k5, 0, none⟩)), (6, .func (.func 7) #[] #[.pointer (some ⟨k5, 0, none⟩)]), (7, .func (.func 11) #[] #[.pointer (some ⟨k3, 0, none⟩), .pointer (some ⟨k5, 0, none⟩)]), (9, .pointer (some ⟨k9, 0, none⟩)), (34, .slice (some ⟨sb, so, none⟩) n cap), (35, .int .i64 (n : Int)), (36, .int .i64 (z.i : Int)), (56, .bool b)] a ∧ Has [] w0 ([(k9, C [.int .u8 d.kd, .int .u32 d.cf.init, .int .u32 d.cf.maxc, .int .u32 d.cf.bn, .int .u32 d.cf.bd, .int .u32 d.cf.abc, .int .u32 d.cf.dupt, .bool d.cf.idle, .int .u32 d.cf.mss, .int .u32 d.cf.start, .bool d.cf.sack, .int .u32 d.A, .int .u32 d.B, .bool d.dup, .int .u8 d.gr, .slice d.p d.dat.length d.cap] 50), (k3, C [.pointer (some ⟨z.cp, 0, none⟩)] 24), (k5, C [.pointer (some ⟨z.mp, 0, none⟩)] 34)] ++ z.Z) w) ?_ ?_
        ·
          refine c_region ?_
          refine wl (wl_val hl rfl trivial (r_move hl rfl) ?_)
          clear hl a; intro a hl
          refine wl (w_call hl hh rfl trivial rfl cal7 rfl (far_pm hpwz hpiz.hm k5) (by repeat (first | exact keeps_nil | apply keeps_cons (by repeat (first | exact find_head | apply find_tail)) (by first  | rfl) | exact keeps_self | exact keeps_left | exact keeps_right | exact keeps_swap | apply keeps_mv)) ⟨(hh.mem _ _ (Find.mem (by repeat (first | exact find_head | apply find_tail)))), (fun b o m => hh.mem b o (by (repeat (first | exact m | apply List.mem_cons_of_mem)); done))⟩ ?_)
          clear hl hh a w; intro vc Fc a w hR hl hh
          obtain ⟨rfl, rfl⟩ := hR
          try simp only [List.cons_append, List.nil_append] at hh
          refine wl (wl_val hl rfl trivial (r_move hl rfl) ?_)
          clear hl a; intro a hl
          refine sl_split (t := 42) hl rfl ?_ ?_
          · intro hg1; clear hl; intro hl
            try simp only [decide_eq_true_eq, decide_eq_false_iff_not, Bool.not_eq_true', Bool.not_eq_false', Bool.not_eq_true, Bool.not_eq_false, Bool.and_eq_true, Bool.or_eq_true, Bool.and_eq_false_iff, Bool.or_eq_false_iff, Bool.not_not, ne_eq, Int.not_lt, Int.not_le, Decidable.not_not, beq_iff_eq, bne_iff_ne] at hg1
            refine wl (wl_val hl rfl ⟨_, _, rfl, rfl, rfl⟩ (r_field hl rfl fld50_0) ?_)
            clear hl a; intro a hl
            refine wl (w_load hl hh rfl ⟨_, _, rfl, rfl, rfl⟩ one47 rfl (by repeat (first | exact find_head | apply find_tail)) (by first | rfl) ?_)
            clear hl a; intro a hl
            refine wl (wl_val hl rfl ⟨_, _, rfl, rfl, rfl⟩ (r_eql hl rfl rfl) ?_)
            clear hl a; intro a hl
            refine wl (wl_val hl rfl ⟨_, _, rfl, rfl, rfl⟩ (r_move hl rfl) ?_)
            clear hl a; intro a hl
            refine sl_split (t := 46) hl rfl ?_ ?_
            · intro hg2; clear hl; intro hl
              try simp only [decide_eq_true_eq, decide_eq_false_iff_not, Bool.not_eq_true', Bool.not_eq_false', Bool.not_eq_true, Bool.not_eq_false, Bool.and_eq_true, Bool.or_eq_true, Bool.and_eq_false_iff, Bool.or_eq_false_iff, Bool.not_not, ne_eq, Int.not_lt, Int.not_le, Decidable.not_not, beq_iff_eq, bne_iff_ne] at hg2
              refine wl (wl_skip hl rfl ⟨_, _, rfl, rfl, rfl⟩ ?_)
              clear hl a; intro a hl
              refine wl (wl_skip hl rfl ⟨_, _, rfl, rfl, rfl⟩ ?_)
              clear hl a; intro a hl
              refine wl (wl_skip hl rfl ⟨_, _, rfl, rfl, rfl⟩ ?_)
              clear hl a; intro a hl
              refine wl (wl_skip hl rfl ⟨_, _, rfl, rfl, rfl⟩ ?_)
              clear hl a; intro a hl
              refine wl (wl_skipU hl rfl ⟨_, _, rfl, rfl, rfl⟩ ?_)
              clear hl a; intro a hl
              refine wl (wl_skipU hl rfl ⟨_, _, rfl, rfl, rfl⟩ ?_)
              clear hl a; intro a hl
              refine wl (wl_skipU hl rfl ⟨_, _, rfl, rfl, rfl⟩ ?_)
              clear hl a; intro a hl
              refine wl (wl_skip hl rfl ⟨_, _, rfl, rfl, rfl⟩ ?_)
              clear hl a; intro a hl
              refine wl (wl_val hl rfl ⟨_, _, rfl, rfl, rfl⟩ (r_pickT hl rfl rfl) ?_)
              clear hl a; intro a hl
              refine wl (wl_val hl rfl trivial (r_pickT hl rfl rfl) ?_)
              clear hl a; intro a hl
              refine w_nil ?_
              first | exact ⟨rfl, true, (fun h9 => by cases h9), hl.addE (t := 3) (hl.addE (t := 5) (hl.addE (t := 6) (hl.addE (t := 7) (hl.addE (t := 9) (hl.addE (t := 34) (hl.addE (t := 35) (hl.addE (t := 36) (hl.addE (t := 56) (hl.nil) rfl (by first | rfl)) rfl (by first | rfl)) rfl (by first | rfl)) rfl (by first | rfl)) rfl (by first | rfl)) rfl (by first | rfl)) rfl (by first | rfl)) rfl (by first | rfl)) rfl (by first | rfl), hh.keep (by repeat (first | exact keeps_nil | apply keeps_cons (by repeat (first | exact find_head | apply find_tail)) (by first  | rfl) | exact keeps_self | exact keeps_left | exact keeps_right | exact keeps_swap | apply keeps_mv))⟩ | exact ⟨rfl, false, (fun _ h8 => by first | exact ⟨by assumption, fun h7 => absurd h7.1 (by assumption)⟩ | (simp_all; done)), hl.addE (t := 3) (hl.addE (t := 5) (hl.addE (t := 6) (hl.addE (t := 7) (hl.addE (t := 9) (hl.addE (t := 34) (hl.addE (t := 35) (hl.addE (t := 36) (hl.addE (t := 56) (hl.nil) rfl (by first | rfl)) rfl (by first | rfl)) rfl (by first | rfl)) rfl (by first | rfl)) rfl (by first | rfl)) rfl (by first | rfl)) rfl (by first | rfl)) rfl (by first | rfl)) rfl (by first | rfl), hh.keep (by repeat (first | exact keeps_nil | apply keeps_cons (by repeat (first | exact find_head | apply find_tail)) (by first  | rfl) | exact keeps_self | exact keeps_left | exact keeps_right | exact keeps_swap | apply keeps_mv))⟩ | exact ⟨rfl, decide (d.A = 0), (fun h9 _ => ⟨by assumption, fun h7 => absurd h7.2 (of_decide_eq_false h9)⟩), hl.addE (t := 3) (hl.addE (t := 5) (hl.addE (t := 6) (hl.addE (t := 7) (hl.addE (t := 9) (hl.addE (t := 34) (hl.addE (t := 35) (hl.addE (t := 36) (hl.addE (t := 56) (hl.nil) rfl (by first | rfl)) rfl (by first | rfl)) rfl (by first | rfl)) rfl (by first | rfl)) rfl (by first | rfl)) rfl (by first | rfl)) rfl (by first | rfl)) rfl (by first | rfl)) rfl (by first | rfl), hh.keep (by repeat (first | exact keeps_nil | apply keeps_cons (by repeat (first | exact find_head | apply find_tail)) (by first  | rfl) | exact keeps_self | exact keeps_left | exact keeps_right | exact keeps_swap | apply keeps_mv))⟩
            · intro hg2; clear hl; intro hl
              try simp only [decide_eq_true_eq, decide_eq_false_iff_not, Bool.not_eq_true', Bool.not_eq_false', Bool.not_eq_true, Bool.not_eq_false, Bool.and_eq_true, Bool.or_eq_true, Bool.and_eq_false_iff, Bool.or_eq_false_iff, Bool.not_not, ne_eq, Int.not_lt, Int.not_le, Decidable.not_not, beq_iff_eq, bne_iff_ne] at hg2
              refine wl (wl_val hl rfl ⟨_, _, rfl, rfl, rfl⟩ (r_field hl rfl fld50_0) ?_)
              clear hl a; intro a hl
              refine wl (w_load hl hh rfl ⟨_, _, rfl, rfl, rfl⟩ one47 rfl (by repeat (first | exact find_head | apply find_tail)) (by first | rfl) ?_)
              clear hl a; intro a hl
              refine wl (wl_val hl rfl ⟨_, _, rfl, rfl, rfl⟩ (r_eql hl rfl rfl) ?_)
              clear hl a; intro a hl
              refine wl (wl_val hl rfl ⟨_, _, rfl, rfl, rfl⟩ (r_move hl rfl) ?_)
              clear hl a; intro a hl
              refine sl_split (t := 50) hl rfl ?_ ?_
              · intro hg3; clear hl; intro hl
                try simp only [decide_eq_true_eq, decide_eq_false_iff_not, Bool.not_eq_true', Bool.not_eq_false', Bool.not_eq_true, Bool.not_eq_false, Bool.and_eq_true, Bool.or_eq_true, Bool.and_eq_false_iff, Bool.or_eq_false_iff, Bool.not_not, ne_eq, Int.not_lt, Int.not_le, Decidable.not_not, beq_iff_eq, bne_iff_ne] at hg3
                refine wl (wl_val hl rfl ⟨_, _, rfl, rfl, rfl⟩ (r_field hl rfl fld50_2) ?_)
                clear hl a; intro a hl
                refine wl (w_load hl hh rfl ⟨_, _, rfl, rfl, rfl⟩ one29 rfl (by repeat (first | exact find_head | apply find_tail)) (by first | rfl) ?_)
                clear hl a; intro a hl
                refine wl (wl_val hl rfl ⟨_, _, rfl, rfl, rfl⟩ (r_eql hl rfl rfl) ?_)
                clear hl a; intro a hl
                refine wl (wl_val hl rfl ⟨_, _, rfl, rfl, rfl⟩ (r_pickT hl rfl rfl) ?_)
                clear hl a; intro a hl
                refine wl (wl_val hl rfl ⟨_, _, rfl, rfl, rfl⟩ (r_pickF hl rfl rfl) ?_)
                clear hl a; intro a hl
                refine wl (wl_val hl rfl trivial (r_pickT hl rfl rfl) ?_)
                clear hl a; intro a hl
                refine w_nil ?_
                first | exact ⟨rfl, true, (fun h9 => by cases h9), hl.addE (t := 3) (hl.addE (t := 5) (hl.addE (t := 6) (hl.addE (t := 7) (hl.addE (t := 9) (hl.addE (t := 34) (hl.addE (t := 35) (hl.addE (t := 36) (hl.addE (t := 56) (hl.nil) rfl (by first | rfl)) rfl (by first | rfl)) rfl (by first | rfl)) rfl (by first | rfl)) rfl (by first | rfl)) rfl (by first | rfl)) rfl (by first | rfl)) rfl (by first | rfl)) rfl (by first | rfl), hh.keep (by repeat (first | exact keeps_nil | apply keeps_cons (by repeat (first | exact find_head | apply find_tail)) (by first  | rfl) | exact keeps_self | exact keeps_left | exact keeps_right | exact keeps_swap | apply keeps_mv))⟩ | exact ⟨rfl, false, (fun _ h8 => by first | exact ⟨by assumption, fun h7 => absurd h7.1 (by assumption)⟩ | (simp_all; done)), hl.addE (t := 3) (hl.addE (t := 5) (hl.addE (t := 6) (hl.addE (t := 7) (hl.addE (t := 9) (hl.addE (t := 34) (hl.addE (t := 35) (hl.addE (t := 36) (hl.addE (t := 56) (hl.nil) rfl (by first | rfl)) rfl (by first | rfl)) rfl (by first | rfl)) rfl (by first | rfl)) rfl (by first | rfl)) rfl (by first | rfl)) rfl (by first | rfl)) rfl (by first | rfl)) rfl (by first | rfl), hh.keep (by repeat (first | exact keeps_nil | apply keeps_cons (by repeat (first | exact find_head | apply find_tail)) (by first  | rfl) | exact keeps_self | exact keeps_left | exact keeps_right | exact keeps_swap | apply keeps_mv))⟩ | exact ⟨rfl, decide (d.A = 0), (fun h9 _ => ⟨by assumption, fun h7 => absurd h7.2 (of_decide_eq_false h9)⟩), hl.addE (t := 3) (hl.addE (t := 5) (hl.addE (t := 6) (hl.addE (t := 7) (hl.addE (t := 9) (hl.addE (t := 34) (hl.addE (t := 35) (hl.addE (t := 36) (hl.addE (t := 56) (hl.nil) rfl (by first | rfl)) rfl (by first | rfl)) rfl (by first | rfl)) rfl (by first | rfl)) rfl (by first | rfl)) rfl (by first | rfl)) rfl (by first | rfl)) rfl (by first | rfl)) rfl (by first | rfl), hh.keep (by repeat (first | exact keeps_nil | apply keeps_cons (by repeat (first | exact find_head | apply find_tail)) (by first  | rfl) | exact keeps_self | exact keeps_left | exact keeps_right | exact keeps_swap | apply keeps_mv))⟩
              · intro hg3; clear hl; intro hl
                try simp only [decide_eq_true_eq, decide_eq_false_iff_not, Bool.not_eq_true', Bool.not_eq_false', Bool.not_eq_true, Bool.not_eq_false, Bool.and_eq_true, Bool.or_eq_true, Bool.and_eq_false_iff, Bool.or_eq_false_iff, Bool.not_not, ne_eq, Int.not_lt, Int.not_le, Decidable.not_not, beq_iff_eq, bne_iff_ne] at hg3
                refine wl (wl_skip hl rfl ⟨_, _, rfl, rfl, rfl⟩ ?_)
                clear hl a; intro a hl
                refine wl (wl_skip hl rfl ⟨_, _, rfl, rfl, rfl⟩ ?_)
                clear hl a; intro a hl
                refine wl (wl_skip hl rfl ⟨_, _, rfl, rfl, rfl⟩ ?_)
                clear hl a; intro a hl
                refine wl (wl_val hl rfl ⟨_, _, rfl, rfl, rfl⟩ (r_pickF hl rfl rfl) ?_)
                clear hl a; intro a hl
                refine wl (wl_val hl rfl ⟨_, _, rfl, rfl, rfl⟩ (r_pickF hl rfl rfl) ?_)
                clear hl a; intro a hl
                refine wl (wl_val hl rfl trivial (r_pickT hl rfl rfl) ?_)
                clear hl a; intro a hl
                refine w_nil ?_
                first | exact ⟨rfl, true, (fun h9 => by cases h9), hl.addE (t := 3) (hl.addE (t := 5) (hl.addE (t := 6) (hl.addE (t := 7) (hl.addE (t := 9) (hl.addE (t := 34) (hl.addE (t := 35) (hl.addE (t := 36) (hl.addE (t := 56) (hl.nil) rfl (by first | rfl)) rfl (by first | rfl)) rfl (by first | rfl)) rfl (by first | rfl)) rfl (by first | rfl)) rfl (by first | rfl)) rfl (by first | rfl)) rfl (by first | rfl)) rfl (by first | rfl), hh.keep (by repeat (first | exact keeps_nil | apply keeps_cons (by repeat (first | exact find_head | apply find_tail)) (by first  | rfl) | exact keeps_self | exact keeps_left | exact keeps_right | exact keeps_swap | apply keeps_mv))⟩ | exact ⟨rfl, false, (fun _ h8 => by first | exact ⟨by assumption, fun h7 => absurd h7.1 (by assumption)⟩ | (simp_all; done)), hl.addE (t := 3) (hl.addE (t := 5) (hl.addE (t := 6) (hl.addE (t := 7) (hl.addE (t := 9) (hl.addE (t := 34) (hl.addE (t := 35) (hl.addE (t := 36) (hl.addE (t := 56) (hl.nil) rfl (by first | rfl)) rfl (by first | rfl)) rfl (by first | rfl)) rfl (by first | rfl)) rfl (by first | rfl)) rfl (by first | rfl)) rfl (by first | rfl)) rfl (by first | rfl)) rfl (by first | rfl), hh.keep (by repeat (first | exact keeps_nil | apply keeps_cons (by repeat (first | exact find_head | apply find_tail)) (by first  | rfl) | exact keeps_self | exact keeps_left | exact keeps_right | exact keeps_swap | apply keeps_mv))⟩ | exact ⟨rfl, decide (d.A = 0), (fun h9 _ => ⟨by assumption, fun h7 => absurd h7.2 (of_decide_eq_false h9)⟩), hl.addE (t := 3) (hl.addE (t := 5) (hl.addE (t := 6) (hl.addE (t := 7) (hl.addE (t := 9) (hl.addE (t := 34) (hl.addE (t := 35) (hl.addE (t := 36) (hl.addE (t := 56) (hl.nil) rfl (by first | rfl)) rfl (by first | rfl)) rfl (by first | rfl)) rfl (by first | rfl)) rfl (by first | rfl)) rfl (by first | rfl)) rfl (by first | rfl)) rfl (by first | rfl)) rfl (by first | rfl), hh.keep (by repeat (first | exact keeps_nil | apply keeps_cons (by repeat (first | exact find_head | apply find_tail)) (by first  | rfl) | exact keeps_self | exact keeps_left | exact keeps_right | exact keeps_swap | apply keeps_mv))⟩
          · intro hg1; clear hl; intro hl
            try simp only [decide_eq_true_eq, decide_eq_false_iff_not, Bool.not_eq_true', Bool.not_eq_false', Bool.not_eq_true, Bool.not_eq_false, Bool.and_eq_true, Bool.or_eq_true, Bool.and_eq_false_iff, Bool.or_eq_false_iff, Bool.not_not, ne_eq, Int.not_lt, Int.not_le, Decidable.not_not, beq_iff_eq, bne_iff_ne] at hg1
            refine wl (wl_skip hl rfl ⟨_, _, rfl, rfl, rfl⟩ ?_)
            clear hl a; intro a hl
            refine wl (wl_skip hl rfl ⟨_, _, rfl, rfl, rfl⟩ ?_)
            clear hl a; intro a hl
            refine wl (wl_skip hl rfl ⟨_, _, rfl, rfl, rfl⟩ ?_)
            clear hl a; intro a hl
            refine wl (wl_skip hl rfl ⟨_, _, rfl, rfl, rfl⟩ ?_)
            clear hl a; intro a hl
            refine wl (wl_skipU hl rfl ⟨_, _, rfl, rfl, rfl⟩ ?_)
            clear hl a; intro a hl
            refine wl (wl_skipU hl rfl ⟨_, _, rfl, rfl, rfl⟩ ?_)
            clear hl a; intro a hl
            refine wl (wl_skipU hl rfl ⟨_, _, rfl, rfl, rfl⟩ ?_)
            clear hl a; intro a hl
            refine wl (wl_skipU hl rfl ⟨_, _, rfl, rfl, rfl⟩ ?_)
            clear hl a; intro a hl
            refine wl (wl_skipU hl rfl ⟨_, _, rfl, rfl, rfl⟩ ?_)
            clear hl a; intro a hl
            refine wl (wl_skipU hl rfl ⟨_, _, rfl, rfl, rfl⟩ ?_)
            clear hl a; intro a hl
            refine wl (wl_skipU hl rfl ⟨_, _, rfl, rfl, rfl⟩ ?_)
            clear hl a; intro a hl
            refine wl (wl_skipU hl rfl ⟨_, _, rfl, rfl, rfl⟩ ?_)
            clear hl a; intro a hl
            refine wl (wl_skip hl rfl ⟨_, _, rfl, rfl, rfl⟩ ?_)
            clear hl a; intro a hl
            refine wl (wl_val hl rfl trivial (r_pickF hl rfl rfl) ?_)
            clear hl a; intro a hl
            refine w_nil ?_
            first | exact ⟨rfl, true, (fun h9 => by cases h9), hl.addE (t := 3) (hl.addE (t := 5) (hl.addE (t := 6) (hl.addE (t := 7) (hl.addE (t := 9) (hl.addE (t := 34) (hl.addE (t := 35) (hl.addE (t := 36) (hl.addE (t := 56) (hl.nil) rfl (by first | rfl)) rfl (by first | rfl)) rfl (by first | rfl)) rfl (by first | rfl)) rfl (by first | rfl)) rfl (by first | rfl)) rfl (by first | rfl)) rfl (by first | rfl)) rfl (by first | rfl), hh.keep (by repeat (first | exact keeps_nil | apply keeps_cons (by repeat (first | exact find_head | apply find_tail)) (by first  | rfl) | exact keeps_self | exact keeps_left | exact keeps_right | exact keeps_swap | apply keeps_mv))⟩ | exact ⟨rfl, false, (fun _ h8 => by first | exact ⟨by assumption, fun h7 => absurd h7.1 (by assumption)⟩ | (simp_all; done)), hl.addE (t := 3) (hl.addE (t := 5) (hl.addE (t := 6) (hl.addE (t := 7) (hl.addE (t := 9) (hl.addE (t := 34) (hl.addE (t := 35) (hl.addE (t := 36) (hl.addE (t := 56) (hl.nil) rfl (by first | rfl)) rfl (by first | rfl)) rfl (by first | rfl)) rfl (by first | rfl)) rfl (by first | rfl)) rfl (by first | rfl)) rfl (by first | rfl)) rfl (by first | rfl)) rfl (by first | rfl), hh.keep (by repeat (first | exact keeps_nil | apply keeps_cons (by repeat (first | exact find_head | apply find_tail)) (by first  | rfl) | exact keeps_self | exact keeps_left | exact keeps_right | exact keeps_swap | apply keeps_mv))⟩ | exact ⟨rfl, decide (d.A = 0), (fun h9 _ => ⟨by assumption, fun h7 => absurd h7.2 (of_decide_eq_false h9)⟩), hl.addE (t := 3) (hl.addE (t := 5) (hl.addE (t := 6) (hl.addE (t := 7) (hl.addE (t := 9) (hl.addE (t := 34) (hl.addE (t := 35) (hl.addE (t := 36) (hl.addE (t := 56) (hl.nil) rfl (by first | rfl)) rfl (by first | rfl)) rfl (by first | rfl)) rfl (by first | rfl)) rfl (by first | rfl)) rfl (by first | rfl)) rfl (by first | rfl)) rfl (by first | rfl)) rfl (by first | rfl), hh.keep (by repeat (first | exact keeps_nil | apply keeps_cons (by repeat (first | exact find_head | apply find_tail)) (by first  | rfl) | exact keeps_self | exact keeps_left | exact keeps_right | exact keeps_swap | apply keeps_mv))⟩
        ·
          clear hl hh a w; intro a w hI
          obtain ⟨b, hb9, hl, hh⟩ := hI
          have hl2 := hl.add (t := 3) (hl.add (t := 5) (hl.add (t := 6) (hl.add (t := 7) (hl.add (t := 9) (hl.add (t := 34) (hl.add (t := 35) (hl.add (t := 36) (hl.add (t := 56) (hl.nil) rfl) rfl) rfl) rfl) rfl) rfl) rfl) rfl) rfl; clear hl; have hl := hl2; clear hl2
          simp only [List.cons_append, List.nil_append] at hh
          refine then_normal ?_
          refine c_cond hl rfl ?_ ?_
          · intro hc2
            try simp only [decide_eq_true_eq, decide_eq_false_iff_not, Bool.not_eq_true', Bool.not_eq_false', Bool.not_eq_true, Bool.not_eq_false, Bool.and_eq_true, Bool.or_eq_true, Bool.and_eq_false_iff, Bool.or_eq_false_iff, Bool.not_not, ne_eq, Int.not_lt, Int.not_le, Decidable.not_not, beq_iff_eq, bne_iff_ne] at hc2
            refine c_seq ?_
            refine c_region ?_
            refine wl (wl_val hl rfl trivial (r_assign hl rfl) ?_)
            clear hl a; intro a hl
            refine w_nil ?_
            have hl2 := hl.add (t := 2) (hl.nil) rfl; clear hl; have hl := hl2; clear hl2
            refine then_normal ?_
            refine wp_ret ?_
            refine then_ret ?_
            refine blk_ret ?_
            refine then_ret ?_
            refine then_ret ?_
            refine blk_ret ?_
            refine then_ret ?_
            refine f_ret1 (F' := []) hl hh rfl rfl (by repeat (first | exact keeps_nil | apply keeps_cons (by repeat (first | exact find_head | apply find_tail)) (by first  | rfl) | exact keeps_self | exact keeps_left | exact keeps_right | exact keeps_swap | apply keeps_mv)) ?_
            exact ⟨rfl, rfl⟩
          · intro hc2
            try simp only [decide_eq_true_eq, decide_eq_false_iff_not, Bool.not_eq_true', Bool.not_eq_false', Bool.not_eq_true, Bool.not_eq_false, Bool.and_eq_true, Bool.or_eq_true, Bool.and_eq_false_iff, Bool.or_eq_false_iff, Bool.not_not, ne_eq, Int.not_lt, Int.not_le, Decidable.not_not, beq_iff_eq, bne_iff_ne] at hc2
            have hb8 := hb9 (by assumption)
            refine wp_skip ?_
            refine then_normal ?_
            refine c_seq ?_
            refine c_region ?_
            refine wl (wl_val hl rfl trivial (r_field hl rfl fld50_2) ?_)
            clear hl a; intro a hl
            refine wl (w_load hl hh rfl trivial one29 rfl (by repeat (first | exact find_head | apply find_tail)) (by first | rfl) ?_)
            clear hl a; intro a hl
            first | refine wl (wl_val hl rfl trivial (r_conv hl rfl Tryz.underlying29 Tryz.underlying21 (by simp only [Fits]; omega)) ?_) | refine wl (wl_val hl rfl trivial (r_convW hl rfl Tryz.underlying29 Tryz.underlying21) ?_)
            clear hl a; intro a hl
            first | refine wl (wl_val hl rfl trivial (r_conv hl rfl Tryz.underlying21 Tryz.underlying2 (by simp only [Fits]; omega)) ?_) | refine wl (wl_val hl rfl trivial (r_convW hl rfl Tryz.underlying21 Tryz.underlying2) ?_)
            clear hl a; intro a hl
            refine wl (wl_val hl rfl trivial (r_assign hl rfl) ?_)
            clear hl a; intro a hl
            refine w_nil ?_
            have hl2 := hl.add (t := 3) (hl.add (t := 5) (hl.add (t := 6) (hl.add (t := 7) (hl.add (t := 9) (hl.add (t := 10) (hl.add (t := 34) (hl.add (t := 35) (hl.add (t := 36) (hl.nil) rfl) rfl) rfl) rfl) rfl) rfl) rfl) rfl) rfl; clear hl; have hl := hl2; clear hl2
            refine then_normal ?_
            refine c_seq ?_
            refine c_seq ?_
            refine c_region ?_
            refine wl (wl_val hl rfl trivial (r_field hl rfl fld50_0) ?_)
            clear hl a; intro a hl
            refine wl (w_load hl hh rfl trivial one47 rfl (by repeat (first | exact find_head | apply find_tail)) (by first | rfl) ?_)
            clear hl a; intro a hl
            refine w_nil ?_
            have hl2 := hl.add (t := 3) (hl.add (t := 5) (hl.add (t := 6) (hl.add (t := 7) (hl.add (t := 9) (hl.add (t := 10) (hl.add (t := 34) (hl.add (t := 35) (hl.add (t := 36) (hl.add (t := 62) (hl.nil) rfl) rfl) rfl) rfl) rfl) rfl) rfl) rfl) rfl) rfl; clear hl; have hl := hl2; clear hl2
            refine then_normal ?_
            refine wp_block ?_
            refine c_seq ?_
            refine c_region ?_
            refine wl (wl_val hl rfl trivial (r_eql hl rfl rfl) ?_)
            clear hl a; intro a hl
            refine wl (wl_val hl rfl trivial (r_assign hl rfl) ?_)
            clear hl a; intro a hl
            refine w_nil ?_
            have hl2 := hl.add (t := 3) (hl.add (t := 5) (hl.add (t := 6) (hl.add (t := 7) (hl.add (t := 9) (hl.add (t := 10) (hl.add (t := 34) (hl.add (t := 35) (hl.add (t := 36) (hl.add (t := 62) (hl.add (t := 63) (hl.nil) rfl) rfl) rfl) rfl) rfl) rfl) rfl) rfl) rfl) rfl) rfl; clear hl; have hl := hl2; clear hl2
            refine then_normal ?_
            refine c_cond hl rfl ?_ ?_
            · intro hc3
              try simp only [decide_eq_true_eq, decide_eq_false_iff_not, Bool.not_eq_true', Bool.not_eq_false', Bool.not_eq_true, Bool.not_eq_false, Bool.and_eq_true, Bool.or_eq_true, Bool.and_eq_false_iff, Bool.or_eq_false_iff, Bool.not_not, ne_eq, Int.not_lt, Int.not_le, Decidable.not_not, beq_iff_eq, bne_iff_ne] at hc3
              refine c_seq ?_
              refine c_region ?_
              refine wl (wl_val hl rfl trivial (r_field hl rfl fld50_1) ?_)
              clear hl a; intro a hl
              first | refine wl (w_loadA hl hh rfl trivial agg33 rfl (by repeat (first | exact find_head | apply find_tail)) (by first | (simp only [List.getElem?_cons_zero, List.getElem?_cons_succ, Value.cells, List.take_zero, List.take_succ_cons, List.take_nil, List.drop_zero, List.drop_succ_cons, List.drop_nil, List.length_cons, List.length_nil, List.cons_append, List.nil_append, List.append_nil, Nat.zero_add, Nat.add_zero, Nat.reduceAdd, Nat.reduceBEq, Nat.reduceEqDiff, Nat.ble, BEq.rfl, Bool.and_true, Bool.and_self, cond_true, beq_self_eq_true]; rfl) | rfl | (simp only [List.getElem?_cons_zero, List.getElem?_cons_succ, Value.cells, List.take_zero, List.take_succ_cons, List.take_nil, List.drop_zero, List.drop_succ_cons, List.drop_nil, List.length_cons, List.length_nil, List.cons_append, List.nil_append, List.append_nil, Nat.zero_add, Nat.add_zero, Nat.reduceAdd, Nat.reduceBEq, Nat.reduceEqDiff, Nat.ble, BEq.rfl, Bool.and_true, Bool.and_self, cond_true, beq_self_eq_true]; rfl)) (by first | rfl | (simp; done)) ?_) | refine wl (w_loadRA hl hh rfl trivial agg33 rfl hm (by simp) hqv rfl ?_) | refine wl (w_loadRA hl hh rfl trivial agg33 rfl hg0 (by simp) rfl rfl ?_)
              clear hl a; intro a hl
              refine wl (w_call hl hh rfl trivial rfl cal5 rfl (new_cm d.cf hdok.cf 137 (.pointer (some ga)) GT gf) (by repeat (first | exact keeps_nil | apply keeps_cons (by repeat (first | exact find_head | apply find_tail)) (by first  | rfl) | exact keeps_self | exact keeps_left | exact keeps_right | exact keeps_swap | apply keeps_mv)) (heap_keep hh hg1) ?_)
              clear hl hh a w; intro vc Fc a w hR hl hh
              rcases hR with ⟨hcv, rfl, rfl⟩ | ⟨hcv, cp2, rfl, hcm2⟩
              ·
                try simp only [List.cons_append, List.nil_append, List.append_nil] at hh
                refine wl (wl_val hl rfl trivial (r_move hl rfl) ?_)
                clear hl a; intro a hl
                refine wl (wl_val hl rfl trivial (r_extract hl rfl (by simp only [List.getElem?_toArray, List.getElem?_cons_zero, List.getElem?_cons_succ]; rfl)) ?_)
                clear hl a; intro a hl
                refine wl (wl_val hl rfl trivial (r_extract hl rfl (by simp only [List.getElem?_toArray, List.getElem?_cons_zero, List.getElem?_cons_succ]; rfl)) ?_)
                clear hl a; intro a hl
                refine wl (wl_val hl rfl trivial (r_assign hl rfl) ?_)
                clear hl a; intro a hl
                refine wl (wl_val hl rfl trivial (r_assign hl rfl) ?_)
                clear hl a; intro a hl
                refine w_nil ?_
                have hl2 := hl.add (t := 3) (hl.add (t := 5) (hl.add (t := 6) (hl.add (t := 7) (hl.add (t := 9) (hl.add (t := 11) (hl.add (t := 12) (hl.add (t := 34) (hl.add (t := 35) (hl.add (t := 36) (hl.nil) rfl) rfl) rfl) rfl) rfl) rfl) rfl) rfl) rfl) rfl; clear hl; have hl := hl2; clear hl2
                refine then_normal ?_
                refine c_seq ?_
                refine c_seq ?_
                refine c_draw [(k9, C [.int .u8 d.kd, .int .u32 d.cf.init, .int .u32 d.cf.maxc, .int .u32 d.cf.bn, .int .u32 d.cf.bd, .int .u32 d.cf.abc, .int .u32 d.cf.dupt, .bool d.cf.idle, .int .u32 d.cf.mss, .int .u32 d.cf.start, .bool d.cf.sack, .int .u32 d.A, .int .u32 d.B, .bool d.dup, .int .u8 d.gr, .slice d.p d.dat.length d.cap] 50), (1, .cells ⟨[.iface 137 (.pointer (some ga))]⟩ GT gf)] [] mixed hh ?_
                clear hh w; intro w hh
                have hM : Mem [(k9, C [.int .u8 d.kd, .int .u32 d.cf.init, .int .u32 d.cf.maxc, .int .u32 d.cf.bn, .int .u32 d.cf.bd, .int .u32 d.cf.abc, .int .u32 d.cf.dupt, .bool d.cf.idle, .int .u32 d.cf.mss, .int .u32 d.cf.start, .bool d.cf.sack, .int .u32 d.A, .int .u32 d.B, .bool d.dup, .int .u8 d.gr, .slice d.p d.dat.length d.cap] 50), (1, .cells ⟨[.iface 137 (.pointer (some ga))]⟩ GT gf)] w := (by (repeat (first | exact Mem.nil | refine Mem.consR hh (by assumption) (by simp) ?_ | refine Mem.cons hh.mem (by (repeat (first | exact find_head | apply find_tail)); done) ?_ | fail)); done)
                refine d_take (i := 0) hl rfl (by kernel_rfl) (by kernel_rfl) (by kernel_rfl) (by kernel_rfl) (by kernel_rfl) rfl trivial (fun _ _ _ h => h) hM (fun w hC => r_move hl rfl) rfl ?_
                clear hl a; intro a hl
                first | refine d_take (i := 1) hl rfl (by kernel_rfl) (by kernel_rfl) (by kernel_rfl) (by kernel_rfl) (by kernel_rfl) rfl trivial (fun _ _ _ h => h) hM (fun w hC => r_eql_ifcN hl rfl ifc26) rfl ?_ | refine d_take (i := 1) hl rfl (by kernel_rfl) (by kernel_rfl) (by kernel_rfl) (by kernel_rfl) (by kernel_rfl) rfl trivial (fun _ _ _ h => h) hM (fun w hC => r_eql_ifcS hl rfl ifc26) rfl ?_
                clear hl a; intro a hl
                refine d_take (i := 2) hl rfl (by kernel_rfl) (by kernel_rfl) (by kernel_rfl) (by kernel_rfl) (by kernel_rfl) rfl trivial (fun _ _ _ h => h) hM (fun w hC => r_field hl rfl fld50_1) rfl ?_
                clear hl a; intro a hl
                refine d_take (i := 3) hl rfl (by kernel_rfl) (by kernel_rfl) (by kernel_rfl) (by kernel_rfl) (by kernel_rfl) rfl trivial (fun _ _ _ h => h) hM (fun w hC => r_loadCA hl rfl agg33 hC (by repeat (first | exact find_head | apply find_tail)) (by first | (simp only [List.getElem?_cons_zero, List.getElem?_cons_succ, Value.cells, List.take_zero, List.take_succ_cons, List.take_nil, List.drop_zero, List.drop_succ_cons, List.drop_nil, List.length_cons, List.length_nil, List.cons_append, List.nil_append, List.append_nil, Nat.zero_add, Nat.add_zero, Nat.reduceAdd, Nat.reduceBEq, Nat.reduceEqDiff, Nat.ble, BEq.rfl, Bool.and_true, Bool.and_self, cond_true, beq_self_eq_true]; rfl) | rfl | (simp only [List.getElem?_cons_zero, List.getElem?_cons_succ, Value.cells, List.take_zero, List.take_succ_cons, List.take_nil, List.drop_zero, List.drop_succ_cons, List.drop_nil, List.length_cons, List.length_nil, List.cons_append, List.nil_append, List.append_nil, Nat.zero_add, Nat.add_zero, Nat.reduceAdd, Nat.reduceBEq, Nat.reduceEqDiff, Nat.ble, BEq.rfl, Bool.and_true, Bool.and_self, cond_true, beq_self_eq_true]; rfl)) (by first | rfl | (simp; done))) rfl ?_
                clear hl a; intro a hl
                refine d_one (i := 4) (by kernel_rfl) rfl ?_
                try clear hM
                refine id (w_call hl hh rfl trivial rfl cal15 rfl (valid_m d.cf hdok.cf) (by repeat (first | exact keeps_nil | apply keeps_cons (by repeat (first | exact find_head | apply find_tail)) (by first  | rfl) | exact keeps_self | exact keeps_left | exact keeps_right | exact keeps_swap | apply keeps_mv)) trivial ?_)
                clear hl hh a w; intro vc Fc a w hR hl hh
                obtain ⟨⟨tt, rfl, htt⟩, rfl⟩ := hR
                try simp only [List.cons_append, List.nil_append] at hh
                simp only [hcv, iff_true, iff_false, Bool.not_eq_true] at htt
                subst htt
                have hM : Mem [(k9, C [.int .u8 d.kd, .int .u32 d.cf.init, .int .u32 d.cf.maxc, .int .u32 d.cf.bn, .int .u32 d.cf.bd, .int .u32 d.cf.abc, .int .u32 d.cf.dupt, .bool d.cf.idle, .int .u32 d.cf.mss, .int .u32 d.cf.start, .bool d.cf.sack, .int .u32 d.A, .int .u32 d.B, .bool d.dup, .int .u8 d.gr, .slice d.p d.dat.length d.cap] 50), (1, .cells ⟨[.iface 137 (.pointer (some ga))]⟩ GT gf)] w := (by (repeat (first | exact Mem.nil | refine Mem.consR hh (by assumption) (by simp) ?_ | refine Mem.cons hh.mem (by (repeat (first | exact find_head | apply find_tail)); done) ?_ | fail)); done)
                refine d_step (fun _ => hM) ?_
                refine d_take (i := 5) hl rfl (by kernel_rfl) (by kernel_rfl) (by kernel_rfl) (by kernel_rfl) (by kernel_rfl) rfl trivial (fun _ _ _ h => h) hM (fun w hC => r_neq_bool hl rfl rfl Tryz.underlying4) rfl ?_
                clear hl a; intro a hl
                refine d_take (i := 6) hl rfl (by kernel_rfl) (by kernel_rfl) (by kernel_rfl) (by kernel_rfl) (by kernel_rfl) rfl trivial (fun _ _ _ h => h) hM (fun w hC => r_move hl rfl) rfl ?_
                clear hl a; intro a hl
                refine d_take (i := 7) hl rfl (by kernel_rfl) (by kernel_rfl) (by kernel_rfl) (by kernel_rfl) (by kernel_rfl) rfl ⟨_, _, rfl, rfl, rfl⟩ (fun _ _ _ h => h) hM (fun w hC => r_move hl rfl) rfl ?_
                clear hl a; intro a hl
                first | refine d_take (i := 8) hl rfl (by kernel_rfl) (by kernel_rfl) (by kernel_rfl) (by kernel_rfl) (by kernel_rfl) rfl ⟨_, _, rfl, rfl, rfl⟩ (fun _ _ _ h => h) hM (fun w hC => r_neq_ifcN hl rfl ifc26) rfl ?_ | refine d_take (i := 8) hl rfl (by kernel_rfl) (by kernel_rfl) (by kernel_rfl) (by kernel_rfl) (by kernel_rfl) rfl ⟨_, _, rfl, rfl, rfl⟩ (fun _ _ _ h => h) hM (fun w hC => r_neq_ifcS hl rfl ifc26) rfl ?_
                clear hl a; intro a hl
                refine d_take (i := 9) hl rfl (by kernel_rfl) (by kernel_rfl) (by kernel_rfl) (by kernel_rfl) (by kernel_rfl) rfl ⟨_, _, rfl, rfl, rfl⟩ (fun _ _ _ h => h) hM (fun w hC => r_move hl rfl) rfl ?_
                clear hl a; intro a hl
                refine d_take (i := 10) hl rfl (by kernel_rfl) (by kernel_rfl) (by kernel_rfl) (by kernel_rfl) (by kernel_rfl) rfl ⟨_, _, rfl, rfl, rfl⟩ (fun _ _ _ h => h) hM (fun w hC => r_move hl rfl) rfl ?_
                clear hl a; intro a hl
                refine d_take (i := 11) hl rfl (by kernel_rfl) (by kernel_rfl) (by kernel_rfl) (by kernel_rfl) (by kernel_rfl) rfl ⟨_, _, rfl, rfl, rfl⟩ (fun _ _ _ h => h) hM (fun w hC => r_loadCG hl rfl one26 hC (by repeat (first | exact find_head | apply find_tail)) (by rfl)) rfl ?_
                clear hl a; intro a hl
                refine d_take (i := 12) hl rfl (by kernel_rfl) (by kernel_rfl) (by kernel_rfl) (by kernel_rfl) (by kernel_rfl) rfl ⟨_, _, rfl, rfl, rfl⟩ (fun _ _ _ h => h) hM (fun w hC => r_neq_ifcP hl rfl rfl ifc26 ptrc137) rfl ?_
                clear hl a; intro a hl
                refine d_take (i := 13) hl rfl (by kernel_rfl) (by kernel_rfl) (by kernel_rfl) (by kernel_rfl) (by kernel_rfl) rfl ⟨_, _, rfl, rfl, rfl⟩ (fun _ _ _ h => h) hM (fun w hC => r_move hl rfl) rfl ?_
                clear hl a; intro a hl
                refine d_take (i := 14) hl rfl (by kernel_rfl) (by kernel_rfl) (by kernel_rfl) (by kernel_rfl) (by kernel_rfl) rfl ⟨_, _, rfl, rfl, rfl⟩ (fun _ _ _ h => h) hM (fun w hC => r_move hl rfl) rfl ?_
                clear hl a; intro a hl
                refine d_take (i := 15) hl rfl (by kernel_rfl) (by kernel_rfl) (by kernel_rfl) (by kernel_rfl) (by kernel_rfl) rfl ⟨_, _, rfl, rfl, rfl⟩ (fun _ _ _ h => h) hM (fun w hC => r_neq_pointer hl rfl rfl ptr24) rfl ?_
                clear hl a; intro a hl
                refine d_take (i := 16) hl rfl (by kernel_rfl) (by kernel_rfl) (by kernel_rfl) (by kernel_rfl) (by kernel_rfl) rfl ⟨_, _, rfl, rfl, rfl⟩ (fun _ _ _ h => h) hM (fun w hC => r_pickF hl rfl rfl) rfl ?_
                clear hl a; intro a hl
                refine d_take (i := 17) hl rfl (by kernel_rfl) (by kernel_rfl) (by kernel_rfl) (by kernel_rfl) (by kernel_rfl) rfl ⟨_, _, rfl, rfl, rfl⟩ (fun _ _ _ h => h) hM (fun w hC => r_pickT hl rfl rfl) rfl ?_
                clear hl a; intro a hl
                refine d_take (i := 18) hl rfl (by kernel_rfl) (by kernel_rfl) (by kernel_rfl) (by kernel_rfl) (by kernel_rfl) rfl trivial (fun _ _ _ h => h) hM (fun w hC => r_pickF hl rfl rfl) rfl ?_
                clear hl a; intro a hl
                refine d_done (by kernel_rfl) ?_
                try clear hM
                have hl2 := hl.add (t := 3) (hl.add (t := 5) (hl.add (t := 6) (hl.add (t := 7) (hl.add (t := 9) (hl.add (t := 11) (hl.add (t := 12) (hl.add (t := 34) (hl.add (t := 35) (hl.add (t := 36) (hl.add (t := 89) (hl.nil) rfl) rfl) rfl) rfl) rfl) rfl) rfl) rfl) rfl) rfl) rfl; clear hl; have hl := hl2; clear hl2
                refine then_normal ?_
                refine c_condF hl rfl ?_
                refine wp_skip ?_
                refine then_normal ?_
                refine c_seq ?_
                refine c_region ?_
                refine wl (wl_val hl rfl trivial (r_move hl rfl) ?_)
                clear hl a; intro a hl
                first | refine wl (wl_val hl rfl trivial (r_eql_ifcN hl rfl ifc26) ?_) | refine wl (wl_val hl rfl trivial (r_eql_ifcS hl rfl ifc26) ?_)
                clear hl a; intro a hl
                refine w_nil ?_
                have hl2 := hl.add (t := 3) (hl.add (t := 5) (hl.add (t := 6) (hl.add (t := 7) (hl.add (t := 9) (hl.add (t := 11) (hl.add (t := 34) (hl.add (t := 35) (hl.add (t := 36) (hl.add (t := 91) (hl.nil) rfl) rfl) rfl) rfl) rfl) rfl) rfl) rfl) rfl) rfl; clear hl; have hl := hl2; clear hl2
                refine then_normal ?_
                refine c_condF hl rfl ?_
                have hfin : ∃ t9 m9 st9 cp9 mp9 Z9, PI (((z.i + 1 : Nat) : Int) * 137438953472) ((z.i + 1 : Nat) : Int) t9 m9 st9 ∧ PW Z9 cp9 mp9 t9 m9 st9 t9.cfg.sack t9.os ∧ Has [] w0 ((k9, C [.int .u8 d.kd, .int .u32 d.cf.init, .int .u32 d.cf.maxc, .int .u32 d.cf.bn, .int .u32 d.cf.bd, .int .u32 d.cf.abc, .int .u32 d.cf.dupt, .bool d.cf.idle, .int .u32 d.cf.mss, .int .u32 d.cf.start, .bool d.cf.sack, .int .u32 d.A, .int .u32 d.B, .bool d.dup, .int .u8 d.gr, .slice d.p d.dat.length d.cap] 50) :: (k3, C [.pointer (some ⟨cp9, 0, none⟩)] 24) :: (k5, C [.pointer (some ⟨mp9, 0, none⟩)] 34) :: Z9) w := ⟨z.t, z.m, z.st, z.cp, z.mp, z.Z, (hpiz.mono (by omega) (by omega)), hpwz, (hh.keep (by repeat (first | exact keeps_nil | apply keeps_cons (by repeat (first | exact find_head | apply find_tail)) (by first  | rfl) | exact keeps_self | exact keeps_left | exact keeps_right | exact keeps_swap | apply keeps_mv)))⟩
                clear hh
                obtain ⟨t9, m9, st9, cp9, mp9, Z9, hpi9, hpw9, hh⟩ := hfin
                have hfl9 := hpi9.si.fl; have pf9 := flightP_U t9.s; have hpu9 := pipeP_U hpi9.si.ok t9.ns t9.bl; have hdu9 := hpi9.si.ok.dups; have pp9 := hpi9.si.ok.phase; have oc9 := hpi9.si.ok.cwnd; have os9 := hpi9.si.ok.ssth; have om9 := hpi9.si.ok.maxc; have oms9 := hpi9.si.ok.mss
                refine wp_skip ?_
                refine blk_normal ?_
                refine then_normal ?_
                refine c_seq ?_
                refine c_seq ?_
                refine c_region ?_
                refine wl (wl_val hl rfl trivial (r_move hl rfl) ?_)
                clear hl a; intro a hl
                refine wl (w_call hl hh rfl trivial rfl cal7 rfl (far_pm hpw9 hpi9.hm k5) (by repeat (first | exact keeps_nil | apply keeps_cons (by repeat (first | exact find_head | apply find_tail)) (by first  | rfl) | exact keeps_self | exact keeps_left | exact keeps_right | exact keeps_swap | apply keeps_mv)) ⟨(hh.mem _ _ (Find.mem (by repeat (first | exact find_head | apply find_tail)))), (fun b o m => hh.mem b o (by (repeat (first | exact m | apply List.mem_cons_of_mem)); done))⟩ ?_)
                clear hl hh a w; intro vc Fc a w hR hl hh
                obtain ⟨rfl, rfl⟩ := hR
                try simp only [List.cons_append, List.nil_append] at hh
                refine w_nil ?_
                have hl2 := hl.add (t := 3) (hl.add (t := 5) (hl.add (t := 6) (hl.add (t := 7) (hl.add (t := 9) (hl.add (t := 34) (hl.add (t := 35) (hl.add (t := 36) (hl.add (t := 202) (hl.nil) rfl) rfl) rfl) rfl) rfl) rfl) rfl) rfl) rfl; clear hl; have hl := hl2; clear hl2
                refine then_normal ?_
                refine c_cond hl rfl ?_ ?_
                · intro hc15
                  try simp only [decide_eq_true_eq, decide_eq_false_iff_not, Bool.not_eq_true', Bool.not_eq_false', Bool.not_eq_true, Bool.not_eq_false, Bool.and_eq_true, Bool.or_eq_true, Bool.and_eq_false_iff, Bool.or_eq_false_iff, Bool.not_not, ne_eq, Int.not_lt, Int.not_le, Decidable.not_not, beq_iff_eq, bne_iff_ne] at hc15
                  refine wp_exit ?_
                  refine then_exit ?_
                  refine blk_exit ?_
                  refine then_normal ?_
                  refine c_region ?_
                  first | refine wl (wl_val hl rfl trivial (r_add hl rfl rfl (by simp only [Fits]; omega)) ?_) | refine wl (wl_val hl rfl trivial (r_addW hl rfl rfl) ?_)
                  clear hl a; intro a hl
                  refine wl (wl_val hl rfl trivial (r_move hl rfl) ?_)
                  clear hl a; intro a hl
                  refine w_nil ?_
                  have hl2 := hl.add (t := 3) (hl.add (t := 5) (hl.add (t := 6) (hl.add (t := 7) (hl.add (t := 34) (hl.add (t := 35) (hl.add (t := 36) (hl.nil) rfl) rfl) rfl) rfl) rfl) rfl) rfl; clear hl; have hl := hl2; clear hl2
                  refine then_normal ?_
                  refine ⟨⟨t9, m9, st9, cp9, mp9, Z9, z.i + 1⟩, (by simp only; omega), ⟨⟨hpi9, hpw9⟩, by simp only; omega⟩, hl.addE (t := 36) (hl.addE (t := 3) (hl.addE (t := 5) (hl.addE (t := 6) (hl.addE (t := 7) (hl.addE (t := 34) (hl.addE (t := 35) (hl.nil) rfl (by first | rfl | exact congrArg (Value.int .i64) (i_succ z.i))) rfl (by first | rfl | exact congrArg (Value.int .i64) (i_succ z.i))) rfl (by first | rfl | exact congrArg (Value.int .i64) (i_succ z.i))) rfl (by first | rfl | exact congrArg (Value.int .i64) (i_succ z.i))) rfl (by first | rfl | exact congrArg (Value.int .i64) (i_succ z.i))) rfl (by first | rfl | exact congrArg (Value.int .i64) (i_succ z.i))) rfl (by first | rfl | exact congrArg (Value.int .i64) (i_succ z.i)), hh.keep (by repeat (first | exact keeps_nil | apply keeps_cons (by repeat (first | exact find_head | apply find_tail)) (by first  | rfl) | exact keeps_self | exact keeps_left | exact keeps_right | exact keeps_swap | apply keeps_mv))⟩
                · intro hc15
                  try simp only [decide_eq_true_eq, decide_eq_false_iff_not, Bool.not_eq_true', Bool.not_eq_false', Bool.not_eq_true, Bool.not_eq_false, Bool.and_eq_true, Bool.or_eq_true, Bool.and_eq_false_iff, Bool.or_eq_false_iff, Bool.not_not, ne_eq, Int.not_lt, Int.not_le, Decidable.not_not, beq_iff_eq, bne_iff_ne] at hc15
                  refine wp_skip ?_
                  refine then_normal ?_
                  refine c_seq ?_
                  refine c_seq ?_
                  refine c_draw [(k3, C [.pointer (some ⟨cp9, 0, none⟩)] 24), (k5, C [.pointer (some ⟨mp9, 0, none⟩)] 34)] [] mixed hh ?_
                  clear hh w; intro w hh
                  have hM : Mem [(k3, C [.pointer (some ⟨cp9, 0, none⟩)] 24), (k5, C [.pointer (some ⟨mp9, 0, none⟩)] 34)] w := (by (repeat (first | exact Mem.nil | refine Mem.consR hh (by assumption) (by simp) ?_ | refine Mem.cons hh.mem (by (repeat (first | exact find_head | apply find_tail)); done) ?_ | fail)); done)
                  refine d_take (i := 0) hl rfl (by kernel_rfl) (by kernel_rfl) (by kernel_rfl) (by kernel_rfl) (by kernel_rfl) rfl trivial (fun _ _ _ h => h) hM (fun w hC => r_loadC hl rfl one24 hC (by repeat (first | exact find_head | apply find_tail)) (by first | rfl)) rfl ?_
                  clear hl a; intro a hl
                  refine d_take (i := 2) hl rfl (by kernel_rfl) (by kernel_rfl) (by kernel_rfl) (by kernel_rfl) (by kernel_rfl) rfl trivial (fun _ _ _ h => h) hM (fun w hC => r_loadC hl rfl one34 hC (by repeat (first | exact find_head | apply find_tail)) (by first | rfl)) rfl ?_
                  clear hl a; intro a hl
                  refine d_one (i := 1) (by kernel_rfl) rfl ?_
                  try clear hM
                  refine id (w_call hl hh rfl trivial rfl cal26 rfl (view_pc hpw9 hpi9.si) (by repeat (first | exact keeps_nil | apply keeps_cons (by repeat (first | exact find_head | apply find_tail)) (by first  | rfl) | exact keeps_self | exact keeps_left | exact keeps_right | exact keeps_swap | apply keeps_mv)) (fun b o m => hh.mem b o (by (repeat (first | exact m | apply List.mem_cons_of_mem)); done)) ?_)
                  clear hl hh a w; intro vc Fc a w hR hl hh
                  obtain ⟨rfl, rfl⟩ := hR
                  try simp only [List.cons_append, List.nil_append] at hh
                  simp only [vwc, viewP] at hl
                  have hM : Mem [(k3, C [.pointer (some ⟨cp9, 0, none⟩)] 24), (k5, C [.pointer (some ⟨mp9, 0, none⟩)] 34)] w := (by (repeat (first | exact Mem.nil | refine Mem.consR hh (by assumption) (by simp) ?_ | refine Mem.cons hh.mem (by (repeat (first | exact find_head | apply find_tail)); done) ?_ | fail)); done)
                  refine d_step (fun _ => hM) ?_
                  refine d_one (i := 3) (by kernel_rfl) rfl ?_
                  try clear hM
                  refine id (w_call hl hh rfl trivial rfl cal27 rfl (view_pm hpw9 hpi9 (by omega) (by assumption)) (by repeat (first | exact keeps_nil | apply keeps_cons (by repeat (first | exact find_head | apply find_tail)) (by first  | rfl) | exact keeps_self | exact keeps_left | exact keeps_right | exact keeps_swap | apply keeps_mv)) (fun b o m => hh.mem b o (by (repeat (first | exact m | apply List.mem_cons_of_mem)); done)) ?_)
                  clear hl hh a w; intro vc Fc a w hR hl hh
                  obtain ⟨rfl, rfl⟩ := hR
                  try simp only [List.cons_append, List.nil_append] at hh
                  simp only [vwc, viewP] at hl
                  have hM : Mem [(k3, C [.pointer (some ⟨cp9, 0, none⟩)] 24), (k5, C [.pointer (some ⟨mp9, 0, none⟩)] 34)] w := (by (repeat (first | exact Mem.nil | refine Mem.consR hh (by assumption) (by simp) ?_ | refine Mem.cons hh.mem (by (repeat (first | exact find_head | apply find_tail)); done) ?_ | fail)); done)
                  refine d_step (fun _ => hM) ?_
                  refine d_take (i := 4) hl rfl (by kernel_rfl) (by kernel_rfl) (by kernel_rfl) (by kernel_rfl) (by kernel_rfl) rfl trivial (fun _ _ _ h => h) hM (fun w hC => r_neqA hl rfl rfl eqf61 shp61 (by simp only [unlitL, unlit]; rfl) (by simp only [unlitL, unlit]; rfl) (by first | exact ⟨trivial⟩ | (refine ⟨?_⟩; simp [LitsOk, litOk, Fits]; done) | (refine ⟨?_⟩; simp [LitsOk, litOk, Fits]; omega)) (by first | exact ⟨trivial⟩ | (refine ⟨?_⟩; simp [LitsOk, litOk, Fits]; done) | (refine ⟨?_⟩; simp [LitsOk, litOk, Fits]; omega))) rfl ?_
                  clear hl a; intro a hl
                  simp only [eqLits, litBeq, beq_self_eq_true, Bool.and_self, Bool.and_true, Bool.not_true, decide_true] at hl
                  refine d_take (i := 5) hl rfl (by kernel_rfl) (by kernel_rfl) (by kernel_rfl) (by kernel_rfl) (by kernel_rfl) rfl trivial (fun _ _ _ h => h) hM (fun w hC => r_move hl rfl) rfl ?_
                  clear hl a; intro a hl
                  refine d_take (i := 6) hl rfl (by kernel_rfl) (by kernel_rfl) (by kernel_rfl) (by kernel_rfl) (by kernel_rfl) rfl ⟨_, _, rfl, rfl, rfl⟩ (fun _ _ _ h => h) hM (fun w hC => r_loadC hl rfl one24 hC (by repeat (first | exact find_head | apply find_tail)) (by first | rfl)) rfl ?_
                  clear hl a; intro a hl
                  refine d_take (i := 8) hl rfl (by kernel_rfl) (by kernel_rfl) (by kernel_rfl) (by kernel_rfl) (by kernel_rfl) rfl ⟨_, _, rfl, rfl, rfl⟩ (fun _ _ _ h => h) hM (fun w hC => r_loadC hl rfl one34 hC (by repeat (first | exact find_head | apply find_tail)) (by first | rfl)) rfl ?_
                  clear hl a; intro a hl
                  refine d_take (i := 9) hl rfl (by kernel_rfl) (by kernel_rfl) (by kernel_rfl) (by kernel_rfl) (by kernel_rfl) rfl ⟨_, _, rfl, rfl, rfl⟩ (fun _ _ _ h => h) hM (fun w hC => r_loadC hl rfl one34 hC (by repeat (first | exact find_head | apply find_tail)) (by first | rfl)) rfl ?_
                  clear hl a; intro a hl
                  refine d_one (i := 7) (by kernel_rfl) rfl ?_
                  try clear hM
                  refine id (w_call hl hh rfl ⟨_, _, rfl, rfl, rfl⟩ rfl cal18 rfl (una_pc hpw9) (by repeat (first | exact keeps_nil | apply keeps_cons (by repeat (first | exact find_head | apply find_tail)) (by first  | rfl) | exact keeps_self | exact keeps_left | exact keeps_right | exact keeps_swap | apply keeps_mv)) (fun b o m => hh.mem b o (by (repeat (first | exact m | apply List.mem_cons_of_mem)); done)) ?_)
                  clear hl hh a w; intro vc Fc a w hR hl hh
                  obtain ⟨rfl, rfl⟩ := hR
                  try simp only [List.cons_append, List.nil_append] at hh
                  have hM : Mem [(k3, C [.pointer (some ⟨cp9, 0, none⟩)] 24), (k5, C [.pointer (some ⟨mp9, 0, none⟩)] 34)] w := (by (repeat (first | exact Mem.nil | refine Mem.consR hh (by assumption) (by simp) ?_ | refine Mem.cons hh.mem (by (repeat (first | exact find_head | apply find_tail)); done) ?_ | fail)); done)
                  refine d_step (fun _ => hM) ?_
                  refine d_one (i := 10) (by kernel_rfl) rfl ?_
                  try clear hM
                  refine id (w_call hl hh rfl ⟨_, _, rfl, rfl, rfl⟩ rfl cal10 rfl (una_pm hpw9 hpi9.hm) (by repeat (first | exact keeps_nil | apply keeps_cons (by repeat (first | exact find_head | apply find_tail)) (by first  | rfl) | exact keeps_self | exact keeps_left | exact keeps_right | exact keeps_swap | apply keeps_mv)) (fun b o m => hh.mem b o (by (repeat (first | exact m | apply List.mem_cons_of_mem)); done)) ?_)
                  clear hl hh a w; intro vc Fc a w hR hl hh
                  obtain ⟨rfl, rfl⟩ := hR
                  try simp only [List.cons_append, List.nil_append] at hh
                  have hM : Mem [(k3, C [.pointer (some ⟨cp9, 0, none⟩)] 24), (k5, C [.pointer (some ⟨mp9, 0, none⟩)] 34)] w := (by (repeat (first | exact Mem.nil | refine Mem.consR hh (by assumption) (by simp) ?_ | refine Mem.cons hh.mem (by (repeat (first | exact find_head | apply find_tail)); done) ?_ | fail)); done)
                  refine d_step (fun _ => hM) ?_
                  refine d_one (i := 11) (by kernel_rfl) rfl ?_
                  try clear hM
                  refine id (w_call hl hh rfl ⟨_, _, rfl, rfl, rfl⟩ rfl cal14 rfl (seq_pm hpw9 hpi9.hm m9.una) (by repeat (first | exact keeps_nil | apply keeps_cons (by repeat (first | exact find_head | apply find_tail)) (by first  | rfl) | exact keeps_self | exact keeps_left | exact keeps_right | exact keeps_swap | apply keeps_mv)) (fun b o m => hh.mem b o (by (repeat (first | exact m | apply List.mem_cons_of_mem)); done)) ?_)
                  clear hl hh a w; intro vc Fc a w hR hl hh
                  obtain ⟨rfl, rfl⟩ := hR
                  try simp only [List.cons_append, List.nil_append] at hh
                  rw [← hpi9.rel.una] at hl
                  have hM : Mem [(k3, C [.pointer (some ⟨cp9, 0, none⟩)] 24), (k5, C [.pointer (some ⟨mp9, 0, none⟩)] 34)] w := (by (repeat (first | exact Mem.nil | refine Mem.consR hh (by assumption) (by simp) ?_ | refine Mem.cons hh.mem (by (repeat (first | exact find_head | apply find_tail)); done) ?_ | fail)); done)
                  refine d_step (fun _ => hM) ?_
                  refine d_take (i := 12) hl rfl (by kernel_rfl) (by kernel_rfl) (by kernel_rfl) (by kernel_rfl) (by kernel_rfl) rfl ⟨_, _, rfl, rfl, rfl⟩ (fun _ _ _ h => h) hM (fun w hC => r_neq hl rfl rfl) rfl ?_
                  clear hl a; intro a hl
                  try simp only [ne_eq, not_true_eq_false, decide_false, decide_true, decide_not, Bool.not_true, beq_self_eq_true, bne_self_eq_false] at hl
                  refine d_take (i := 13) hl rfl (by kernel_rfl) (by kernel_rfl) (by kernel_rfl) (by kernel_rfl) (by kernel_rfl) rfl trivial (fun _ _ _ h => h) hM (fun w hC => r_pickF hl rfl rfl) rfl ?_
                  clear hl a; intro a hl
                  refine d_take (i := 14) hl rfl (by kernel_rfl) (by kernel_rfl) (by kernel_rfl) (by kernel_rfl) (by kernel_rfl) rfl trivial (fun _ _ _ h => h) hM (fun w hC => r_move hl rfl) rfl ?_
                  clear hl a; intro a hl
                  refine d_take (i := 15) hl rfl (by kernel_rfl) (by kernel_rfl) (by kernel_rfl) (by kernel_rfl) (by kernel_rfl) rfl ⟨_, _, rfl, rfl, rfl⟩ (fun _ _ _ h => h) hM (fun w hC => r_loadC hl rfl one24 hC (by repeat (first | exact find_head | apply find_tail)) (by first | rfl)) rfl ?_
                  clear hl a; intro a hl
                  refine d_take (i := 17) hl rfl (by kernel_rfl) (by kernel_rfl) (by kernel_rfl) (by kernel_rfl) (by kernel_rfl) rfl ⟨_, _, rfl, rfl, rfl⟩ (fun _ _ _ h => h) hM (fun w hC => r_loadC hl rfl one34 hC (by repeat (first | exact find_head | apply find_tail)) (by first | rfl)) rfl ?_
                  clear hl a; intro a hl
                  refine d_take (i := 18) hl rfl (by kernel_rfl) (by kernel_rfl) (by kernel_rfl) (by kernel_rfl) (by kernel_rfl) rfl ⟨_, _, rfl, rfl, rfl⟩ (fun _ _ _ h => h) hM (fun w hC => r_loadC hl rfl one34 hC (by repeat (first | exact find_head | apply find_tail)) (by first | rfl)) rfl ?_
                  clear hl a; intro a hl
                  refine d_one (i := 16) (by kernel_rfl) rfl ?_
                  try clear hM
                  refine id (w_call hl hh rfl ⟨_, _, rfl, rfl, rfl⟩ rfl cal28 rfl (nxt_pc hpw9) (by repeat (first | exact keeps_nil | apply keeps_cons (by repeat (first | exact find_head | apply find_tail)) (by first  | rfl) | exact keeps_self | exact keeps_left | exact keeps_right | exact keeps_swap | apply keeps_mv)) (fun b o m => hh.mem b o (by (repeat (first | exact m | apply List.mem_cons_of_mem)); done)) ?_)
                  clear hl hh a w; intro vc Fc a w hR hl hh
                  obtain ⟨rfl, rfl⟩ := hR
                  try simp only [List.cons_append, List.nil_append] at hh
                  have hM : Mem [(k3, C [.pointer (some ⟨cp9, 0, none⟩)] 24), (k5, C [.pointer (some ⟨mp9, 0, none⟩)] 34)] w := (by (repeat (first | exact Mem.nil | refine Mem.consR hh (by assumption) (by simp) ?_ | refine Mem.cons hh.mem (by (repeat (first | exact find_head | apply find_tail)); done) ?_ | fail)); done)
                  refine d_step (fun _ => hM) ?_
                  refine d_one (i := 19) (by kernel_rfl) rfl ?_
                  try clear hM
                  refine id (w_call hl hh rfl ⟨_, _, rfl, rfl, rfl⟩ rfl cal9 rfl (nxt_pm hpw9 hpi9.hm) (by repeat (first | exact keeps_nil | apply keeps_cons (by repeat (first | exact find_head | apply find_tail)) (by first  | rfl) | exact keeps_self | exact keeps_left | exact keeps_right | exact keeps_swap | apply keeps_mv)) (fun b o m => hh.mem b o (by (repeat (first | exact m | apply List.mem_cons_of_mem)); done)) ?_)
                  clear hl hh a w; intro vc Fc a w hR hl hh
                  obtain ⟨rfl, rfl⟩ := hR
                  try simp only [List.cons_append, List.nil_append] at hh
                  have hM : Mem [(k3, C [.pointer (some ⟨cp9, 0, none⟩)] 24), (k5, C [.pointer (some ⟨mp9, 0, none⟩)] 34)] w := (by (repeat (first | exact Mem.nil | refine Mem.consR hh (by assumption) (by simp) ?_ | refine Mem.cons hh.mem (by (repeat (first | exact find_head | apply find_tail)); done) ?_ | fail)); done)
                  refine d_step (fun _ => hM) ?_
                  refine d_one (i := 20) (by kernel_rfl) rfl ?_
                  try clear hM
                  refine id (w_call hl hh rfl ⟨_, _, rfl, rfl, rfl⟩ rfl cal14 rfl (seq_pm hpw9 hpi9.hm m9.nxt) (by repeat (first | exact keeps_nil | apply keeps_cons (by repeat (first | exact find_head | apply find_tail)) (by first  | rfl) | exact keeps_self | exact keeps_left | exact keeps_right | exact keeps_swap | apply keeps_mv)) (fun b o m => hh.mem b o (by (repeat (first | exact m | apply List.mem_cons_of_mem)); done)) ?_)
                  clear hl hh a w; intro vc Fc a w hR hl hh
                  obtain ⟨rfl, rfl⟩ := hR
                  try simp only [List.cons_append, List.nil_append] at hh
                  rw [← hpi9.rel.nxt] at hl
                  have hM : Mem [(k3, C [.pointer (some ⟨cp9, 0, none⟩)] 24), (k5, C [.pointer (some ⟨mp9, 0, none⟩)] 34)] w := (by (repeat (first | exact Mem.nil | refine Mem.consR hh (by assumption) (by simp) ?_ | refine Mem.cons hh.mem (by (repeat (first | exact find_head | apply find_tail)); done) ?_ | fail)); done)
                  refine d_step (fun _ => hM) ?_
                  refine d_take (i := 21) hl rfl (by kernel_rfl) (by kernel_rfl) (by kernel_rfl) (by kernel_rfl) (by kernel_rfl) rfl ⟨_, _, rfl, rfl, rfl⟩ (fun _ _ _ h => h) hM (fun w hC => r_neq hl rfl rfl) rfl ?_
                  clear hl a; intro a hl
                  try simp only [ne_eq, not_true_eq_false, decide_false, decide_true, decide_not, Bool.not_true, beq_self_eq_true, bne_self_eq_false] at hl
                  refine d_take (i := 22) hl rfl (by kernel_rfl) (by kernel_rfl) (by kernel_rfl) (by kernel_rfl) (by kernel_rfl) rfl trivial (fun _ _ _ h => h) hM (fun w hC => r_pickF hl rfl rfl) rfl ?_
                  clear hl a; intro a hl
                  refine d_done (by kernel_rfl) ?_
                  try clear hM
                  have hl2 := hl.add (t := 3) (hl.add (t := 5) (hl.add (t := 6) (hl.add (t := 7) (hl.add (t := 9) (hl.add (t := 34) (hl.add (t := 35) (hl.add (t := 36) (hl.add (t := 225) (hl.nil) rfl) rfl) rfl) rfl) rfl) rfl) rfl) rfl) rfl; clear hl; have hl := hl2; clear hl2
                  refine then_normal ?_
                  refine c_condF hl rfl ?_
                  refine wp_skip ?_
                  refine then_normal ?_
                  refine c_seq ?_
                  refine c_region ?_
                  refine wl (wl_val hl rfl trivial (r_move hl rfl) ?_)
                  clear hl a; intro a hl
                  refine wl (wl_val hl rfl trivial (r_field hl rfl fld50_3) ?_)
                  clear hl a; intro a hl
                  refine wl (w_load hl hh rfl trivial one29 rfl (by repeat (first | exact find_head | apply find_tail)) (by first | rfl) ?_)
                  clear hl a; intro a hl
                  refine wl (w_call hl hh rfl trivial rfl cal11 rfl (same_pw k3 k5 Z9 cp9 mp9 t9 m9 st9 _ _ hpw9 hpi9 (by assumption) d.B hdB) (by repeat (first | exact keeps_nil | apply keeps_cons (by repeat (first | exact find_head | apply find_tail)) (by first  | rfl) | exact keeps_self | exact keeps_left | exact keeps_right | exact keeps_swap | apply keeps_mv)) ⟨(hh.mem _ _ (Find.mem (by repeat (first | exact find_head | apply find_tail)))), (hh.mem _ _ (Find.mem (by repeat (first | exact find_head | apply find_tail)))), (fun b o m => hh.mem b o (by (repeat (first | exact m | apply List.mem_cons_of_mem)); done))⟩ ?_)
                  clear hl hh a w; intro vc Fc a w hR hl hh
                  obtain ⟨⟨off, rfl, hoff⟩, rfl⟩ := hR
                  try simp only [List.cons_append, List.nil_append] at hh
                  refine wl (wl_val hl rfl trivial (r_move hl rfl) ?_)
                  clear hl a; intro a hl
                  refine wl (wl_val hl rfl trivial (r_extract hl rfl (by simp only [List.getElem?_toArray, List.getElem?_cons_zero, List.getElem?_cons_succ]; rfl)) ?_)
                  clear hl a; intro a hl
                  refine wl (wl_val hl rfl trivial (r_extract hl rfl (by simp only [List.getElem?_toArray, List.getElem?_cons_zero, List.getElem?_cons_succ]; rfl)) ?_)
                  clear hl a; intro a hl
                  refine wl (wl_val hl rfl trivial (r_extract hl rfl (by simp only [List.getElem?_toArray, List.getElem?_cons_zero, List.getElem?_cons_succ]; rfl)) ?_)
                  clear hl a; intro a hl
                  refine wl (w_alloc hl hh rfl trivial zero40 rfl ?_)
                  clear hl hh a w; intro k19 a w hl hh
                  refine wl (w_alloc hl hh rfl trivial zero42 rfl ?_)
                  clear hl hh a w; intro k20 a w hl hh
                  refine wl (w_storeA hl hh trivial agg40 rfl rfl (by repeat (first | exact find_head | apply find_tail)) (by first | rfl | (simp; done) | (simp only [List.getElem?_cons_zero, List.getElem?_cons_succ, Value.cells, List.take_zero, List.take_succ_cons, List.take_nil, List.drop_zero, List.drop_succ_cons, List.drop_nil, List.length_cons, List.length_nil, List.cons_append, List.nil_append, List.append_nil, Nat.zero_add, Nat.add_zero, Nat.reduceAdd, Nat.reduceBEq, Nat.reduceEqDiff, Nat.ble, BEq.rfl, Bool.and_true, Bool.and_self, cond_true, beq_self_eq_true]; rfl) | rfl) (by first | (simp; done) | (simp; omega) | (simp [cfL]; done)) (by first | rfl | (simp; done) | rfl) (by first | (simp only [setL, cfL, List.getElem?_cons_zero, List.getElem?_cons_succ, Value.cells, List.take_zero, List.take_succ_cons, List.take_nil, List.drop_zero, List.drop_succ_cons, List.drop_nil, List.length_cons, List.length_nil, List.cons_append, List.nil_append, List.append_nil, Nat.zero_add, Nat.add_zero, Nat.reduceAdd, Nat.reduceBEq, Nat.reduceEqDiff, Nat.ble, BEq.rfl, Bool.and_true, Bool.and_self, cond_true, beq_self_eq_true]; rfl) | (simp only [setL, List.getElem?_cons_zero, List.getElem?_cons_succ, Value.cells, List.take_zero, List.take_succ_cons, List.take_nil, List.drop_zero, List.drop_succ_cons, List.drop_nil, List.length_cons, List.length_nil, List.cons_append, List.nil_append, List.append_nil, Nat.zero_add, Nat.add_zero, Nat.reduceAdd, Nat.reduceBEq, Nat.reduceEqDiff, Nat.ble, BEq.rfl, Bool.and_true, Bool.and_self, cond_true, beq_self_eq_true]; rfl) | (simp only [setL, List.getElem?_cons_zero, List.getElem?_cons_succ, Value.cells, List.take_zero, List.take_succ_cons, List.take_nil, List.drop_zero, List.drop_succ_cons, List.drop_nil, List.length_cons, List.length_nil, List.cons_append, List.nil_append, List.append_nil, Nat.zero_add, Nat.add_zero, Nat.reduceAdd, Nat.reduceBEq, Nat.reduceEqDiff, Nat.ble, BEq.rfl, Bool.and_true, Bool.and_self, cond_true, beq_self_eq_true]; rfl)) ?_)
                  clear hh w; intro w hh
                  refine wl (w_storeA hl hh trivial agg42 rfl rfl (by repeat (first | exact find_head | apply find_tail)) (by first | rfl | (simp; done) | (simp only [List.getElem?_cons_zero, List.getElem?_cons_succ, Value.cells, List.take_zero, List.take_succ_cons, List.take_nil, List.drop_zero, List.drop_succ_cons, List.drop_nil, List.length_cons, List.length_nil, List.cons_append, List.nil_append, List.append_nil, Nat.zero_add, Nat.add_zero, Nat.reduceAdd, Nat.reduceBEq, Nat.reduceEqDiff, Nat.ble, BEq.rfl, Bool.and_true, Bool.and_self, cond_true, beq_self_eq_true]; rfl) | rfl) (by first | (simp; done) | (simp; omega) | (simp [cfL]; done)) (by first | rfl | (simp; done) | rfl) (by first | (simp only [setL, cfL, List.getElem?_cons_zero, List.getElem?_cons_succ, Value.cells, List.take_zero, List.take_succ_cons, List.take_nil, List.drop_zero, List.drop_succ_cons, List.drop_nil, List.length_cons, List.length_nil, List.cons_append, List.nil_append, List.append_nil, Nat.zero_add, Nat.add_zero, Nat.reduceAdd, Nat.reduceBEq, Nat.reduceEqDiff, Nat.ble, BEq.rfl, Bool.and_true, Bool.and_self, cond_true, beq_self_eq_true]; rfl) | (simp only [setL, List.getElem?_cons_zero, List.getElem?_cons_succ, Value.cells, List.take_zero, List.take_succ_cons, List.take_nil, List.drop_zero, List.drop_succ_cons, List.drop_nil, List.length_cons, List.length_nil, List.cons_append, List.nil_append, List.append_nil, Nat.zero_add, Nat.add_zero, Nat.reduceAdd, Nat.reduceBEq, Nat.reduceEqDiff, Nat.ble, BEq.rfl, Bool.and_true, Bool.and_self, cond_true, beq_self_eq_true]; rfl) | (simp only [setL, List.getElem?_cons_zero, List.getElem?_cons_succ, Value.cells, List.take_zero, List.take_succ_cons, List.take_nil, List.drop_zero, List.drop_succ_cons, List.drop_nil, List.length_cons, List.length_nil, List.cons_append, List.nil_append, List.append_nil, Nat.zero_add, Nat.add_zero, Nat.reduceAdd, Nat.reduceBEq, Nat.reduceEqDiff, Nat.ble, BEq.rfl, Bool.and_true, Bool.and_self, cond_true, beq_self_eq_true]; rfl)) ?_)
                  clear hh w; intro w hh
                  refine wl (wl_val hl rfl trivial (r_assign hl rfl) ?_)
                  clear hl a; intro a hl
                  refine w_nil ?_
                  have hl2 := hl.add (t := 3) (hl.add (t := 5) (hl.add (t := 6) (hl.add (t := 7) (hl.add (t := 21) (hl.add (t := 34) (hl.add (t := 35) (hl.add (t := 36) (hl.nil) rfl) rfl) rfl) rfl) rfl) rfl) rfl) rfl; clear hl; have hl := hl2; clear hl2
                  refine then_normal ?_
                  refine c_seq ?_
                  refine c_region ?_
                  refine wl (wl_val hl rfl trivial (r_move hl rfl) ?_)
                  clear hl a; intro a hl
                  refine wl (wl_val hl rfl trivial (r_not hl rfl) ?_)
                  clear hl a; intro a hl
                  refine w_nil ?_
                  have hl2 := hl.add (t := 3) (hl.add (t := 5) (hl.add (t := 6) (hl.add (t := 7) (hl.add (t := 34) (hl.add (t := 35) (hl.add (t := 36) (hl.add (t := 235) (hl.nil) rfl) rfl) rfl) rfl) rfl) rfl) rfl) rfl; clear hl; have hl := hl2; clear hl2
                  refine then_normal ?_
                  refine c_cond hl rfl ?_ ?_
                  · intro hc17
                    try simp only [decide_eq_true_eq, decide_eq_false_iff_not, Bool.not_eq_true', Bool.not_eq_false', Bool.not_eq_true, Bool.not_eq_false, Bool.and_eq_true, Bool.or_eq_true, Bool.and_eq_false_iff, Bool.or_eq_false_iff, Bool.not_not, ne_eq, Int.not_lt, Int.not_le, Decidable.not_not, beq_iff_eq, bne_iff_ne] at hc17
                    exfalso; first | exact Bool.noConfusion (show false = true by assumption) | exact Bool.noConfusion (show true = false by assumption) | contradiction | omega | (simp at *; done)
                  · intro hc17
                    try simp only [decide_eq_true_eq, decide_eq_false_iff_not, Bool.not_eq_true', Bool.not_eq_false', Bool.not_eq_true, Bool.not_eq_false, Bool.and_eq_true, Bool.or_eq_true, Bool.and_eq_false_iff, Bool.or_eq_false_iff, Bool.not_not, ne_eq, Int.not_lt, Int.not_le, Decidable.not_not, beq_iff_eq, bne_iff_ne] at hc17
                    refine wp_skip ?_
                    refine blk_normal ?_
                    refine then_normal ?_
                    refine c_region ?_
                    first | refine wl (wl_val hl rfl trivial (r_add hl rfl rfl (by simp only [Fits]; omega)) ?_) | refine wl (wl_val hl rfl trivial (r_addW hl rfl rfl) ?_)
                    clear hl a; intro a hl
                    refine wl (wl_val hl rfl trivial (r_move hl rfl) ?_)
                    clear hl a; intro a hl
                    refine w_nil ?_
                    have hl2 := hl.add (t := 3) (hl.add (t := 5) (hl.add (t := 6) (hl.add (t := 7) (hl.add (t := 34) (hl.add (t := 35) (hl.add (t := 36) (hl.nil) rfl) rfl) rfl) rfl) rfl) rfl) rfl; clear hl; have hl := hl2; clear hl2
                    refine then_normal ?_
                    refine ⟨⟨t9, m9, st9, cp9, mp9, Z9, z.i + 1⟩, (by simp only; omega), ⟨⟨hpi9, hpw9⟩, by simp only; omega⟩, hl.addE (t := 36) (hl.addE (t := 3) (hl.addE (t := 5) (hl.addE (t := 6) (hl.addE (t := 7) (hl.addE (t := 34) (hl.addE (t := 35) (hl.nil) rfl (by first | rfl | exact congrArg (Value.int .i64) (i_succ z.i))) rfl (by first | rfl | exact congrArg (Value.int .i64) (i_succ z.i))) rfl (by first | rfl | exact congrArg (Value.int .i64) (i_succ z.i))) rfl (by first | rfl | exact congrArg (Value.int .i64) (i_succ z.i))) rfl (by first | rfl | exact congrArg (Value.int .i64) (i_succ z.i))) rfl (by first | rfl | exact congrArg (Value.int .i64) (i_succ z.i))) rfl (by first | rfl | exact congrArg (Value.int .i64) (i_succ z.i)), hh.keep (by repeat (first | exact keeps_nil | apply keeps_cons (by repeat (first | exact find_head | apply find_tail)) (by first  | rfl) | exact keeps_self | exact keeps_left | exact keeps_right | exact keeps_swap | apply keeps_mv))⟩
              ·
                try simp only [List.cons_append, List.nil_append, List.append_nil] at hh
                replace hh := hh.comm
                simp only [List.cons_append, List.nil_append, List.append_nil, List.append_assoc] at hh
                generalize Fc = Zc2 at hh hcm2
                refine wl (wl_val hl rfl trivial (r_move hl rfl) ?_)
                clear hl a; intro a hl
                refine wl (wl_val hl rfl trivial (r_extract hl rfl (by simp only [List.getElem?_toArray, List.getElem?_cons_zero, List.getElem?_cons_succ]; rfl)) ?_)
                clear hl a; intro a hl
                refine wl (wl_val hl rfl trivial (r_extract hl rfl (by simp only [List.getElem?_toArray, List.getElem?_cons_zero, List.getElem?_cons_succ]; rfl)) ?_)
                clear hl a; intro a hl
                refine wl (wl_val hl rfl trivial (r_assign hl rfl) ?_)
                clear hl a; intro a hl
                refine wl (wl_val hl rfl trivial (r_assign hl rfl) ?_)
                clear hl a; intro a hl
                refine w_nil ?_
                have hl2 := hl.add (t := 3) (hl.add (t := 5) (hl.add (t := 6) (hl.add (t := 7) (hl.add (t := 9) (hl.add (t := 11) (hl.add (t := 12) (hl.add (t := 34) (hl.add (t := 35) (hl.add (t := 36) (hl.nil) rfl) rfl) rfl) rfl) rfl) rfl) rfl) rfl) rfl) rfl; clear hl; have hl := hl2; clear hl2
                refine then_normal ?_
                refine c_seq ?_
                refine c_seq ?_
                refine c_draw [(k9, C [.int .u8 d.kd, .int .u32 d.cf.init, .int .u32 d.cf.maxc, .int .u32 d.cf.bn, .int .u32 d.cf.bd, .int .u32 d.cf.abc, .int .u32 d.cf.dupt, .bool d.cf.idle, .int .u32 d.cf.mss, .int .u32 d.cf.start, .bool d.cf.sack, .int .u32 d.A, .int .u32 d.B, .bool d.dup, .int .u8 d.gr, .slice d.p d.dat.length d.cap] 50), (1, .cells ⟨[.iface 137 (.pointer (some ga))]⟩ GT gf)] [] mixed hh ?_
                clear hh w; intro w hh
                have hM : Mem [(k9, C [.int .u8 d.kd, .int .u32 d.cf.init, .int .u32 d.cf.maxc, .int .u32 d.cf.bn, .int .u32 d.cf.bd, .int .u32 d.cf.abc, .int .u32 d.cf.dupt, .bool d.cf.idle, .int .u32 d.cf.mss, .int .u32 d.cf.start, .bool d.cf.sack, .int .u32 d.A, .int .u32 d.B, .bool d.dup, .int .u8 d.gr, .slice d.p d.dat.length d.cap] 50), (1, .cells ⟨[.iface 137 (.pointer (some ga))]⟩ GT gf)] w := (by (repeat (first | exact Mem.nil | refine Mem.consR hh (by assumption) (by simp) ?_ | refine Mem.cons hh.mem (by (repeat (first | exact find_head | apply find_tail)); done) ?_ | fail)); done)
                refine d_take (i := 0) hl rfl (by kernel_rfl) (by kernel_rfl) (by kernel_rfl) (by kernel_rfl) (by kernel_rfl) rfl trivial (fun _ _ _ h => h) hM (fun w hC => r_move hl rfl) rfl ?_
                clear hl a; intro a hl
                first | refine d_take (i := 1) hl rfl (by kernel_rfl) (by kernel_rfl) (by kernel_rfl) (by kernel_rfl) (by kernel_rfl) rfl trivial (fun _ _ _ h => h) hM (fun w hC => r_eql_ifcN hl rfl ifc26) rfl ?_ | refine d_take (i := 1) hl rfl (by kernel_rfl) (by kernel_rfl) (by kernel_rfl) (by kernel_rfl) (by kernel_rfl) rfl trivial (fun _ _ _ h => h) hM (fun w hC => r_eql_ifcS hl rfl ifc26) rfl ?_
                clear hl a; intro a hl
                refine d_take (i := 2) hl rfl (by kernel_rfl) (by kernel_rfl) (by kernel_rfl) (by kernel_rfl) (by kernel_rfl) rfl trivial (fun _ _ _ h => h) hM (fun w hC => r_field hl rfl fld50_1) rfl ?_
                clear hl a; intro a hl
                refine d_take (i := 3) hl rfl (by kernel_rfl) (by kernel_rfl) (by kernel_rfl) (by kernel_rfl) (by kernel_rfl) rfl trivial (fun _ _ _ h => h) hM (fun w hC => r_loadCA hl rfl agg33 hC (by repeat (first | exact find_head | apply find_tail)) (by first | (simp only [List.getElem?_cons_zero, List.getElem?_cons_succ, Value.cells, List.take_zero, List.take_succ_cons, List.take_nil, List.drop_zero, List.drop_succ_cons, List.drop_nil, List.length_cons, List.length_nil, List.cons_append, List.nil_append, List.append_nil, Nat.zero_add, Nat.add_zero, Nat.reduceAdd, Nat.reduceBEq, Nat.reduceEqDiff, Nat.ble, BEq.rfl, Bool.and_true, Bool.and_self, cond_true, beq_self_eq_true]; rfl) | rfl | (simp only [List.getElem?_cons_zero, List.getElem?_cons_succ, Value.cells, List.take_zero, List.take_succ_cons, List.take_nil, List.drop_zero, List.drop_succ_cons, List.drop_nil, List.length_cons, List.length_nil, List.cons_append, List.nil_append, List.append_nil, Nat.zero_add, Nat.add_zero, Nat.reduceAdd, Nat.reduceBEq, Nat.reduceEqDiff, Nat.ble, BEq.rfl, Bool.and_true, Bool.and_self, cond_true, beq_self_eq_true]; rfl)) (by first | rfl | (simp; done))) rfl ?_
                clear hl a; intro a hl
                refine d_one (i := 4) (by kernel_rfl) rfl ?_
                try clear hM
                refine id (w_call hl hh rfl trivial rfl cal15 rfl (valid_m d.cf hdok.cf) (by repeat (first | exact keeps_nil | apply keeps_cons (by repeat (first | exact find_head | apply find_tail)) (by first  | rfl) | exact keeps_self | exact keeps_left | exact keeps_right | exact keeps_swap | apply keeps_mv)) trivial ?_)
                clear hl hh a w; intro vc Fc a w hR hl hh
                obtain ⟨⟨tt, rfl, htt⟩, rfl⟩ := hR
                try simp only [List.cons_append, List.nil_append] at hh
                simp only [hcv, iff_true, iff_false, Bool.not_eq_true] at htt
                subst htt
                have hM : Mem [(k9, C [.int .u8 d.kd, .int .u32 d.cf.init, .int .u32 d.cf.maxc, .int .u32 d.cf.bn, .int .u32 d.cf.bd, .int .u32 d.cf.abc, .int .u32 d.cf.dupt, .bool d.cf.idle, .int .u32 d.cf.mss, .int .u32 d.cf.start, .bool d.cf.sack, .int .u32 d.A, .int .u32 d.B, .bool d.dup, .int .u8 d.gr, .slice d.p d.dat.length d.cap] 50), (1, .cells ⟨[.iface 137 (.pointer (some ga))]⟩ GT gf)] w := (by (repeat (first | exact Mem.nil | refine Mem.consR hh (by assumption) (by simp) ?_ | refine Mem.cons hh.mem (by (repeat (first | exact find_head | apply find_tail)); done) ?_ | fail)); done)
                refine d_step (fun _ => hM) ?_
                refine d_take (i := 5) hl rfl (by kernel_rfl) (by kernel_rfl) (by kernel_rfl) (by kernel_rfl) (by kernel_rfl) rfl trivial (fun _ _ _ h => h) hM (fun w hC => r_neq_bool hl rfl rfl Tryz.underlying4) rfl ?_
                clear hl a; intro a hl
                refine d_take (i := 6) hl rfl (by kernel_rfl) (by kernel_rfl) (by kernel_rfl) (by kernel_rfl) (by kernel_rfl) rfl trivial (fun _ _ _ h => h) hM (fun w hC => r_move hl rfl) rfl ?_
                clear hl a; intro a hl
                refine d_take (i := 7) hl rfl (by kernel_rfl) (by kernel_rfl) (by kernel_rfl) (by kernel_rfl) (by kernel_rfl) rfl ⟨_, _, rfl, rfl, rfl⟩ (fun _ _ _ h => h) hM (fun w hC => r_move hl rfl) rfl ?_
                clear hl a; intro a hl
                first | refine d_take (i := 8) hl rfl (by kernel_rfl) (by kernel_rfl) (by kernel_rfl) (by kernel_rfl) (by kernel_rfl) rfl ⟨_, _, rfl, rfl, rfl⟩ (fun _ _ _ h => h) hM (fun w hC => r_neq_ifcN hl rfl ifc26) rfl ?_ | refine d_take (i := 8) hl rfl (by kernel_rfl) (by kernel_rfl) (by kernel_rfl) (by kernel_rfl) (by kernel_rfl) rfl ⟨_, _, rfl, rfl, rfl⟩ (fun _ _ _ h => h) hM (fun w hC => r_neq_ifcS hl rfl ifc26) rfl ?_
                clear hl a; intro a hl
                refine d_take (i := 9) hl rfl (by kernel_rfl) (by kernel_rfl) (by kernel_rfl) (by kernel_rfl) (by kernel_rfl) rfl ⟨_, _, rfl, rfl, rfl⟩ (fun _ _ _ h => h) hM (fun w hC => r_move hl rfl) rfl ?_
                clear hl a; intro a hl
                refine d_skip (i := 10) hl rfl (by kernel_rfl) (by kernel_rfl) (by kernel_rfl) (by kernel_rfl) (by kernel_rfl) rfl ⟨_, _, rfl, rfl, rfl⟩ (fun _ _ _ h => h) hM ?_
                clear hl a; intro a hl
                refine d_skip (i := 11) hl rfl (by kernel_rfl) (by kernel_rfl) (by kernel_rfl) (by kernel_rfl) (by kernel_rfl) rfl ⟨_, _, rfl, rfl, rfl⟩ (fun _ _ _ h => h) hM ?_
                clear hl a; intro a hl
                refine d_skip (i := 12) hl rfl (by kernel_rfl) (by kernel_rfl) (by kernel_rfl) (by kernel_rfl) (by kernel_rfl) rfl ⟨_, _, rfl, rfl, rfl⟩ (fun _ _ _ h => h) hM ?_
                clear hl a; intro a hl
                refine d_skip (i := 13) hl rfl (by kernel_rfl) (by kernel_rfl) (by kernel_rfl) (by kernel_rfl) (by kernel_rfl) rfl ⟨_, _, rfl, rfl, rfl⟩ (fun _ _ _ h => h) hM ?_
                clear hl a; intro a hl
                refine d_skipU (i := 14) hl rfl (by kernel_rfl) (by kernel_rfl) (by kernel_rfl) (by kernel_rfl) (by kernel_rfl) rfl ⟨_, _, rfl, rfl, rfl⟩ (fun _ _ _ h => h) hM ?_
                clear hl a; intro a hl
                refine d_skipU (i := 15) hl rfl (by kernel_rfl) (by kernel_rfl) (by kernel_rfl) (by kernel_rfl) (by kernel_rfl) rfl ⟨_, _, rfl, rfl, rfl⟩ (fun _ _ _ h => h) hM ?_
                clear hl a; intro a hl
                refine d_skip (i := 16) hl rfl (by kernel_rfl) (by kernel_rfl) (by kernel_rfl) (by kernel_rfl) (by kernel_rfl) rfl ⟨_, _, rfl, rfl, rfl⟩ (fun _ _ _ h => h) hM ?_
                clear hl a; intro a hl
                refine d_take (i := 17) hl rfl (by kernel_rfl) (by kernel_rfl) (by kernel_rfl) (by kernel_rfl) (by kernel_rfl) rfl ⟨_, _, rfl, rfl, rfl⟩ (fun _ _ _ h => h) hM (fun w hC => r_pickF hl rfl rfl) rfl ?_
                clear hl a; intro a hl
                refine d_take (i := 18) hl rfl (by kernel_rfl) (by kernel_rfl) (by kernel_rfl) (by kernel_rfl) (by kernel_rfl) rfl trivial (fun _ _ _ h => h) hM (fun w hC => r_pickF hl rfl rfl) rfl ?_
                clear hl a; intro a hl
                refine d_done (by kernel_rfl) ?_
                try clear hM
                have hl2 := hl.add (t := 3) (hl.add (t := 5) (hl.add (t := 6) (hl.add (t := 7) (hl.add (t := 9) (hl.add (t := 11) (hl.add (t := 12) (hl.add (t := 34) (hl.add (t := 35) (hl.add (t := 36) (hl.add (t := 89) (hl.nil) rfl) rfl) rfl) rfl) rfl) rfl) rfl) rfl) rfl) rfl) rfl; clear hl; have hl := hl2; clear hl2
                refine then_normal ?_
                refine c_condF hl rfl ?_
                refine wp_skip ?_
                refine then_normal ?_
                refine c_seq ?_
                refine c_region ?_
                refine wl (wl_val hl rfl trivial (r_move hl rfl) ?_)
                clear hl a; intro a hl
                first | refine wl (wl_val hl rfl trivial (r_eql_ifcN hl rfl ifc26) ?_) | refine wl (wl_val hl rfl trivial (r_eql_ifcS hl rfl ifc26) ?_)
                clear hl a; intro a hl
                refine w_nil ?_
                have hl2 := hl.add (t := 3) (hl.add (t := 5) (hl.add (t := 6) (hl.add (t := 7) (hl.add (t := 9) (hl.add (t := 11) (hl.add (t := 34) (hl.add (t := 35) (hl.add (t := 36) (hl.add (t := 91) (hl.nil) rfl) rfl) rfl) rfl) rfl) rfl) rfl) rfl) rfl) rfl; clear hl; have hl := hl2; clear hl2
                refine then_normal ?_
                refine c_condT hl rfl ?_
                refine c_region ?_
                refine wl (wl_val hl rfl trivial (r_move hl rfl) ?_)
                clear hl a; intro a hl
                refine wl (wl_val hl rfl trivial (r_field hl rfl fld50_1) ?_)
                clear hl a; intro a hl
                first | refine wl (w_loadA hl hh rfl trivial agg33 rfl (by repeat (first | exact find_head | apply find_tail)) (by first | (simp only [List.getElem?_cons_zero, List.getElem?_cons_succ, Value.cells, List.take_zero, List.take_succ_cons, List.take_nil, List.drop_zero, List.drop_succ_cons, List.drop_nil, List.length_cons, List.length_nil, List.cons_append, List.nil_append, List.append_nil, Nat.zero_add, Nat.add_zero, Nat.reduceAdd, Nat.reduceBEq, Nat.reduceEqDiff, Nat.ble, BEq.rfl, Bool.and_true, Bool.and_self, cond_true, beq_self_eq_true]; rfl) | rfl | (simp only [List.getElem?_cons_zero, List.getElem?_cons_succ, Value.cells, List.take_zero, List.take_succ_cons, List.take_nil, List.drop_zero, List.drop_succ_cons, List.drop_nil, List.length_cons, List.length_nil, List.cons_append, List.nil_append, List.append_nil, Nat.zero_add, Nat.add_zero, Nat.reduceAdd, Nat.reduceBEq, Nat.reduceEqDiff, Nat.ble, BEq.rfl, Bool.and_true, Bool.and_self, cond_true, beq_self_eq_true]; rfl)) (by first | rfl | (simp; done)) ?_) | refine wl (w_loadRA hl hh rfl trivial agg33 rfl hm (by simp) hqv rfl ?_) | refine wl (w_loadRA hl hh rfl trivial agg33 rfl hg0 (by simp) rfl rfl ?_)
                clear hl a; intro a hl
                refine wl (w_call hl hh rfl trivial rfl cal6 rfl (new_mm d.cf hdok.cf hcv) (by repeat (first | exact keeps_nil | apply keeps_cons (by repeat (first | exact find_head | apply find_tail)) (by first  | rfl) | exact keeps_self | exact keeps_left | exact keeps_right | exact keeps_swap | apply keeps_mv)) trivial ?_)
                clear hl hh a w; intro vc Fc a w hR hl hh
                obtain ⟨mp2, rfl, hmm2⟩ := hR
                try simp only [List.cons_append, List.nil_append] at hh
                replace hh := hh.comm
                simp only [List.cons_append, List.nil_append, List.append_nil, List.append_assoc] at hh
                generalize Fc = Zm2 at hh hmm2
                refine wl (w_store hl hh trivial one24 rfl rfl (by repeat (first | exact find_head | apply find_tail)) (by first | (simp; done) | (simp; omega) | (simp [cfL]; done)) (by first | rfl | assumption | (apply Row.one; assumption)) (by first | (simp only [setL, cfL, List.getElem?_cons_zero, List.getElem?_cons_succ, Value.cells, List.take_zero, List.take_succ_cons, List.take_nil, List.drop_zero, List.drop_succ_cons, List.drop_nil, List.length_cons, List.length_nil, List.cons_append, List.nil_append, List.append_nil, Nat.zero_add, Nat.add_zero, Nat.reduceAdd, Nat.reduceBEq, Nat.reduceEqDiff, Nat.ble, BEq.rfl, Bool.and_true, Bool.and_self, cond_true, beq_self_eq_true]; rfl) | (simp only [setL, List.getElem?_cons_zero, List.getElem?_cons_succ, Value.cells, List.take_zero, List.take_succ_cons, List.take_nil, List.drop_zero, List.drop_succ_cons, List.drop_nil, List.length_cons, List.length_nil, List.cons_append, List.nil_append, List.append_nil, Nat.zero_add, Nat.add_zero, Nat.reduceAdd, Nat.reduceBEq, Nat.reduceEqDiff, Nat.ble, BEq.rfl, Bool.and_true, Bool.and_self, cond_true, beq_self_eq_true]; rfl) | (simp only [setL, List.getElem?_cons_zero, List.getElem?_cons_succ, Value.cells, List.take_zero, List.take_succ_cons, List.take_nil, List.drop_zero, List.drop_succ_cons, List.drop_nil, List.length_cons, List.length_nil, List.cons_append, List.nil_append, List.append_nil, Nat.zero_add, Nat.add_zero, Nat.reduceAdd, Nat.reduceBEq, Nat.reduceEqDiff, Nat.ble, BEq.rfl, Bool.and_true, Bool.and_self, cond_true, beq_self_eq_true]; rfl)) ?_)
                clear hh w; intro w hh
                refine wl (w_store hl hh trivial one34 rfl rfl (by repeat (first | exact find_head | apply find_tail)) (by first | (simp; done) | (simp; omega) | (simp [cfL]; done)) (by first | rfl | assumption | (apply Row.one; assumption)) (by first | (simp only [setL, cfL, List.getElem?_cons_zero, List.getElem?_cons_succ, Value.cells, List.take_zero, List.take_succ_cons, List.take_nil, List.drop_zero, List.drop_succ_cons, List.drop_nil, List.length_cons, List.length_nil, List.cons_append, List.nil_append, List.append_nil, Nat.zero_add, Nat.add_zero, Nat.reduceAdd, Nat.reduceBEq, Nat.reduceEqDiff, Nat.ble, BEq.rfl, Bool.and_true, Bool.and_self, cond_true, beq_self_eq_true]; rfl) | (simp only [setL, List.getElem?_cons_zero, List.getElem?_cons_succ, Value.cells, List.take_zero, List.take_succ_cons, List.take_nil, List.drop_zero, List.drop_succ_cons, List.drop_nil, List.length_cons, List.length_nil, List.cons_append, List.nil_append, List.append_nil, Nat.zero_add, Nat.add_zero, Nat.reduceAdd, Nat.reduceBEq, Nat.reduceEqDiff, Nat.ble, BEq.rfl, Bool.and_true, Bool.and_self, cond_true, beq_self_eq_true]; rfl) | (simp only [setL, List.getElem?_cons_zero, List.getElem?_cons_succ, Value.cells, List.take_zero, List.take_succ_cons, List.take_nil, List.drop_zero, List.drop_succ_cons, List.drop_nil, List.length_cons, List.length_nil, List.cons_append, List.nil_append, List.append_nil, Nat.zero_add, Nat.add_zero, Nat.reduceAdd, Nat.reduceBEq, Nat.reduceEqDiff, Nat.ble, BEq.rfl, Bool.and_true, Bool.and_self, cond_true, beq_self_eq_true]; rfl)) ?_)
                clear hh w; intro w hh
                refine w_nil ?_
                have hl2 := hl.add (t := 3) (hl.add (t := 5) (hl.add (t := 6) (hl.add (t := 7) (hl.add (t := 9) (hl.add (t := 34) (hl.add (t := 35) (hl.add (t := 36) (hl.nil) rfl) rfl) rfl) rfl) rfl) rfl) rfl) rfl; clear hl; have hl := hl2; clear hl2
                have hfin : ∃ t9 m9 st9 cp9 mp9 Z9, PI (((z.i + 1 : Nat) : Int) * 137438953472) ((z.i + 1 : Nat) : Int) t9 m9 st9 ∧ PW Z9 cp9 mp9 t9 m9 st9 t9.cfg.sack t9.os ∧ Has [] w0 ((k9, C [.int .u8 d.kd, .int .u32 d.cf.init, .int .u32 d.cf.maxc, .int .u32 d.cf.bn, .int .u32 d.cf.bd, .int .u32 d.cf.abc, .int .u32 d.cf.dupt, .bool d.cf.idle, .int .u32 d.cf.mss, .int .u32 d.cf.start, .bool d.cf.sack, .int .u32 d.A, .int .u32 d.B, .bool d.dup, .int .u8 d.gr, .slice d.p d.dat.length d.cap] 50) :: (k3, C [.pointer (some ⟨cp9, 0, none⟩)] 24) :: (k5, C [.pointer (some ⟨mp9, 0, none⟩)] 34) :: Z9) w := ⟨⟨d.cf, newP d.cf, []⟩, newMP d.cf, d.cf.start, cp2, mp2, Zm2 ++ Zc2, pi_new hdok.cf hcv (by omega) (by omega), pw_new hcm2 hmm2, has_again (hh.keep (by repeat (first | exact keeps_nil | apply keeps_cons (by repeat (first | exact find_head | apply find_tail)) (by first  | rfl) | exact keeps_self | exact keeps_left | exact keeps_right | exact keeps_swap | apply keeps_mv)))⟩
                clear hh
                obtain ⟨t9, m9, st9, cp9, mp9, Z9, hpi9, hpw9, hh⟩ := hfin
                have hfl9 := hpi9.si.fl; have pf9 := flightP_U t9.s; have hpu9 := pipeP_U hpi9.si.ok t9.ns t9.bl; have hdu9 := hpi9.si.ok.dups; have pp9 := hpi9.si.ok.phase; have oc9 := hpi9.si.ok.cwnd; have os9 := hpi9.si.ok.ssth; have om9 := hpi9.si.ok.maxc; have oms9 := hpi9.si.ok.mss
                refine blk_normal ?_
                refine then_normal ?_
                refine c_seq ?_
                refine c_seq ?_
                refine c_region ?_
                refine wl (wl_val hl rfl trivial (r_move hl rfl) ?_)
                clear hl a; intro a hl
                refine wl (w_call hl hh rfl trivial rfl cal7 rfl (far_pm hpw9 hpi9.hm k5) (by repeat (first | exact keeps_nil | apply keeps_cons (by repeat (first | exact find_head | apply find_tail)) (by first  | rfl) | exact keeps_self | exact keeps_left | exact keeps_right | exact keeps_swap | apply keeps_mv)) ⟨(hh.mem _ _ (Find.mem (by repeat (first | exact find_head | apply find_tail)))), (fun b o m => hh.mem b o (by (repeat (first | exact m | apply List.mem_cons_of_mem)); done))⟩ ?_)
                clear hl hh a w; intro vc Fc a w hR hl hh
                obtain ⟨rfl, rfl⟩ := hR
                try simp only [List.cons_append, List.nil_append] at hh
                refine w_nil ?_
                have hl2 := hl.add (t := 3) (hl.add (t := 5) (hl.add (t := 6) (hl.add (t := 7) (hl.add (t := 9) (hl.add (t := 34) (hl.add (t := 35) (hl.add (t := 36) (hl.add (t := 202) (hl.nil) rfl) rfl) rfl) rfl) rfl) rfl) rfl) rfl) rfl; clear hl; have hl := hl2; clear hl2
                refine then_normal ?_
                refine c_cond hl rfl ?_ ?_
                · intro hc15
                  try simp only [decide_eq_true_eq, decide_eq_false_iff_not, Bool.not_eq_true', Bool.not_eq_false', Bool.not_eq_true, Bool.not_eq_false, Bool.and_eq_true, Bool.or_eq_true, Bool.and_eq_false_iff, Bool.or_eq_false_iff, Bool.not_not, ne_eq, Int.not_lt, Int.not_le, Decidable.not_not, beq_iff_eq, bne_iff_ne] at hc15
                  refine wp_exit ?_
                  refine then_exit ?_
                  refine blk_exit ?_
                  refine then_normal ?_
                  refine c_region ?_
                  first | refine wl (wl_val hl rfl trivial (r_add hl rfl rfl (by simp only [Fits]; omega)) ?_) | refine wl (wl_val hl rfl trivial (r_addW hl rfl rfl) ?_)
                  clear hl a; intro a hl
                  refine wl (wl_val hl rfl trivial (r_move hl rfl) ?_)
                  clear hl a; intro a hl
                  refine w_nil ?_
                  have hl2 := hl.add (t := 3) (hl.add (t := 5) (hl.add (t := 6) (hl.add (t := 7) (hl.add (t := 34) (hl.add (t := 35) (hl.add (t := 36) (hl.nil) rfl) rfl) rfl) rfl) rfl) rfl) rfl; clear hl; have hl := hl2; clear hl2
                  refine then_normal ?_
                  refine ⟨⟨t9, m9, st9, cp9, mp9, Z9, z.i + 1⟩, (by simp only; omega), ⟨⟨hpi9, hpw9⟩, by simp only; omega⟩, hl.addE (t := 36) (hl.addE (t := 3) (hl.addE (t := 5) (hl.addE (t := 6) (hl.addE (t := 7) (hl.addE (t := 34) (hl.addE (t := 35) (hl.nil) rfl (by first | rfl | exact congrArg (Value.int .i64) (i_succ z.i))) rfl (by first | rfl | exact congrArg (Value.int .i64) (i_succ z.i))) rfl (by first | rfl | exact congrArg (Value.int .i64) (i_succ z.i))) rfl (by first | rfl | exact congrArg (Value.int .i64) (i_succ z.i))) rfl (by first | rfl | exact congrArg (Value.int .i64) (i_succ z.i))) rfl (by first | rfl | exact congrArg (Value.int .i64) (i_succ z.i))) rfl (by first | rfl | exact congrArg (Value.int .i64) (i_succ z.i)), hh.keep (by repeat (first | exact keeps_nil | apply keeps_cons (by repeat (first | exact find_head | apply find_tail)) (by first  | rfl) | exact keeps_self | exact keeps_left | exact keeps_right | exact keeps_swap | apply keeps_mv))⟩
                · intro hc15
                  try simp only [decide_eq_true_eq, decide_eq_false_iff_not, Bool.not_eq_true', Bool.not_eq_false', Bool.not_eq_true, Bool.not_eq_false, Bool.and_eq_true, Bool.or_eq_true, Bool.and_eq_false_iff, Bool.or_eq_false_iff, Bool.not_not, ne_eq, Int.not_lt, Int.not_le, Decidable.not_not, beq_iff_eq, bne_iff_ne] at hc15
                  refine wp_skip ?_
                  refine then_normal ?_
                  refine c_seq ?_
                  refine c_seq ?_
                  refine c_draw [(k3, C [.pointer (some ⟨cp9, 0, none⟩)] 24), (k5, C [.pointer (some ⟨mp9, 0, none⟩)] 34)] [] mixed hh ?_
                  clear hh w; intro w hh
                  have hM : Mem [(k3, C [.pointer (some ⟨cp9, 0, none⟩)] 24), (k5, C [.pointer (some ⟨mp9, 0, none⟩)] 34)] w := (by (repeat (first | exact Mem.nil | refine Mem.consR hh (by assumption) (by simp) ?_ | refine Mem.cons hh.mem (by (repeat (first | exact find_head | apply find_tail)); done) ?_ | fail)); done)
                  refine d_take (i := 0) hl rfl (by kernel_rfl) (by kernel_rfl) (by kernel_rfl) (by kernel_rfl) (by kernel_rfl) rfl trivial (fun _ _ _ h => h) hM (fun w hC => r_loadC hl rfl one24 hC (by repeat (first | exact find_head | apply find_tail)) (by first | rfl)) rfl ?_
                  clear hl a; intro a hl
                  refine d_take (i := 2) hl rfl (by kernel_rfl) (by kernel_rfl) (by kernel_rfl) (by kernel_rfl) (by kernel_rfl) rfl trivial (fun _ _ _ h => h) hM (fun w hC => r_loadC hl rfl one34 hC (by repeat (first | exact find_head | apply find_tail)) (by first | rfl)) rfl ?_
                  clear hl a; intro a hl
                  refine d_one (i := 1) (by kernel_rfl) rfl ?_
                  try clear hM
                  refine id (w_call hl hh rfl trivial rfl cal26 rfl (view_pc hpw9 hpi9.si) (by repeat (first | exact keeps_nil | apply keeps_cons (by repeat (first | exact find_head | apply find_tail)) (by first  | rfl) | exact keeps_self | exact keeps_left | exact keeps_right | exact keeps_swap | apply keeps_mv)) (fun b o m => hh.mem b o (by (repeat (first | exact m | apply List.mem_cons_of_mem)); done)) ?_)
                  clear hl hh a w; intro vc Fc a w hR hl hh
                  obtain ⟨rfl, rfl⟩ := hR
                  try simp only [List.cons_append, List.nil_append] at hh
                  simp only [vwc, viewP] at hl
                  have hM : Mem [(k3, C [.pointer (some ⟨cp9, 0, none⟩)] 24), (k5, C [.pointer (some ⟨mp9, 0, none⟩)] 34)] w := (by (repeat (first | exact Mem.nil | refine Mem.consR hh (by assumption) (by simp) ?_ | refine Mem.cons hh.mem (by (repeat (first | exact find_head | apply find_tail)); done) ?_ | fail)); done)
                  refine d_step (fun _ => hM) ?_
                  refine d_one (i := 3) (by kernel_rfl) rfl ?_
                  try clear hM
                  refine id (w_call hl hh rfl trivial rfl cal27 rfl (view_pm hpw9 hpi9 (by omega) (by assumption)) (by repeat (first | exact keeps_nil | apply keeps_cons (by repeat (first | exact find_head | apply find_tail)) (by first  | rfl) | exact keeps_self | exact keeps_left | exact keeps_right | exact keeps_swap | apply keeps_mv)) (fun b o m => hh.mem b o (by (repeat (first | exact m | apply List.mem_cons_of_mem)); done)) ?_)
                  clear hl hh a w; intro vc Fc a w hR hl hh
                  obtain ⟨rfl, rfl⟩ := hR
                  try simp only [List.cons_append, List.nil_append] at hh
                  simp only [vwc, viewP] at hl
                  have hM : Mem [(k3, C [.pointer (some ⟨cp9, 0, none⟩)] 24), (k5, C [.pointer (some ⟨mp9, 0, none⟩)] 34)] w := (by (repeat (first | exact Mem.nil | refine Mem.consR hh (by assumption) (by simp) ?_ | refine Mem.cons hh.mem (by (repeat (first | exact find_head | apply find_tail)); done) ?_ | fail)); done)
                  refine d_step (fun _ => hM) ?_
                  refine d_take (i := 4) hl rfl (by kernel_rfl) (by kernel_rfl) (by kernel_rfl) (by kernel_rfl) (by kernel_rfl) rfl trivial (fun _ _ _ h => h) hM (fun w hC => r_neqA hl rfl rfl eqf61 shp61 (by simp only [unlitL, unlit]; rfl) (by simp only [unlitL, unlit]; rfl) (by first | exact ⟨trivial⟩ | (refine ⟨?_⟩; simp [LitsOk, litOk, Fits]; done) | (refine ⟨?_⟩; simp [LitsOk, litOk, Fits]; omega)) (by first | exact ⟨trivial⟩ | (refine ⟨?_⟩; simp [LitsOk, litOk, Fits]; done) | (refine ⟨?_⟩; simp [LitsOk, litOk, Fits]; omega))) rfl ?_
                  clear hl a; intro a hl
                  simp only [eqLits, litBeq, beq_self_eq_true, Bool.and_self, Bool.and_true, Bool.not_true, decide_true] at hl
                  refine d_take (i := 5) hl rfl (by kernel_rfl) (by kernel_rfl) (by kernel_rfl) (by kernel_rfl) (by kernel_rfl) rfl trivial (fun _ _ _ h => h) hM (fun w hC => r_move hl rfl) rfl ?_
                  clear hl a; intro a hl
                  refine d_take (i := 6) hl rfl (by kernel_rfl) (by kernel_rfl) (by kernel_rfl) (by kernel_rfl) (by kernel_rfl) rfl ⟨_, _, rfl, rfl, rfl⟩ (fun _ _ _ h => h) hM (fun w hC => r_loadC hl rfl one24 hC (by repeat (first | exact find_head | apply find_tail)) (by first | rfl)) rfl ?_
                  clear hl a; intro a hl
                  refine d_take (i := 8) hl rfl (by kernel_rfl) (by kernel_rfl) (by kernel_rfl) (by kernel_rfl) (by kernel_rfl) rfl ⟨_, _, rfl, rfl, rfl⟩ (fun _ _ _ h => h) hM (fun w hC => r_loadC hl rfl one34 hC (by repeat (first | exact find_head | apply find_tail)) (by first | rfl)) rfl ?_
                  clear hl a; intro a hl
                  refine d_take (i := 9) hl rfl (by kernel_rfl) (by kernel_rfl) (by kernel_rfl) (by kernel_rfl) (by kernel_rfl) rfl ⟨_, _, rfl, rfl, rfl⟩ (fun _ _ _ h => h) hM (fun w hC => r_loadC hl rfl one34 hC (by repeat (first | exact find_head | apply find_tail)) (by first | rfl)) rfl ?_
                  clear hl a; intro a hl
                  refine d_one (i := 7) (by kernel_rfl) rfl ?_
                  try clear hM
                  refine id (w_call hl hh rfl ⟨_, _, rfl, rfl, rfl⟩ rfl cal18 rfl (una_pc hpw9) (by repeat (first | exact keeps_nil | apply keeps_cons (by repeat (first | exact find_head | apply find_tail)) (by first  | rfl) | exact keeps_self | exact keeps_left | exact keeps_right | exact keeps_swap | apply keeps_mv)) (fun b o m => hh.mem b o (by (repeat (first | exact m | apply List.mem_cons_of_mem)); done)) ?_)
                  clear hl hh a w; intro vc Fc a w hR hl hh
                  obtain ⟨rfl, rfl⟩ := hR
                  try simp only [List.cons_append, List.nil_append] at hh
                  have hM : Mem [(k3, C [.pointer (some ⟨cp9, 0, none⟩)] 24), (k5, C [.pointer (some ⟨mp9, 0, none⟩)] 34)] w := (by (repeat (first | exact Mem.nil | refine Mem.consR hh (by assumption) (by simp) ?_ | refine Mem.cons hh.mem (by (repeat (first | exact find_head | apply find_tail)); done) ?_ | fail)); done)
                  refine d_step (fun _ => hM) ?_
                  refine d_one (i := 10) (by kernel_rfl) rfl ?_
                  try clear hM
                  refine id (w_call hl hh rfl ⟨_, _, rfl, rfl, rfl⟩ rfl cal10 rfl (una_pm hpw9 hpi9.hm) (by repeat (first | exact keeps_nil | apply keeps_cons (by repeat (first | exact find_head | apply find_tail)) (by first  | rfl) | exact keeps_self | exact keeps_left | exact keeps_right | exact keeps_swap | apply keeps_mv)) (fun b o m => hh.mem b o (by (repeat (first | exact m | apply List.mem_cons_of_mem)); done)) ?_)
                  clear hl hh a w; intro vc Fc a w hR hl hh
                  obtain ⟨rfl, rfl⟩ := hR
                  try simp only [List.cons_append, List.nil_append] at hh
                  have hM : Mem [(k3, C [.pointer (some ⟨cp9, 0, none⟩)] 24), (k5, C [.pointer (some ⟨mp9, 0, none⟩)] 34)] w := (by (repeat (first | exact Mem.nil | refine Mem.consR hh (by assumption) (by simp) ?_ | refine Mem.cons hh.mem (by (repeat (first | exact find_head | apply find_tail)); done) ?_ | fail)); done)
                  refine d_step (fun _ => hM) ?_
                  refine d_one (i := 11) (by kernel_rfl) rfl ?_
                  try clear hM
                  refine id (w_call hl hh rfl ⟨_, _, rfl, rfl, rfl⟩ rfl cal14 rfl (seq_pm hpw9 hpi9.hm m9.una) (by repeat (first | exact keeps_nil | apply keeps_cons (by repeat (first | exact find_head | apply find_tail)) (by first  | rfl) | exact keeps_self | exact keeps_left | exact keeps_right | exact keeps_swap | apply keeps_mv)) (fun b o m => hh.mem b o (by (repeat (first | exact m | apply List.mem_cons_of_mem)); done)) ?_)
                  clear hl hh a w; intro vc Fc a w hR hl hh
                  obtain ⟨rfl, rfl⟩ := hR
                  try simp only [List.cons_append, List.nil_append] at hh
                  rw [← hpi9.rel.una] at hl
                  have hM : Mem [(k3, C [.pointer (some ⟨cp9, 0, none⟩)] 24), (k5, C [.pointer (some ⟨mp9, 0, none⟩)] 34)] w := (by (repeat (first | exact Mem.nil | refine Mem.consR hh (by assumption) (by simp) ?_ | refine Mem.cons hh.mem (by (repeat (first | exact find_head | apply find_tail)); done) ?_ | fail)); done)
                  refine d_step (fun _ => hM) ?_
                  refine d_take (i := 12) hl rfl (by kernel_rfl) (by kernel_rfl) (by kernel_rfl) (by kernel_rfl) (by kernel_rfl) rfl ⟨_, _, rfl, rfl, rfl⟩ (fun _ _ _ h => h) hM (fun w hC => r_neq hl rfl rfl) rfl ?_
                  clear hl a; intro a hl
                  try simp only [ne_eq, not_true_eq_false, decide_false, decide_true, decide_not, Bool.not_true, beq_self_eq_true, bne_self_eq_false] at hl
                  refine d_take (i := 13) hl rfl (by kernel_rfl) (by kernel_rfl) (by kernel_rfl) (by kernel_rfl) (by kernel_rfl) rfl trivial (fun _ _ _ h => h) hM (fun w hC => r_pickF hl rfl rfl) rfl ?_
                  clear hl a; intro a hl
                  refine d_take (i := 14) hl rfl (by kernel_rfl) (by kernel_rfl) (by kernel_rfl) (by kernel_rfl) (by kernel_rfl) rfl trivial (fun _ _ _ h => h) hM (fun w hC => r_move hl rfl) rfl ?_
                  clear hl a; intro a hl
                  refine d_take (i := 15) hl rfl (by kernel_rfl) (by kernel_rfl) (by kernel_rfl) (by kernel_rfl) (by kernel_rfl) rfl ⟨_, _, rfl, rfl, rfl⟩ (fun _ _ _ h => h) hM (fun w hC => r_loadC hl rfl one24 hC (by repeat (first | exact find_head | apply find_tail)) (by first | rfl)) rfl ?_
                  clear hl a; intro a hl
                  refine d_take (i := 17) hl rfl (by kernel_rfl) (by kernel_rfl) (by kernel_rfl) (by kernel_rfl) (by kernel_rfl) rfl ⟨_, _, rfl, rfl, rfl⟩ (fun _ _ _ h => h) hM (fun w hC => r_loadC hl rfl one34 hC (by repeat (first | exact find_head | apply find_tail)) (by first | rfl)) rfl ?_
                  clear hl a; intro a hl
                  refine d_take (i := 18) hl rfl (by kernel_rfl) (by kernel_rfl) (by kernel_rfl) (by kernel_rfl) (by kernel_rfl) rfl ⟨_, _, rfl, rfl, rfl⟩ (fun _ _ _ h => h) hM (fun w hC => r_loadC hl rfl one34 hC (by repeat (first | exact find_head | apply find_tail)) (by first | rfl)) rfl ?_
                  clear hl a; intro a hl
                  refine d_one (i := 16) (by kernel_rfl) rfl ?_
                  try clear hM
                  refine id (w_call hl hh rfl ⟨_, _, rfl, rfl, rfl⟩ rfl cal28 rfl (nxt_pc hpw9) (by repeat (first | exact keeps_nil | apply keeps_cons (by repeat (first | exact find_head | apply find_tail)) (by first  | rfl) | exact keeps_self | exact keeps_left | exact keeps_right | exact keeps_swap | apply keeps_mv)) (fun b o m => hh.mem b o (by (repeat (first | exact m | apply List.mem_cons_of_mem)); done)) ?_)
                  clear hl hh a w; intro vc Fc a w hR hl hh
                  obtain ⟨rfl, rfl⟩ := hR
                  try simp only [List.cons_append, List.nil_append] at hh
                  have hM : Mem [(k3, C [.pointer (some ⟨cp9, 0, none⟩)] 24), (k5, C [.pointer (some ⟨mp9, 0, none⟩)] 34)] w := (by (repeat (first | exact Mem.nil | refine Mem.consR hh (by assumption) (by simp) ?_ | refine Mem.cons hh.mem (by (repeat (first | exact find_head | apply find_tail)); done) ?_ | fail)); done)
                  refine d_step (fun _ => hM) ?_
                  refine d_one (i := 19) (by kernel_rfl) rfl ?_
                  try clear hM
                  refine id (w_call hl hh rfl ⟨_, _, rfl, rfl, rfl⟩ rfl cal9 rfl (nxt_pm hpw9 hpi9.hm) (by repeat (first | exact keeps_nil | apply keeps_cons (by repeat (first | exact find_head | apply find_tail)) (by first  | rfl) | exact keeps_self | exact keeps_left | exact keeps_right | exact keeps_swap | apply keeps_mv)) (fun b o m => hh.mem b o (by (repeat (first | exact m | apply List.mem_cons_of_mem)); done)) ?_)
                  clear hl hh a w; intro vc Fc a w hR hl hh
                  obtain ⟨rfl, rfl⟩ := hR
                  try simp only [List.cons_append, List.nil_append] at hh
                  have hM : Mem [(k3, C [.pointer (some ⟨cp9, 0, none⟩)] 24), (k5, C [.pointer (some ⟨mp9, 0, none⟩)] 34)] w := (by (repeat (first | exact Mem.nil | refine Mem.consR hh (by assumption) (by simp) ?_ | refine Mem.cons hh.mem (by (repeat (first | exact find_head | apply find_tail)); done) ?_ | fail)); done)
                  refine d_step (fun _ => hM) ?_
                  refine d_one (i := 20) (by kernel_rfl) rfl ?_
                  try clear hM
                  refine id (w_call hl hh rfl ⟨_, _, rfl, rfl, rfl⟩ rfl cal14 rfl (seq_pm hpw9 hpi9.hm m9.nxt) (by repeat (first | exact keeps_nil | apply keeps_cons (by repeat (first | exact find_head | apply find_tail)) (by first  | rfl) | exact keeps_self | exact keeps_left | exact keeps_right | exact keeps_swap | apply keeps_mv)) (fun b o m => hh.mem b o (by (repeat (first | exact m | apply List.mem_cons_of_mem)); done)) ?_)
                  clear hl hh a w; intro vc Fc a w hR hl hh
                  obtain ⟨rfl, rfl⟩ := hR
                  try simp only [List.cons_append, List.nil_append] at hh
                  rw [← hpi9.rel.nxt] at hl
                  have hM : Mem [(k3, C [.pointer (some ⟨cp9, 0, none⟩)] 24), (k5, C [.pointer (some ⟨mp9, 0, none⟩)] 34)] w := (by (repeat (first | exact Mem.nil | refine Mem.consR hh (by assumption) (by simp) ?_ | refine Mem.cons hh.mem (by (repeat (first | exact find_head | apply find_tail)); done) ?_ | fail)); done)
                  refine d_step (fun _ => hM) ?_
                  refine d_take (i := 21) hl rfl (by kernel_rfl) (by kernel_rfl) (by kernel_rfl) (by kernel_rfl) (by kernel_rfl) rfl ⟨_, _, rfl, rfl, rfl⟩ (fun _ _ _ h => h) hM (fun w hC => r_neq hl rfl rfl) rfl ?_
                  clear hl a; intro a hl
                  try simp only [ne_eq, not_true_eq_false, decide_false, decide_true, decide_not, Bool.not_true, beq_self_eq_true, bne_self_eq_false] at hl
                  refine d_take (i := 22) hl rfl (by kernel_rfl) (by kernel_rfl) (by kernel_rfl) (by kernel_rfl) (by kernel_rfl) rfl trivial (fun _ _ _ h => h) hM (fun w hC => r_pickF hl rfl rfl) rfl ?_
                  clear hl a; intro a hl
                  refine d_done (by kernel_rfl) ?_
                  try clear hM
                  have hl2 := hl.add (t := 3) (hl.add (t := 5) (hl.add (t := 6) (hl.add (t := 7) (hl.add (t := 9) (hl.add (t := 34) (hl.add (t := 35) (hl.add (t := 36) (hl.add (t := 225) (hl.nil) rfl) rfl) rfl) rfl) rfl) rfl) rfl) rfl) rfl; clear hl; have hl := hl2; clear hl2
                  refine then_normal ?_
                  refine c_condF hl rfl ?_
                  refine wp_skip ?_
                  refine then_normal ?_
                  refine c_seq ?_
                  refine c_region ?_
                  refine wl (wl_val hl rfl trivial (r_move hl rfl) ?_)
                  clear hl a; intro a hl
                  refine wl (wl_val hl rfl trivial (r_field hl rfl fld50_3) ?_)
                  clear hl a; intro a hl
                  refine wl (w_load hl hh rfl trivial one29 rfl (by repeat (first | exact find_head | apply find_tail)) (by first | rfl) ?_)
                  clear hl a; intro a hl
                  refine wl (w_call hl hh rfl trivial rfl cal11 rfl (same_pw k3 k5 Z9 cp9 mp9 t9 m9 st9 _ _ hpw9 hpi9 (by assumption) d.B hdB) (by repeat (first | exact keeps_nil | apply keeps_cons (by repeat (first | exact find_head | apply find_tail)) (by first  | rfl) | exact keeps_self | exact keeps_left | exact keeps_right | exact keeps_swap | apply keeps_mv)) ⟨(hh.mem _ _ (Find.mem (by repeat (first | exact find_head | apply find_tail)))), (hh.mem _ _ (Find.mem (by repeat (first | exact find_head | apply find_tail)))), (fun b o m => hh.mem b o (by (repeat (first | exact m | apply List.mem_cons_of_mem)); done))⟩ ?_)
                  clear hl hh a w; intro vc Fc a w hR hl hh
                  obtain ⟨⟨off, rfl, hoff⟩, rfl⟩ := hR
                  try simp only [List.cons_append, List.nil_append] at hh
                  refine wl (wl_val hl rfl trivial (r_move hl rfl) ?_)
                  clear hl a; intro a hl
                  refine wl (wl_val hl rfl trivial (r_extract hl rfl (by simp only [List.getElem?_toArray, List.getElem?_cons_zero, List.getElem?_cons_succ]; rfl)) ?_)
                  clear hl a; intro a hl
                  refine wl (wl_val hl rfl trivial (r_extract hl rfl (by simp only [List.getElem?_toArray, List.getElem?_cons_zero, List.getElem?_cons_succ]; rfl)) ?_)
                  clear hl a; intro a hl
                  refine wl (wl_val hl rfl trivial (r_extract hl rfl (by simp only [List.getElem?_toArray, List.getElem?_cons_zero, List.getElem?_cons_succ]; rfl)) ?_)
                  clear hl a; intro a hl
                  refine wl (w_alloc hl hh rfl trivial zero40 rfl ?_)
                  clear hl hh a w; intro k19 a w hl hh
                  refine wl (w_alloc hl hh rfl trivial zero42 rfl ?_)
                  clear hl hh a w; intro k20 a w hl hh
                  refine wl (w_storeA hl hh trivial agg40 rfl rfl (by repeat (first | exact find_head | apply find_tail)) (by first | rfl | (simp; done) | (simp only [List.getElem?_cons_zero, List.getElem?_cons_succ, Value.cells, List.take_zero, List.take_succ_cons, List.take_nil, List.drop_zero, List.drop_succ_cons, List.drop_nil, List.length_cons, List.length_nil, List.cons_append, List.nil_append, List.append_nil, Nat.zero_add, Nat.add_zero, Nat.reduceAdd, Nat.reduceBEq, Nat.reduceEqDiff, Nat.ble, BEq.rfl, Bool.and_true, Bool.and_self, cond_true, beq_self_eq_true]; rfl) | rfl) (by first | (simp; done) | (simp; omega) | (simp [cfL]; done)) (by first | rfl | (simp; done) | rfl) (by first | (simp only [setL, cfL, List.getElem?_cons_zero, List.getElem?_cons_succ, Value.cells, List.take_zero, List.take_succ_cons, List.take_nil, List.drop_zero, List.drop_succ_cons, List.drop_nil, List.length_cons, List.length_nil, List.cons_append, List.nil_append, List.append_nil, Nat.zero_add, Nat.add_zero, Nat.reduceAdd, Nat.reduceBEq, Nat.reduceEqDiff, Nat.ble, BEq.rfl, Bool.and_true, Bool.and_self, cond_true, beq_self_eq_true]; rfl) | (simp only [setL, List.getElem?_cons_zero, List.getElem?_cons_succ, Value.cells, List.take_zero, List.take_succ_cons, List.take_nil, List.drop_zero, List.drop_succ_cons, List.drop_nil, List.length_cons, List.length_nil, List.cons_append, List.nil_append, List.append_nil, Nat.zero_add, Nat.add_zero, Nat.reduceAdd, Nat.reduceBEq, Nat.reduceEqDiff, Nat.ble, BEq.rfl, Bool.and_true, Bool.and_self, cond_true, beq_self_eq_true]; rfl) | (simp only [setL, List.getElem?_cons_zero, List.getElem?_cons_succ, Value.cells, List.take_zero, List.take_succ_cons, List.take_nil, List.drop_zero, List.drop_succ_cons, List.drop_nil, List.length_cons, List.length_nil, List.cons_append, List.nil_append, List.append_nil, Nat.zero_add, Nat.add_zero, Nat.reduceAdd, Nat.reduceBEq, Nat.reduceEqDiff, Nat.ble, BEq.rfl, Bool.and_true, Bool.and_self, cond_true, beq_self_eq_true]; rfl)) ?_)
                  clear hh w; intro w hh
                  refine wl (w_storeA hl hh trivial agg42 rfl rfl (by repeat (first | exact find_head | apply find_tail)) (by first | rfl | (simp; done) | (simp only [List.getElem?_cons_zero, List.getElem?_cons_succ, Value.cells, List.take_zero, List.take_succ_cons, List.take_nil, List.drop_zero, List.drop_succ_cons, List.drop_nil, List.length_cons, List.length_nil, List.cons_append, List.nil_append, List.append_nil, Nat.zero_add, Nat.add_zero, Nat.reduceAdd, Nat.reduceBEq, Nat.reduceEqDiff, Nat.ble, BEq.rfl, Bool.and_true, Bool.and_self, cond_true, beq_self_eq_true]; rfl) | rfl) (by first | (simp; done) | (simp; omega) | (simp [cfL]; done)) (by first | rfl | (simp; done) | rfl) (by first | (simp only [setL, cfL, List.getElem?_cons_zero, List.getElem?_cons_succ, Value.cells, List.take_zero, List.take_succ_cons, List.take_nil, List.drop_zero, List.drop_succ_cons, List.drop_nil, List.length_cons, List.length_nil, List.cons_append, List.nil_append, List.append_nil, Nat.zero_add, Nat.add_zero, Nat.reduceAdd, Nat.reduceBEq, Nat.reduceEqDiff, Nat.ble, BEq.rfl, Bool.and_true, Bool.and_self, cond_true, beq_self_eq_true]; rfl) | (simp only [setL, List.getElem?_cons_zero, List.getElem?_cons_succ, Value.cells, List.take_zero, List.take_succ_cons, List.take_nil, List.drop_zero, List.drop_succ_cons, List.drop_nil, List.length_cons, List.length_nil, List.cons_append, List.nil_append, List.append_nil, Nat.zero_add, Nat.add_zero, Nat.reduceAdd, Nat.reduceBEq, Nat.reduceEqDiff, Nat.ble, BEq.rfl, Bool.and_true, Bool.and_self, cond_true, beq_self_eq_true]; rfl) | (simp only [setL, List.getElem?_cons_zero, List.getElem?_cons_succ, Value.cells, List.take_zero, List.take_succ_cons, List.take_nil, List.drop_zero, List.drop_succ_cons, List.drop_nil, List.length_cons, List.length_nil, List.cons_append, List.nil_append, List.append_nil, Nat.zero_add, Nat.add_zero, Nat.reduceAdd, Nat.reduceBEq, Nat.reduceEqDiff, Nat.ble, BEq.rfl, Bool.and_true, Bool.and_self, cond_true, beq_self_eq_true]; rfl)) ?_)
                  clear hh w; intro w hh
                  refine wl (wl_val hl rfl trivial (r_assign hl rfl) ?_)
                  clear hl a; intro a hl
                  refine w_nil ?_
                  have hl2 := hl.add (t := 3) (hl.add (t := 5) (hl.add (t := 6) (hl.add (t := 7) (hl.add (t := 21) (hl.add (t := 34) (hl.add (t := 35) (hl.add (t := 36) (hl.nil) rfl) rfl) rfl) rfl) rfl) rfl) rfl) rfl; clear hl; have hl := hl2; clear hl2
                  refine then_normal ?_
                  refine c_seq ?_
                  refine c_region ?_
                  refine wl (wl_val hl rfl trivial (r_move hl rfl) ?_)
                  clear hl a; intro a hl
                  refine wl (wl_val hl rfl trivial (r_not hl rfl) ?_)
                  clear hl a; intro a hl
                  refine w_nil ?_
                  have hl2 := hl.add (t := 3) (hl.add (t := 5) (hl.add (t := 6) (hl.add (t := 7) (hl.add (t := 34) (hl.add (t := 35) (hl.add (t := 36) (hl.add (t := 235) (hl.nil) rfl) rfl) rfl) rfl) rfl) rfl) rfl) rfl; clear hl; have hl := hl2; clear hl2
                  refine then_normal ?_
                  refine c_cond hl rfl ?_ ?_
                  · intro hc17
                    try simp only [decide_eq_true_eq, decide_eq_false_iff_not, Bool.not_eq_true', Bool.not_eq_false', Bool.not_eq_true, Bool.not_eq_false, Bool.and_eq_true, Bool.or_eq_true, Bool.and_eq_false_iff, Bool.or_eq_false_iff, Bool.not_not, ne_eq, Int.not_lt, Int.not_le, Decidable.not_not, beq_iff_eq, bne_iff_ne] at hc17
                    exfalso; first | exact Bool.noConfusion (show false = true by assumption) | exact Bool.noConfusion (show true = false by assumption) | contradiction | omega | (simp at *; done)
                  · intro hc17
                    try simp only [decide_eq_true_eq, decide_eq_false_iff_not, Bool.not_eq_true', Bool.not_eq_false', Bool.not_eq_true, Bool.not_eq_false, Bool.and_eq_true, Bool.or_eq_true, Bool.and_eq_false_iff, Bool.or_eq_false_iff, Bool.not_not, ne_eq, Int.not_lt, Int.not_le, Decidable.not_not, beq_iff_eq, bne_iff_ne] at hc17
                    refine wp_skip ?_
                    refine blk_normal ?_
                    refine then_normal ?_
                    refine c_region ?_
                    first | refine wl (wl_val hl rfl trivial (r_add hl rfl rfl (by simp only [Fits]; omega)) ?_) | refine wl (wl_val hl rfl trivial (r_addW hl rfl rfl) ?_)
                    clear hl a; intro a hl
                    refine wl (wl_val hl rfl trivial (r_move hl rfl) ?_)
                    clear hl a; intro a hl
                    refine w_nil ?_
                    have hl2 := hl.add (t := 3) (hl.add (t := 5) (hl.add (t := 6) (hl.add (t := 7) (hl.add (t := 34) (hl.add (t := 35) (hl.add (t := 36) (hl.nil) rfl) rfl) rfl) rfl) rfl) rfl) rfl; clear hl; have hl := hl2; clear hl2
                    refine then_normal ?_
                    refine ⟨⟨t9, m9, st9, cp9, mp9, Z9, z.i + 1⟩, (by simp only; omega), ⟨⟨hpi9, hpw9⟩, by simp only; omega⟩, hl.addE (t := 36) (hl.addE (t := 3) (hl.addE (t := 5) (hl.addE (t := 6) (hl.addE (t := 7) (hl.addE (t := 34) (hl.addE (t := 35) (hl.nil) rfl (by first | rfl | exact congrArg (Value.int .i64) (i_succ z.i))) rfl (by first | rfl | exact congrArg (Value.int .i64) (i_succ z.i))) rfl (by first | rfl | exact congrArg (Value.int .i64) (i_succ z.i))) rfl (by first | rfl | exact congrArg (Value.int .i64) (i_succ z.i))) rfl (by first | rfl | exact congrArg (Value.int .i64) (i_succ z.i))) rfl (by first | rfl | exact congrArg (Value.int .i64) (i_succ z.i))) rfl (by first | rfl | exact congrArg (Value.int .i64) (i_succ z.i)), hh.keep (by repeat (first | exact keeps_nil | apply keeps_cons (by repeat (first | exact find_head | apply find_tail)) (by first  | rfl) | exact keeps_self | exact keeps_left | exact keeps_right | exact keeps_swap | apply keeps_mv))⟩
            · intro hc3
              try simp only [decide_eq_true_eq, decide_eq_false_iff_not, Bool.not_eq_true', Bool.not_eq_false', Bool.not_eq_true, Bool.not_eq_false, Bool.and_eq_true, Bool.or_eq_true, Bool.and_eq_false_iff, Bool.or_eq_false_iff, Bool.not_not, ne_eq, Int.not_lt, Int.not_le, Decidable.not_not, beq_iff_eq, bne_iff_ne] at hc3
              refine c_seq ?_
              refine c_region ?_
              refine wl (wl_val hl rfl trivial (r_eql hl rfl rfl) ?_)
              clear hl a; intro a hl
              refine wl (wl_val hl rfl trivial (r_assign hl rfl) ?_)
              clear hl a; intro a hl
              refine w_nil ?_
              have hl2 := hl.add (t := 3) (hl.add (t := 5) (hl.add (t := 6) (hl.add (t := 7) (hl.add (t := 9) (hl.add (t := 10) (hl.add (t := 34) (hl.add (t := 35) (hl.add (t := 36) (hl.add (t := 62) (hl.add (t := 96) (hl.nil) rfl) rfl) rfl) rfl) rfl) rfl) rfl) rfl) rfl) rfl) rfl; clear hl; have hl := hl2; clear hl2
              refine then_normal ?_
              refine c_cond hl rfl ?_ ?_
              · intro hc6
                try simp only [decide_eq_true_eq, decide_eq_false_iff_not, Bool.not_eq_true', Bool.not_eq_false', Bool.not_eq_true, Bool.not_eq_false, Bool.and_eq_true, Bool.or_eq_true, Bool.and_eq_false_iff, Bool.or_eq_false_iff, Bool.not_not, ne_eq, Int.not_lt, Int.not_le, Decidable.not_not, beq_iff_eq, bne_iff_ne] at hc6
                refine c_seq ?_
                refine c_region ?_
                refine wl (wl_val hl rfl trivial (r_field hl rfl fld50_2) ?_)
                clear hl a; intro a hl
                refine wl (w_load hl hh rfl trivial one29 rfl (by repeat (first | exact find_head | apply find_tail)) (by first | rfl) ?_)
                clear hl a; intro a hl
                refine wl (wl_val hl rfl trivial (r_assign hl rfl) ?_)
                clear hl a; intro a hl
                refine w_nil ?_
                have hl2 := hl.add (t := 3) (hl.add (t := 5) (hl.add (t := 6) (hl.add (t := 7) (hl.add (t := 9) (hl.add (t := 13) (hl.add (t := 34) (hl.add (t := 35) (hl.add (t := 36) (hl.nil) rfl) rfl) rfl) rfl) rfl) rfl) rfl) rfl) rfl; clear hl; have hl := hl2; clear hl2
                refine then_normal ?_
                refine c_seq ?_
                refine c_region ?_
                refine wl (wl_val hl rfl trivial (r_assign hl rfl) ?_)
                clear hl a; intro a hl
                refine w_nil ?_
                have hl2 := hl.add (t := 3) (hl.add (t := 5) (hl.add (t := 6) (hl.add (t := 7) (hl.add (t := 9) (hl.add (t := 13) (hl.add (t := 14) (hl.add (t := 34) (hl.add (t := 35) (hl.add (t := 36) (hl.nil) rfl) rfl) rfl) rfl) rfl) rfl) rfl) rfl) rfl) rfl; clear hl; have hl := hl2; clear hl2
                refine then_normal ?_
                refine wp_block ?_
                obtain ⟨KS1, hKS1, hk⟩ := (hl.add (t := 3) (hl.add (t := 5) (hl.add (t := 6) (hl.add (t := 7) (hl.add (t := 9) (hl.add (t := 34) (hl.add (t := 35) (hl.add (t := 36) (hl.nil) rfl) rfl) rfl) rfl) rfl) rfl) rfl) rfl).name
                obtain ⟨HS1, hHS1, hh2⟩ := hh.nameT (A := []) (U := z.Z) ((by repeat (first | exact keeps_nil | exact keeps_self | exact keeps_swap | apply keeps_mv)))
                refine c_loop (α := PZ) (fun y => 64 - y.j) (fun y a w => (((PI ((z.i : Int) * 137438953472 + (y.j : Int) * 2147483648) (z.i : Int) y.t y.m z.st ∧ PW y.Z z.cp z.mp y.t y.m z.st y.t.cfg.sack y.t.os) ∧ U y.f) ∧ y.j ≤ 63) ∧ Sl 237 ([(13, .int .u32 y.f), (14, .int .u32 (y.j : Int))] ++ KS1) a ∧ Has _ w0 ([] ++ (HS1 ++ y.Z)) w) ⟨z.t, z.m, z.Z, d.A, 0⟩ ⟨⟨⟨⟨hpiz.mono (by first | omega | (simp only; omega)) (by first | omega | (simp only; omega)), hpwz⟩, hdA⟩, by simp only; omega⟩, hl.addE (t := 13) (hl.addE (t := 14) (hk) rfl (by first | rfl)) rfl (by first | rfl), hh2⟩ ?_
                clear hk hh2 hl hh a w
                intro y a w hI
                obtain ⟨⟨⟨⟨hpiy, hpwy⟩, hfy⟩, hyj⟩, hl, hh⟩ := hI
                subst hKS1; subst hHS1
                simp only [List.cons_append, List.nil_append, List.append_nil] at hl hh
                obtain ⟨g, hg⟩ : ∃ g, g = nextP y.t.s y.t.ns y.t.bl y.f := ⟨_, rfl⟩
                have hrg := nextP_rng hpiy.si.ok y.t.ns (bl_U y.t) hfy hpiy.si.fl
                rw [← hg] at hrg
                refine c_seq ?_
                refine c_seq ?_
                refine c_region ?_
                refine wl (wl_val hl rfl trivial (r_move hl rfl) ?_)
                clear hl a; intro a hl
                refine wl (wl_val hl rfl trivial (r_field hl rfl fld50_3) ?_)
                clear hl a; intro a hl
                refine wl (w_load hl hh rfl trivial one29 rfl (by repeat (first | exact find_head | apply find_tail)) (by first | rfl) ?_)
                clear hl a; intro a hl
                first | refine wl (wl_val hl rfl trivial (r_rem hl rfl rfl (by omega) (by omega)) ?_) | refine wl (wl_val hl rfl trivial (r_remT hl rfl rfl (by omega)) ?_)
                clear hl a; intro a hl
                refine wl (wl_val hl rfl trivial (r_lss hl rfl rfl) ?_)
                clear hl a; intro a hl
                refine wl (wl_val hl rfl trivial (r_move hl rfl) ?_)
                clear hl a; intro a hl
                refine sl_split (t := 105) hl rfl ?_ ?_
                · intro hg4; clear hl; intro hl
                  try simp only [decide_eq_true_eq, decide_eq_false_iff_not, Bool.not_eq_true', Bool.not_eq_false', Bool.not_eq_true, Bool.not_eq_false, Bool.and_eq_true, Bool.or_eq_true, Bool.and_eq_false_iff, Bool.or_eq_false_iff, Bool.not_not, ne_eq, Int.not_lt, Int.not_le, Decidable.not_not, beq_iff_eq, bne_iff_ne] at hg4
                  refine wl (wl_val hl rfl ⟨_, _, rfl, rfl, rfl⟩ (r_move hl rfl) ?_)
                  clear hl a; intro a hl
                  refine wl (w_call hl hh rfl ⟨_, _, rfl, rfl, rfl⟩ rfl cal7 rfl (far_pm hpwy hpiy.hm k5) (by repeat (first | exact keeps_nil | apply keeps_cons (by repeat (first | exact find_head | apply find_tail)) (by first  | rfl) | exact keeps_self | exact keeps_left | exact keeps_right | exact keeps_swap | apply keeps_mv)) ⟨(hh.mem _ _ (Find.mem (by repeat (first | exact find_head | apply find_tail)))), (fun b o m => hh.mem b o (by (repeat (first | exact m | apply List.mem_cons_of_mem)); done))⟩ ?_)
                  clear hl hh a w; intro vc Fc a w hR hl hh
                  obtain ⟨rfl, rfl⟩ := hR
                  try simp only [List.cons_append, List.nil_append] at hh
                  refine wl (wl_val hl rfl ⟨_, _, rfl, rfl, rfl⟩ (r_not hl rfl) ?_)
                  clear hl a; intro a hl
                  refine wl (wl_val hl rfl trivial (r_pickT hl rfl rfl) ?_)
                  clear hl a; intro a hl
                  refine w_nil ?_
                  have hl2 := hl.add (t := 3) (hl.add (t := 5) (hl.add (t := 6) (hl.add (t := 7) (hl.add (t := 9) (hl.add (t := 13) (hl.add (t := 14) (hl.add (t := 34) (hl.add (t := 35) (hl.add (t := 36) (hl.add (t := 109) (hl.nil) rfl) rfl) rfl) rfl) rfl) rfl) rfl) rfl) rfl) rfl) rfl; clear hl; have hl := hl2; clear hl2
                  refine then_normal ?_
                  refine c_cond hl rfl ?_ ?_
                  · intro hc7
                    try simp only [decide_eq_true_eq, decide_eq_false_iff_not, Bool.not_eq_true', Bool.not_eq_false', Bool.not_eq_true, Bool.not_eq_false, Bool.and_eq_true, Bool.or_eq_true, Bool.and_eq_false_iff, Bool.or_eq_false_iff, Bool.not_not, ne_eq, Int.not_lt, Int.not_le, Decidable.not_not, beq_iff_eq, bne_iff_ne] at hc7
                    refine wp_skip ?_
                    refine then_normal ?_
                    refine c_seq ?_
                    refine wp_block ?_
                    refine c_seq ?_
                    refine c_region ?_
                    refine wl (wl_val hl rfl trivial (r_move hl rfl) ?_)
                    clear hl a; intro a hl
                    refine wl (wl_val hl rfl trivial (r_move hl rfl) ?_)
                    clear hl a; intro a hl
                    refine wl (w_call hl hh rfl trivial rfl cal11 rfl (same_pw k3 k5 y.Z z.cp z.mp y.t y.m z.st _ _ hpwy hpiy (by assumption) y.f hfy) (by repeat (first | exact keeps_nil | apply keeps_cons (by repeat (first | exact find_head | apply find_tail)) (by first  | rfl) | exact keeps_self | exact keeps_left | exact keeps_right | exact keeps_swap | apply keeps_mv)) ⟨(hh.mem _ _ (Find.mem (by repeat (first | exact find_head | apply find_tail)))), (hh.mem _ _ (Find.mem (by repeat (first | exact find_head | apply find_tail)))), (fun b o m => hh.mem b o (by (repeat (first | exact m | apply List.mem_cons_of_mem)); done))⟩ ?_)
                    clear hl hh a w; intro vc Fc a w hR hl hh
                    obtain ⟨⟨off, rfl, hoff⟩, rfl⟩ := hR
                    try simp only [List.cons_append, List.nil_append] at hh
                    rw [← hg] at hl hoff
                    refine wl (wl_val hl rfl trivial (r_move hl rfl) ?_)
                    clear hl a; intro a hl
                    refine wl (wl_val hl rfl trivial (r_extract hl rfl (by simp only [List.getElem?_toArray, List.getElem?_cons_zero, List.getElem?_cons_succ]; rfl)) ?_)
                    clear hl a; intro a hl
                    refine wl (wl_val hl rfl trivial (r_extract hl rfl (by simp only [List.getElem?_toArray, List.getElem?_cons_zero, List.getElem?_cons_succ]; rfl)) ?_)
                    clear hl a; intro a hl
                    refine wl (wl_val hl rfl trivial (r_extract hl rfl (by simp only [List.getElem?_toArray, List.getElem?_cons_zero, List.getElem?_cons_succ]; rfl)) ?_)
                    clear hl a; intro a hl
                    refine wl (w_alloc hl hh rfl trivial zero40 rfl ?_)
                    clear hl hh a w; intro k15 a w hl hh
                    refine wl (w_alloc hl hh rfl trivial zero42 rfl ?_)
                    clear hl hh a w; intro k16 a w hl hh
                    refine wl (w_storeA hl hh trivial agg40 rfl rfl (by repeat (first | exact find_head | apply find_tail)) (by first | rfl | (simp; done) | (simp only [List.getElem?_cons_zero, List.getElem?_cons_succ, Value.cells, List.take_zero, List.take_succ_cons, List.take_nil, List.drop_zero, List.drop_succ_cons, List.drop_nil, List.length_cons, List.length_nil, List.cons_append, List.nil_append, List.append_nil, Nat.zero_add, Nat.add_zero, Nat.reduceAdd, Nat.reduceBEq, Nat.reduceEqDiff, Nat.ble, BEq.rfl, Bool.and_true, Bool.and_self, cond_true, beq_self_eq_true]; rfl) | rfl) (by first | (simp; done) | (simp; omega) | (simp [cfL]; done)) (by first | rfl | (simp; done) | rfl) (by first | (simp only [setL, cfL, List.getElem?_cons_zero, List.getElem?_cons_succ, Value.cells, List.take_zero, List.take_succ_cons, List.take_nil, List.drop_zero, List.drop_succ_cons, List.drop_nil, List.length_cons, List.length_nil, List.cons_append, List.nil_append, List.append_nil, Nat.zero_add, Nat.add_zero, Nat.reduceAdd, Nat.reduceBEq, Nat.reduceEqDiff, Nat.ble, BEq.rfl, Bool.and_true, Bool.and_self, cond_true, beq_self_eq_true]; rfl) | (simp only [setL, List.getElem?_cons_zero, List.getElem?_cons_succ, Value.cells, List.take_zero, List.take_succ_cons, List.take_nil, List.drop_zero, List.drop_succ_cons, List.drop_nil, List.length_cons, List.length_nil, List.cons_append, List.nil_append, List.append_nil, Nat.zero_add, Nat.add_zero, Nat.reduceAdd, Nat.reduceBEq, Nat.reduceEqDiff, Nat.ble, BEq.rfl, Bool.and_true, Bool.and_self, cond_true, beq_self_eq_true]; rfl) | (simp only [setL, List.getElem?_cons_zero, List.getElem?_cons_succ, Value.cells, List.take_zero, List.take_succ_cons, List.take_nil, List.drop_zero, List.drop_succ_cons, List.drop_nil, List.length_cons, List.length_nil, List.cons_append, List.nil_append, List.append_nil, Nat.zero_add, Nat.add_zero, Nat.reduceAdd, Nat.reduceBEq, Nat.reduceEqDiff, Nat.ble, BEq.rfl, Bool.and_true, Bool.and_self, cond_true, beq_self_eq_true]; rfl)) ?_)
                    clear hh w; intro w hh
                    refine wl (w_storeA hl hh trivial agg42 rfl rfl (by repeat (first | exact find_head | apply find_tail)) (by first | rfl | (simp; done) | (simp only [List.getElem?_cons_zero, List.getElem?_cons_succ, Value.cells, List.take_zero, List.take_succ_cons, List.take_nil, List.drop_zero, List.drop_succ_cons, List.drop_nil, List.length_cons, List.length_nil, List.cons_append, List.nil_append, List.append_nil, Nat.zero_add, Nat.add_zero, Nat.reduceAdd, Nat.reduceBEq, Nat.reduceEqDiff, Nat.ble, BEq.rfl, Bool.and_true, Bool.and_self, cond_true, beq_self_eq_true]; rfl) | rfl) (by first | (simp; done) | (simp; omega) | (simp [cfL]; done)) (by first | rfl | (simp; done) | rfl) (by first | (simp only [setL, cfL, List.getElem?_cons_zero, List.getElem?_cons_succ, Value.cells, List.take_zero, List.take_succ_cons, List.take_nil, List.drop_zero, List.drop_succ_cons, List.drop_nil, List.length_cons, List.length_nil, List.cons_append, List.nil_append, List.append_nil, Nat.zero_add, Nat.add_zero, Nat.reduceAdd, Nat.reduceBEq, Nat.reduceEqDiff, Nat.ble, BEq.rfl, Bool.and_true, Bool.and_self, cond_true, beq_self_eq_true]; rfl) | (simp only [setL, List.getElem?_cons_zero, List.getElem?_cons_succ, Value.cells, List.take_zero, List.take_succ_cons, List.take_nil, List.drop_zero, List.drop_succ_cons, List.drop_nil, List.length_cons, List.length_nil, List.cons_append, List.nil_append, List.append_nil, Nat.zero_add, Nat.add_zero, Nat.reduceAdd, Nat.reduceBEq, Nat.reduceEqDiff, Nat.ble, BEq.rfl, Bool.and_true, Bool.and_self, cond_true, beq_self_eq_true]; rfl) | (simp only [setL, List.getElem?_cons_zero, List.getElem?_cons_succ, Value.cells, List.take_zero, List.take_succ_cons, List.take_nil, List.drop_zero, List.drop_succ_cons, List.drop_nil, List.length_cons, List.length_nil, List.cons_append, List.nil_append, List.append_nil, Nat.zero_add, Nat.add_zero, Nat.reduceAdd, Nat.reduceBEq, Nat.reduceEqDiff, Nat.ble, BEq.rfl, Bool.and_true, Bool.and_self, cond_true, beq_self_eq_true]; rfl)) ?_)
                    clear hh w; intro w hh
                    refine wl (wl_val hl rfl trivial (r_assign hl rfl) ?_)
                    clear hl a; intro a hl
                    refine w_nil ?_
                    have hl2 := hl.add (t := 3) (hl.add (t := 5) (hl.add (t := 6) (hl.add (t := 7) (hl.add (t := 9) (hl.add (t := 13) (hl.add (t := 14) (hl.add (t := 15) (hl.add (t := 16) (hl.add (t := 17) (hl.add (t := 34) (hl.add (t := 35) (hl.add (t := 36) (hl.nil) rfl) rfl) rfl) rfl) rfl) rfl) rfl) rfl) rfl) rfl) rfl) rfl) rfl; clear hl; have hl := hl2; clear hl2
                    refine then_normal ?_
                    refine c_seq ?_
                    refine c_seq ?_
                    refine c_region ?_
                    refine wl (wl_val hl rfl trivial (r_move hl rfl) ?_)
                    clear hl a; intro a hl
                    refine wl (wl_val hl rfl trivial (r_not hl rfl) ?_)
                    clear hl a; intro a hl
                    refine w_nil ?_
                    have hl2 := hl.add (t := 3) (hl.add (t := 5) (hl.add (t := 6) (hl.add (t := 7) (hl.add (t := 9) (hl.add (t := 13) (hl.add (t := 14) (hl.add (t := 15) (hl.add (t := 16) (hl.add (t := 34) (hl.add (t := 35) (hl.add (t := 36) (hl.add (t := 120) (hl.nil) rfl) rfl) rfl) rfl) rfl) rfl) rfl) rfl) rfl) rfl) rfl) rfl) rfl; clear hl; have hl := hl2; clear hl2
                    refine then_normal ?_
                    refine c_cond hl rfl ?_ ?_
                    · intro hc8
                      try simp only [decide_eq_true_eq, decide_eq_false_iff_not, Bool.not_eq_true', Bool.not_eq_false', Bool.not_eq_true, Bool.not_eq_false, Bool.and_eq_true, Bool.or_eq_true, Bool.and_eq_false_iff, Bool.or_eq_false_iff, Bool.not_not, ne_eq, Int.not_lt, Int.not_le, Decidable.not_not, beq_iff_eq, bne_iff_ne] at hc8
                      exfalso; first | exact Bool.noConfusion (show false = true by assumption) | exact Bool.noConfusion (show true = false by assumption) | contradiction | omega | (simp at *; done)
                    · intro hc8
                      try simp only [decide_eq_true_eq, decide_eq_false_iff_not, Bool.not_eq_true', Bool.not_eq_false', Bool.not_eq_true, Bool.not_eq_false, Bool.and_eq_true, Bool.or_eq_true, Bool.and_eq_false_iff, Bool.or_eq_false_iff, Bool.not_not, ne_eq, Int.not_lt, Int.not_le, Decidable.not_not, beq_iff_eq, bne_iff_ne] at hc8
                      refine wp_skip ?_
                      refine then_normal ?_
                      refine c_seq ?_
                      refine c_seq ?_
                      refine c_region ?_
                      refine wl (wl_val hl rfl trivial (r_field hl rfl fld40_0) ?_)
                      clear hl a; intro a hl
                      refine wl (w_load hl hh rfl trivial one38 rfl (by repeat (first | exact find_head | apply find_tail)) (by first | rfl) ?_)
                      clear hl a; intro a hl
                      refine wl (wl_val hl rfl trivial (r_eql hl rfl rfl) ?_)
                      clear hl a; intro a hl
                      refine w_nil ?_
                      have hl2 := hl.add (t := 3) (hl.add (t := 5) (hl.add (t := 6) (hl.add (t := 7) (hl.add (t := 9) (hl.add (t := 13) (hl.add (t := 14) (hl.add (t := 15) (hl.add (t := 16) (hl.add (t := 34) (hl.add (t := 35) (hl.add (t := 36) (hl.add (t := 123) (hl.nil) rfl) rfl) rfl) rfl) rfl) rfl) rfl) rfl) rfl) rfl) rfl) rfl) rfl; clear hl; have hl := hl2; clear hl2
                      refine then_normal ?_
                      refine c_cond hl rfl ?_ ?_
                      · intro hc9
                        try simp only [decide_eq_true_eq, decide_eq_false_iff_not, Bool.not_eq_true', Bool.not_eq_false', Bool.not_eq_true, Bool.not_eq_false, Bool.and_eq_true, Bool.or_eq_true, Bool.and_eq_false_iff, Bool.or_eq_false_iff, Bool.not_not, ne_eq, Int.not_lt, Int.not_le, Decidable.not_not, beq_iff_eq, bne_iff_ne] at hc9
                        have hfin : ∃ t9 m9 st9 cp9 mp9 Z9, PI (((z.i + 1 : Nat) : Int) * 137438953472) ((z.i + 1 : Nat) : Int) t9 m9 st9 ∧ PW Z9 cp9 mp9 t9 m9 st9 t9.cfg.sack t9.os ∧ Has [] w0 ((k9, C [.int .u8 d.kd, .int .u32 d.cf.init, .int .u32 d.cf.maxc, .int .u32 d.cf.bn, .int .u32 d.cf.bd, .int .u32 d.cf.abc, .int .u32 d.cf.dupt, .bool d.cf.idle, .int .u32 d.cf.mss, .int .u32 d.cf.start, .bool d.cf.sack, .int .u32 d.A, .int .u32 d.B, .bool d.dup, .int .u8 d.gr, .slice d.p d.dat.length d.cap] 50) :: (k3, C [.pointer (some ⟨cp9, 0, none⟩)] 24) :: (k5, C [.pointer (some ⟨mp9, 0, none⟩)] 34) :: Z9) w := ⟨y.t, y.m, z.st, z.cp, z.mp, y.Z, (hpiy.mono (by omega) (by omega)), hpwy, (hh.keep (by repeat (first | exact keeps_nil | apply keeps_cons (by repeat (first | exact find_head | apply find_tail)) (by first  | rfl) | exact keeps_self | exact keeps_left | exact keeps_right | exact keeps_swap | apply keeps_mv)))⟩
                        clear hh
                        obtain ⟨t9, m9, st9, cp9, mp9, Z9, hpi9, hpw9, hh⟩ := hfin
                        have hfl9 := hpi9.si.fl; have pf9 := flightP_U t9.s; have hpu9 := pipeP_U hpi9.si.ok t9.ns t9.bl; have hdu9 := hpi9.si.ok.dups; have pp9 := hpi9.si.ok.phase; have oc9 := hpi9.si.ok.cwnd; have os9 := hpi9.si.ok.ssth; have om9 := hpi9.si.ok.maxc; have oms9 := hpi9.si.ok.mss
                        refine wp_exit ?_
                        refine then_exit ?_
                        refine blk_exit_ne rfl ?_
                        refine then_exit ?_
                        refine then_exit ?_
                        refine blk_exit ?_
                        refine blk_normal ?_
                        refine then_normal ?_
                        refine c_seq ?_
                        refine c_seq ?_
                        refine c_region ?_
                        refine wl (wl_val hl rfl trivial (r_move hl rfl) ?_)
                        clear hl a; intro a hl
                        refine wl (w_call hl hh rfl trivial rfl cal7 rfl (far_pm hpw9 hpi9.hm k5) (by repeat (first | exact keeps_nil | apply keeps_cons (by repeat (first | exact find_head | apply find_tail)) (by first  | rfl) | exact keeps_self | exact keeps_left | exact keeps_right | exact keeps_swap | apply keeps_mv)) ⟨(hh.mem _ _ (Find.mem (by repeat (first | exact find_head | apply find_tail)))), (fun b o m => hh.mem b o (by (repeat (first | exact m | apply List.mem_cons_of_mem)); done))⟩ ?_)
                        clear hl hh a w; intro vc Fc a w hR hl hh
                        obtain ⟨rfl, rfl⟩ := hR
                        try simp only [List.cons_append, List.nil_append] at hh
                        refine w_nil ?_
                        have hl2 := hl.add (t := 3) (hl.add (t := 5) (hl.add (t := 6) (hl.add (t := 7) (hl.add (t := 9) (hl.add (t := 34) (hl.add (t := 35) (hl.add (t := 36) (hl.add (t := 202) (hl.nil) rfl) rfl) rfl) rfl) rfl) rfl) rfl) rfl) rfl; clear hl; have hl := hl2; clear hl2
                        refine then_normal ?_
                        refine c_cond hl rfl ?_ ?_
                        · intro hc15
                          try simp only [decide_eq_true_eq, decide_eq_false_iff_not, Bool.not_eq_true', Bool.not_eq_false', Bool.not_eq_true, Bool.not_eq_false, Bool.and_eq_true, Bool.or_eq_true, Bool.and_eq_false_iff, Bool.or_eq_false_iff, Bool.not_not, ne_eq, Int.not_lt, Int.not_le, Decidable.not_not, beq_iff_eq, bne_iff_ne] at hc15
                          refine wp_exit ?_
                          refine then_exit ?_
                          refine blk_exit ?_
                          refine then_normal ?_
                          refine c_region ?_
                          first | refine wl (wl_val hl rfl trivial (r_add hl rfl rfl (by simp only [Fits]; omega)) ?_) | refine wl (wl_val hl rfl trivial (r_addW hl rfl rfl) ?_)
                          clear hl a; intro a hl
                          refine wl (wl_val hl rfl trivial (r_move hl rfl) ?_)
                          clear hl a; intro a hl
                          refine w_nil ?_
                          have hl2 := hl.add (t := 3) (hl.add (t := 5) (hl.add (t := 6) (hl.add (t := 7) (hl.add (t := 34) (hl.add (t := 35) (hl.add (t := 36) (hl.nil) rfl) rfl) rfl) rfl) rfl) rfl) rfl; clear hl; have hl := hl2; clear hl2
                          refine then_normal ?_
                          refine ⟨⟨t9, m9, st9, cp9, mp9, Z9, z.i + 1⟩, (by simp only; omega), ⟨⟨hpi9, hpw9⟩, by simp only; omega⟩, hl.addE (t := 36) (hl.addE (t := 3) (hl.addE (t := 5) (hl.addE (t := 6) (hl.addE (t := 7) (hl.addE (t := 34) (hl.addE (t := 35) (hl.nil) rfl (by first | rfl | exact congrArg (Value.int .i64) (i_succ z.i))) rfl (by first | rfl | exact congrArg (Value.int .i64) (i_succ z.i))) rfl (by first | rfl | exact congrArg (Value.int .i64) (i_succ z.i))) rfl (by first | rfl | exact congrArg (Value.int .i64) (i_succ z.i))) rfl (by first | rfl | exact congrArg (Value.int .i64) (i_succ z.i))) rfl (by first | rfl | exact congrArg (Value.int .i64) (i_succ z.i))) rfl (by first | rfl | exact congrArg (Value.int .i64) (i_succ z.i)), hh.keep (by repeat (first | exact keeps_nil | apply keeps_cons (by repeat (first | exact find_head | apply find_tail)) (by first  | rfl) | exact keeps_self | exact keeps_left | exact keeps_right | exact keeps_swap | apply keeps_mv))⟩
                        · intro hc15
                          try simp only [decide_eq_true_eq, decide_eq_false_iff_not, Bool.not_eq_true', Bool.not_eq_false', Bool.not_eq_true, Bool.not_eq_false, Bool.and_eq_true, Bool.or_eq_true, Bool.and_eq_false_iff, Bool.or_eq_false_iff, Bool.not_not, ne_eq, Int.not_lt, Int.not_le, Decidable.not_not, beq_iff_eq, bne_iff_ne] at hc15
                          refine wp_skip ?_
                          refine then_normal ?_
                          refine c_seq ?_
                          refine c_seq ?_
                          refine c_draw [(k3, C [.pointer (some ⟨cp9, 0, none⟩)] 24), (k5, C [.pointer (some ⟨mp9, 0, none⟩)] 34)] [] mixed hh ?_
                          clear hh w; intro w hh
                          have hM : Mem [(k3, C [.pointer (some ⟨cp9, 0, none⟩)] 24), (k5, C [.pointer (some ⟨mp9, 0, none⟩)] 34)] w := (by (repeat (first | exact Mem.nil | refine Mem.consR hh (by assumption) (by simp) ?_ | refine Mem.cons hh.mem (by (repeat (first | exact find_head | apply find_tail)); done) ?_ | fail)); done)
                          refine d_take (i := 0) hl rfl (by kernel_rfl) (by kernel_rfl) (by kernel_rfl) (by kernel_rfl) (by kernel_rfl) rfl trivial (fun _ _ _ h => h) hM (fun w hC => r_loadC hl rfl one24 hC (by repeat (first | exact find_head | apply find_tail)) (by first | rfl)) rfl ?_
                          clear hl a; intro a hl
                          refine d_take (i := 2) hl rfl (by kernel_rfl) (by kernel_rfl) (by kernel_rfl) (by kernel_rfl) (by kernel_rfl) rfl trivial (fun _ _ _ h => h) hM (fun w hC => r_loadC hl rfl one34 hC (by repeat (first | exact find_head | apply find_tail)) (by first | rfl)) rfl ?_
                          clear hl a; intro a hl
                          refine d_one (i := 1) (by kernel_rfl) rfl ?_
                          try clear hM
                          refine id (w_call hl hh rfl trivial rfl cal26 rfl (view_pc hpw9 hpi9.si) (by repeat (first | exact keeps_nil | apply keeps_cons (by repeat (first | exact find_head | apply find_tail)) (by first  | rfl) | exact keeps_self | exact keeps_left | exact keeps_right | exact keeps_swap | apply keeps_mv)) (fun b o m => hh.mem b o (by (repeat (first | exact m | apply List.mem_cons_of_mem)); done)) ?_)
                          clear hl hh a w; intro vc Fc a w hR hl hh
                          obtain ⟨rfl, rfl⟩ := hR
                          try simp only [List.cons_append, List.nil_append] at hh
                          simp only [vwc, viewP] at hl
                          have hM : Mem [(k3, C [.pointer (some ⟨cp9, 0, none⟩)] 24), (k5, C [.pointer (some ⟨mp9, 0, none⟩)] 34)] w := (by (repeat (first | exact Mem.nil | refine Mem.consR hh (by assumption) (by simp) ?_ | refine Mem.cons hh.mem (by (repeat (first | exact find_head | apply find_tail)); done) ?_ | fail)); done)
                          refine d_step (fun _ => hM) ?_
                          refine d_one (i := 3) (by kernel_rfl) rfl ?_
                          try clear hM
                          refine id (w_call hl hh rfl trivial rfl cal27 rfl (view_pm hpw9 hpi9 (by omega) (by assumption)) (by repeat (first | exact keeps_nil | apply keeps_cons (by repeat (first | exact find_head | apply find_tail)) (by first  | rfl) | exact keeps_self | exact keeps_left | exact keeps_right | exact keeps_swap | apply keeps_mv)) (fun b o m => hh.mem b o (by (repeat (first | exact m | apply List.mem_cons_of_mem)); done)) ?_)
                          clear hl hh a w; intro vc Fc a w hR hl hh
                          obtain ⟨rfl, rfl⟩ := hR
                          try simp only [List.cons_append, List.nil_append] at hh
                          simp only [vwc, viewP] at hl
                          have hM : Mem [(k3, C [.pointer (some ⟨cp9, 0, none⟩)] 24), (k5, C [.pointer (some ⟨mp9, 0, none⟩)] 34)] w := (by (repeat (first | exact Mem.nil | refine Mem.consR hh (by assumption) (by simp) ?_ | refine Mem.cons hh.mem (by (repeat (first | exact find_head | apply find_tail)); done) ?_ | fail)); done)
                          refine d_step (fun _ => hM) ?_
                          refine d_take (i := 4) hl rfl (by kernel_rfl) (by kernel_rfl) (by kernel_rfl) (by kernel_rfl) (by kernel_rfl) rfl trivial (fun _ _ _ h => h) hM (fun w hC => r_neqA hl rfl rfl eqf61 shp61 (by simp only [unlitL, unlit]; rfl) (by simp only [unlitL, unlit]; rfl) (by first | exact ⟨trivial⟩ | (refine ⟨?_⟩; simp [LitsOk, litOk, Fits]; done) | (refine ⟨?_⟩; simp [LitsOk, litOk, Fits]; omega)) (by first | exact ⟨trivial⟩ | (refine ⟨?_⟩; simp [LitsOk, litOk, Fits]; done) | (refine ⟨?_⟩; simp [LitsOk, litOk, Fits]; omega))) rfl ?_
                          clear hl a; intro a hl
                          simp only [eqLits, litBeq, beq_self_eq_true, Bool.and_self, Bool.and_true, Bool.not_true, decide_true] at hl
                          refine d_take (i := 5) hl rfl (by kernel_rfl) (by kernel_rfl) (by kernel_rfl) (by kernel_rfl) (by kernel_rfl) rfl trivial (fun _ _ _ h => h) hM (fun w hC => r_move hl rfl) rfl ?_
                          clear hl a; intro a hl
                          refine d_take (i := 6) hl rfl (by kernel_rfl) (by kernel_rfl) (by kernel_rfl) (by kernel_rfl) (by kernel_rfl) rfl ⟨_, _, rfl, rfl, rfl⟩ (fun _ _ _ h => h) hM (fun w hC => r_loadC hl rfl one24 hC (by repeat (first | exact find_head | apply find_tail)) (by first | rfl)) rfl ?_
                          clear hl a; intro a hl
                          refine d_take (i := 8) hl rfl (by kernel_rfl) (by kernel_rfl) (by kernel_rfl) (by kernel_rfl) (by kernel_rfl) rfl ⟨_, _, rfl, rfl, rfl⟩ (fun _ _ _ h => h) hM (fun w hC => r_loadC hl rfl one34 hC (by repeat (first | exact find_head | apply find_tail)) (by first | rfl)) rfl ?_
                          clear hl a; intro a hl
                          refine d_take (i := 9) hl rfl (by kernel_rfl) (by kernel_rfl) (by kernel_rfl) (by kernel_rfl) (by kernel_rfl) rfl ⟨_, _, rfl, rfl, rfl⟩ (fun _ _ _ h => h) hM (fun w hC => r_loadC hl rfl one34 hC (by repeat (first | exact find_head | apply find_tail)) (by first | rfl)) rfl ?_
                          clear hl a; intro a hl
                          refine d_one (i := 7) (by kernel_rfl) rfl ?_
                          try clear hM
                          refine id (w_call hl hh rfl ⟨_, _, rfl, rfl, rfl⟩ rfl cal18 rfl (una_pc hpw9) (by repeat (first | exact keeps_nil | apply keeps_cons (by repeat (first | exact find_head | apply find_tail)) (by first  | rfl) | exact keeps_self | exact keeps_left | exact keeps_right | exact keeps_swap | apply keeps_mv)) (fun b o m => hh.mem b o (by (repeat (first | exact m | apply List.mem_cons_of_mem)); done)) ?_)
                          clear hl hh a w; intro vc Fc a w hR hl hh
                          obtain ⟨rfl, rfl⟩ := hR
                          try simp only [List.cons_append, List.nil_append] at hh
                          have hM : Mem [(k3, C [.pointer (some ⟨cp9, 0, none⟩)] 24), (k5, C [.pointer (some ⟨mp9, 0, none⟩)] 34)] w := (by (repeat (first | exact Mem.nil | refine Mem.consR hh (by assumption) (by simp) ?_ | refine Mem.cons hh.mem (by (repeat (first | exact find_head | apply find_tail)); done) ?_ | fail)); done)
                          refine d_step (fun _ => hM) ?_
                          refine d_one (i := 10) (by kernel_rfl) rfl ?_
                          try clear hM
                          refine id (w_call hl hh rfl ⟨_, _, rfl, rfl, rfl⟩ rfl cal10 rfl (una_pm hpw9 hpi9.hm) (by repeat (first | exact keeps_nil | apply keeps_cons (by repeat (first | exact find_head | apply find_tail)) (by first  | rfl) | exact keeps_self | exact keeps_left | exact keeps_right | exact keeps_swap | apply keeps_mv)) (fun b o m => hh.mem b o (by (repeat (first | exact m | apply List.mem_cons_of_mem)); done)) ?_)
                          clear hl hh a w; intro vc Fc a w hR hl hh
                          obtain ⟨rfl, rfl⟩ := hR
                          try simp only [List.cons_append, List.nil_append] at hh
                          have hM : Mem [(k3, C [.pointer (some ⟨cp9, 0, none⟩)] 24), (k5, C [.pointer (some ⟨mp9, 0, none⟩)] 34)] w := (by (repeat (first | exact Mem.nil | refine Mem.consR hh (by assumption) (by simp) ?_ | refine Mem.cons hh.mem (by (repeat (first | exact find_head | apply find_tail)); done) ?_ | fail)); done)
                          refine d_step (fun _ => hM) ?_
                          refine d_one (i := 11) (by kernel_rfl) rfl ?_
                          try clear hM
                          refine id (w_call hl hh rfl ⟨_, _, rfl, rfl, rfl⟩ rfl cal14 rfl (seq_pm hpw9 hpi9.hm m9.una) (by repeat (first | exact keeps_nil | apply keeps_cons (by repeat (first | exact find_head | apply find_tail)) (by first  | rfl) | exact keeps_self | exact keeps_left | exact keeps_right | exact keeps_swap | apply keeps_mv)) (fun b o m => hh.mem b o (by (repeat (first | exact m | apply List.mem_cons_of_mem)); done)) ?_)
                          clear hl hh a w; intro vc Fc a w hR hl hh
                          obtain ⟨rfl, rfl⟩ := hR
                          try simp only [List.cons_append, List.nil_append] at hh
                          rw [← hpi9.rel.una] at hl
                          have hM : Mem [(k3, C [.pointer (some ⟨cp9, 0, none⟩)] 24), (k5, C [.pointer (some ⟨mp9, 0, none⟩)] 34)] w := (by (repeat (first | exact Mem.nil | refine Mem.consR hh (by assumption) (by simp) ?_ | refine Mem.cons hh.mem (by (repeat (first | exact find_head | apply find_tail)); done) ?_ | fail)); done)
                          refine d_step (fun _ => hM) ?_
                          refine d_take (i := 12) hl rfl (by kernel_rfl) (by kernel_rfl) (by kernel_rfl) (by kernel_rfl) (by kernel_rfl) rfl ⟨_, _, rfl, rfl, rfl⟩ (fun _ _ _ h => h) hM (fun w hC => r_neq hl rfl rfl) rfl ?_
                          clear hl a; intro a hl
                          try simp only [ne_eq, not_true_eq_false, decide_false, decide_true, decide_not, Bool.not_true, beq_self_eq_true, bne_self_eq_false] at hl
                          refine d_take (i := 13) hl rfl (by kernel_rfl) (by kernel_rfl) (by kernel_rfl) (by kernel_rfl) (by kernel_rfl) rfl trivial (fun _ _ _ h => h) hM (fun w hC => r_pickF hl rfl rfl) rfl ?_
                          clear hl a; intro a hl
                          refine d_take (i := 14) hl rfl (by kernel_rfl) (by kernel_rfl) (by kernel_rfl) (by kernel_rfl) (by kernel_rfl) rfl trivial (fun _ _ _ h => h) hM (fun w hC => r_move hl rfl) rfl ?_
                          clear hl a; intro a hl
                          refine d_take (i := 15) hl rfl (by kernel_rfl) (by kernel_rfl) (by kernel_rfl) (by kernel_rfl) (by kernel_rfl) rfl ⟨_, _, rfl, rfl, rfl⟩ (fun _ _ _ h => h) hM (fun w hC => r_loadC hl rfl one24 hC (by repeat (first | exact find_head | apply find_tail)) (by first | rfl)) rfl ?_
                          clear hl a; intro a hl
                          refine d_take (i := 17) hl rfl (by kernel_rfl) (by kernel_rfl) (by kernel_rfl) (by kernel_rfl) (by kernel_rfl) rfl ⟨_, _, rfl, rfl, rfl⟩ (fun _ _ _ h => h) hM (fun w hC => r_loadC hl rfl one34 hC (by repeat (first | exact find_head | apply find_tail)) (by first | rfl)) rfl ?_
                          clear hl a; intro a hl
                          refine d_take (i := 18) hl rfl (by kernel_rfl) (by kernel_rfl) (by kernel_rfl) (by kernel_rfl) (by kernel_rfl) rfl ⟨_, _, rfl, rfl, rfl⟩ (fun _ _ _ h => h) hM (fun w hC => r_loadC hl rfl one34 hC (by repeat (first | exact find_head | apply find_tail)) (by first | rfl)) rfl ?_
                          clear hl a; intro a hl
                          refine d_one (i := 16) (by kernel_rfl) rfl ?_
                          try clear hM
                          refine id (w_call hl hh rfl ⟨_, _, rfl, rfl, rfl⟩ rfl cal28 rfl (nxt_pc hpw9) (by repeat (first | exact keeps_nil | apply keeps_cons (by repeat (first | exact find_head | apply find_tail)) (by first  | rfl) | exact keeps_self | exact keeps_left | exact keeps_right | exact keeps_swap | apply keeps_mv)) (fun b o m => hh.mem b o (by (repeat (first | exact m | apply List.mem_cons_of_mem)); done)) ?_)
                          clear hl hh a w; intro vc Fc a w hR hl hh
                          obtain ⟨rfl, rfl⟩ := hR
                          try simp only [List.cons_append, List.nil_append] at hh
                          have hM : Mem [(k3, C [.pointer (some ⟨cp9, 0, none⟩)] 24), (k5, C [.pointer (some ⟨mp9, 0, none⟩)] 34)] w := (by (repeat (first | exact Mem.nil | refine Mem.consR hh (by assumption) (by simp) ?_ | refine Mem.cons hh.mem (by (repeat (first | exact find_head | apply find_tail)); done) ?_ | fail)); done)
                          refine d_step (fun _ => hM) ?_
                          refine d_one (i := 19) (by kernel_rfl) rfl ?_
                          try clear hM
                          refine id (w_call hl hh rfl ⟨_, _, rfl, rfl, rfl⟩ rfl cal9 rfl (nxt_pm hpw9 hpi9.hm) (by repeat (first | exact keeps_nil | apply keeps_cons (by repeat (first | exact find_head | apply find_tail)) (by first  | rfl) | exact keeps_self | exact keeps_left | exact keeps_right | exact keeps_swap | apply keeps_mv)) (fun b o m => hh.mem b o (by (repeat (first | exact m | apply List.mem_cons_of_mem)); done)) ?_)
                          clear hl hh a w; intro vc Fc a w hR hl hh
                          obtain ⟨rfl, rfl⟩ := hR
                          try simp only [List.cons_append, List.nil_append] at hh
                          have hM : Mem [(k3, C [.pointer (some ⟨cp9, 0, none⟩)] 24), (k5, C [.pointer (some ⟨mp9, 0, none⟩)] 34)] w := (by (repeat (first | exact Mem.nil | refine Mem.consR hh (by assumption) (by simp) ?_ | refine Mem.cons hh.mem (by (repeat (first | exact find_head | apply find_tail)); done) ?_ | fail)); done)
                          refine d_step (fun _ => hM) ?_
                          refine d_one (i := 20) (by kernel_rfl) rfl ?_
                          try clear hM
                          refine id (w_call hl hh rfl ⟨_, _, rfl, rfl, rfl⟩ rfl cal14 rfl (seq_pm hpw9 hpi9.hm m9.nxt) (by repeat (first | exact keeps_nil | apply keeps_cons (by repeat (first | exact find_head | apply find_tail)) (by first  | rfl) | exact keeps_self | exact keeps_left | exact keeps_right | exact keeps_swap | apply keeps_mv)) (fun b o m => hh.mem b o (by (repeat (first | exact m | apply List.mem_cons_of_mem)); done)) ?_)
                          clear hl hh a w; intro vc Fc a w hR hl hh
                          obtain ⟨rfl, rfl⟩ := hR
                          try simp only [List.cons_append, List.nil_append] at hh
                          rw [← hpi9.rel.nxt] at hl
                          have hM : Mem [(k3, C [.pointer (some ⟨cp9, 0, none⟩)] 24), (k5, C [.pointer (some ⟨mp9, 0, none⟩)] 34)] w := (by (repeat (first | exact Mem.nil | refine Mem.consR hh (by assumption) (by simp) ?_ | refine Mem.cons hh.mem (by (repeat (first | exact find_head | apply find_tail)); done) ?_ | fail)); done)
                          refine d_step (fun _ => hM) ?_
                          refine d_take (i := 21) hl rfl (by kernel_rfl) (by kernel_rfl) (by kernel_rfl) (by kernel_rfl) (by kernel_rfl) rfl ⟨_, _, rfl, rfl, rfl⟩ (fun _ _ _ h => h) hM (fun w hC => r_neq hl rfl rfl) rfl ?_
                          clear hl a; intro a hl
                          try simp only [ne_eq, not_true_eq_false, decide_false, decide_true, decide_not, Bool.not_true, beq_self_eq_true, bne_self_eq_false] at hl
                          refine d_take (i := 22) hl rfl (by kernel_rfl) (by kernel_rfl) (by kernel_rfl) (by kernel_rfl) (by kernel_rfl) rfl trivial (fun _ _ _ h => h) hM (fun w hC => r_pickF hl rfl rfl) rfl ?_
                          clear hl a; intro a hl
                          refine d_done (by kernel_rfl) ?_
                          try clear hM
                          have hl2 := hl.add (t := 3) (hl.add (t := 5) (hl.add (t := 6) (hl.add (t := 7) (hl.add (t := 9) (hl.add (t := 34) (hl.add (t := 35) (hl.add (t := 36) (hl.add (t := 225) (hl.nil) rfl) rfl) rfl) rfl) rfl) rfl) rfl) rfl) rfl; clear hl; have hl := hl2; clear hl2
                          refine then_normal ?_
                          refine c_condF hl rfl ?_
                          refine wp_skip ?_
                          refine then_normal ?_
                          refine c_seq ?_
                          refine c_region ?_
                          refine wl (wl_val hl rfl trivial (r_move hl rfl) ?_)
                          clear hl a; intro a hl
                          refine wl (wl_val hl rfl trivial (r_field hl rfl fld50_3) ?_)
                          clear hl a; intro a hl
                          refine wl (w_load hl hh rfl trivial one29 rfl (by repeat (first | exact find_head | apply find_tail)) (by first | rfl) ?_)
                          clear hl a; intro a hl
                          refine wl (w_call hl hh rfl trivial rfl cal11 rfl (same_pw k3 k5 Z9 cp9 mp9 t9 m9 st9 _ _ hpw9 hpi9 (by assumption) d.B hdB) (by repeat (first | exact keeps_nil | apply keeps_cons (by repeat (first | exact find_head | apply find_tail)) (by first  | rfl) | exact keeps_self | exact keeps_left | exact keeps_right | exact keeps_swap | apply keeps_mv)) ⟨(hh.mem _ _ (Find.mem (by repeat (first | exact find_head | apply find_tail)))), (hh.mem _ _ (Find.mem (by repeat (first | exact find_head | apply find_tail)))), (fun b o m => hh.mem b o (by (repeat (first | exact m | apply List.mem_cons_of_mem)); done))⟩ ?_)
                          clear hl hh a w; intro vc Fc a w hR hl hh
                          obtain ⟨⟨off, rfl, hoff⟩, rfl⟩ := hR
                          try simp only [List.cons_append, List.nil_append] at hh
                          refine wl (wl_val hl rfl trivial (r_move hl rfl) ?_)
                          clear hl a; intro a hl
                          refine wl (wl_val hl rfl trivial (r_extract hl rfl (by simp only [List.getElem?_toArray, List.getElem?_cons_zero, List.getElem?_cons_succ]; rfl)) ?_)
                          clear hl a; intro a hl
                          refine wl (wl_val hl rfl trivial (r_extract hl rfl (by simp only [List.getElem?_toArray, List.getElem?_cons_zero, List.getElem?_cons_succ]; rfl)) ?_)
                          clear hl a; intro a hl
                          refine wl (wl_val hl rfl trivial (r_extract hl rfl (by simp only [List.getElem?_toArray, List.getElem?_cons_zero, List.getElem?_cons_succ]; rfl)) ?_)
                          clear hl a; intro a hl
                          refine wl (w_alloc hl hh rfl trivial zero40 rfl ?_)
                          clear hl hh a w; intro k19 a w hl hh
                          refine wl (w_alloc hl hh rfl trivial zero42 rfl ?_)
                          clear hl hh a w; intro k20 a w hl hh
                          refine wl (w_storeA hl hh trivial agg40 rfl rfl (by repeat (first | exact find_head | apply find_tail)) (by first | rfl | (simp; done) | (simp only [List.getElem?_cons_zero, List.getElem?_cons_succ, Value.cells, List.take_zero, List.take_succ_cons, List.take_nil, List.drop_zero, List.drop_succ_cons, List.drop_nil, List.length_cons, List.length_nil, List.cons_append, List.nil_append, List.append_nil, Nat.zero_add, Nat.add_zero, Nat.reduceAdd, Nat.reduceBEq, Nat.reduceEqDiff, Nat.ble, BEq.rfl, Bool.and_true, Bool.and_self, cond_true, beq_self_eq_true]; rfl) | rfl) (by first | (simp; done) | (simp; omega) | (simp [cfL]; done)) (by first | rfl | (simp; done) | rfl) (by first | (simp only [setL, cfL, List.getElem?_cons_zero, List.getElem?_cons_succ, Value.cells, List.take_zero, List.take_succ_cons, List.take_nil, List.drop_zero, List.drop_succ_cons, List.drop_nil, List.length_cons, List.length_nil, List.cons_append, List.nil_append, List.append_nil, Nat.zero_add, Nat.add_zero, Nat.reduceAdd, Nat.reduceBEq, Nat.reduceEqDiff, Nat.ble, BEq.rfl, Bool.and_true, Bool.and_self, cond_true, beq_self_eq_true]; rfl) | (simp only [setL, List.getElem?_cons_zero, List.getElem?_cons_succ, Value.cells, List.take_zero, List.take_succ_cons, List.take_nil, List.drop_zero, List.drop_succ_cons, List.drop_nil, List.length_cons, List.length_nil, List.cons_append, List.nil_append, List.append_nil, Nat.zero_add, Nat.add_zero, Nat.reduceAdd, Nat.reduceBEq, Nat.reduceEqDiff, Nat.ble, BEq.rfl, Bool.and_true, Bool.and_self, cond_true, beq_self_eq_true]; rfl) | (simp only [setL, List.getElem?_cons_zero, List.getElem?_cons_succ, Value.cells, List.take_zero, List.take_succ_cons, List.take_nil, List.drop_zero, List.drop_succ_cons, List.drop_nil, List.length_cons, List.length_nil, List.cons_append, List.nil_append, List.append_nil, Nat.zero_add, Nat.add_zero, Nat.reduceAdd, Nat.reduceBEq, Nat.reduceEqDiff, Nat.ble, BEq.rfl, Bool.and_true, Bool.and_self, cond_true, beq_self_eq_true]; rfl)) ?_)
                          clear hh w; intro w hh
                          refine wl (w_storeA hl hh trivial agg42 rfl rfl (by repeat (first | exact find_head | apply find_tail)) (by first | rfl | (simp; done) | (simp only [List.getElem?_cons_zero, List.getElem?_cons_succ, Value.cells, List.take_zero, List.take_succ_cons, List.take_nil, List.drop_zero, List.drop_succ_cons, List.drop_nil, List.length_cons, List.length_nil, List.cons_append, List.nil_append, List.append_nil, Nat.zero_add, Nat.add_zero, Nat.reduceAdd, Nat.reduceBEq, Nat.reduceEqDiff, Nat.ble, BEq.rfl, Bool.and_true, Bool.and_self, cond_true, beq_self_eq_true]; rfl) | rfl) (by first | (simp; done) | (simp; omega) | (simp [cfL]; done)) (by first | rfl | (simp; done) | rfl) (by first | (simp only [setL, cfL, List.getElem?_cons_zero, List.getElem?_cons_succ, Value.cells, List.take_zero, List.take_succ_cons, List.take_nil, List.drop_zero, List.drop_succ_cons, List.drop_nil, List.length_cons, List.length_nil, List.cons_append, List.nil_append, List.append_nil, Nat.zero_add, Nat.add_zero, Nat.reduceAdd, Nat.reduceBEq, Nat.reduceEqDiff, Nat.ble, BEq.rfl, Bool.and_true, Bool.and_self, cond_true, beq_self_eq_true]; rfl) | (simp only [setL, List.getElem?_cons_zero, List.getElem?_cons_succ, Value.cells, List.take_zero, List.take_succ_cons, List.take_nil, List.drop_zero, List.drop_succ_cons, List.drop_nil, List.length_cons, List.length_nil, List.cons_append, List.nil_append, List.append_nil, Nat.zero_add, Nat.add_zero, Nat.reduceAdd, Nat.reduceBEq, Nat.reduceEqDiff, Nat.ble, BEq.rfl, Bool.and_true, Bool.and_self, cond_true, beq_self_eq_true]; rfl) | (simp only [setL, List.getElem?_cons_zero, List.getElem?_cons_succ, Value.cells, List.take_zero, List.take_succ_cons, List.take_nil, List.drop_zero, List.drop_succ_cons, List.drop_nil, List.length_cons, List.length_nil, List.cons_append, List.nil_append, List.append_nil, Nat.zero_add, Nat.add_zero, Nat.reduceAdd, Nat.reduceBEq, Nat.reduceEqDiff, Nat.ble, BEq.rfl, Bool.and_true, Bool.and_self, cond_true, beq_self_eq_true]; rfl)) ?_)
                          clear hh w; intro w hh
                          refine wl (wl_val hl rfl trivial (r_assign hl rfl) ?_)
                          clear hl a; intro a hl
                          refine w_nil ?_
                          have hl2 := hl.add (t := 3) (hl.add (t := 5) (hl.add (t := 6) (hl.add (t := 7) (hl.add (t := 21) (hl.add (t := 34) (hl.add (t := 35) (hl.add (t := 36) (hl.nil) rfl) rfl) rfl) rfl) rfl) rfl) rfl) rfl; clear hl; have hl := hl2; clear hl2
                          refine then_normal ?_
                          refine c_seq ?_
                          refine c_region ?_
                          refine wl (wl_val hl rfl trivial (r_move hl rfl) ?_)
                          clear hl a; intro a hl
                          refine wl (wl_val hl rfl trivial (r_not hl rfl) ?_)
                          clear hl a; intro a hl
                          refine w_nil ?_
                          have hl2 := hl.add (t := 3) (hl.add (t := 5) (hl.add (t := 6) (hl.add (t := 7) (hl.add (t := 34) (hl.add (t := 35) (hl.add (t := 36) (hl.add (t := 235) (hl.nil) rfl) rfl) rfl) rfl) rfl) rfl) rfl) rfl; clear hl; have hl := hl2; clear hl2
                          refine then_normal ?_
                          refine c_cond hl rfl ?_ ?_
                          · intro hc17
                            try simp only [decide_eq_true_eq, decide_eq_false_iff_not, Bool.not_eq_true', Bool.not_eq_false', Bool.not_eq_true, Bool.not_eq_false, Bool.and_eq_true, Bool.or_eq_true, Bool.and_eq_false_iff, Bool.or_eq_false_iff, Bool.not_not, ne_eq, Int.not_lt, Int.not_le, Decidable.not_not, beq_iff_eq, bne_iff_ne] at hc17
                            exfalso; first | exact Bool.noConfusion (show false = true by assumption) | exact Bool.noConfusion (show true = false by assumption) | contradiction | omega | (simp at *; done)
                          · intro hc17
                            try simp only [decide_eq_true_eq, decide_eq_false_iff_not, Bool.not_eq_true', Bool.not_eq_false', Bool.not_eq_true, Bool.not_eq_false, Bool.and_eq_true, Bool.or_eq_true, Bool.and_eq_false_iff, Bool.or_eq_false_iff, Bool.not_not, ne_eq, Int.not_lt, Int.not_le, Decidable.not_not, beq_iff_eq, bne_iff_ne] at hc17
                            refine wp_skip ?_
                            refine blk_normal ?_
                            refine then_normal ?_
                            refine c_region ?_
                            first | refine wl (wl_val hl rfl trivial (r_add hl rfl rfl (by simp only [Fits]; omega)) ?_) | refine wl (wl_val hl rfl trivial (r_addW hl rfl rfl) ?_)
                            clear hl a; intro a hl
                            refine wl (wl_val hl rfl trivial (r_move hl rfl) ?_)
                            clear hl a; intro a hl
                            refine w_nil ?_
                            have hl2 := hl.add (t := 3) (hl.add (t := 5) (hl.add (t := 6) (hl.add (t := 7) (hl.add (t := 34) (hl.add (t := 35) (hl.add (t := 36) (hl.nil) rfl) rfl) rfl) rfl) rfl) rfl) rfl; clear hl; have hl := hl2; clear hl2
                            refine then_normal ?_
                            refine ⟨⟨t9, m9, st9, cp9, mp9, Z9, z.i + 1⟩, (by simp only; omega), ⟨⟨hpi9, hpw9⟩, by simp only; omega⟩, hl.addE (t := 36) (hl.addE (t := 3) (hl.addE (t := 5) (hl.addE (t := 6) (hl.addE (t := 7) (hl.addE (t := 34) (hl.addE (t := 35) (hl.nil) rfl (by first | rfl | exact congrArg (Value.int .i64) (i_succ z.i))) rfl (by first | rfl | exact congrArg (Value.int .i64) (i_succ z.i))) rfl (by first | rfl | exact congrArg (Value.int .i64) (i_succ z.i))) rfl (by first | rfl | exact congrArg (Value.int .i64) (i_succ z.i))) rfl (by first | rfl | exact congrArg (Value.int .i64) (i_succ z.i))) rfl (by first | rfl | exact congrArg (Value.int .i64) (i_succ z.i))) rfl (by first | rfl | exact congrArg (Value.int .i64) (i_succ z.i)), hh.keep (by repeat (first | exact keeps_nil | apply keeps_cons (by repeat (first | exact find_head | apply find_tail)) (by first  | rfl) | exact keeps_self | exact keeps_left | exact keeps_right | exact keeps_swap | apply keeps_mv))⟩
                      · intro hc9
                        try simp only [decide_eq_true_eq, decide_eq_false_iff_not, Bool.not_eq_true', Bool.not_eq_false', Bool.not_eq_true, Bool.not_eq_false, Bool.and_eq_true, Bool.or_eq_true, Bool.and_eq_false_iff, Bool.or_eq_false_iff, Bool.not_not, ne_eq, Int.not_lt, Int.not_le, Decidable.not_not, beq_iff_eq, bne_iff_ne] at hc9
                        refine wp_skip ?_
                        refine then_normal ?_
                        refine c_seq ?_
                        refine c_region ?_
                        refine wl (w_load hl hh rfl trivial one24 rfl (by repeat (first | exact find_head | apply find_tail)) (by first | rfl) ?_)
                        clear hl a; intro a hl
                        first | refine wl (w_loadA hl hh rfl trivial agg40 rfl (by repeat (first | exact find_head | apply find_tail)) (by first | (simp only [List.getElem?_cons_zero, List.getElem?_cons_succ, Value.cells, List.take_zero, List.take_succ_cons, List.take_nil, List.drop_zero, List.drop_succ_cons, List.drop_nil, List.length_cons, List.length_nil, List.cons_append, List.nil_append, List.append_nil, Nat.zero_add, Nat.add_zero, Nat.reduceAdd, Nat.reduceBEq, Nat.reduceEqDiff, Nat.ble, BEq.rfl, Bool.and_true, Bool.and_self, cond_true, beq_self_eq_true]; rfl) | rfl | (simp only [List.getElem?_cons_zero, List.getElem?_cons_succ, Value.cells, List.take_zero, List.take_succ_cons, List.take_nil, List.drop_zero, List.drop_succ_cons, List.drop_nil, List.length_cons, List.length_nil, List.cons_append, List.nil_append, List.append_nil, Nat.zero_add, Nat.add_zero, Nat.reduceAdd, Nat.reduceBEq, Nat.reduceEqDiff, Nat.ble, BEq.rfl, Bool.and_true, Bool.and_self, cond_true, beq_self_eq_true]; rfl)) (by first | rfl | (simp; done)) ?_) | refine wl (w_loadRA hl hh rfl trivial agg40 rfl hm (by simp) hqv rfl ?_) | refine wl (w_loadRA hl hh rfl trivial agg40 rfl hg0 (by simp) rfl rfl ?_)
                        clear hl a; intro a hl
                        refine wl (w_call hl hh rfl trivial rfl cal16 rfl (sent_pc hpwy hpiy.si g.k g.q g.n hrg.2.1 hrg.2.2) (by repeat (first | exact keeps_nil | apply keeps_cons (by repeat (first | exact find_head | apply find_tail)) (by first  | rfl) | exact keeps_self | exact keeps_left | exact keeps_right | exact keeps_swap | apply keeps_mv)) trivial ?_)
                        clear hl hh a w; intro vc Fc a w hR hl hh
                        obtain ⟨rfl, hpw1⟩ := hR
                        try simp only [List.cons_append, List.nil_append] at hh
                        replace hh := hh.comm
                        simp only [List.cons_append, List.nil_append, List.append_nil, List.append_assoc] at hh
                        generalize Fc = Z1 at hh hpw1
                        refine w_nil ?_
                        have hl2 := hl.add (t := 3) (hl.add (t := 5) (hl.add (t := 6) (hl.add (t := 7) (hl.add (t := 9) (hl.add (t := 13) (hl.add (t := 14) (hl.add (t := 15) (hl.add (t := 16) (hl.add (t := 34) (hl.add (t := 35) (hl.add (t := 36) (hl.nil) rfl) rfl) rfl) rfl) rfl) rfl) rfl) rfl) rfl) rfl) rfl) rfl; clear hl; have hl := hl2; clear hl2
                        refine then_normal ?_
                        refine c_seq ?_
                        refine c_region ?_
                        refine wl (w_load hl hh rfl trivial one34 rfl (by repeat (first | exact find_head | apply find_tail)) (by first | rfl) ?_)
                        clear hl a; intro a hl
                        first | refine wl (w_loadA hl hh rfl trivial agg42 rfl (by repeat (first | exact find_head | apply find_tail)) (by first | (simp only [List.getElem?_cons_zero, List.getElem?_cons_succ, Value.cells, List.take_zero, List.take_succ_cons, List.take_nil, List.drop_zero, List.drop_succ_cons, List.drop_nil, List.length_cons, List.length_nil, List.cons_append, List.nil_append, List.append_nil, Nat.zero_add, Nat.add_zero, Nat.reduceAdd, Nat.reduceBEq, Nat.reduceEqDiff, Nat.ble, BEq.rfl, Bool.and_true, Bool.and_self, cond_true, beq_self_eq_true]; rfl) | rfl | (simp only [List.getElem?_cons_zero, List.getElem?_cons_succ, Value.cells, List.take_zero, List.take_succ_cons, List.take_nil, List.drop_zero, List.drop_succ_cons, List.drop_nil, List.length_cons, List.length_nil, List.cons_append, List.nil_append, List.append_nil, Nat.zero_add, Nat.add_zero, Nat.reduceAdd, Nat.reduceBEq, Nat.reduceEqDiff, Nat.ble, BEq.rfl, Bool.and_true, Bool.and_self, cond_true, beq_self_eq_true]; rfl)) (by first | rfl | (simp; done)) ?_) | refine wl (w_loadRA hl hh rfl trivial agg42 rfl hm (by simp) hqv rfl ?_) | refine wl (w_loadRA hl hh rfl trivial agg42 rfl hg0 (by simp) rfl rfl ?_)
                        clear hl a; intro a hl
                        refine wl (w_call hl hh rfl trivial rfl cal17 rfl (sent_pm hpw1 hpiy.hm g.k off g.n (by have := hpiy.hm.una; have := hpiy.hm.nxt; omega) (by omega) (by have := hpiy.nx; omega)) (by repeat (first | exact keeps_nil | apply keeps_cons (by repeat (first | exact find_head | apply find_tail)) (by first  | rfl) | exact keeps_self | exact keeps_left | exact keeps_right | exact keeps_swap | apply keeps_mv)) trivial ?_)
                        clear hl hh a w; intro vc Fc a w hR hl hh
                        obtain ⟨rfl, hpw2⟩ := hR
                        try simp only [List.cons_append, List.nil_append] at hh
                        replace hh := hh.comm
                        simp only [List.cons_append, List.nil_append, List.append_nil, List.append_assoc] at hh
                        generalize Fc = Z2 at hh hpw2
                        refine w_nil ?_
                        have hl2 := hl.add (t := 3) (hl.add (t := 5) (hl.add (t := 6) (hl.add (t := 7) (hl.add (t := 9) (hl.add (t := 13) (hl.add (t := 14) (hl.add (t := 15) (hl.add (t := 34) (hl.add (t := 35) (hl.add (t := 36) (hl.nil) rfl) rfl) rfl) rfl) rfl) rfl) rfl) rfl) rfl) rfl) rfl; clear hl; have hl := hl2; clear hl2
                        refine then_normal ?_
                        refine c_seq ?_
                        refine c_region ?_
                        refine wl (wl_val hl rfl trivial (r_field hl rfl fld40_0) ?_)
                        clear hl a; intro a hl
                        refine wl (w_load hl hh rfl trivial one38 rfl (by repeat (first | exact find_head | apply find_tail)) (by first | rfl) ?_)
                        clear hl a; intro a hl
                        refine wl (wl_val hl rfl trivial (r_eql hl rfl rfl) ?_)
                        clear hl a; intro a hl
                        refine w_nil ?_
                        have hl2 := hl.add (t := 3) (hl.add (t := 5) (hl.add (t := 6) (hl.add (t := 7) (hl.add (t := 9) (hl.add (t := 13) (hl.add (t := 14) (hl.add (t := 15) (hl.add (t := 34) (hl.add (t := 35) (hl.add (t := 36) (hl.add (t := 132) (hl.nil) rfl) rfl) rfl) rfl) rfl) rfl) rfl) rfl) rfl) rfl) rfl) rfl; clear hl; have hl := hl2; clear hl2
                        refine then_normal ?_
                        refine c_cond hl rfl ?_ ?_
                        · intro hc10
                          try simp only [decide_eq_true_eq, decide_eq_false_iff_not, Bool.not_eq_true', Bool.not_eq_false', Bool.not_eq_true, Bool.not_eq_false, Bool.and_eq_true, Bool.or_eq_true, Bool.and_eq_false_iff, Bool.or_eq_false_iff, Bool.not_not, ne_eq, Int.not_lt, Int.not_le, Decidable.not_not, beq_iff_eq, bne_iff_ne] at hc10
                          refine c_region ?_
                          refine wl (wl_val hl rfl trivial (r_move hl rfl) ?_)
                          clear hl a; intro a hl
                          refine wl (wl_val hl rfl trivial (r_field hl rfl fld40_2) ?_)
                          clear hl a; intro a hl
                          refine wl (w_load hl hh rfl trivial one29 rfl (by repeat (first | exact find_head | apply find_tail)) (by first | rfl) ?_)
                          clear hl a; intro a hl
                          refine wl (wl_val hl rfl trivial (r_subM wm_u32 hl rfl rfl) ?_)
                          clear hl a; intro a hl
                          refine wl (wl_val hl rfl trivial (r_assign hl rfl) ?_)
                          clear hl a; intro a hl
                          refine w_nil ?_
                          have hl2 := hl.add (t := 3) (hl.add (t := 5) (hl.add (t := 6) (hl.add (t := 7) (hl.add (t := 9) (hl.add (t := 13) (hl.add (t := 14) (hl.add (t := 34) (hl.add (t := 35) (hl.add (t := 36) (hl.nil) rfl) rfl) rfl) rfl) rfl) rfl) rfl) rfl) rfl) rfl; clear hl; have hl := hl2; clear hl2
                          refine blk_normal ?_
                          refine then_normal ?_
                          refine c_region ?_
                          refine wl (wl_val hl rfl trivial (r_move hl rfl) ?_)
                          clear hl a; intro a hl
                          first | refine wl (wl_val hl rfl trivial (r_add hl rfl rfl (by simp only [Fits]; omega)) ?_) | refine wl (wl_val hl rfl trivial (r_addM wm_u32 hl rfl rfl) ?_)
                          clear hl a; intro a hl
                          refine wl (wl_val hl rfl trivial (r_assign hl rfl) ?_)
                          clear hl a; intro a hl
                          refine w_nil ?_
                          have hl2 := hl.add (t := 3) (hl.add (t := 5) (hl.add (t := 6) (hl.add (t := 7) (hl.add (t := 9) (hl.add (t := 13) (hl.add (t := 14) (hl.add (t := 34) (hl.add (t := 35) (hl.add (t := 36) (hl.nil) rfl) rfl) rfl) rfl) rfl) rfl) rfl) rfl) rfl) rfl; clear hl; have hl := hl2; clear hl2
                          refine then_normal ?_
                          first | refine ⟨⟨{ y.t with s := sentP y.t.s g.k g.q g.n }, sentM y.m g.k off g.n, Z2, (y.f - g.n) % 4294967296, y.j + 1⟩, (by simp only; omega), ⟨⟨⟨(pi_grant hpiy (by omega) (hoff (by assumption)) hrg.2.2).mono (by first | omega | (simp only; omega)) (by first | omega | (simp only; omega)), hpw2⟩, by first | exact hfy | exact ⟨by simp only; omega, by simp only; omega⟩⟩, by simp only; omega⟩, hl.addE (t := 13) (hl.addE (t := 14) (hl.addE (t := 3) (hl.addE (t := 5) (hl.addE (t := 6) (hl.addE (t := 7) (hl.addE (t := 9) (hl.addE (t := 34) (hl.addE (t := 35) (hl.addE (t := 36) (hl.nil) rfl (by first | rfl | exact congrArg (Value.int .u32) (i_succ y.j))) rfl (by first | rfl | exact congrArg (Value.int .u32) (i_succ y.j))) rfl (by first | rfl | exact congrArg (Value.int .u32) (i_succ y.j))) rfl (by first | rfl | exact congrArg (Value.int .u32) (i_succ y.j))) rfl (by first | rfl | exact congrArg (Value.int .u32) (i_succ y.j))) rfl (by first | rfl | exact congrArg (Value.int .u32) (i_succ y.j))) rfl (by first | rfl | exact congrArg (Value.int .u32) (i_succ y.j))) rfl (by first | rfl | exact congrArg (Value.int .u32) (i_succ y.j))) rfl (by first | rfl | exact congrArg (Value.int .u32) (i_succ y.j))) rfl (by first | rfl | exact congrArg (Value.int .u32) (i_succ y.j)), hh.keep (by repeat (first | exact keeps_nil | apply keeps_cons (by repeat (first | exact find_head | apply find_tail)) (by first  | rfl) | exact keeps_self | exact keeps_left | exact keeps_right | exact keeps_swap | apply keeps_mv))⟩ | refine ⟨⟨{ y.t with s := sentP y.t.s g.k g.q g.n }, sentM y.m g.k off g.n, Z2, y.f, y.j + 1⟩, (by simp only; omega), ⟨⟨⟨(pi_grant hpiy (by omega) (hoff (by assumption)) hrg.2.2).mono (by first | omega | (simp only; omega)) (by first | omega | (simp only; omega)), hpw2⟩, by first | exact hfy | exact ⟨by simp only; omega, by simp only; omega⟩⟩, by simp only; omega⟩, hl.addE (t := 13) (hl.addE (t := 14) (hl.addE (t := 3) (hl.addE (t := 5) (hl.addE (t := 6) (hl.addE (t := 7) (hl.addE (t := 9) (hl.addE (t := 34) (hl.addE (t := 35) (hl.addE (t := 36) (hl.nil) rfl (by first | rfl | exact congrArg (Value.int .u32) (i_succ y.j))) rfl (by first | rfl | exact congrArg (Value.int .u32) (i_succ y.j))) rfl (by first | rfl | exact congrArg (Value.int .u32) (i_succ y.j))) rfl (by first | rfl | exact congrArg (Value.int .u32) (i_succ y.j))) rfl (by first | rfl | exact congrArg (Value.int .u32) (i_succ y.j))) rfl (by first | rfl | exact congrArg (Value.int .u32) (i_succ y.j))) rfl (by first | rfl | exact congrArg (Value.int .u32) (i_succ y.j))) rfl (by first | rfl | exact congrArg (Value.int .u32) (i_succ y.j))) rfl (by first | rfl | exact congrArg (Value.int .u32) (i_succ y.j))) rfl (by first | rfl | exact congrArg (Value.int .u32) (i_succ y.j)), hh.keep (by repeat (first | exact keeps_nil | apply keeps_cons (by repeat (first | exact find_head | apply find_tail)) (by first  | rfl) | exact keeps_self | exact keeps_left | exact keeps_right | exact keeps_swap | apply keeps_mv))⟩
                        · intro hc10
                          try simp only [decide_eq_true_eq, decide_eq_false_iff_not, Bool.not_eq_true', Bool.not_eq_false', Bool.not_eq_true, Bool.not_eq_false, Bool.and_eq_true, Bool.or_eq_true, Bool.and_eq_false_iff, Bool.or_eq_false_iff, Bool.not_not, ne_eq, Int.not_lt, Int.not_le, Decidable.not_not, beq_iff_eq, bne_iff_ne] at hc10
                          refine wp_skip ?_
                          refine blk_normal ?_
                          refine then_normal ?_
                          refine c_region ?_
                          refine wl (wl_val hl rfl trivial (r_move hl rfl) ?_)
                          clear hl a; intro a hl
                          first | refine wl (wl_val hl rfl trivial (r_add hl rfl rfl (by simp only [Fits]; omega)) ?_) | refine wl (wl_val hl rfl trivial (r_addM wm_u32 hl rfl rfl) ?_)
                          clear hl a; intro a hl
                          refine wl (wl_val hl rfl trivial (r_assign hl rfl) ?_)
                          clear hl a; intro a hl
                          refine w_nil ?_
                          have hl2 := hl.add (t := 3) (hl.add (t := 5) (hl.add (t := 6) (hl.add (t := 7) (hl.add (t := 9) (hl.add (t := 13) (hl.add (t := 14) (hl.add (t := 34) (hl.add (t := 35) (hl.add (t := 36) (hl.nil) rfl) rfl) rfl) rfl) rfl) rfl) rfl) rfl) rfl) rfl; clear hl; have hl := hl2; clear hl2
                          refine then_normal ?_
                          first | refine ⟨⟨{ y.t with s := sentP y.t.s g.k g.q g.n }, sentM y.m g.k off g.n, Z2, (y.f - g.n) % 4294967296, y.j + 1⟩, (by simp only; omega), ⟨⟨⟨(pi_grant hpiy (by omega) (hoff (by assumption)) hrg.2.2).mono (by first | omega | (simp only; omega)) (by first | omega | (simp only; omega)), hpw2⟩, by first | exact hfy | exact ⟨by simp only; omega, by simp only; omega⟩⟩, by simp only; omega⟩, hl.addE (t := 13) (hl.addE (t := 14) (hl.addE (t := 3) (hl.addE (t := 5) (hl.addE (t := 6) (hl.addE (t := 7) (hl.addE (t := 9) (hl.addE (t := 34) (hl.addE (t := 35) (hl.addE (t := 36) (hl.nil) rfl (by first | rfl | exact congrArg (Value.int .u32) (i_succ y.j))) rfl (by first | rfl | exact congrArg (Value.int .u32) (i_succ y.j))) rfl (by first | rfl | exact congrArg (Value.int .u32) (i_succ y.j))) rfl (by first | rfl | exact congrArg (Value.int .u32) (i_succ y.j))) rfl (by first | rfl | exact congrArg (Value.int .u32) (i_succ y.j))) rfl (by first | rfl | exact congrArg (Value.int .u32) (i_succ y.j))) rfl (by first | rfl | exact congrArg (Value.int .u32) (i_succ y.j))) rfl (by first | rfl | exact congrArg (Value.int .u32) (i_succ y.j))) rfl (by first | rfl | exact congrArg (Value.int .u32) (i_succ y.j))) rfl (by first | rfl | exact congrArg (Value.int .u32) (i_succ y.j)), hh.keep (by repeat (first | exact keeps_nil | apply keeps_cons (by repeat (first | exact find_head | apply find_tail)) (by first  | rfl) | exact keeps_self | exact keeps_left | exact keeps_right | exact keeps_swap | apply keeps_mv))⟩ | refine ⟨⟨{ y.t with s := sentP y.t.s g.k g.q g.n }, sentM y.m g.k off g.n, Z2, y.f, y.j + 1⟩, (by simp only; omega), ⟨⟨⟨(pi_grant hpiy (by omega) (hoff (by assumption)) hrg.2.2).mono (by first | omega | (simp only; omega)) (by first | omega | (simp only; omega)), hpw2⟩, by first | exact hfy | exact ⟨by simp only; omega, by simp only; omega⟩⟩, by simp only; omega⟩, hl.addE (t := 13) (hl.addE (t := 14) (hl.addE (t := 3) (hl.addE (t := 5) (hl.addE (t := 6) (hl.addE (t := 7) (hl.addE (t := 9) (hl.addE (t := 34) (hl.addE (t := 35) (hl.addE (t := 36) (hl.nil) rfl (by first | rfl | exact congrArg (Value.int .u32) (i_succ y.j))) rfl (by first | rfl | exact congrArg (Value.int .u32) (i_succ y.j))) rfl (by first | rfl | exact congrArg (Value.int .u32) (i_succ y.j))) rfl (by first | rfl | exact congrArg (Value.int .u32) (i_succ y.j))) rfl (by first | rfl | exact congrArg (Value.int .u32) (i_succ y.j))) rfl (by first | rfl | exact congrArg (Value.int .u32) (i_succ y.j))) rfl (by first | rfl | exact congrArg (Value.int .u32) (i_succ y.j))) rfl (by first | rfl | exact congrArg (Value.int .u32) (i_succ y.j))) rfl (by first | rfl | exact congrArg (Value.int .u32) (i_succ y.j))) rfl (by first | rfl | exact congrArg (Value.int .u32) (i_succ y.j)), hh.keep (by repeat (first | exact keeps_nil | apply keeps_cons (by repeat (first | exact find_head | apply find_tail)) (by first  | rfl) | exact keeps_self | exact keeps_left | exact keeps_right | exact keeps_swap | apply keeps_mv))⟩
                  · intro hc7
                    try simp only [decide_eq_true_eq, decide_eq_false_iff_not, Bool.not_eq_true', Bool.not_eq_false', Bool.not_eq_true, Bool.not_eq_false, Bool.and_eq_true, Bool.or_eq_true, Bool.and_eq_false_iff, Bool.or_eq_false_iff, Bool.not_not, ne_eq, Int.not_lt, Int.not_le, Decidable.not_not, beq_iff_eq, bne_iff_ne] at hc7
                    have hfin : ∃ t9 m9 st9 cp9 mp9 Z9, PI (((z.i + 1 : Nat) : Int) * 137438953472) ((z.i + 1 : Nat) : Int) t9 m9 st9 ∧ PW Z9 cp9 mp9 t9 m9 st9 t9.cfg.sack t9.os ∧ Has [] w0 ((k9, C [.int .u8 d.kd, .int .u32 d.cf.init, .int .u32 d.cf.maxc, .int .u32 d.cf.bn, .int .u32 d.cf.bd, .int .u32 d.cf.abc, .int .u32 d.cf.dupt, .bool d.cf.idle, .int .u32 d.cf.mss, .int .u32 d.cf.start, .bool d.cf.sack, .int .u32 d.A, .int .u32 d.B, .bool d.dup, .int .u8 d.gr, .slice d.p d.dat.length d.cap] 50) :: (k3, C [.pointer (some ⟨cp9, 0, none⟩)] 24) :: (k5, C [.pointer (some ⟨mp9, 0, none⟩)] 34) :: Z9) w := ⟨y.t, y.m, z.st, z.cp, z.mp, y.Z, (hpiy.mono (by omega) (by omega)), hpwy, (hh.keep (by repeat (first | exact keeps_nil | apply keeps_cons (by repeat (first | exact find_head | apply find_tail)) (by first  | rfl) | exact keeps_self | exact keeps_left | exact keeps_right | exact keeps_swap | apply keeps_mv)))⟩
                    clear hh
                    obtain ⟨t9, m9, st9, cp9, mp9, Z9, hpi9, hpw9, hh⟩ := hfin
                    have hfl9 := hpi9.si.fl; have pf9 := flightP_U t9.s; have hpu9 := pipeP_U hpi9.si.ok t9.ns t9.bl; have hdu9 := hpi9.si.ok.dups; have pp9 := hpi9.si.ok.phase; have oc9 := hpi9.si.ok.cwnd; have os9 := hpi9.si.ok.ssth; have om9 := hpi9.si.ok.maxc; have oms9 := hpi9.si.ok.mss
                    refine wp_exit ?_
                    refine then_exit ?_
                    refine then_exit ?_
                    refine blk_exit ?_
                    refine blk_normal ?_
                    refine then_normal ?_
                    refine c_seq ?_
                    refine c_seq ?_
                    refine c_region ?_
                    refine wl (wl_val hl rfl trivial (r_move hl rfl) ?_)
                    clear hl a; intro a hl
                    refine wl (w_call hl hh rfl trivial rfl cal7 rfl (far_pm hpw9 hpi9.hm k5) (by repeat (first | exact keeps_nil | apply keeps_cons (by repeat (first | exact find_head | apply find_tail)) (by first  | rfl) | exact keeps_self | exact keeps_left | exact keeps_right | exact keeps_swap | apply keeps_mv)) ⟨(hh.mem _ _ (Find.mem (by repeat (first | exact find_head | apply find_tail)))), (fun b o m => hh.mem b o (by (repeat (first | exact m | apply List.mem_cons_of_mem)); done))⟩ ?_)
                    clear hl hh a w; intro vc Fc a w hR hl hh
                    obtain ⟨rfl, rfl⟩ := hR
                    try simp only [List.cons_append, List.nil_append] at hh
                    refine w_nil ?_
                    have hl2 := hl.add (t := 3) (hl.add (t := 5) (hl.add (t := 6) (hl.add (t := 7) (hl.add (t := 9) (hl.add (t := 34) (hl.add (t := 35) (hl.add (t := 36) (hl.add (t := 202) (hl.nil) rfl) rfl) rfl) rfl) rfl) rfl) rfl) rfl) rfl; clear hl; have hl := hl2; clear hl2
                    refine then_normal ?_
                    refine c_cond hl rfl ?_ ?_
                    · intro hc15
                      try simp only [decide_eq_true_eq, decide_eq_false_iff_not, Bool.not_eq_true', Bool.not_eq_false', Bool.not_eq_true, Bool.not_eq_false, Bool.and_eq_true, Bool.or_eq_true, Bool.and_eq_false_iff, Bool.or_eq_false_iff, Bool.not_not, ne_eq, Int.not_lt, Int.not_le, Decidable.not_not, beq_iff_eq, bne_iff_ne] at hc15
                      refine wp_exit ?_
                      refine then_exit ?_
                      refine blk_exit ?_
                      refine then_normal ?_
                      refine c_region ?_
                      first | refine wl (wl_val hl rfl trivial (r_add hl rfl rfl (by simp only [Fits]; omega)) ?_) | refine wl (wl_val hl rfl trivial (r_addW hl rfl rfl) ?_)
                      clear hl a; intro a hl
                      refine wl (wl_val hl rfl trivial (r_move hl rfl) ?_)
                      clear hl a; intro a hl
                      refine w_nil ?_
                      have hl2 := hl.add (t := 3) (hl.add (t := 5) (hl.add (t := 6) (hl.add (t := 7) (hl.add (t := 34) (hl.add (t := 35) (hl.add (t := 36) (hl.nil) rfl) rfl) rfl) rfl) rfl) rfl) rfl; clear hl; have hl := hl2; clear hl2
                      refine then_normal ?_
                      refine ⟨⟨t9, m9, st9, cp9, mp9, Z9, z.i + 1⟩, (by simp only; omega), ⟨⟨hpi9, hpw9⟩, by simp only; omega⟩, hl.addE (t := 36) (hl.addE (t := 3) (hl.addE (t := 5) (hl.addE (t := 6) (hl.addE (t := 7) (hl.addE (t := 34) (hl.addE (t := 35) (hl.nil) rfl (by first | rfl | exact congrArg (Value.int .i64) (i_succ z.i))) rfl (by first | rfl | exact congrArg (Value.int .i64) (i_succ z.i))) rfl (by first | rfl | exact congrArg (Value.int .i64) (i_succ z.i))) rfl (by first | rfl | exact congrArg (Value.int .i64) (i_succ z.i))) rfl (by first | rfl | exact congrArg (Value.int .i64) (i_succ z.i))) rfl (by first | rfl | exact congrArg (Value.int .i64) (i_succ z.i))) rfl (by first | rfl | exact congrArg (Value.int .i64) (i_succ z.i)), hh.keep (by repeat (first | exact keeps_nil | apply keeps_cons (by repeat (first | exact find_head | apply find_tail)) (by first  | rfl) | exact keeps_self | exact keeps_left | exact keeps_right | exact keeps_swap | apply keeps_mv))⟩
                    · intro hc15
                      try simp only [decide_eq_true_eq, decide_eq_false_iff_not, Bool.not_eq_true', Bool.not_eq_false', Bool.not_eq_true, Bool.not_eq_false, Bool.and_eq_true, Bool.or_eq_true, Bool.and_eq_false_iff, Bool.or_eq_false_iff, Bool.not_not, ne_eq, Int.not_lt, Int.not_le, Decidable.not_not, beq_iff_eq, bne_iff_ne] at hc15
                      refine wp_skip ?_
                      refine then_normal ?_
                      refine c_seq ?_
                      refine c_seq ?_
                      refine c_draw [(k3, C [.pointer (some ⟨cp9, 0, none⟩)] 24), (k5, C [.pointer (some ⟨mp9, 0, none⟩)] 34)] [] mixed hh ?_
                      clear hh w; intro w hh
                      have hM : Mem [(k3, C [.pointer (some ⟨cp9, 0, none⟩)] 24), (k5, C [.pointer (some ⟨mp9, 0, none⟩)] 34)] w := (by (repeat (first | exact Mem.nil | refine Mem.consR hh (by assumption) (by simp) ?_ | refine Mem.cons hh.mem (by (repeat (first | exact find_head | apply find_tail)); done) ?_ | fail)); done)
                      refine d_take (i := 0) hl rfl (by kernel_rfl) (by kernel_rfl) (by kernel_rfl) (by kernel_rfl) (by kernel_rfl) rfl trivial (fun _ _ _ h => h) hM (fun w hC => r_loadC hl rfl one24 hC (by repeat (first | exact find_head | apply find_tail)) (by first | rfl)) rfl ?_
                      clear hl a; intro a hl
                      refine d_take (i := 2) hl rfl (by kernel_rfl) (by kernel_rfl) (by kernel_rfl) (by kernel_rfl) (by kernel_rfl) rfl trivial (fun _ _ _ h => h) hM (fun w hC => r_loadC hl rfl one34 hC (by repeat (first | exact find_head | apply find_tail)) (by first | rfl)) rfl ?_
                      clear hl a; intro a hl
                      refine d_one (i := 1) (by kernel_rfl) rfl ?_
                      try clear hM
                      refine id (w_call hl hh rfl trivial rfl cal26 rfl (view_pc hpw9 hpi9.si) (by repeat (first | exact keeps_nil | apply keeps_cons (by repeat (first | exact find_head | apply find_tail)) (by first  | rfl) | exact keeps_self | exact keeps_left | exact keeps_right | exact keeps_swap | apply keeps_mv)) (fun b o m => hh.mem b o (by (repeat (first | exact m | apply List.mem_cons_of_mem)); done)) ?_)
                      clear hl hh a w; intro vc Fc a w hR hl hh
                      obtain ⟨rfl, rfl⟩ := hR
                      try simp only [List.cons_append, List.nil_append] at hh
                      simp only [vwc, viewP] at hl
                      have hM : Mem [(k3, C [.pointer (some ⟨cp9, 0, none⟩)] 24), (k5, C [.pointer (some ⟨mp9, 0, none⟩)] 34)] w := (by (repeat (first | exact Mem.nil | refine Mem.consR hh (by assumption) (by simp) ?_ | refine Mem.cons hh.mem (by (repeat (first | exact find_head | apply find_tail)); done) ?_ | fail)); done)
                      refine d_step (fun _ => hM) ?_
                      refine d_one (i := 3) (by kernel_rfl) rfl ?_
                      try clear hM
                      refine id (w_call hl hh rfl trivial rfl cal27 rfl (view_pm hpw9 hpi9 (by omega) (by assumption)) (by repeat (first | exact keeps_nil | apply keeps_cons (by repeat (first | exact find_head | apply find_tail)) (by first  | rfl) | exact keeps_self | exact keeps_left | exact keeps_right | exact keeps_swap | apply keeps_mv)) (fun b o m => hh.mem b o (by (repeat (first | exact m | apply List.mem_cons_of_mem)); done)) ?_)
                      clear hl hh a w; intro vc Fc a w hR hl hh
                      obtain ⟨rfl, rfl⟩ := hR
                      try simp only [List.cons_append, List.nil_append] at hh
                      simp only [vwc, viewP] at hl
                      have hM : Mem [(k3, C [.pointer (some ⟨cp9, 0, none⟩)] 24), (k5, C [.pointer (some ⟨mp9, 0, none⟩)] 34)] w := (by (repeat (first | exact Mem.nil | refine Mem.consR hh (by assumption) (by simp) ?_ | refine Mem.cons hh.mem (by (repeat (first | exact find_head | apply find_tail)); done) ?_ | fail)); done)
                      refine d_step (fun _ => hM) ?_
                      refine d_take (i := 4) hl rfl (by kernel_rfl) (by kernel_rfl) (by kernel_rfl) (by kernel_rfl) (by kernel_rfl) rfl trivial (fun _ _ _ h => h) hM (fun w hC => r_neqA hl rfl rfl eqf61 shp61 (by simp only [unlitL, unlit]; rfl) (by simp only [unlitL, unlit]; rfl) (by first | exact ⟨trivial⟩ | (refine ⟨?_⟩; simp [LitsOk, litOk, Fits]; done) | (refine ⟨?_⟩; simp [LitsOk, litOk, Fits]; omega)) (by first | exact ⟨trivial⟩ | (refine ⟨?_⟩; simp [LitsOk, litOk, Fits]; done) | (refine ⟨?_⟩; simp [LitsOk, litOk, Fits]; omega))) rfl ?_
                      clear hl a; intro a hl
                      simp only [eqLits, litBeq, beq_self_eq_true, Bool.and_self, Bool.and_true, Bool.not_true, decide_true] at hl
                      refine d_take (i := 5) hl rfl (by kernel_rfl) (by kernel_rfl) (by kernel_rfl) (by kernel_rfl) (by kernel_rfl) rfl trivial (fun _ _ _ h => h) hM (fun w hC => r_move hl rfl) rfl ?_
                      clear hl a; intro a hl
                      refine d_take (i := 6) hl rfl (by kernel_rfl) (by kernel_rfl) (by kernel_rfl) (by kernel_rfl) (by kernel_rfl) rfl ⟨_, _, rfl, rfl, rfl⟩ (fun _ _ _ h => h) hM (fun w hC => r_loadC hl rfl one24 hC (by repeat (first | exact find_head | apply find_tail)) (by first | rfl)) rfl ?_
                      clear hl a; intro a hl
                      refine d_take (i := 8) hl rfl (by kernel_rfl) (by kernel_rfl) (by kernel_rfl) (by kernel_rfl) (by kernel_rfl) rfl ⟨_, _, rfl, rfl, rfl⟩ (fun _ _ _ h => h) hM (fun w hC => r_loadC hl rfl one34 hC (by repeat (first | exact find_head | apply find_tail)) (by first | rfl)) rfl ?_
                      clear hl a; intro a hl
                      refine d_take (i := 9) hl rfl (by kernel_rfl) (by kernel_rfl) (by kernel_rfl) (by kernel_rfl) (by kernel_rfl) rfl ⟨_, _, rfl, rfl, rfl⟩ (fun _ _ _ h => h) hM (fun w hC => r_loadC hl rfl one34 hC (by repeat (first | exact find_head | apply find_tail)) (by first | rfl)) rfl ?_
                      clear hl a; intro a hl
                      refine d_one (i := 7) (by kernel_rfl) rfl ?_
                      try clear hM
                      refine id (w_call hl hh rfl ⟨_, _, rfl, rfl, rfl⟩ rfl cal18 rfl (una_pc hpw9) (by repeat (first | exact keeps_nil | apply keeps_cons (by repeat (first | exact find_head | apply find_tail)) (by first  | rfl) | exact keeps_self | exact keeps_left | exact keeps_right | exact keeps_swap | apply keeps_mv)) (fun b o m => hh.mem b o (by (repeat (first | exact m | apply List.mem_cons_of_mem)); done)) ?_)
                      clear hl hh a w; intro vc Fc a w hR hl hh
                      obtain ⟨rfl, rfl⟩ := hR
                      try simp only [List.cons_append, List.nil_append] at hh
                      have hM : Mem [(k3, C [.pointer (some ⟨cp9, 0, none⟩)] 24), (k5, C [.pointer (some ⟨mp9, 0, none⟩)] 34)] w := (by (repeat (first | exact Mem.nil | refine Mem.consR hh (by assumption) (by simp) ?_ | refine Mem.cons hh.mem (by (repeat (first | exact find_head | apply find_tail)); done) ?_ | fail)); done)
                      refine d_step (fun _ => hM) ?_
                      refine d_one (i := 10) (by kernel_rfl) rfl ?_
                      try clear hM
                      refine id (w_call hl hh rfl ⟨_, _, rfl, rfl, rfl⟩ rfl cal10 rfl (una_pm hpw9 hpi9.hm) (by repeat (first | exact keeps_nil | apply keeps_cons (by repeat (first | exact find_head | apply find_tail)) (by first  | rfl) | exact keeps_self | exact keeps_left | exact keeps_right | exact keeps_swap | apply keeps_mv)) (fun b o m => hh.mem b o (by (repeat (first | exact m | apply List.mem_cons_of_mem)); done)) ?_)
                      clear hl hh a w; intro vc Fc a w hR hl hh
                      obtain ⟨rfl, rfl⟩ := hR
                      try simp only [List.cons_append, List.nil_append] at hh
                      have hM : Mem [(k3, C [.pointer (some ⟨cp9, 0, none⟩)] 24), (k5, C [.pointer (some ⟨mp9, 0, none⟩)] 34)] w := (by (repeat (first | exact Mem.nil | refine Mem.consR hh (by assumption) (by simp) ?_ | refine Mem.cons hh.mem (by (repeat (first | exact find_head | apply find_tail)); done) ?_ | fail)); done)
                      refine d_step (fun _ => hM) ?_
                      refine d_one (i := 11) (by kernel_rfl) rfl ?_
                      try clear hM
                      refine id (w_call hl hh rfl ⟨_, _, rfl, rfl, rfl⟩ rfl cal14 rfl (seq_pm hpw9 hpi9.hm m9.una) (by repeat (first | exact keeps_nil | apply keeps_cons (by repeat (first | exact find_head | apply find_tail)) (by first  | rfl) | exact keeps_self | exact keeps_left | exact keeps_right | exact keeps_swap | apply keeps_mv)) (fun b o m => hh.mem b o (by (repeat (first | exact m | apply List.mem_cons_of_mem)); done)) ?_)
                      clear hl hh a w; intro vc Fc a w hR hl hh
                      obtain ⟨rfl, rfl⟩ := hR
                      try simp only [List.cons_append, List.nil_append] at hh
                      rw [← hpi9.rel.una] at hl
                      have hM : Mem [(k3, C [.pointer (some ⟨cp9, 0, none⟩)] 24), (k5, C [.pointer (some ⟨mp9, 0, none⟩)] 34)] w := (by (repeat (first | exact Mem.nil | refine Mem.consR hh (by assumption) (by simp) ?_ | refine Mem.cons hh.mem (by (repeat (first | exact find_head | apply find_tail)); done) ?_ | fail)); done)
                      refine d_step (fun _ => hM) ?_
                      refine d_take (i := 12) hl rfl (by kernel_rfl) (by kernel_rfl) (by kernel_rfl) (by kernel_rfl) (by kernel_rfl) rfl ⟨_, _, rfl, rfl, rfl⟩ (fun _ _ _ h => h) hM (fun w hC => r_neq hl rfl rfl) rfl ?_
                      clear hl a; intro a hl
                      try simp only [ne_eq, not_true_eq_false, decide_false, decide_true, decide_not, Bool.not_true, beq_self_eq_true, bne_self_eq_false] at hl
                      refine d_take (i := 13) hl rfl (by kernel_rfl) (by kernel_rfl) (by kernel_rfl) (by kernel_rfl) (by kernel_rfl) rfl trivial (fun _ _ _ h => h) hM (fun w hC => r_pickF hl rfl rfl) rfl ?_
                      clear hl a; intro a hl
                      refine d_take (i := 14) hl rfl (by kernel_rfl) (by kernel_rfl) (by kernel_rfl) (by kernel_rfl) (by kernel_rfl) rfl trivial (fun _ _ _ h => h) hM (fun w hC => r_move hl rfl) rfl ?_
                      clear hl a; intro a hl
                      refine d_take (i := 15) hl rfl (by kernel_rfl) (by kernel_rfl) (by kernel_rfl) (by kernel_rfl) (by kernel_rfl) rfl ⟨_, _, rfl, rfl, rfl⟩ (fun _ _ _ h => h) hM (fun w hC => r_loadC hl rfl one24 hC (by repeat (first | exact find_head | apply find_tail)) (by first | rfl)) rfl ?_
                      clear hl a; intro a hl
                      refine d_take (i := 17) hl rfl (by kernel_rfl) (by kernel_rfl) (by kernel_rfl) (by kernel_rfl) (by kernel_rfl) rfl ⟨_, _, rfl, rfl, rfl⟩ (fun _ _ _ h => h) hM (fun w hC => r_loadC hl rfl one34 hC (by repeat (first | exact find_head | apply find_tail)) (by first | rfl)) rfl ?_
                      clear hl a; intro a hl
                      refine d_take (i := 18) hl rfl (by kernel_rfl) (by kernel_rfl) (by kernel_rfl) (by kernel_rfl) (by kernel_rfl) rfl ⟨_, _, rfl, rfl, rfl⟩ (fun _ _ _ h => h) hM (fun w hC => r_loadC hl rfl one34 hC (by repeat (first | exact find_head | apply find_tail)) (by first | rfl)) rfl ?_
                      clear hl a; intro a hl
                      refine d_one (i := 16) (by kernel_rfl) rfl ?_
                      try clear hM
                      refine id (w_call hl hh rfl ⟨_, _, rfl, rfl, rfl⟩ rfl cal28 rfl (nxt_pc hpw9) (by repeat (first | exact keeps_nil | apply keeps_cons (by repeat (first | exact find_head | apply find_tail)) (by first  | rfl) | exact keeps_self | exact keeps_left | exact keeps_right | exact keeps_swap | apply keeps_mv)) (fun b o m => hh.mem b o (by (repeat (first | exact m | apply List.mem_cons_of_mem)); done)) ?_)
                      clear hl hh a w; intro vc Fc a w hR hl hh
                      obtain ⟨rfl, rfl⟩ := hR
                      try simp only [List.cons_append, List.nil_append] at hh
                      have hM : Mem [(k3, C [.pointer (some ⟨cp9, 0, none⟩)] 24), (k5, C [.pointer (some ⟨mp9, 0, none⟩)] 34)] w := (by (repeat (first | exact Mem.nil | refine Mem.consR hh (by assumption) (by simp) ?_ | refine Mem.cons hh.mem (by (repeat (first | exact find_head | apply find_tail)); done) ?_ | fail)); done)
                      refine d_step (fun _ => hM) ?_
                      refine d_one (i := 19) (by kernel_rfl) rfl ?_
                      try clear hM
                      refine id (w_call hl hh rfl ⟨_, _, rfl, rfl, rfl⟩ rfl cal9 rfl (nxt_pm hpw9 hpi9.hm) (by repeat (first | exact keeps_nil | apply keeps_cons (by repeat (first | exact find_head | apply find_tail)) (by first  | rfl) | exact keeps_self | exact keeps_left | exact keeps_right | exact keeps_swap | apply keeps_mv)) (fun b o m => hh.mem b o (by (repeat (first | exact m | apply List.mem_cons_of_mem)); done)) ?_)
                      clear hl hh a w; intro vc Fc a w hR hl hh
                      obtain ⟨rfl, rfl⟩ := hR
                      try simp only [List.cons_append, List.nil_append] at hh
                      have hM : Mem [(k3, C [.pointer (some ⟨cp9, 0, none⟩)] 24), (k5, C [.pointer (some ⟨mp9, 0, none⟩)] 34)] w := (by (repeat (first | exact Mem.nil | refine Mem.consR hh (by assumption) (by simp) ?_ | refine Mem.cons hh.mem (by (repeat (first | exact find_head | apply find_tail)); done) ?_ | fail)); done)
                      refine d_step (fun _ => hM) ?_
                      refine d_one (i := 20) (by kernel_rfl) rfl ?_
                      try clear hM
                      refine id (w_call hl hh rfl ⟨_, _, rfl, rfl, rfl⟩ rfl cal14 rfl (seq_pm hpw9 hpi9.hm m9.nxt) (by repeat (first | exact keeps_nil | apply keeps_cons (by repeat (first | exact find_head | apply find_tail)) (by first  | rfl) | exact keeps_self | exact keeps_left | exact keeps_right | exact keeps_swap | apply keeps_mv)) (fun b o m => hh.mem b o (by (repeat (first | exact m | apply List.mem_cons_of_mem)); done)) ?_)
                      clear hl hh a w; intro vc Fc a w hR hl hh
                      obtain ⟨rfl, rfl⟩ := hR
                      try simp only [List.cons_append, List.nil_append] at hh
                      rw [← hpi9.rel.nxt] at hl
                      have hM : Mem [(k3, C [.pointer (some ⟨cp9, 0, none⟩)] 24), (k5, C [.pointer (some ⟨mp9, 0, none⟩)] 34)] w := (by (repeat (first | exact Mem.nil | refine Mem.consR hh (by assumption) (by simp) ?_ | refine Mem.cons hh.mem (by (repeat (first | exact find_head | apply find_tail)); done) ?_ | fail)); done)
                      refine d_step (fun _ => hM) ?_
                      refine d_take (i := 21) hl rfl (by kernel_rfl) (by kernel_rfl) (by kernel_rfl) (by kernel_rfl) (by kernel_rfl) rfl ⟨_, _, rfl, rfl, rfl⟩ (fun _ _ _ h => h) hM (fun w hC => r_neq hl rfl rfl) rfl ?_
                      clear hl a; intro a hl
                      try simp only [ne_eq, not_true_eq_false, decide_false, decide_true, decide_not, Bool.not_true, beq_self_eq_true, bne_self_eq_false] at hl
                      refine d_take (i := 22) hl rfl (by kernel_rfl) (by kernel_rfl) (by kernel_rfl) (by kernel_rfl) (by kernel_rfl) rfl trivial (fun _ _ _ h => h) hM (fun w hC => r_pickF hl rfl rfl) rfl ?_
                      clear hl a; intro a hl
                      refine d_done (by kernel_rfl) ?_
                      try clear hM
                      have hl2 := hl.add (t := 3) (hl.add (t := 5) (hl.add (t := 6) (hl.add (t := 7) (hl.add (t := 9) (hl.add (t := 34) (hl.add (t := 35) (hl.add (t := 36) (hl.add (t := 225) (hl.nil) rfl) rfl) rfl) rfl) rfl) rfl) rfl) rfl) rfl; clear hl; have hl := hl2; clear hl2
                      refine then_normal ?_
                      refine c_condF hl rfl ?_
                      refine wp_skip ?_
                      refine then_normal ?_
                      refine c_seq ?_
                      refine c_region ?_
                      refine wl (wl_val hl rfl trivial (r_move hl rfl) ?_)
                      clear hl a; intro a hl
                      refine wl (wl_val hl rfl trivial (r_field hl rfl fld50_3) ?_)
                      clear hl a; intro a hl
                      refine wl (w_load hl hh rfl trivial one29 rfl (by repeat (first | exact find_head | apply find_tail)) (by first | rfl) ?_)
                      clear hl a; intro a hl
                      refine wl (w_call hl hh rfl trivial rfl cal11 rfl (same_pw k3 k5 Z9 cp9 mp9 t9 m9 st9 _ _ hpw9 hpi9 (by assumption) d.B hdB) (by repeat (first | exact keeps_nil | apply keeps_cons (by repeat (first | exact find_head | apply find_tail)) (by first  | rfl) | exact keeps_self | exact keeps_left | exact keeps_right | exact keeps_swap | apply keeps_mv)) ⟨(hh.mem _ _ (Find.mem (by repeat (first | exact find_head | apply find_tail)))), (hh.mem _ _ (Find.mem (by repeat (first | exact find_head | apply find_tail)))), (fun b o m => hh.mem b o (by (repeat (first | exact m | apply List.mem_cons_of_mem)); done))⟩ ?_)
                      clear hl hh a w; intro vc Fc a w hR hl hh
                      obtain ⟨⟨off, rfl, hoff⟩, rfl⟩ := hR
                      try simp only [List.cons_append, List.nil_append] at hh
                      refine wl (wl_val hl rfl trivial (r_move hl rfl) ?_)
                      clear hl a; intro a hl
                      refine wl (wl_val hl rfl trivial (r_extract hl rfl (by simp only [List.getElem?_toArray, List.getElem?_cons_zero, List.getElem?_cons_succ]; rfl)) ?_)
                      clear hl a; intro a hl
                      refine wl (wl_val hl rfl trivial (r_extract hl rfl (by simp only [List.getElem?_toArray, List.getElem?_cons_zero, List.getElem?_cons_succ]; rfl)) ?_)
                      clear hl a; intro a hl
                      refine wl (wl_val hl rfl trivial (r_extract hl rfl (by simp only [List.getElem?_toArray, List.getElem?_cons_zero, List.getElem?_cons_succ]; rfl)) ?_)
                      clear hl a; intro a hl
                      refine wl (w_alloc hl hh rfl trivial zero40 rfl ?_)
                      clear hl hh a w; intro k19 a w hl hh
                      refine wl (w_alloc hl hh rfl trivial zero42 rfl ?_)
                      clear hl hh a w; intro k20 a w hl hh
                      refine wl (w_storeA hl hh trivial agg40 rfl rfl (by repeat (first | exact find_head | apply find_tail)) (by first | rfl | (simp; done) | (simp only [List.getElem?_cons_zero, List.getElem?_cons_succ, Value.cells, List.take_zero, List.take_succ_cons, List.take_nil, List.drop_zero, List.drop_succ_cons, List.drop_nil, List.length_cons, List.length_nil, List.cons_append, List.nil_append, List.append_nil, Nat.zero_add, Nat.add_zero, Nat.reduceAdd, Nat.reduceBEq, Nat.reduceEqDiff, Nat.ble, BEq.rfl, Bool.and_true, Bool.and_self, cond_true, beq_self_eq_true]; rfl) | rfl) (by first | (simp; done) | (simp; omega) | (simp [cfL]; done)) (by first | rfl | (simp; done) | rfl) (by first | (simp only [setL, cfL, List.getElem?_cons_zero, List.getElem?_cons_succ, Value.cells, List.take_zero, List.take_succ_cons, List.take_nil, List.drop_zero, List.drop_succ_cons, List.drop_nil, List.length_cons, List.length_nil, List.cons_append, List.nil_append, List.append_nil, Nat.zero_add, Nat.add_zero, Nat.reduceAdd, Nat.reduceBEq, Nat.reduceEqDiff, Nat.ble, BEq.rfl, Bool.and_true, Bool.and_self, cond_true, beq_self_eq_true]; rfl) | (simp only [setL, List.getElem?_cons_zero, List.getElem?_cons_succ, Value.cells, List.take_zero, List.take_succ_cons, List.take_nil, List.drop_zero, List.drop_succ_cons, List.drop_nil, List.length_cons, List.length_nil, List.cons_append, List.nil_append, List.append_nil, Nat.zero_add, Nat.add_zero, Nat.reduceAdd, Nat.reduceBEq, Nat.reduceEqDiff, Nat.ble, BEq.rfl, Bool.and_true, Bool.and_self, cond_true, beq_self_eq_true]; rfl) | (simp only [setL, List.getElem?_cons_zero, List.getElem?_cons_succ, Value.cells, List.take_zero, List.take_succ_cons, List.take_nil, List.drop_zero, List.drop_succ_cons, List.drop_nil, List.length_cons, List.length_nil, List.cons_append, List.nil_append, List.append_nil, Nat.zero_add, Nat.add_zero, Nat.reduceAdd, Nat.reduceBEq, Nat.reduceEqDiff, Nat.ble, BEq.rfl, Bool.and_true, Bool.and_self, cond_true, beq_self_eq_true]; rfl)) ?_)
                      clear hh w; intro w hh
                      refine wl (w_storeA hl hh trivial agg42 rfl rfl (by repeat (first | exact find_head | apply find_tail)) (by first | rfl | (simp; done) | (simp only [List.getElem?_cons_zero, List.getElem?_cons_succ, Value.cells, List.take_zero, List.take_succ_cons, List.take_nil, List.drop_zero, List.drop_succ_cons, List.drop_nil, List.length_cons, List.length_nil, List.cons_append, List.nil_append, List.append_nil, Nat.zero_add, Nat.add_zero, Nat.reduceAdd, Nat.reduceBEq, Nat.reduceEqDiff, Nat.ble, BEq.rfl, Bool.and_true, Bool.and_self, cond_true, beq_self_eq_true]; rfl) | rfl) (by first | (simp; done) | (simp; omega) | (simp [cfL]; done)) (by first | rfl | (simp; done) | rfl) (by first | (simp only [setL, cfL, List.getElem?_cons_zero, List.getElem?_cons_succ, Value.cells, List.take_zero, List.take_succ_cons, List.take_nil, List.drop_zero, List.drop_succ_cons, List.drop_nil, List.length_cons, List.length_nil, List.cons_append, List.nil_append, List.append_nil, Nat.zero_add, Nat.add_zero, Nat.reduceAdd, Nat.reduceBEq, Nat.reduceEqDiff, Nat.ble, BEq.rfl, Bool.and_true, Bool.and_self, cond_true, beq_self_eq_true]; rfl) | (simp only [setL, List.getElem?_cons_zero, List.getElem?_cons_succ, Value.cells, List.take_zero, List.take_succ_cons, List.take_nil, List.drop_zero, List.drop_succ_cons, List.drop_nil, List.length_cons, List.length_nil, List.cons_append, List.nil_append, List.append_nil, Nat.zero_add, Nat.add_zero, Nat.reduceAdd, Nat.reduceBEq, Nat.reduceEqDiff, Nat.ble, BEq.rfl, Bool.and_true, Bool.and_self, cond_true, beq_self_eq_true]; rfl) | (simp only [setL, List.getElem?_cons_zero, List.getElem?_cons_succ, Value.cells, List.take_zero, List.take_succ_cons, List.take_nil, List.drop_zero, List.drop_succ_cons, List.drop_nil, List.length_cons, List.length_nil, List.cons_append, List.nil_append, List.append_nil, Nat.zero_add, Nat.add_zero, Nat.reduceAdd, Nat.reduceBEq, Nat.reduceEqDiff, Nat.ble, BEq.rfl, Bool.and_true, Bool.and_self, cond_true, beq_self_eq_true]; rfl)) ?_)
                      clear hh w; intro w hh
                      refine wl (wl_val hl rfl trivial (r_assign hl rfl) ?_)
                      clear hl a; intro a hl
                      refine w_nil ?_
                      have hl2 := hl.add (t := 3) (hl.add (t := 5) (hl.add (t := 6) (hl.add (t := 7) (hl.add (t := 21) (hl.add (t := 34) (hl.add (t := 35) (hl.add (t := 36) (hl.nil) rfl) rfl) rfl) rfl) rfl) rfl) rfl) rfl; clear hl; have hl := hl2; clear hl2
                      refine then_normal ?_
                      refine c_seq ?_
                      refine c_region ?_
                      refine wl (wl_val hl rfl trivial (r_move hl rfl) ?_)
                      clear hl a; intro a hl
                      refine wl (wl_val hl rfl trivial (r_not hl rfl) ?_)
                      clear hl a; intro a hl
                      refine w_nil ?_
                      have hl2 := hl.add (t := 3) (hl.add (t := 5) (hl.add (t := 6) (hl.add (t := 7) (hl.add (t := 34) (hl.add (t := 35) (hl.add (t := 36) (hl.add (t := 235) (hl.nil) rfl) rfl) rfl) rfl) rfl) rfl) rfl) rfl; clear hl; have hl := hl2; clear hl2
                      refine then_normal ?_
                      refine c_cond hl rfl ?_ ?_
                      · intro hc17
                        try simp only [decide_eq_true_eq, decide_eq_false_iff_not, Bool.not_eq_true', Bool.not_eq_false', Bool.not_eq_true, Bool.not_eq_false, Bool.and_eq_true, Bool.or_eq_true, Bool.and_eq_false_iff, Bool.or_eq_false_iff, Bool.not_not, ne_eq, Int.not_lt, Int.not_le, Decidable.not_not, beq_iff_eq, bne_iff_ne] at hc17
                        exfalso; first | exact Bool.noConfusion (show false = true by assumption) | exact Bool.noConfusion (show true = false by assumption) | contradiction | omega | (simp at *; done)
                      · intro hc17
                        try simp only [decide_eq_true_eq, decide_eq_false_iff_not, Bool.not_eq_true', Bool.not_eq_false', Bool.not_eq_true, Bool.not_eq_false, Bool.and_eq_true, Bool.or_eq_true, Bool.and_eq_false_iff, Bool.or_eq_false_iff, Bool.not_not, ne_eq, Int.not_lt, Int.not_le, Decidable.not_not, beq_iff_eq, bne_iff_ne] at hc17
                        refine wp_skip ?_
                        refine blk_normal ?_
                        refine then_normal ?_
                        refine c_region ?_
                        first | refine wl (wl_val hl rfl trivial (r_add hl rfl rfl (by simp only [Fits]; omega)) ?_) | refine wl (wl_val hl rfl trivial (r_addW hl rfl rfl) ?_)
                        clear hl a; intro a hl
                        refine wl (wl_val hl rfl trivial (r_move hl rfl) ?_)
                        clear hl a; intro a hl
                        refine w_nil ?_
                        have hl2 := hl.add (t := 3) (hl.add (t := 5) (hl.add (t := 6) (hl.add (t := 7) (hl.add (t := 34) (hl.add (t := 35) (hl.add (t := 36) (hl.nil) rfl) rfl) rfl) rfl) rfl) rfl) rfl; clear hl; have hl := hl2; clear hl2
                        refine then_normal ?_
                        refine ⟨⟨t9, m9, st9, cp9, mp9, Z9, z.i + 1⟩, (by simp only; omega), ⟨⟨hpi9, hpw9⟩, by simp only; omega⟩, hl.addE (t := 36) (hl.addE (t := 3) (hl.addE (t := 5) (hl.addE (t := 6) (hl.addE (t := 7) (hl.addE (t := 34) (hl.addE (t := 35) (hl.nil) rfl (by first | rfl | exact congrArg (Value.int .i64) (i_succ z.i))) rfl (by first | rfl | exact congrArg (Value.int .i64) (i_succ z.i))) rfl (by first | rfl | exact congrArg (Value.int .i64) (i_succ z.i))) rfl (by first | rfl | exact congrArg (Value.int .i64) (i_succ z.i))) rfl (by first | rfl | exact congrArg (Value.int .i64) (i_succ z.i))) rfl (by first | rfl | exact congrArg (Value.int .i64) (i_succ z.i))) rfl (by first | rfl | exact congrArg (Value.int .i64) (i_succ z.i)), hh.keep (by repeat (first | exact keeps_nil | apply keeps_cons (by repeat (first | exact find_head | apply find_tail)) (by first  | rfl) | exact keeps_self | exact keeps_left | exact keeps_right | exact keeps_swap | apply keeps_mv))⟩
                · intro hg4; clear hl; intro hl
                  try simp only [decide_eq_true_eq, decide_eq_false_iff_not, Bool.not_eq_true', Bool.not_eq_false', Bool.not_eq_true, Bool.not_eq_false, Bool.and_eq_true, Bool.or_eq_true, Bool.and_eq_false_iff, Bool.or_eq_false_iff, Bool.not_not, ne_eq, Int.not_lt, Int.not_le, Decidable.not_not, beq_iff_eq, bne_iff_ne] at hg4
                  refine wl (wl_skip hl rfl ⟨_, _, rfl, rfl, rfl⟩ ?_)
                  clear hl a; intro a hl
                  refine wl (wl_skip hl rfl ⟨_, _, rfl, rfl, rfl⟩ ?_)
                  clear hl a; intro a hl
                  refine wl (wl_skip hl rfl ⟨_, _, rfl, rfl, rfl⟩ ?_)
                  clear hl a; intro a hl
                  refine wl (wl_val hl rfl trivial (r_pickF hl rfl rfl) ?_)
                  clear hl a; intro a hl
                  refine w_nil ?_
                  have hl2 := hl.add (t := 3) (hl.add (t := 5) (hl.add (t := 6) (hl.add (t := 7) (hl.add (t := 9) (hl.add (t := 13) (hl.add (t := 14) (hl.add (t := 34) (hl.add (t := 35) (hl.add (t := 36) (hl.add (t := 109) (hl.nil) rfl) rfl) rfl) rfl) rfl) rfl) rfl) rfl) rfl) rfl) rfl; clear hl; have hl := hl2; clear hl2
                  refine then_normal ?_
                  refine c_condF hl rfl ?_
                  have hfin : ∃ t9 m9 st9 cp9 mp9 Z9, PI (((z.i + 1 : Nat) : Int) * 137438953472) ((z.i + 1 : Nat) : Int) t9 m9 st9 ∧ PW Z9 cp9 mp9 t9 m9 st9 t9.cfg.sack t9.os ∧ Has [] w0 ((k9, C [.int .u8 d.kd, .int .u32 d.cf.init, .int .u32 d.cf.maxc, .int .u32 d.cf.bn, .int .u32 d.cf.bd, .int .u32 d.cf.abc, .int .u32 d.cf.dupt, .bool d.cf.idle, .int .u32 d.cf.mss, .int .u32 d.cf.start, .bool d.cf.sack, .int .u32 d.A, .int .u32 d.B, .bool d.dup, .int .u8 d.gr, .slice d.p d.dat.length d.cap] 50) :: (k3, C [.pointer (some ⟨cp9, 0, none⟩)] 24) :: (k5, C [.pointer (some ⟨mp9, 0, none⟩)] 34) :: Z9) w := ⟨y.t, y.m, z.st, z.cp, z.mp, y.Z, (hpiy.mono (by omega) (by omega)), hpwy, (hh.keep (by repeat (first | exact keeps_nil | apply keeps_cons (by repeat (first | exact find_head | apply find_tail)) (by first  | rfl) | exact keeps_self | exact keeps_left | exact keeps_right | exact keeps_swap | apply keeps_mv)))⟩
                  clear hh
                  obtain ⟨t9, m9, st9, cp9, mp9, Z9, hpi9, hpw9, hh⟩ := hfin
                  have hfl9 := hpi9.si.fl; have pf9 := flightP_U t9.s; have hpu9 := pipeP_U hpi9.si.ok t9.ns t9.bl; have hdu9 := hpi9.si.ok.dups; have pp9 := hpi9.si.ok.phase; have oc9 := hpi9.si.ok.cwnd; have os9 := hpi9.si.ok.ssth; have om9 := hpi9.si.ok.maxc; have oms9 := hpi9.si.ok.mss
                  refine wp_exit ?_
                  refine then_exit ?_
                  refine then_exit ?_
                  refine blk_exit ?_
                  refine blk_normal ?_
                  refine then_normal ?_
                  refine c_seq ?_
                  refine c_seq ?_
                  refine c_region ?_
                  refine wl (wl_val hl rfl trivial (r_move hl rfl) ?_)
                  clear hl a; intro a hl
                  refine wl (w_call hl hh rfl trivial rfl cal7 rfl (far_pm hpw9 hpi9.hm k5) (by repeat (first | exact keeps_nil | apply keeps_cons (by repeat (first | exact find_head | apply find_tail)) (by first  | rfl) | exact keeps_self | exact keeps_left | exact keeps_right | exact keeps_swap | apply keeps_mv)) ⟨(hh.mem _ _ (Find.mem (by repeat (first | exact find_head | apply find_tail)))), (fun b o m => hh.mem b o (by (repeat (first | exact m | apply List.mem_cons_of_mem)); done))⟩ ?_)
                  clear hl hh a w; intro vc Fc a w hR hl hh
                  obtain ⟨rfl, rfl⟩ := hR
                  try simp only [List.cons_append, List.nil_append] at hh
                  refine w_nil ?_
                  have hl2 := hl.add (t := 3) (hl.add (t := 5) (hl.add (t := 6) (hl.add (t := 7) (hl.add (t := 9) (hl.add (t := 34) (hl.add (t := 35) (hl.add (t := 36) (hl.add (t := 202) (hl.nil) rfl) rfl) rfl) rfl) rfl) rfl) rfl) rfl) rfl; clear hl; have hl := hl2; clear hl2
                  refine then_normal ?_
                  refine c_cond hl rfl ?_ ?_
                  · intro hc15
                    try simp only [decide_eq_true_eq, decide_eq_false_iff_not, Bool.not_eq_true', Bool.not_eq_false', Bool.not_eq_true, Bool.not_eq_false, Bool.and_eq_true, Bool.or_eq_true, Bool.and_eq_false_iff, Bool.or_eq_false_iff, Bool.not_not, ne_eq, Int.not_lt, Int.not_le, Decidable.not_not, beq_iff_eq, bne_iff_ne] at hc15
                    refine wp_exit ?_
                    refine then_exit ?_
                    refine blk_exit ?_
                    refine then_normal ?_
                    refine c_region ?_
                    first | refine wl (wl_val hl rfl trivial (r_add hl rfl rfl (by simp only [Fits]; omega)) ?_) | refine wl (wl_val hl rfl trivial (r_addW hl rfl rfl) ?_)
                    clear hl a; intro a hl
                    refine wl (wl_val hl rfl trivial (r_move hl rfl) ?_)
                    clear hl a; intro a hl
                    refine w_nil ?_
                    have hl2 := hl.add (t := 3) (hl.add (t := 5) (hl.add (t := 6) (hl.add (t := 7) (hl.add (t := 34) (hl.add (t := 35) (hl.add (t := 36) (hl.nil) rfl) rfl) rfl) rfl) rfl) rfl) rfl; clear hl; have hl := hl2; clear hl2
                    refine then_normal ?_
                    refine ⟨⟨t9, m9, st9, cp9, mp9, Z9, z.i + 1⟩, (by simp only; omega), ⟨⟨hpi9, hpw9⟩, by simp only; omega⟩, hl.addE (t := 36) (hl.addE (t := 3) (hl.addE (t := 5) (hl.addE (t := 6) (hl.addE (t := 7) (hl.addE (t := 34) (hl.addE (t := 35) (hl.nil) rfl (by first | rfl | exact congrArg (Value.int .i64) (i_succ z.i))) rfl (by first | rfl | exact congrArg (Value.int .i64) (i_succ z.i))) rfl (by first | rfl | exact congrArg (Value.int .i64) (i_succ z.i))) rfl (by first | rfl | exact congrArg (Value.int .i64) (i_succ z.i))) rfl (by first | rfl | exact congrArg (Value.int .i64) (i_succ z.i))) rfl (by first | rfl | exact congrArg (Value.int .i64) (i_succ z.i))) rfl (by first | rfl | exact congrArg (Value.int .i64) (i_succ z.i)), hh.keep (by repeat (first | exact keeps_nil | apply keeps_cons (by repeat (first | exact find_head | apply find_tail)) (by first  | rfl) | exact keeps_self | exact keeps_left | exact keeps_right | exact keeps_swap | apply keeps_mv))⟩
                  · intro hc15
                    try simp only [decide_eq_true_eq, decide_eq_false_iff_not, Bool.not_eq_true', Bool.not_eq_false', Bool.not_eq_true, Bool.not_eq_false, Bool.and_eq_true, Bool.or_eq_true, Bool.and_eq_false_iff, Bool.or_eq_false_iff, Bool.not_not, ne_eq, Int.not_lt, Int.not_le, Decidable.not_not, beq_iff_eq, bne_iff_ne] at hc15
                    refine wp_skip ?_
                    refine then_normal ?_
                    refine c_seq ?_
                    refine c_seq ?_
                    refine c_draw [(k3, C [.pointer (some ⟨cp9, 0, none⟩)] 24), (k5, C [.pointer (some ⟨mp9, 0, none⟩)] 34)] [] mixed hh ?_
                    clear hh w; intro w hh
                    have hM : Mem [(k3, C [.pointer (some ⟨cp9, 0, none⟩)] 24), (k5, C [.pointer (some ⟨mp9, 0, none⟩)] 34)] w := (by (repeat (first | exact Mem.nil | refine Mem.consR hh (by assumption) (by simp) ?_ | refine Mem.cons hh.mem (by (repeat (first | exact find_head | apply find_tail)); done) ?_ | fail)); done)
                    refine d_take (i := 0) hl rfl (by kernel_rfl) (by kernel_rfl) (by kernel_rfl) (by kernel_rfl) (by kernel_rfl) rfl trivial (fun _ _ _ h => h) hM (fun w hC => r_loadC hl rfl one24 hC (by repeat (first | exact find_head | apply find_tail)) (by first | rfl)) rfl ?_
                    clear hl a; intro a hl
                    refine d_take (i := 2) hl rfl (by kernel_rfl) (by kernel_rfl) (by kernel_rfl) (by kernel_rfl) (by kernel_rfl) rfl trivial (fun _ _ _ h => h) hM (fun w hC => r_loadC hl rfl one34 hC (by repeat (first | exact find_head | apply find_tail)) (by first | rfl)) rfl ?_
                    clear hl a; intro a hl
                    refine d_one (i := 1) (by kernel_rfl) rfl ?_
                    try clear hM
                    refine id (w_call hl hh rfl trivial rfl cal26 rfl (view_pc hpw9 hpi9.si) (by repeat (first | exact keeps_nil | apply keeps_cons (by repeat (first | exact find_head | apply find_tail)) (by first  | rfl) | exact keeps_self | exact keeps_left | exact keeps_right | exact keeps_swap | apply keeps_mv)) (fun b o m => hh.mem b o (by (repeat (first | exact m | apply List.mem_cons_of_mem)); done)) ?_)
                    clear hl hh a w; intro vc Fc a w hR hl hh
                    obtain ⟨rfl, rfl⟩ := hR
                    try simp only [List.cons_append, List.nil_append] at hh
                    simp only [vwc, viewP] at hl
                    have hM : Mem [(k3, C [.pointer (some ⟨cp9, 0, none⟩)] 24), (k5, C [.pointer (some ⟨mp9, 0, none⟩)] 34)] w := (by (repeat (first | exact Mem.nil | refine Mem.consR hh (by assumption) (by simp) ?_ | refine Mem.cons hh.mem (by (repeat (first | exact find_head | apply find_tail)); done) ?_ | fail)); done)
                    refine d_step (fun _ => hM) ?_
                    refine d_one (i := 3) (by kernel_rfl) rfl ?_
                    try clear hM
                    refine id (w_call hl hh rfl trivial rfl cal27 rfl (view_pm hpw9 hpi9 (by omega) (by assumption)) (by repeat (first | exact keeps_nil | apply keeps_cons (by repeat (first | exact find_head | apply find_tail)) (by first  | rfl) | exact keeps_self | exact keeps_left | exact keeps_right | exact keeps_swap | apply keeps_mv)) (fun b o m => hh.mem b o (by (repeat (first | exact m | apply List.mem_cons_of_mem)); done)) ?_)
                    clear hl hh a w; intro vc Fc a w hR hl hh
                    obtain ⟨rfl, rfl⟩ := hR
                    try simp only [List.cons_append, List.nil_append] at hh
                    simp only [vwc, viewP] at hl
                    have hM : Mem [(k3, C [.pointer (some ⟨cp9, 0, none⟩)] 24), (k5, C [.pointer (some ⟨mp9, 0, none⟩)] 34)] w := (by (repeat (first | exact Mem.nil | refine Mem.consR hh (by assumption) (by simp) ?_ | refine Mem.cons hh.mem (by (repeat (first | exact find_head | apply find_tail)); done) ?_ | fail)); done)
                    refine d_step (fun _ => hM) ?_
                    refine d_take (i := 4) hl rfl (by kernel_rfl) (by kernel_rfl) (by kernel_rfl) (by kernel_rfl) (by kernel_rfl) rfl trivial (fun _ _ _ h => h) hM (fun w hC => r_neqA hl rfl rfl eqf61 shp61 (by simp only [unlitL, unlit]; rfl) (by simp only [unlitL, unlit]; rfl) (by first | exact ⟨trivial⟩ | (refine ⟨?_⟩; simp [LitsOk, litOk, Fits]; done) | (refine ⟨?_⟩; simp [LitsOk, litOk, Fits]; omega)) (by first | exact ⟨trivial⟩ | (refine ⟨?_⟩; simp [LitsOk, litOk, Fits]; done) | (refine ⟨?_⟩; simp [LitsOk, litOk, Fits]; omega))) rfl ?_
                    clear hl a; intro a hl
                    simp only [eqLits, litBeq, beq_self_eq_true, Bool.and_self, Bool.and_true, Bool.not_true, decide_true] at hl
                    refine d_take (i := 5) hl rfl (by kernel_rfl) (by kernel_rfl) (by kernel_rfl) (by kernel_rfl) (by kernel_rfl) rfl trivial (fun _ _ _ h => h) hM (fun w hC => r_move hl rfl) rfl ?_
                    clear hl a; intro a hl
                    refine d_take (i := 6) hl rfl (by kernel_rfl) (by kernel_rfl) (by kernel_rfl) (by kernel_rfl) (by kernel_rfl) rfl ⟨_, _, rfl, rfl, rfl⟩ (fun _ _ _ h => h) hM (fun w hC => r_loadC hl rfl one24 hC (by repeat (first | exact find_head | apply find_tail)) (by first | rfl)) rfl ?_
                    clear hl a; intro a hl
                    refine d_take (i := 8) hl rfl (by kernel_rfl) (by kernel_rfl) (by kernel_rfl) (by kernel_rfl) (by kernel_rfl) rfl ⟨_, _, rfl, rfl, rfl⟩ (fun _ _ _ h => h) hM (fun w hC => r_loadC hl rfl one34 hC (by repeat (first | exact find_head | apply find_tail)) (by first | rfl)) rfl ?_
                    clear hl a; intro a hl
                    refine d_take (i := 9) hl rfl (by kernel_rfl) (by kernel_rfl) (by kernel_rfl) (by kernel_rfl) (by kernel_rfl) rfl ⟨_, _, rfl, rfl, rfl⟩ (fun _ _ _ h => h) hM (fun w hC => r_loadC hl rfl one34 hC (by repeat (first | exact find_head | apply find_tail)) (by first | rfl)) rfl ?_
                    clear hl a; intro a hl
                    refine d_one (i := 7) (by kernel_rfl) rfl ?_
                    try clear hM
                    refine id (w_call hl hh rfl ⟨_, _, rfl, rfl, rfl⟩ rfl cal18 rfl (una_pc hpw9) (by repeat (first | exact keeps_nil | apply keeps_cons (by repeat (first | exact find_head | apply find_tail)) (by first  | rfl) | exact keeps_self | exact keeps_left | exact keeps_right | exact keeps_swap | apply keeps_mv)) (fun b o m => hh.mem b o (by (repeat (first | exact m | apply List.mem_cons_of_mem)); done)) ?_)
                    clear hl hh a w; intro vc Fc a w hR hl hh
                    obtain ⟨rfl, rfl⟩ := hR
                    try simp only [List.cons_append, List.nil_append] at hh
                    have hM : Mem [(k3, C [.pointer (some ⟨cp9, 0, none⟩)] 24), (k5, C [.pointer (some ⟨mp9, 0, none⟩)] 34)] w := (by (repeat (first | exact Mem.nil | refine Mem.consR hh (by assumption) (by simp) ?_ | refine Mem.cons hh.mem (by (repeat (first | exact find_head | apply find_tail)); done) ?_ | fail)); done)
                    refine d_step (fun _ => hM) ?_
                    refine d_one (i := 10) (by kernel_rfl) rfl ?_
                    try clear hM
                    refine id (w_call hl hh rfl ⟨_, _, rfl, rfl, rfl⟩ rfl cal10 rfl (una_pm hpw9 hpi9.hm) (by repeat (first | exact keeps_nil | apply keeps_cons (by repeat (first | exact find_head | apply find_tail)) (by first  | rfl) | exact keeps_self | exact keeps_left | exact keeps_right | exact keeps_swap | apply keeps_mv)) (fun b o m => hh.mem b o (by (repeat (first | exact m | apply List.mem_cons_of_mem)); done)) ?_)
                    clear hl hh a w; intro vc Fc a w hR hl hh
                    obtain ⟨rfl, rfl⟩ := hR
                    try simp only [List.cons_append, List.nil_append] at hh
                    have hM : Mem [(k3, C [.pointer (some ⟨cp9, 0, none⟩)] 24), (k5, C [.pointer (some ⟨mp9, 0, none⟩)] 34)] w := (by (repeat (first | exact Mem.nil | refine Mem.consR hh (by assumption) (by simp) ?_ | refine Mem.cons hh.mem (by (repeat (first | exact find_head | apply find_tail)); done) ?_ | fail)); done)
                    refine d_step (fun _ => hM) ?_
                    refine d_one (i := 11) (by kernel_rfl) rfl ?_
                    try clear hM
                    refine id (w_call hl hh rfl ⟨_, _, rfl, rfl, rfl⟩ rfl cal14 rfl (seq_pm hpw9 hpi9.hm m9.una) (by repeat (first | exact keeps_nil | apply keeps_cons (by repeat (first | exact find_head | apply find_tail)) (by first  | rfl) | exact keeps_self | exact keeps_left | exact keeps_right | exact keeps_swap | apply keeps_mv)) (fun b o m => hh.mem b o (by (repeat (first | exact m | apply List.mem_cons_of_mem)); done)) ?_)
                    clear hl hh a w; intro vc Fc a w hR hl hh
                    obtain ⟨rfl, rfl⟩ := hR
                    try simp only [List.cons_append, List.nil_append] at hh
                    rw [← hpi9.rel.una] at hl
                    have hM : Mem [(k3, C [.pointer (some ⟨cp9, 0, none⟩)] 24), (k5, C [.pointer (some ⟨mp9, 0, none⟩)] 34)] w := (by (repeat (first | exact Mem.nil | refine Mem.consR hh (by assumption) (by simp) ?_ | refine Mem.cons hh.mem (by (repeat (first | exact find_head | apply find_tail)); done) ?_ | fail)); done)
                    refine d_step (fun _ => hM) ?_
                    refine d_take (i := 12) hl rfl (by kernel_rfl) (by kernel_rfl) (by kernel_rfl) (by kernel_rfl) (by kernel_rfl) rfl ⟨_, _, rfl, rfl, rfl⟩ (fun _ _ _ h => h) hM (fun w hC => r_neq hl rfl rfl) rfl ?_
                    clear hl a; intro a hl
                    try simp only [ne_eq, not_true_eq_false, decide_false, decide_true, decide_not, Bool.not_true, beq_self_eq_true, bne_self_eq_false] at hl
                    refine d_take (i := 13) hl rfl (by kernel_rfl) (by kernel_rfl) (by kernel_rfl) (by kernel_rfl) (by kernel_rfl) rfl trivial (fun _ _ _ h => h) hM (fun w hC => r_pickF hl rfl rfl) rfl ?_
                    clear hl a; intro a hl
                    refine d_take (i := 14) hl rfl (by kernel_rfl) (by kernel_rfl) (by kernel_rfl) (by kernel_rfl) (by kernel_rfl) rfl trivial (fun _ _ _ h => h) hM (fun w hC => r_move hl rfl) rfl ?_
                    clear hl a; intro a hl
                    refine d_take (i := 15) hl rfl (by kernel_rfl) (by kernel_rfl) (by kernel_rfl) (by kernel_rfl) (by kernel_rfl) rfl ⟨_, _, rfl, rfl, rfl⟩ (fun _ _ _ h => h) hM (fun w hC => r_loadC hl rfl one24 hC (by repeat (first | exact find_head | apply find_tail)) (by first | rfl)) rfl ?_
                    clear hl a; intro a hl
                    refine d_take (i := 17) hl rfl (by kernel_rfl) (by kernel_rfl) (by kernel_rfl) (by kernel_rfl) (by kernel_rfl) rfl ⟨_, _, rfl, rfl, rfl⟩ (fun _ _ _ h => h) hM (fun w hC => r_loadC hl rfl one34 hC (by repeat (first | exact find_head | apply find_tail)) (by first | rfl)) rfl ?_
                    clear hl a; intro a hl
                    refine d_take (i := 18) hl rfl (by kernel_rfl) (by kernel_rfl) (by kernel_rfl) (by kernel_rfl) (by kernel_rfl) rfl ⟨_, _, rfl, rfl, rfl⟩ (fun _ _ _ h => h) hM (fun w hC => r_loadC hl rfl one34 hC (by repeat (first | exact find_head | apply find_tail)) (by first | rfl)) rfl ?_
                    clear hl a; intro a hl
                    refine d_one (i := 16) (by kernel_rfl) rfl ?_
                    try clear hM
                    refine id (w_call hl hh rfl ⟨_, _, rfl, rfl, rfl⟩ rfl cal28 rfl (nxt_pc hpw9) (by repeat (first | exact keeps_nil | apply keeps_cons (by repeat (first | exact find_head | apply find_tail)) (by first  | rfl) | exact keeps_self | exact keeps_left | exact keeps_right | exact keeps_swap | apply keeps_mv)) (fun b o m => hh.mem b o (by (repeat (first | exact m | apply List.mem_cons_of_mem)); done)) ?_)
                    clear hl hh a w; intro vc Fc a w hR hl hh
                    obtain ⟨rfl, rfl⟩ := hR
                    try simp only [List.cons_append, List.nil_append] at hh
                    have hM : Mem [(k3, C [.pointer (some ⟨cp9, 0, none⟩)] 24), (k5, C [.pointer (some ⟨mp9, 0, none⟩)] 34)] w := (by (repeat (first | exact Mem.nil | refine Mem.consR hh (by assumption) (by simp) ?_ | refine Mem.cons hh.mem (by (repeat (first | exact find_head | apply find_tail)); done) ?_ | fail)); done)
                    refine d_step (fun _ => hM) ?_
                    refine d_one (i := 19) (by kernel_rfl) rfl ?_
                    try clear hM
                    refine id (w_call hl hh rfl ⟨_, _, rfl, rfl, rfl⟩ rfl cal9 rfl (nxt_pm hpw9 hpi9.hm) (by repeat (first | exact keeps_nil | apply keeps_cons (by repeat (first | exact find_head | apply find_tail)) (by first  | rfl) | exact keeps_self | exact keeps_left | exact keeps_right | exact keeps_swap | apply keeps_mv)) (fun b o m => hh.mem b o (by (repeat (first | exact m | apply List.mem_cons_of_mem)); done)) ?_)
                    clear hl hh a w; intro vc Fc a w hR hl hh
                    obtain ⟨rfl, rfl⟩ := hR
                    try simp only [List.cons_append, List.nil_append] at hh
                    have hM : Mem [(k3, C [.pointer (some ⟨cp9, 0, none⟩)] 24), (k5, C [.pointer (some ⟨mp9, 0, none⟩)] 34)] w := (by (repeat (first | exact Mem.nil | refine Mem.consR hh (by assumption) (by simp) ?_ | refine Mem.cons hh.mem (by (repeat (first | exact find_head | apply find_tail)); done) ?_ | fail)); done)
                    refine d_step (fun _ => hM) ?_
                    refine d_one (i := 20) (by kernel_rfl) rfl ?_
                    try clear hM
                    refine id (w_call hl hh rfl ⟨_, _, rfl, rfl, rfl⟩ rfl cal14 rfl (seq_pm hpw9 hpi9.hm m9.nxt) (by repeat (first | exact keeps_nil | apply keeps_cons (by repeat (first | exact find_head | apply find_tail)) (by first  | rfl) | exact keeps_self | exact keeps_left | exact keeps_right | exact keeps_swap | apply keeps_mv)) (fun b o m => hh.mem b o (by (repeat (first | exact m | apply List.mem_cons_of_mem)); done)) ?_)
                    clear hl hh a w; intro vc Fc a w hR hl hh
                    obtain ⟨rfl, rfl⟩ := hR
                    try simp only [List.cons_append, List.nil_append] at hh
                    rw [← hpi9.rel.nxt] at hl
                    have hM : Mem [(k3, C [.pointer (some ⟨cp9, 0, none⟩)] 24), (k5, C [.pointer (some ⟨mp9, 0, none⟩)] 34)] w := (by (repeat (first | exact Mem.nil | refine Mem.consR hh (by assumption) (by simp) ?_ | refine Mem.cons hh.mem (by (repeat (first | exact find_head | apply find_tail)); done) ?_ | fail)); done)
                    refine d_step (fun _ => hM) ?_
                    refine d_take (i := 21) hl rfl (by kernel_rfl) (by kernel_rfl) (by kernel_rfl) (by kernel_rfl) (by kernel_rfl) rfl ⟨_, _, rfl, rfl, rfl⟩ (fun _ _ _ h => h) hM (fun w hC => r_neq hl rfl rfl) rfl ?_
                    clear hl a; intro a hl
                    try simp only [ne_eq, not_true_eq_false, decide_false, decide_true, decide_not, Bool.not_true, beq_self_eq_true, bne_self_eq_false] at hl
                    refine d_take (i := 22) hl rfl (by kernel_rfl) (by kernel_rfl) (by kernel_rfl) (by kernel_rfl) (by kernel_rfl) rfl trivial (fun _ _ _ h => h) hM (fun w hC => r_pickF hl rfl rfl) rfl ?_
                    clear hl a; intro a hl
                    refine d_done (by kernel_rfl) ?_
                    try clear hM
                    have hl2 := hl.add (t := 3) (hl.add (t := 5) (hl.add (t := 6) (hl.add (t := 7) (hl.add (t := 9) (hl.add (t := 34) (hl.add (t := 35) (hl.add (t := 36) (hl.add (t := 225) (hl.nil) rfl) rfl) rfl) rfl) rfl) rfl) rfl) rfl) rfl; clear hl; have hl := hl2; clear hl2
                    refine then_normal ?_
                    refine c_condF hl rfl ?_
                    refine wp_skip ?_
                    refine then_normal ?_
                    refine c_seq ?_
                    refine c_region ?_
                    refine wl (wl_val hl rfl trivial (r_move hl rfl) ?_)
                    clear hl a; intro a hl
                    refine wl (wl_val hl rfl trivial (r_field hl rfl fld50_3) ?_)
                    clear hl a; intro a hl
                    refine wl (w_load hl hh rfl trivial one29 rfl (by repeat (first | exact find_head | apply find_tail)) (by first | rfl) ?_)
                    clear hl a; intro a hl
                    refine wl (w_call hl hh rfl trivial rfl cal11 rfl (same_pw k3 k5 Z9 cp9 mp9 t9 m9 st9 _ _ hpw9 hpi9 (by assumption) d.B hdB) (by repeat (first | exact keeps_nil | apply keeps_cons (by repeat (first | exact find_head | apply find_tail)) (by first  | rfl) | exact keeps_self | exact keeps_left | exact keeps_right | exact keeps_swap | apply keeps_mv)) ⟨(hh.mem _ _ (Find.mem (by repeat (first | exact find_head | apply find_tail)))), (hh.mem _ _ (Find.mem (by repeat (first | exact find_head | apply find_tail)))), (fun b o m => hh.mem b o (by (repeat (first | exact m | apply List.mem_cons_of_mem)); done))⟩ ?_)
                    clear hl hh a w; intro vc Fc a w hR hl hh
                    obtain ⟨⟨off, rfl, hoff⟩, rfl⟩ := hR
                    try simp only [List.cons_append, List.nil_append] at hh
                    refine wl (wl_val hl rfl trivial (r_move hl rfl) ?_)
                    clear hl a; intro a hl
                    refine wl (wl_val hl rfl trivial (r_extract hl rfl (by simp only [List.getElem?_toArray, List.getElem?_cons_zero, List.getElem?_cons_succ]; rfl)) ?_)
                    clear hl a; intro a hl
                    refine wl (wl_val hl rfl trivial (r_extract hl rfl (by simp only [List.getElem?_toArray, List.getElem?_cons_zero, List.getElem?_cons_succ]; rfl)) ?_)
                    clear hl a; intro a hl
                    refine wl (wl_val hl rfl trivial (r_extract hl rfl (by simp only [List.getElem?_toArray, List.getElem?_cons_zero, List.getElem?_cons_succ]; rfl)) ?_)
                    clear hl a; intro a hl
                    refine wl (w_alloc hl hh rfl trivial zero40 rfl ?_)
                    clear hl hh a w; intro k19 a w hl hh
                    refine wl (w_alloc hl hh rfl trivial zero42 rfl ?_)
                    clear hl hh a w; intro k20 a w hl hh
                    refine wl (w_storeA hl hh trivial agg40 rfl rfl (by repeat (first | exact find_head | apply find_tail)) (by first | rfl | (simp; done) | (simp only [List.getElem?_cons_zero, List.getElem?_cons_succ, Value.cells, List.take_zero, List.take_succ_cons, List.take_nil, List.drop_zero, List.drop_succ_cons, List.drop_nil, List.length_cons, List.length_nil, List.cons_append, List.nil_append, List.append_nil, Nat.zero_add, Nat.add_zero, Nat.reduceAdd, Nat.reduceBEq, Nat.reduceEqDiff, Nat.ble, BEq.rfl, Bool.and_true, Bool.and_self, cond_true, beq_self_eq_true]; rfl) | rfl) (by first | (simp; done) | (simp; omega) | (simp [cfL]; done)) (by first | rfl | (simp; done) | rfl) (by first | (simp only [setL, cfL, List.getElem?_cons_zero, List.getElem?_cons_succ, Value.cells, List.take_zero, List.take_succ_cons, List.take_nil, List.drop_zero, List.drop_succ_cons, List.drop_nil, List.length_cons, List.length_nil, List.cons_append, List.nil_append, List.append_nil, Nat.zero_add, Nat.add_zero, Nat.reduceAdd, Nat.reduceBEq, Nat.reduceEqDiff, Nat.ble, BEq.rfl, Bool.and_true, Bool.and_self, cond_true, beq_self_eq_true]; rfl) | (simp only [setL, List.getElem?_cons_zero, List.getElem?_cons_succ, Value.cells, List.take_zero, List.take_succ_cons, List.take_nil, List.drop_zero, List.drop_succ_cons, List.drop_nil, List.length_cons, List.length_nil, List.cons_append, List.nil_append, List.append_nil, Nat.zero_add, Nat.add_zero, Nat.reduceAdd, Nat.reduceBEq, Nat.reduceEqDiff, Nat.ble, BEq.rfl, Bool.and_true, Bool.and_self, cond_true, beq_self_eq_true]; rfl) | (simp only [setL, List.getElem?_cons_zero, List.getElem?_cons_succ, Value.cells, List.take_zero, List.take_succ_cons, List.take_nil, List.drop_zero, List.drop_succ_cons, List.drop_nil, List.length_cons, List.length_nil, List.cons_append, List.nil_append, List.append_nil, Nat.zero_add, Nat.add_zero, Nat.reduceAdd, Nat.reduceBEq, Nat.reduceEqDiff, Nat.ble, BEq.rfl, Bool.and_true, Bool.and_self, cond_true, beq_self_eq_true]; rfl)) ?_)
                    clear hh w; intro w hh
                    refine wl (w_storeA hl hh trivial agg42 rfl rfl (by repeat (first | exact find_head | apply find_tail)) (by first | rfl | (simp; done) | (simp only [List.getElem?_cons_zero, List.getElem?_cons_succ, Value.cells, List.take_zero, List.take_succ_cons, List.take_nil, List.drop_zero, List.drop_succ_cons, List.drop_nil, List.length_cons, List.length_nil, List.cons_append, List.nil_append, List.append_nil, Nat.zero_add, Nat.add_zero, Nat.reduceAdd, Nat.reduceBEq, Nat.reduceEqDiff, Nat.ble, BEq.rfl, Bool.and_true, Bool.and_self, cond_true, beq_self_eq_true]; rfl) | rfl) (by first | (simp; done) | (simp; omega) | (simp [cfL]; done)) (by first | rfl | (simp; done) | rfl) (by first | (simp only [setL, cfL, List.getElem?_cons_zero, List.getElem?_cons_succ, Value.cells, List.take_zero, List.take_succ_cons, List.take_nil, List.drop_zero, List.drop_succ_cons, List.drop_nil, List.length_cons, List.length_nil, List.cons_append, List.nil_append, List.append_nil, Nat.zero_add, Nat.add_zero, Nat.reduceAdd, Nat.reduceBEq, Nat.reduceEqDiff, Nat.ble, BEq.rfl, Bool.and_true, Bool.and_self, cond_true, beq_self_eq_true]; rfl) | (simp only [setL, List.getElem?_cons_zero, List.getElem?_cons_succ, Value.cells, List.take_zero, List.take_succ_cons, List.take_nil, List.drop_zero, List.drop_succ_cons, List.drop_nil, List.length_cons, List.length_nil, List.cons_append, List.nil_append, List.append_nil, Nat.zero_add, Nat.add_zero, Nat.reduceAdd, Nat.reduceBEq, Nat.reduceEqDiff, Nat.ble, BEq.rfl, Bool.and_true, Bool.and_self, cond_true, beq_self_eq_true]; rfl) | (simp only [setL, List.getElem?_cons_zero, List.getElem?_cons_succ, Value.cells, List.take_zero, List.take_succ_cons, List.take_nil, List.drop_zero, List.drop_succ_cons, List.drop_nil, List.length_cons, List.length_nil, List.cons_append, List.nil_append, List.append_nil, Nat.zero_add, Nat.add_zero, Nat.reduceAdd, Nat.reduceBEq, Nat.reduceEqDiff, Nat.ble, BEq.rfl, Bool.and_true, Bool.and_self, cond_true, beq_self_eq_true]; rfl)) ?_)
                    clear hh w; intro w hh
                    refine wl (wl_val hl rfl trivial (r_assign hl rfl) ?_)
                    clear hl a; intro a hl
                    refine w_nil ?_
                    have hl2 := hl.add (t := 3) (hl.add (t := 5) (hl.add (t := 6) (hl.add (t := 7) (hl.add (t := 21) (hl.add (t := 34) (hl.add (t := 35) (hl.add (t := 36) (hl.nil) rfl) rfl) rfl) rfl) rfl) rfl) rfl) rfl; clear hl; have hl := hl2; clear hl2
                    refine then_normal ?_
                    refine c_seq ?_
                    refine c_region ?_
                    refine wl (wl_val hl rfl trivial (r_move hl rfl) ?_)
                    clear hl a; intro a hl
                    refine wl (wl_val hl rfl trivial (r_not hl rfl) ?_)
                    clear hl a; intro a hl
                    refine w_nil ?_
                    have hl2 := hl.add (t := 3) (hl.add (t := 5) (hl.add (t := 6) (hl.add (t := 7) (hl.add (t := 34) (hl.add (t := 35) (hl.add (t := 36) (hl.add (t := 235) (hl.nil) rfl) rfl) rfl) rfl) rfl) rfl) rfl) rfl; clear hl; have hl := hl2; clear hl2
                    refine then_normal ?_
                    refine c_cond hl rfl ?_ ?_
                    · intro hc17
                      try simp only [decide_eq_true_eq, decide_eq_false_iff_not, Bool.not_eq_true', Bool.not_eq_false', Bool.not_eq_true, Bool.not_eq_false, Bool.and_eq_true, Bool.or_eq_true, Bool.and_eq_false_iff, Bool.or_eq_false_iff, Bool.not_not, ne_eq, Int.not_lt, Int.not_le, Decidable.not_not, beq_iff_eq, bne_iff_ne] at hc17
                      exfalso; first | exact Bool.noConfusion (show false = true by assumption) | exact Bool.noConfusion (show true = false by assumption) | contradiction | omega | (simp at *; done)
                    · intro hc17
                      try simp only [decide_eq_true_eq, decide_eq_false_iff_not, Bool.not_eq_true', Bool.not_eq_false', Bool.not_eq_true, Bool.not_eq_false, Bool.and_eq_true, Bool.or_eq_true, Bool.and_eq_false_iff, Bool.or_eq_false_iff, Bool.not_not, ne_eq, Int.not_lt, Int.not_le, Decidable.not_not, beq_iff_eq, bne_iff_ne] at hc17
                      refine wp_skip ?_
                      refine blk_normal ?_
                      refine then_normal ?_
                      refine c_region ?_
                      first | refine wl (wl_val hl rfl trivial (r_add hl rfl rfl (by simp only [Fits]; omega)) ?_) | refine wl (wl_val hl rfl trivial (r_addW hl rfl rfl) ?_)
                      clear hl a; intro a hl
                      refine wl (wl_val hl rfl trivial (r_move hl rfl) ?_)
                      clear hl a; intro a hl
                      refine w_nil ?_
                      have hl2 := hl.add (t := 3) (hl.add (t := 5) (hl.add (t := 6) (hl.add (t := 7) (hl.add (t := 34) (hl.add (t := 35) (hl.add (t := 36) (hl.nil) rfl) rfl) rfl) rfl) rfl) rfl) rfl; clear hl; have hl := hl2; clear hl2
                      refine then_normal ?_
                      refine ⟨⟨t9, m9, st9, cp9, mp9, Z9, z.i + 1⟩, (by simp only; omega), ⟨⟨hpi9, hpw9⟩, by simp only; omega⟩, hl.addE (t := 36) (hl.addE (t := 3) (hl.addE (t := 5) (hl.addE (t := 6) (hl.addE (t := 7) (hl.addE (t := 34) (hl.addE (t := 35) (hl.nil) rfl (by first | rfl | exact congrArg (Value.int .i64) (i_succ z.i))) rfl (by first | rfl | exact congrArg (Value.int .i64) (i_succ z.i))) rfl (by first | rfl | exact congrArg (Value.int .i64) (i_succ z.i))) rfl (by first | rfl | exact congrArg (Value.int .i64) (i_succ z.i))) rfl (by first | rfl | exact congrArg (Value.int .i64) (i_succ z.i))) rfl (by first | rfl | exact congrArg (Value.int .i64) (i_succ z.i))) rfl (by first | rfl | exact congrArg (Value.int .i64) (i_succ z.i)), hh.keep (by repeat (first | exact keeps_nil | apply keeps_cons (by repeat (first | exact find_head | apply find_tail)) (by first  | rfl) | exact keeps_self | exact keeps_left | exact keeps_right | exact keeps_swap | apply keeps_mv))⟩
              · intro hc6
                try simp only [decide_eq_true_eq, decide_eq_false_iff_not, Bool.not_eq_true', Bool.not_eq_false', Bool.not_eq_true, Bool.not_eq_false, Bool.and_eq_true, Bool.or_eq_true, Bool.and_eq_false_iff, Bool.or_eq_false_iff, Bool.not_not, ne_eq, Int.not_lt, Int.not_le, Decidable.not_not, beq_iff_eq, bne_iff_ne] at hc6
                refine c_seq ?_
                refine c_region ?_
                refine wl (wl_val hl rfl trivial (r_eql hl rfl rfl) ?_)
                clear hl a; intro a hl
                refine wl (wl_val hl rfl trivial (r_assign hl rfl) ?_)
                clear hl a; intro a hl
                refine w_nil ?_
                have hl2 := hl.add (t := 3) (hl.add (t := 5) (hl.add (t := 6) (hl.add (t := 7) (hl.add (t := 9) (hl.add (t := 10) (hl.add (t := 34) (hl.add (t := 35) (hl.add (t := 36) (hl.add (t := 62) (hl.add (t := 137) (hl.nil) rfl) rfl) rfl) rfl) rfl) rfl) rfl) rfl) rfl) rfl) rfl; clear hl; have hl := hl2; clear hl2
                refine then_normal ?_
                refine c_cond hl rfl ?_ ?_
                · intro hc11
                  try simp only [decide_eq_true_eq, decide_eq_false_iff_not, Bool.not_eq_true', Bool.not_eq_false', Bool.not_eq_true, Bool.not_eq_false, Bool.and_eq_true, Bool.or_eq_true, Bool.and_eq_false_iff, Bool.or_eq_false_iff, Bool.not_not, ne_eq, Int.not_lt, Int.not_le, Decidable.not_not, beq_iff_eq, bne_iff_ne] at hc11
                  refine c_seq ?_
                  refine c_draw [(k9, C [.int .u8 d.kd, .int .u32 d.cf.init, .int .u32 d.cf.maxc, .int .u32 d.cf.bn, .int .u32 d.cf.bd, .int .u32 d.cf.abc, .int .u32 d.cf.dupt, .bool d.cf.idle, .int .u32 d.cf.mss, .int .u32 d.cf.start, .bool d.cf.sack, .int .u32 d.A, .int .u32 d.B, .bool d.dup, .int .u8 d.gr, .slice d.p d.dat.length d.cap] 50), (k3, C [.pointer (some ⟨z.cp, 0, none⟩)] 24)] [] mixed hh ?_
                  clear hh w; intro w hh
                  have hM : Mem [(k9, C [.int .u8 d.kd, .int .u32 d.cf.init, .int .u32 d.cf.maxc, .int .u32 d.cf.bn, .int .u32 d.cf.bd, .int .u32 d.cf.abc, .int .u32 d.cf.dupt, .bool d.cf.idle, .int .u32 d.cf.mss, .int .u32 d.cf.start, .bool d.cf.sack, .int .u32 d.A, .int .u32 d.B, .bool d.dup, .int .u8 d.gr, .slice d.p d.dat.length d.cap] 50), (k3, C [.pointer (some ⟨z.cp, 0, none⟩)] 24)] w := (by (repeat (first | exact Mem.nil | refine Mem.consR hh (by assumption) (by simp) ?_ | refine Mem.cons hh.mem (by (repeat (first | exact find_head | apply find_tail)); done) ?_ | fail)); done)
                  refine d_take (i := 0) hl rfl (by kernel_rfl) (by kernel_rfl) (by kernel_rfl) (by kernel_rfl) (by kernel_rfl) rfl trivial (fun _ _ _ h => h) hM (fun w hC => r_loadC hl rfl one24 hC (by repeat (first | exact find_head | apply find_tail)) (by first | rfl)) rfl ?_
                  clear hl a; intro a hl
                  refine d_take (i := 1) hl rfl (by kernel_rfl) (by kernel_rfl) (by kernel_rfl) (by kernel_rfl) (by kernel_rfl) rfl trivial (fun _ _ _ h => h) hM (fun w hC => r_field hl rfl fld50_5) rfl ?_
                  clear hl a; intro a hl
                  refine d_take (i := 2) hl rfl (by kernel_rfl) (by kernel_rfl) (by kernel_rfl) (by kernel_rfl) (by kernel_rfl) rfl trivial (fun _ _ _ h => h) hM (fun w hC => r_loadC hl rfl one38 hC (by repeat (first | exact find_head | apply find_tail)) (by first | rfl)) rfl ?_
                  clear hl a; intro a hl
                  refine d_take (i := 3) hl rfl (by kernel_rfl) (by kernel_rfl) (by kernel_rfl) (by kernel_rfl) (by kernel_rfl) rfl trivial (fun _ _ _ h => h) hM (fun w hC => r_loadC hl rfl one24 hC (by repeat (first | exact find_head | apply find_tail)) (by first | rfl)) rfl ?_
                  clear hl a; intro a hl
                  refine d_take (i := 5) hl rfl (by kernel_rfl) (by kernel_rfl) (by kernel_rfl) (by kernel_rfl) (by kernel_rfl) rfl trivial (fun _ _ _ h => h) hM (fun w hC => r_field hl rfl fld50_2) rfl ?_
                  clear hl a; intro a hl
                  refine d_take (i := 6) hl rfl (by kernel_rfl) (by kernel_rfl) (by kernel_rfl) (by kernel_rfl) (by kernel_rfl) rfl trivial (fun _ _ _ h => h) hM (fun w hC => r_loadC hl rfl one29 hC (by repeat (first | exact find_head | apply find_tail)) (by first | rfl)) rfl ?_
                  clear hl a; intro a hl
                  refine d_take (i := 8) hl rfl (by kernel_rfl) (by kernel_rfl) (by kernel_rfl) (by kernel_rfl) (by kernel_rfl) rfl trivial (fun _ _ _ h => h) hM (fun w hC => r_field hl rfl fld50_3) rfl ?_
                  clear hl a; intro a hl
                  refine d_take (i := 9) hl rfl (by kernel_rfl) (by kernel_rfl) (by kernel_rfl) (by kernel_rfl) (by kernel_rfl) rfl trivial (fun _ _ _ h => h) hM (fun w hC => r_loadC hl rfl one29 hC (by repeat (first | exact find_head | apply find_tail)) (by first | rfl)) rfl ?_
                  clear hl a; intro a hl
                  refine d_one (i := 4) (by kernel_rfl) rfl ?_
                  try clear hM
                  refine id (w_call hl hh rfl trivial rfl cal18 rfl (una_pc hpwz) (by repeat (first | exact keeps_nil | apply keeps_cons (by repeat (first | exact find_head | apply find_tail)) (by first  | rfl) | exact keeps_self | exact keeps_left | exact keeps_right | exact keeps_swap | apply keeps_mv)) (fun b o m => hh.mem b o (by (repeat (first | exact m | apply List.mem_cons_of_mem)); done)) ?_)
                  clear hl hh a w; intro vc Fc a w hR hl hh
                  obtain ⟨rfl, rfl⟩ := hR
                  try simp only [List.cons_append, List.nil_append] at hh
                  have hM : Mem [(k9, C [.int .u8 d.kd, .int .u32 d.cf.init, .int .u32 d.cf.maxc, .int .u32 d.cf.bn, .int .u32 d.cf.bd, .int .u32 d.cf.abc, .int .u32 d.cf.dupt, .bool d.cf.idle, .int .u32 d.cf.mss, .int .u32 d.cf.start, .bool d.cf.sack, .int .u32 d.A, .int .u32 d.B, .bool d.dup, .int .u8 d.gr, .slice d.p d.dat.length d.cap] 50), (k3, C [.pointer (some ⟨z.cp, 0, none⟩)] 24)] w := (by (repeat (first | exact Mem.nil | refine Mem.consR hh (by assumption) (by simp) ?_ | refine Mem.cons hh.mem (by (repeat (first | exact find_head | apply find_tail)); done) ?_ | fail)); done)
                  refine d_step (fun _ => hM) ?_
                  refine d_take (i := 7) hl rfl (by kernel_rfl) (by kernel_rfl) (by kernel_rfl) (by kernel_rfl) (by kernel_rfl) rfl trivial (fun _ _ _ h => h) hM (fun w hC => r_addM wm_u32 hl rfl rfl) rfl ?_
                  clear hl a; intro a hl
                  refine d_take (i := 10) hl rfl (by kernel_rfl) (by kernel_rfl) (by kernel_rfl) (by kernel_rfl) (by kernel_rfl) rfl trivial (fun _ _ _ h => h) hM (fun w hC => r_build hl rfl zero40 bld40 (by simp only [fillL, setL, List.getElem?_cons_zero, List.getElem?_cons_succ, Value.cells, List.take_zero, List.take_succ_cons, List.take_nil, List.drop_zero, List.drop_succ_cons, List.drop_nil, List.length_cons, List.length_nil, List.cons_append, List.nil_append, List.append_nil, Nat.zero_add, Nat.add_zero, Nat.reduceAdd, Nat.reduceBEq, Nat.reduceEqDiff, Nat.ble, BEq.rfl, Bool.and_true, Bool.and_self, cond_true, beq_self_eq_true]; rfl)) rfl ?_
                  clear hl a; intro a hl
                  refine d_one (i := 11) (by kernel_rfl) rfl ?_
                  try clear hM
                  refine id (w_call hl hh rfl trivial rfl cal16 rfl (sent_pc hpwz hpiz.si d.gr ((z.t.s.una + d.A) % 4294967296) d.B ⟨by omega, by omega⟩ hdB) (by repeat (first | exact keeps_nil | apply keeps_cons (by repeat (first | exact find_head | apply find_tail)) (by first  | rfl) | exact keeps_self | exact keeps_left | exact keeps_right | exact keeps_swap | apply keeps_mv)) trivial ?_)
                  clear hl hh a w; intro vc Fc a w hR hl hh
                  obtain ⟨rfl, hpw1⟩ := hR
                  try simp only [List.cons_append, List.nil_append] at hh
                  replace hh := hh.comm
                  simp only [List.cons_append, List.nil_append, List.append_nil, List.append_assoc] at hh
                  generalize Fc = Z1 at hh hpw1
                  have hM : Mem [(k9, C [.int .u8 d.kd, .int .u32 d.cf.init, .int .u32 d.cf.maxc, .int .u32 d.cf.bn, .int .u32 d.cf.bd, .int .u32 d.cf.abc, .int .u32 d.cf.dupt, .bool d.cf.idle, .int .u32 d.cf.mss, .int .u32 d.cf.start, .bool d.cf.sack, .int .u32 d.A, .int .u32 d.B, .bool d.dup, .int .u8 d.gr, .slice d.p d.dat.length d.cap] 50), (k3, C [.pointer (some ⟨z.cp, 0, none⟩)] 24)] w := (by (repeat (first | exact Mem.nil | refine Mem.consR hh (by assumption) (by simp) ?_ | refine Mem.cons hh.mem (by (repeat (first | exact find_head | apply find_tail)); done) ?_ | fail)); done)
                  refine d_step (fun _ => hM) ?_
                  refine d_done (by kernel_rfl) ?_
                  try clear hM
                  have hl2 := hl.add (t := 3) (hl.add (t := 5) (hl.add (t := 6) (hl.add (t := 7) (hl.add (t := 9) (hl.add (t := 10) (hl.add (t := 34) (hl.add (t := 35) (hl.add (t := 36) (hl.nil) rfl) rfl) rfl) rfl) rfl) rfl) rfl) rfl) rfl; clear hl; have hl := hl2; clear hl2
                  refine then_normal ?_
                  refine c_draw [(k9, C [.int .u8 d.kd, .int .u32 d.cf.init, .int .u32 d.cf.maxc, .int .u32 d.cf.bn, .int .u32 d.cf.bd, .int .u32 d.cf.abc, .int .u32 d.cf.dupt, .bool d.cf.idle, .int .u32 d.cf.mss, .int .u32 d.cf.start, .bool d.cf.sack, .int .u32 d.A, .int .u32 d.B, .bool d.dup, .int .u8 d.gr, .slice d.p d.dat.length d.cap] 50), (k5, C [.pointer (some ⟨z.mp, 0, none⟩)] 34)] [] mixed hh ?_
                  clear hh w; intro w hh
                  have hM : Mem [(k9, C [.int .u8 d.kd, .int .u32 d.cf.init, .int .u32 d.cf.maxc, .int .u32 d.cf.bn, .int .u32 d.cf.bd, .int .u32 d.cf.abc, .int .u32 d.cf.dupt, .bool d.cf.idle, .int .u32 d.cf.mss, .int .u32 d.cf.start, .bool d.cf.sack, .int .u32 d.A, .int .u32 d.B, .bool d.dup, .int .u8 d.gr, .slice d.p d.dat.length d.cap] 50), (k5, C [.pointer (some ⟨z.mp, 0, none⟩)] 34)] w := (by (repeat (first | exact Mem.nil | refine Mem.consR hh (by assumption) (by simp) ?_ | refine Mem.cons hh.mem (by (repeat (first | exact find_head | apply find_tail)); done) ?_ | fail)); done)
                  refine d_take (i := 0) hl rfl (by kernel_rfl) (by kernel_rfl) (by kernel_rfl) (by kernel_rfl) (by kernel_rfl) rfl trivial (fun _ _ _ h => h) hM (fun w hC => r_loadC hl rfl one34 hC (by repeat (first | exact find_head | apply find_tail)) (by first | rfl)) rfl ?_
                  clear hl a; intro a hl
                  refine d_take (i := 1) hl rfl (by kernel_rfl) (by kernel_rfl) (by kernel_rfl) (by kernel_rfl) (by kernel_rfl) rfl trivial (fun _ _ _ h => h) hM (fun w hC => r_field hl rfl fld50_5) rfl ?_
                  clear hl a; intro a hl
                  refine d_take (i := 2) hl rfl (by kernel_rfl) (by kernel_rfl) (by kernel_rfl) (by kernel_rfl) (by kernel_rfl) rfl trivial (fun _ _ _ h => h) hM (fun w hC => r_loadC hl rfl one38 hC (by repeat (first | exact find_head | apply find_tail)) (by first | rfl)) rfl ?_
                  clear hl a; intro a hl
                  refine d_take (i := 3) hl rfl (by kernel_rfl) (by kernel_rfl) (by kernel_rfl) (by kernel_rfl) (by kernel_rfl) rfl trivial (fun _ _ _ h => h) hM (fun w hC => r_loadC hl rfl one34 hC (by repeat (first | exact find_head | apply find_tail)) (by first | rfl)) rfl ?_
                  clear hl a; intro a hl
                  refine d_take (i := 5) hl rfl (by kernel_rfl) (by kernel_rfl) (by kernel_rfl) (by kernel_rfl) (by kernel_rfl) rfl trivial (fun _ _ _ h => h) hM (fun w hC => r_move hl rfl) rfl ?_
                  clear hl a; intro a hl
                  refine d_take (i := 7) hl rfl (by kernel_rfl) (by kernel_rfl) (by kernel_rfl) (by kernel_rfl) (by kernel_rfl) rfl trivial (fun _ _ _ h => h) hM (fun w hC => r_field hl rfl fld50_3) rfl ?_
                  clear hl a; intro a hl
                  refine d_take (i := 8) hl rfl (by kernel_rfl) (by kernel_rfl) (by kernel_rfl) (by kernel_rfl) (by kernel_rfl) rfl trivial (fun _ _ _ h => h) hM (fun w hC => r_loadC hl rfl one29 hC (by repeat (first | exact find_head | apply find_tail)) (by first | rfl)) rfl ?_
                  clear hl a; intro a hl
                  first | refine d_take (i := 9) hl rfl (by kernel_rfl) (by kernel_rfl) (by kernel_rfl) (by kernel_rfl) (by kernel_rfl) rfl trivial (fun _ _ _ h => h) hM (fun w hC => r_conv hl rfl Tryz.underlying29 Tryz.underlying2 (by simp only [Fits]; omega)) rfl ?_ | refine d_take (i := 9) hl rfl (by kernel_rfl) (by kernel_rfl) (by kernel_rfl) (by kernel_rfl) (by kernel_rfl) rfl trivial (fun _ _ _ h => h) hM (fun w hC => r_convW hl rfl Tryz.underlying29 Tryz.underlying2) rfl ?_
                  clear hl a; intro a hl
                  refine d_one (i := 4) (by kernel_rfl) rfl ?_
                  try clear hM
                  refine id (w_call hl hh rfl trivial rfl cal10 rfl (una_pm hpw1 hpiz.hm) (by repeat (first | exact keeps_nil | apply keeps_cons (by repeat (first | exact find_head | apply find_tail)) (by first  | rfl) | exact keeps_self | exact keeps_left | exact keeps_right | exact keeps_swap | apply keeps_mv)) (fun b o m => hh.mem b o (by (repeat (first | exact m | apply List.mem_cons_of_mem)); done)) ?_)
                  clear hl hh a w; intro vc Fc a w hR hl hh
                  obtain ⟨rfl, rfl⟩ := hR
                  try simp only [List.cons_append, List.nil_append] at hh
                  have hM : Mem [(k9, C [.int .u8 d.kd, .int .u32 d.cf.init, .int .u32 d.cf.maxc, .int .u32 d.cf.bn, .int .u32 d.cf.bd, .int .u32 d.cf.abc, .int .u32 d.cf.dupt, .bool d.cf.idle, .int .u32 d.cf.mss, .int .u32 d.cf.start, .bool d.cf.sack, .int .u32 d.A, .int .u32 d.B, .bool d.dup, .int .u8 d.gr, .slice d.p d.dat.length d.cap] 50), (k5, C [.pointer (some ⟨z.mp, 0, none⟩)] 34)] w := (by (repeat (first | exact Mem.nil | refine Mem.consR hh (by assumption) (by simp) ?_ | refine Mem.cons hh.mem (by (repeat (first | exact find_head | apply find_tail)); done) ?_ | fail)); done)
                  refine d_step (fun _ => hM) ?_
                  first | refine d_take (i := 6) hl rfl (by kernel_rfl) (by kernel_rfl) (by kernel_rfl) (by kernel_rfl) (by kernel_rfl) rfl trivial (fun _ _ _ h => h) hM (fun w hC => r_add hl rfl rfl (by simp only [Fits]; omega)) rfl ?_ | refine d_take (i := 6) hl rfl (by kernel_rfl) (by kernel_rfl) (by kernel_rfl) (by kernel_rfl) (by kernel_rfl) rfl trivial (fun _ _ _ h => h) hM (fun w hC => r_addW hl rfl rfl) rfl ?_
                  clear hl a; intro a hl
                  refine d_take (i := 10) hl rfl (by kernel_rfl) (by kernel_rfl) (by kernel_rfl) (by kernel_rfl) (by kernel_rfl) rfl trivial (fun _ _ _ h => h) hM (fun w hC => r_build hl rfl zero42 bld42 (by simp only [fillL, setL, List.getElem?_cons_zero, List.getElem?_cons_succ, Value.cells, List.take_zero, List.take_succ_cons, List.take_nil, List.drop_zero, List.drop_succ_cons, List.drop_nil, List.length_cons, List.length_nil, List.cons_append, List.nil_append, List.append_nil, Nat.zero_add, Nat.add_zero, Nat.reduceAdd, Nat.reduceBEq, Nat.reduceEqDiff, Nat.ble, BEq.rfl, Bool.and_true, Bool.and_self, cond_true, beq_self_eq_true]; rfl)) rfl ?_
                  clear hl a; intro a hl
                  refine d_one (i := 11) (by kernel_rfl) rfl ?_
                  try clear hM
                  refine id (w_call hl hh rfl trivial rfl cal17 rfl (sent_pm hpw1 hpiz.hm d.gr (z.m.una + IntKind.i32.wrap d.A) d.B (by omega) (by omega) (by omega)) (by repeat (first | exact keeps_nil | apply keeps_cons (by repeat (first | exact find_head | apply find_tail)) (by first  | rfl) | exact keeps_self | exact keeps_left | exact keeps_right | exact keeps_swap | apply keeps_mv)) trivial ?_)
                  clear hl hh a w; intro vc Fc a w hR hl hh
                  obtain ⟨rfl, hpw2⟩ := hR
                  try simp only [List.cons_append, List.nil_append] at hh
                  replace hh := hh.comm
                  simp only [List.cons_append, List.nil_append, List.append_nil, List.append_assoc] at hh
                  generalize Fc = Z2 at hh hpw2
                  have hM : Mem [(k9, C [.int .u8 d.kd, .int .u32 d.cf.init, .int .u32 d.cf.maxc, .int .u32 d.cf.bn, .int .u32 d.cf.bd, .int .u32 d.cf.abc, .int .u32 d.cf.dupt, .bool d.cf.idle, .int .u32 d.cf.mss, .int .u32 d.cf.start, .bool d.cf.sack, .int .u32 d.A, .int .u32 d.B, .bool d.dup, .int .u8 d.gr, .slice d.p d.dat.length d.cap] 50), (k5, C [.pointer (some ⟨z.mp, 0, none⟩)] 34)] w := (by (repeat (first | exact Mem.nil | refine Mem.consR hh (by assumption) (by simp) ?_ | refine Mem.cons hh.mem (by (repeat (first | exact find_head | apply find_tail)); done) ?_ | fail)); done)
                  refine d_step (fun _ => hM) ?_
                  refine d_done (by kernel_rfl) ?_
                  try clear hM
                  have hl2 := hl.add (t := 3) (hl.add (t := 5) (hl.add (t := 6) (hl.add (t := 7) (hl.add (t := 9) (hl.add (t := 34) (hl.add (t := 35) (hl.add (t := 36) (hl.nil) rfl) rfl) rfl) rfl) rfl) rfl) rfl) rfl; clear hl; have hl := hl2; clear hl2
                  have hfin : ∃ t9 m9 st9 cp9 mp9 Z9, PI (((z.i + 1 : Nat) : Int) * 137438953472) ((z.i + 1 : Nat) : Int) t9 m9 st9 ∧ PW Z9 cp9 mp9 t9 m9 st9 t9.cfg.sack t9.os ∧ Has [] w0 ((k9, C [.int .u8 d.kd, .int .u32 d.cf.init, .int .u32 d.cf.maxc, .int .u32 d.cf.bn, .int .u32 d.cf.bd, .int .u32 d.cf.abc, .int .u32 d.cf.dupt, .bool d.cf.idle, .int .u32 d.cf.mss, .int .u32 d.cf.start, .bool d.cf.sack, .int .u32 d.A, .int .u32 d.B, .bool d.dup, .int .u8 d.gr, .slice d.p d.dat.length d.cap] 50) :: (k3, C [.pointer (some ⟨cp9, 0, none⟩)] 24) :: (k5, C [.pointer (some ⟨mp9, 0, none⟩)] 34) :: Z9) w := ⟨{ z.t with s := _ }, _, z.st, z.cp, z.mp, Z2, ((pi_sent hpiz (by omega) (i32_bd d.A) hdB).mono (by omega) (by omega)), (by have h8 := hpw2; rw [una_off] at h8; exact h8), hh⟩
                  clear hh
                  obtain ⟨t9, m9, st9, cp9, mp9, Z9, hpi9, hpw9, hh⟩ := hfin
                  have hfl9 := hpi9.si.fl; have pf9 := flightP_U t9.s; have hpu9 := pipeP_U hpi9.si.ok t9.ns t9.bl; have hdu9 := hpi9.si.ok.dups; have pp9 := hpi9.si.ok.phase; have oc9 := hpi9.si.ok.cwnd; have os9 := hpi9.si.ok.ssth; have om9 := hpi9.si.ok.maxc; have oms9 := hpi9.si.ok.mss
                  refine blk_normal ?_
                  refine then_normal ?_
                  refine c_seq ?_
                  refine c_seq ?_
                  refine c_region ?_
                  refine wl (wl_val hl rfl trivial (r_move hl rfl) ?_)
                  clear hl a; intro a hl
                  refine wl (w_call hl hh rfl trivial rfl cal7 rfl (far_pm hpw9 hpi9.hm k5) (by repeat (first | exact keeps_nil | apply keeps_cons (by repeat (first | exact find_head | apply find_tail)) (by first  | rfl) | exact keeps_self | exact keeps_left | exact keeps_right | exact keeps_swap | apply keeps_mv)) ⟨(hh.mem _ _ (Find.mem (by repeat (first | exact find_head | apply find_tail)))), (fun b o m => hh.mem b o (by (repeat (first | exact m | apply List.mem_cons_of_mem)); done))⟩ ?_)
                  clear hl hh a w; intro vc Fc a w hR hl hh
                  obtain ⟨rfl, rfl⟩ := hR
                  try simp only [List.cons_append, List.nil_append] at hh
                  refine w_nil ?_
                  have hl2 := hl.add (t := 3) (hl.add (t := 5) (hl.add (t := 6) (hl.add (t := 7) (hl.add (t := 9) (hl.add (t := 34) (hl.add (t := 35) (hl.add (t := 36) (hl.add (t := 202) (hl.nil) rfl) rfl) rfl) rfl) rfl) rfl) rfl) rfl) rfl; clear hl; have hl := hl2; clear hl2
                  refine then_normal ?_
                  refine c_cond hl rfl ?_ ?_
                  · intro hc15
                    try simp only [decide_eq_true_eq, decide_eq_false_iff_not, Bool.not_eq_true', Bool.not_eq_false', Bool.not_eq_true, Bool.not_eq_false, Bool.and_eq_true, Bool.or_eq_true, Bool.and_eq_false_iff, Bool.or_eq_false_iff, Bool.not_not, ne_eq, Int.not_lt, Int.not_le, Decidable.not_not, beq_iff_eq, bne_iff_ne] at hc15
                    refine wp_exit ?_
                    refine then_exit ?_
                    refine blk_exit ?_
                    refine then_normal ?_
                    refine c_region ?_
                    first | refine wl (wl_val hl rfl trivial (r_add hl rfl rfl (by simp only [Fits]; omega)) ?_) | refine wl (wl_val hl rfl trivial (r_addW hl rfl rfl) ?_)
                    clear hl a; intro a hl
                    refine wl (wl_val hl rfl trivial (r_move hl rfl) ?_)
                    clear hl a; intro a hl
                    refine w_nil ?_
                    have hl2 := hl.add (t := 3) (hl.add (t := 5) (hl.add (t := 6) (hl.add (t := 7) (hl.add (t := 34) (hl.add (t := 35) (hl.add (t := 36) (hl.nil) rfl) rfl) rfl) rfl) rfl) rfl) rfl; clear hl; have hl := hl2; clear hl2
                    refine then_normal ?_
                    refine ⟨⟨t9, m9, st9, cp9, mp9, Z9, z.i + 1⟩, (by simp only; omega), ⟨⟨hpi9, hpw9⟩, by simp only; omega⟩, hl.addE (t := 36) (hl.addE (t := 3) (hl.addE (t := 5) (hl.addE (t := 6) (hl.addE (t := 7) (hl.addE (t := 34) (hl.addE (t := 35) (hl.nil) rfl (by first | rfl | exact congrArg (Value.int .i64) (i_succ z.i))) rfl (by first | rfl | exact congrArg (Value.int .i64) (i_succ z.i))) rfl (by first | rfl | exact congrArg (Value.int .i64) (i_succ z.i))) rfl (by first | rfl | exact congrArg (Value.int .i64) (i_succ z.i))) rfl (by first | rfl | exact congrArg (Value.int .i64) (i_succ z.i))) rfl (by first | rfl | exact congrArg (Value.int .i64) (i_succ z.i))) rfl (by first | rfl | exact congrArg (Value.int .i64) (i_succ z.i)), hh.keep (by repeat (first | exact keeps_nil | apply keeps_cons (by repeat (first | exact find_head | apply find_tail)) (by first  | rfl) | exact keeps_self | exact keeps_left | exact keeps_right | exact keeps_swap | apply keeps_mv))⟩
                  · intro hc15
                    try simp only [decide_eq_true_eq, decide_eq_false_iff_not, Bool.not_eq_true', Bool.not_eq_false', Bool.not_eq_true, Bool.not_eq_false, Bool.and_eq_true, Bool.or_eq_true, Bool.and_eq_false_iff, Bool.or_eq_false_iff, Bool.not_not, ne_eq, Int.not_lt, Int.not_le, Decidable.not_not, beq_iff_eq, bne_iff_ne] at hc15
                    refine wp_skip ?_
                    refine then_normal ?_
                    refine c_seq ?_
                    refine c_seq ?_
                    refine c_draw [(k3, C [.pointer (some ⟨cp9, 0, none⟩)] 24), (k5, C [.pointer (some ⟨mp9, 0, none⟩)] 34)] [] mixed hh ?_
                    clear hh w; intro w hh
                    have hM : Mem [(k3, C [.pointer (some ⟨cp9, 0, none⟩)] 24), (k5, C [.pointer (some ⟨mp9, 0, none⟩)] 34)] w := (by (repeat (first | exact Mem.nil | refine Mem.consR hh (by assumption) (by simp) ?_ | refine Mem.cons hh.mem (by (repeat (first | exact find_head | apply find_tail)); done) ?_ | fail)); done)
                    refine d_take (i := 0) hl rfl (by kernel_rfl) (by kernel_rfl) (by kernel_rfl) (by kernel_rfl) (by kernel_rfl) rfl trivial (fun _ _ _ h => h) hM (fun w hC => r_loadC hl rfl one24 hC (by repeat (first | exact find_head | apply find_tail)) (by first | rfl)) rfl ?_
                    clear hl a; intro a hl
                    refine d_take (i := 2) hl rfl (by kernel_rfl) (by kernel_rfl) (by kernel_rfl) (by kernel_rfl) (by kernel_rfl) rfl trivial (fun _ _ _ h => h) hM (fun w hC => r_loadC hl rfl one34 hC (by repeat (first | exact find_head | apply find_tail)) (by first | rfl)) rfl ?_
                    clear hl a; intro a hl
                    refine d_one (i := 1) (by kernel_rfl) rfl ?_
                    try clear hM
                    refine id (w_call hl hh rfl trivial rfl cal26 rfl (view_pc hpw9 hpi9.si) (by repeat (first | exact keeps_nil | apply keeps_cons (by repeat (first | exact find_head | apply find_tail)) (by first  | rfl) | exact keeps_self | exact keeps_left | exact keeps_right | exact keeps_swap | apply keeps_mv)) (fun b o m => hh.mem b o (by (repeat (first | exact m | apply List.mem_cons_of_mem)); done)) ?_)
                    clear hl hh a w; intro vc Fc a w hR hl hh
                    obtain ⟨rfl, rfl⟩ := hR
                    try simp only [List.cons_append, List.nil_append] at hh
                    simp only [vwc, viewP] at hl
                    have hM : Mem [(k3, C [.pointer (some ⟨cp9, 0, none⟩)] 24), (k5, C [.pointer (some ⟨mp9, 0, none⟩)] 34)] w := (by (repeat (first | exact Mem.nil | refine Mem.consR hh (by assumption) (by simp) ?_ | refine Mem.cons hh.mem (by (repeat (first | exact find_head | apply find_tail)); done) ?_ | fail)); done)
                    refine d_step (fun _ => hM) ?_
                    refine d_one (i := 3) (by kernel_rfl) rfl ?_
                    try clear hM
                    refine id (w_call hl hh rfl trivial rfl cal27 rfl (view_pm hpw9 hpi9 (by omega) (by assumption)) (by repeat (first | exact keeps_nil | apply keeps_cons (by repeat (first | exact find_head | apply find_tail)) (by first  | rfl) | exact keeps_self | exact keeps_left | exact keeps_right | exact keeps_swap | apply keeps_mv)) (fun b o m => hh.mem b o (by (repeat (first | exact m | apply List.mem_cons_of_mem)); done)) ?_)
                    clear hl hh a w; intro vc Fc a w hR hl hh
                    obtain ⟨rfl, rfl⟩ := hR
                    try simp only [List.cons_append, List.nil_append] at hh
                    simp only [vwc, viewP] at hl
                    have hM : Mem [(k3, C [.pointer (some ⟨cp9, 0, none⟩)] 24), (k5, C [.pointer (some ⟨mp9, 0, none⟩)] 34)] w := (by (repeat (first | exact Mem.nil | refine Mem.consR hh (by assumption) (by simp) ?_ | refine Mem.cons hh.mem (by (repeat (first | exact find_head | apply find_tail)); done) ?_ | fail)); done)
                    refine d_step (fun _ => hM) ?_
                    refine d_take (i := 4) hl rfl (by kernel_rfl) (by kernel_rfl) (by kernel_rfl) (by kernel_rfl) (by kernel_rfl) rfl trivial (fun _ _ _ h => h) hM (fun w hC => r_neqA hl rfl rfl eqf61 shp61 (by simp only [unlitL, unlit]; rfl) (by simp only [unlitL, unlit]; rfl) (by first | exact ⟨trivial⟩ | (refine ⟨?_⟩; simp [LitsOk, litOk, Fits]; done) | (refine ⟨?_⟩; simp [LitsOk, litOk, Fits]; omega)) (by first | exact ⟨trivial⟩ | (refine ⟨?_⟩; simp [LitsOk, litOk, Fits]; done) | (refine ⟨?_⟩; simp [LitsOk, litOk, Fits]; omega))) rfl ?_
                    clear hl a; intro a hl
                    simp only [eqLits, litBeq, beq_self_eq_true, Bool.and_self, Bool.and_true, Bool.not_true, decide_true] at hl
                    refine d_take (i := 5) hl rfl (by kernel_rfl) (by kernel_rfl) (by kernel_rfl) (by kernel_rfl) (by kernel_rfl) rfl trivial (fun _ _ _ h => h) hM (fun w hC => r_move hl rfl) rfl ?_
                    clear hl a; intro a hl
                    refine d_take (i := 6) hl rfl (by kernel_rfl) (by kernel_rfl) (by kernel_rfl) (by kernel_rfl) (by kernel_rfl) rfl ⟨_, _, rfl, rfl, rfl⟩ (fun _ _ _ h => h) hM (fun w hC => r_loadC hl rfl one24 hC (by repeat (first | exact find_head | apply find_tail)) (by first | rfl)) rfl ?_
                    clear hl a; intro a hl
                    refine d_take (i := 8) hl rfl (by kernel_rfl) (by kernel_rfl) (by kernel_rfl) (by kernel_rfl) (by kernel_rfl) rfl ⟨_, _, rfl, rfl, rfl⟩ (fun _ _ _ h => h) hM (fun w hC => r_loadC hl rfl one34 hC (by repeat (first | exact find_head | apply find_tail)) (by first | rfl)) rfl ?_
                    clear hl a; intro a hl
                    refine d_take (i := 9) hl rfl (by kernel_rfl) (by kernel_rfl) (by kernel_rfl) (by kernel_rfl) (by kernel_rfl) rfl ⟨_, _, rfl, rfl, rfl⟩ (fun _ _ _ h => h) hM (fun w hC => r_loadC hl rfl one34 hC (by repeat (first | exact find_head | apply find_tail)) (by first | rfl)) rfl ?_
                    clear hl a; intro a hl
                    refine d_one (i := 7) (by kernel_rfl) rfl ?_
                    try clear hM
                    refine id (w_call hl hh rfl ⟨_, _, rfl, rfl, rfl⟩ rfl cal18 rfl (una_pc hpw9) (by repeat (first | exact keeps_nil | apply keeps_cons (by repeat (first | exact find_head | apply find_tail)) (by first  | rfl) | exact keeps_self | exact keeps_left | exact keeps_right | exact keeps_swap | apply keeps_mv)) (fun b o m => hh.mem b o (by (repeat (first | exact m | apply List.mem_cons_of_mem)); done)) ?_)
                    clear hl hh a w; intro vc Fc a w hR hl hh
                    obtain ⟨rfl, rfl⟩ := hR
                    try simp only [List.cons_append, List.nil_append] at hh
                    have hM : Mem [(k3, C [.pointer (some ⟨cp9, 0, none⟩)] 24), (k5, C [.pointer (some ⟨mp9, 0, none⟩)] 34)] w := (by (repeat (first | exact Mem.nil | refine Mem.consR hh (by assumption) (by simp) ?_ | refine Mem.cons hh.mem (by (repeat (first | exact find_head | apply find_tail)); done) ?_ | fail)); done)
                    refine d_step (fun _ => hM) ?_
                    refine d_one (i := 10) (by kernel_rfl) rfl ?_
                    try clear hM
                    refine id (w_call hl hh rfl ⟨_, _, rfl, rfl, rfl⟩ rfl cal10 rfl (una_pm hpw9 hpi9.hm) (by repeat (first | exact keeps_nil | apply keeps_cons (by repeat (first | exact find_head | apply find_tail)) (by first  | rfl) | exact keeps_self | exact keeps_left | exact keeps_right | exact keeps_swap | apply keeps_mv)) (fun b o m => hh.mem b o (by (repeat (first | exact m | apply List.mem_cons_of_mem)); done)) ?_)
                    clear hl hh a w; intro vc Fc a w hR hl hh
                    obtain ⟨rfl, rfl⟩ := hR
                    try simp only [List.cons_append, List.nil_append] at hh
                    have hM : Mem [(k3, C [.pointer (some ⟨cp9, 0, none⟩)] 24), (k5, C [.pointer (some ⟨mp9, 0, none⟩)] 34)] w := (by (repeat (first | exact Mem.nil | refine Mem.consR hh (by assumption) (by simp) ?_ | refine Mem.cons hh.mem (by (repeat (first | exact find_head | apply find_tail)); done) ?_ | fail)); done)
                    refine d_step (fun _ => hM) ?_
                    refine d_one (i := 11) (by kernel_rfl) rfl ?_
                    try clear hM
                    refine id (w_call hl hh rfl ⟨_, _, rfl, rfl, rfl⟩ rfl cal14 rfl (seq_pm hpw9 hpi9.hm m9.una) (by repeat (first | exact keeps_nil | apply keeps_cons (by repeat (first | exact find_head | apply find_tail)) (by first  | rfl) | exact keeps_self | exact keeps_left | exact keeps_right | exact keeps_swap | apply keeps_mv)) (fun b o m => hh.mem b o (by (repeat (first | exact m | apply List.mem_cons_of_mem)); done)) ?_)
                    clear hl hh a w; intro vc Fc a w hR hl hh
                    obtain ⟨rfl, rfl⟩ := hR
                    try simp only [List.cons_append, List.nil_append] at hh
                    rw [← hpi9.rel.una] at hl
                    have hM : Mem [(k3, C [.pointer (some ⟨cp9, 0, none⟩)] 24), (k5, C [.pointer (some ⟨mp9, 0, none⟩)] 34)] w := (by (repeat (first | exact Mem.nil | refine Mem.consR hh (by assumption) (by simp) ?_ | refine Mem.cons hh.mem (by (repeat (first | exact find_head | apply find_tail)); done) ?_ | fail)); done)
                    refine d_step (fun _ => hM) ?_
                    refine d_take (i := 12) hl rfl (by kernel_rfl) (by kernel_rfl) (by kernel_rfl) (by kernel_rfl) (by kernel_rfl) rfl ⟨_, _, rfl, rfl, rfl⟩ (fun _ _ _ h => h) hM (fun w hC => r_neq hl rfl rfl) rfl ?_
                    clear hl a; intro a hl
                    try simp only [ne_eq, not_true_eq_false, decide_false, decide_true, decide_not, Bool.not_true, beq_self_eq_true, bne_self_eq_false] at hl
                    refine d_take (i := 13) hl rfl (by kernel_rfl) (by kernel_rfl) (by kernel_rfl) (by kernel_rfl) (by kernel_rfl) rfl trivial (fun _ _ _ h => h) hM (fun w hC => r_pickF hl rfl rfl) rfl ?_
                    clear hl a; intro a hl
                    refine d_take (i := 14) hl rfl (by kernel_rfl) (by kernel_rfl) (by kernel_rfl) (by kernel_rfl) (by kernel_rfl) rfl trivial (fun _ _ _ h => h) hM (fun w hC => r_move hl rfl) rfl ?_
                    clear hl a; intro a hl
                    refine d_take (i := 15) hl rfl (by kernel_rfl) (by kernel_rfl) (by kernel_rfl) (by kernel_rfl) (by kernel_rfl) rfl ⟨_, _, rfl, rfl, rfl⟩ (fun _ _ _ h => h) hM (fun w hC => r_loadC hl rfl one24 hC (by repeat (first | exact find_head | apply find_tail)) (by first | rfl)) rfl ?_
                    clear hl a; intro a hl
                    refine d_take (i := 17) hl rfl (by kernel_rfl) (by kernel_rfl) (by kernel_rfl) (by kernel_rfl) (by kernel_rfl) rfl ⟨_, _, rfl, rfl, rfl⟩ (fun _ _ _ h => h) hM (fun w hC => r_loadC hl rfl one34 hC (by repeat (first | exact find_head | apply find_tail)) (by first | rfl)) rfl ?_
                    clear hl a; intro a hl
                    refine d_take (i := 18) hl rfl (by kernel_rfl) (by kernel_rfl) (by kernel_rfl) (by kernel_rfl) (by kernel_rfl) rfl ⟨_, _, rfl, rfl, rfl⟩ (fun _ _ _ h => h) hM (fun w hC => r_loadC hl rfl one34 hC (by repeat (first | exact find_head | apply find_tail)) (by first | rfl)) rfl ?_
                    clear hl a; intro a hl
                    refine d_one (i := 16) (by kernel_rfl) rfl ?_
                    try clear hM
                    refine id (w_call hl hh rfl ⟨_, _, rfl, rfl, rfl⟩ rfl cal28 rfl (nxt_pc hpw9) (by repeat (first | exact keeps_nil | apply keeps_cons (by repeat (first | exact find_head | apply find_tail)) (by first  | rfl) | exact keeps_self | exact keeps_left | exact keeps_right | exact keeps_swap | apply keeps_mv)) (fun b o m => hh.mem b o (by (repeat (first | exact m | apply List.mem_cons_of_mem)); done)) ?_)
                    clear hl hh a w; intro vc Fc a w hR hl hh
                    obtain ⟨rfl, rfl⟩ := hR
                    try simp only [List.cons_append, List.nil_append] at hh
                    have hM : Mem [(k3, C [.pointer (some ⟨cp9, 0, none⟩)] 24), (k5, C [.pointer (some ⟨mp9, 0, none⟩)] 34)] w := (by (repeat (first | exact Mem.nil | refine Mem.consR hh (by assumption) (by simp) ?_ | refine Mem.cons hh.mem (by (repeat (first | exact find_head | apply find_tail)); done) ?_ | fail)); done)
                    refine d_step (fun _ => hM) ?_
                    refine d_one (i := 19) (by kernel_rfl) rfl ?_
                    try clear hM
                    refine id (w_call hl hh rfl ⟨_, _, rfl, rfl, rfl⟩ rfl cal9 rfl (nxt_pm hpw9 hpi9.hm) (by repeat (first | exact keeps_nil | apply keeps_cons (by repeat (first | exact find_head | apply find_tail)) (by first  | rfl) | exact keeps_self | exact keeps_left | exact keeps_right | exact keeps_swap | apply keeps_mv)) (fun b o m => hh.mem b o (by (repeat (first | exact m | apply List.mem_cons_of_mem)); done)) ?_)
                    clear hl hh a w; intro vc Fc a w hR hl hh
                    obtain ⟨rfl, rfl⟩ := hR
                    try simp only [List.cons_append, List.nil_append] at hh
                    have hM : Mem [(k3, C [.pointer (some ⟨cp9, 0, none⟩)] 24), (k5, C [.pointer (some ⟨mp9, 0, none⟩)] 34)] w := (by (repeat (first | exact Mem.nil | refine Mem.consR hh (by assumption) (by simp) ?_ | refine Mem.cons hh.mem (by (repeat (first | exact find_head | apply find_tail)); done) ?_ | fail)); done)
                    refine d_step (fun _ => hM) ?_
                    refine d_one (i := 20) (by kernel_rfl) rfl ?_
                    try clear hM
                    refine id (w_call hl hh rfl ⟨_, _, rfl, rfl, rfl⟩ rfl cal14 rfl (seq_pm hpw9 hpi9.hm m9.nxt) (by repeat (first | exact keeps_nil | apply keeps_cons (by repeat (first | exact find_head | apply find_tail)) (by first  | rfl) | exact keeps_self | exact keeps_left | exact keeps_right | exact keeps_swap | apply keeps_mv)) (fun b o m => hh.mem b o (by (repeat (first | exact m | apply List.mem_cons_of_mem)); done)) ?_)
                    clear hl hh a w; intro vc Fc a w hR hl hh
                    obtain ⟨rfl, rfl⟩ := hR
                    try simp only [List.cons_append, List.nil_append] at hh
                    rw [← hpi9.rel.nxt] at hl
                    have hM : Mem [(k3, C [.pointer (some ⟨cp9, 0, none⟩)] 24), (k5, C [.pointer (some ⟨mp9, 0, none⟩)] 34)] w := (by (repeat (first | exact Mem.nil | refine Mem.consR hh (by assumption) (by simp) ?_ | refine Mem.cons hh.mem (by (repeat (first | exact find_head | apply find_tail)); done) ?_ | fail)); done)
                    refine d_step (fun _ => hM) ?_
                    refine d_take (i := 21) hl rfl (by kernel_rfl) (by kernel_rfl) (by kernel_rfl) (by kernel_rfl) (by kernel_rfl) rfl ⟨_, _, rfl, rfl, rfl⟩ (fun _ _ _ h => h) hM (fun w hC => r_neq hl rfl rfl) rfl ?_
                    clear hl a; intro a hl
                    try simp only [ne_eq, not_true_eq_false, decide_false, decide_true, decide_not, Bool.not_true, beq_self_eq_true, bne_self_eq_false] at hl
                    refine d_take (i := 22) hl rfl (by kernel_rfl) (by kernel_rfl) (by kernel_rfl) (by kernel_rfl) (by kernel_rfl) rfl trivial (fun _ _ _ h => h) hM (fun w hC => r_pickF hl rfl rfl) rfl ?_
                    clear hl a; intro a hl
                    refine d_done (by kernel_rfl) ?_
                    try clear hM
                    have hl2 := hl.add (t := 3) (hl.add (t := 5) (hl.add (t := 6) (hl.add (t := 7) (hl.add (t := 9) (hl.add (t := 34) (hl.add (t := 35) (hl.add (t := 36) (hl.add (t := 225) (hl.nil) rfl) rfl) rfl) rfl) rfl) rfl) rfl) rfl) rfl; clear hl; have hl := hl2; clear hl2
                    refine then_normal ?_
                    refine c_condF hl rfl ?_
                    refine wp_skip ?_
                    refine then_normal ?_
                    refine c_seq ?_
                    refine c_region ?_
                    refine wl (wl_val hl rfl trivial (r_move hl rfl) ?_)
                    clear hl a; intro a hl
                    refine wl (wl_val hl rfl trivial (r_field hl rfl fld50_3) ?_)
                    clear hl a; intro a hl
                    refine wl (w_load hl hh rfl trivial one29 rfl (by repeat (first | exact find_head | apply find_tail)) (by first | rfl) ?_)
                    clear hl a; intro a hl
                    refine wl (w_call hl hh rfl trivial rfl cal11 rfl (same_pw k3 k5 Z9 cp9 mp9 t9 m9 st9 _ _ hpw9 hpi9 (by assumption) d.B hdB) (by repeat (first | exact keeps_nil | apply keeps_cons (by repeat (first | exact find_head | apply find_tail)) (by first  | rfl) | exact keeps_self | exact keeps_left | exact keeps_right | exact keeps_swap | apply keeps_mv)) ⟨(hh.mem _ _ (Find.mem (by repeat (first | exact find_head | apply find_tail)))), (hh.mem _ _ (Find.mem (by repeat (first | exact find_head | apply find_tail)))), (fun b o m => hh.mem b o (by (repeat (first | exact m | apply List.mem_cons_of_mem)); done))⟩ ?_)
                    clear hl hh a w; intro vc Fc a w hR hl hh
                    obtain ⟨⟨off, rfl, hoff⟩, rfl⟩ := hR
                    try simp only [List.cons_append, List.nil_append] at hh
                    refine wl (wl_val hl rfl trivial (r_move hl rfl) ?_)
                    clear hl a; intro a hl
                    refine wl (wl_val hl rfl trivial (r_extract hl rfl (by simp only [List.getElem?_toArray, List.getElem?_cons_zero, List.getElem?_cons_succ]; rfl)) ?_)
                    clear hl a; intro a hl
                    refine wl (wl_val hl rfl trivial (r_extract hl rfl (by simp only [List.getElem?_toArray, List.getElem?_cons_zero, List.getElem?_cons_succ]; rfl)) ?_)
                    clear hl a; intro a hl
                    refine wl (wl_val hl rfl trivial (r_extract hl rfl (by simp only [List.getElem?_toArray, List.getElem?_cons_zero, List.getElem?_cons_succ]; rfl)) ?_)
                    clear hl a; intro a hl
                    refine wl (w_alloc hl hh rfl trivial zero40 rfl ?_)
                    clear hl hh a w; intro k19 a w hl hh
                    refine wl (w_alloc hl hh rfl trivial zero42 rfl ?_)
                    clear hl hh a w; intro k20 a w hl hh
                    refine wl (w_storeA hl hh trivial agg40 rfl rfl (by repeat (first | exact find_head | apply find_tail)) (by first | rfl | (simp; done) | (simp only [List.getElem?_cons_zero, List.getElem?_cons_succ, Value.cells, List.take_zero, List.take_succ_cons, List.take_nil, List.drop_zero, List.drop_succ_cons, List.drop_nil, List.length_cons, List.length_nil, List.cons_append, List.nil_append, List.append_nil, Nat.zero_add, Nat.add_zero, Nat.reduceAdd, Nat.reduceBEq, Nat.reduceEqDiff, Nat.ble, BEq.rfl, Bool.and_true, Bool.and_self, cond_true, beq_self_eq_true]; rfl) | rfl) (by first | (simp; done) | (simp; omega) | (simp [cfL]; done)) (by first | rfl | (simp; done) | rfl) (by first | (simp only [setL, cfL, List.getElem?_cons_zero, List.getElem?_cons_succ, Value.cells, List.take_zero, List.take_succ_cons, List.take_nil, List.drop_zero, List.drop_succ_cons, List.drop_nil, List.length_cons, List.length_nil, List.cons_append, List.nil_append, List.append_nil, Nat.zero_add, Nat.add_zero, Nat.reduceAdd, Nat.reduceBEq, Nat.reduceEqDiff, Nat.ble, BEq.rfl, Bool.and_true, Bool.and_self, cond_true, beq_self_eq_true]; rfl) | (simp only [setL, List.getElem?_cons_zero, List.getElem?_cons_succ, Value.cells, List.take_zero, List.take_succ_cons, List.take_nil, List.drop_zero, List.drop_succ_cons, List.drop_nil, List.length_cons, List.length_nil, List.cons_append, List.nil_append, List.append_nil, Nat.zero_add, Nat.add_zero, Nat.reduceAdd, Nat.reduceBEq, Nat.reduceEqDiff, Nat.ble, BEq.rfl, Bool.and_true, Bool.and_self, cond_true, beq_self_eq_true]; rfl) | (simp only [setL, List.getElem?_cons_zero, List.getElem?_cons_succ, Value.cells, List.take_zero, List.take_succ_cons, List.take_nil, List.drop_zero, List.drop_succ_cons, List.drop_nil, List.length_cons, List.length_nil, List.cons_append, List.nil_append, List.append_nil, Nat.zero_add, Nat.add_zero, Nat.reduceAdd, Nat.reduceBEq, Nat.reduceEqDiff, Nat.ble, BEq.rfl, Bool.and_true, Bool.and_self, cond_true, beq_self_eq_true]; rfl)) ?_)
                    clear hh w; intro w hh
                    refine wl (w_storeA hl hh trivial agg42 rfl rfl (by repeat (first | exact find_head | apply find_tail)) (by first | rfl | (simp; done) | (simp only [List.getElem?_cons_zero, List.getElem?_cons_succ, Value.cells, List.take_zero, List.take_succ_cons, List.take_nil, List.drop_zero, List.drop_succ_cons, List.drop_nil, List.length_cons, List.length_nil, List.cons_append, List.nil_append, List.append_nil, Nat.zero_add, Nat.add_zero, Nat.reduceAdd, Nat.reduceBEq, Nat.reduceEqDiff, Nat.ble, BEq.rfl, Bool.and_true, Bool.and_self, cond_true, beq_self_eq_true]; rfl) | rfl) (by first | (simp; done) | (simp; omega) | (simp [cfL]; done)) (by first | rfl | (simp; done) | rfl) (by first | (simp only [setL, cfL, List.getElem?_cons_zero, List.getElem?_cons_succ, Value.cells, List.take_zero, List.take_succ_cons, List.take_nil, List.drop_zero, List.drop_succ_cons, List.drop_nil, List.length_cons, List.length_nil, List.cons_append, List.nil_append, List.append_nil, Nat.zero_add, Nat.add_zero, Nat.reduceAdd, Nat.reduceBEq, Nat.reduceEqDiff, Nat.ble, BEq.rfl, Bool.and_true, Bool.and_self, cond_true, beq_self_eq_true]; rfl) | (simp only [setL, List.getElem?_cons_zero, List.getElem?_cons_succ, Value.cells, List.take_zero, List.take_succ_cons, List.take_nil, List.drop_zero, List.drop_succ_cons, List.drop_nil, List.length_cons, List.length_nil, List.cons_append, List.nil_append, List.append_nil, Nat.zero_add, Nat.add_zero, Nat.reduceAdd, Nat.reduceBEq, Nat.reduceEqDiff, Nat.ble, BEq.rfl, Bool.and_true, Bool.and_self, cond_true, beq_self_eq_true]; rfl) | (simp only [setL, List.getElem?_cons_zero, List.getElem?_cons_succ, Value.cells, List.take_zero, List.take_succ_cons, List.take_nil, List.drop_zero, List.drop_succ_cons, List.drop_nil, List.length_cons, List.length_nil, List.cons_append, List.nil_append, List.append_nil, Nat.zero_add, Nat.add_zero, Nat.reduceAdd, Nat.reduceBEq, Nat.reduceEqDiff, Nat.ble, BEq.rfl, Bool.and_true, Bool.and_self, cond_true, beq_self_eq_true]; rfl)) ?_)
                    clear hh w; intro w hh
                    refine wl (wl_val hl rfl trivial (r_assign hl rfl) ?_)
                    clear hl a; intro a hl
                    refine w_nil ?_
                    have hl2 := hl.add (t := 3) (hl.add (t := 5) (hl.add (t := 6) (hl.add (t := 7) (hl.add (t := 21) (hl.add (t := 34) (hl.add (t := 35) (hl.add (t := 36) (hl.nil) rfl) rfl) rfl) rfl) rfl) rfl) rfl) rfl; clear hl; have hl := hl2; clear hl2
                    refine then_normal ?_
                    refine c_seq ?_
                    refine c_region ?_
                    refine wl (wl_val hl rfl trivial (r_move hl rfl) ?_)
                    clear hl a; intro a hl
                    refine wl (wl_val hl rfl trivial (r_not hl rfl) ?_)
                    clear hl a; intro a hl
                    refine w_nil ?_
                    have hl2 := hl.add (t := 3) (hl.add (t := 5) (hl.add (t := 6) (hl.add (t := 7) (hl.add (t := 34) (hl.add (t := 35) (hl.add (t := 36) (hl.add (t := 235) (hl.nil) rfl) rfl) rfl) rfl) rfl) rfl) rfl) rfl; clear hl; have hl := hl2; clear hl2
                    refine then_normal ?_
                    refine c_cond hl rfl ?_ ?_
                    · intro hc17
                      try simp only [decide_eq_true_eq, decide_eq_false_iff_not, Bool.not_eq_true', Bool.not_eq_false', Bool.not_eq_true, Bool.not_eq_false, Bool.and_eq_true, Bool.or_eq_true, Bool.and_eq_false_iff, Bool.or_eq_false_iff, Bool.not_not, ne_eq, Int.not_lt, Int.not_le, Decidable.not_not, beq_iff_eq, bne_iff_ne] at hc17
                      exfalso; first | exact Bool.noConfusion (show false = true by assumption) | exact Bool.noConfusion (show true = false by assumption) | contradiction | omega | (simp at *; done)
                    · intro hc17
                      try simp only [decide_eq_true_eq, decide_eq_false_iff_not, Bool.not_eq_true', Bool.not_eq_false', Bool.not_eq_true, Bool.not_eq_false, Bool.and_eq_true, Bool.or_eq_true, Bool.and_eq_false_iff, Bool.or_eq_false_iff, Bool.not_not, ne_eq, Int.not_lt, Int.not_le, Decidable.not_not, beq_iff_eq, bne_iff_ne] at hc17
                      refine wp_skip ?_
                      refine blk_normal ?_
                      refine then_normal ?_
                      refine c_region ?_
                      first | refine wl (wl_val hl rfl trivial (r_add hl rfl rfl (by simp only [Fits]; omega)) ?_) | refine wl (wl_val hl rfl trivial (r_addW hl rfl rfl) ?_)
                      clear hl a; intro a hl
                      refine wl (wl_val hl rfl trivial (r_move hl rfl) ?_)
                      clear hl a; intro a hl
                      refine w_nil ?_
                      have hl2 := hl.add (t := 3) (hl.add (t := 5) (hl.add (t := 6) (hl.add (t := 7) (hl.add (t := 34) (hl.add (t := 35) (hl.add (t := 36) (hl.nil) rfl) rfl) rfl) rfl) rfl) rfl) rfl; clear hl; have hl := hl2; clear hl2
                      refine then_normal ?_
                      refine ⟨⟨t9, m9, st9, cp9, mp9, Z9, z.i + 1⟩, (by simp only; omega), ⟨⟨hpi9, hpw9⟩, by simp only; omega⟩, hl.addE (t := 36) (hl.addE (t := 3) (hl.addE (t := 5) (hl.addE (t := 6) (hl.addE (t := 7) (hl.addE (t := 34) (hl.addE (t := 35) (hl.nil) rfl (by first | rfl | exact congrArg (Value.int .i64) (i_succ z.i))) rfl (by first | rfl | exact congrArg (Value.int .i64) (i_succ z.i))) rfl (by first | rfl | exact congrArg (Value.int .i64) (i_succ z.i))) rfl (by first | rfl | exact congrArg (Value.int .i64) (i_succ z.i))) rfl (by first | rfl | exact congrArg (Value.int .i64) (i_succ z.i))) rfl (by first | rfl | exact congrArg (Value.int .i64) (i_succ z.i))) rfl (by first | rfl | exact congrArg (Value.int .i64) (i_succ z.i)), hh.keep (by repeat (first | exact keeps_nil | apply keeps_cons (by repeat (first | exact find_head | apply find_tail)) (by first  | rfl) | exact keeps_self | exact keeps_left | exact keeps_right | exact keeps_swap | apply keeps_mv))⟩
                · intro hc11
                  try simp only [decide_eq_true_eq, decide_eq_false_iff_not, Bool.not_eq_true', Bool.not_eq_false', Bool.not_eq_true, Bool.not_eq_false, Bool.and_eq_true, Bool.or_eq_true, Bool.and_eq_false_iff, Bool.or_eq_false_iff, Bool.not_not, ne_eq, Int.not_lt, Int.not_le, Decidable.not_not, beq_iff_eq, bne_iff_ne] at hc11
                  refine c_seq ?_
                  refine c_region ?_
                  refine wl (wl_val hl rfl trivial (r_eql hl rfl rfl) ?_)
                  clear hl a; intro a hl
                  refine wl (wl_val hl rfl trivial (r_assign hl rfl) ?_)
                  clear hl a; intro a hl
                  refine w_nil ?_
                  have hl2 := hl.add (t := 3) (hl.add (t := 5) (hl.add (t := 6) (hl.add (t := 7) (hl.add (t := 9) (hl.add (t := 10) (hl.add (t := 34) (hl.add (t := 35) (hl.add (t := 36) (hl.add (t := 62) (hl.add (t := 163) (hl.nil) rfl) rfl) rfl) rfl) rfl) rfl) rfl) rfl) rfl) rfl) rfl; clear hl; have hl := hl2; clear hl2
                  refine then_normal ?_
                  refine c_cond hl rfl ?_ ?_
                  · intro hc12
                    try simp only [decide_eq_true_eq, decide_eq_false_iff_not, Bool.not_eq_true', Bool.not_eq_false', Bool.not_eq_true, Bool.not_eq_false, Bool.and_eq_true, Bool.or_eq_true, Bool.and_eq_false_iff, Bool.or_eq_false_iff, Bool.not_not, ne_eq, Int.not_lt, Int.not_le, Decidable.not_not, beq_iff_eq, bne_iff_ne] at hc12
                    replace hwk9 : z.t.cfg.sack = true → z.m.una + IntKind.i32.wrap d.A = z.m.una → z.m.nxt - z.m.una ≤ 262144 := fun h1 h2 => hwk9 h1 h2 fun h3 => (hb8 h3).2 ⟨by assumption, wrap_zero hdA (by omega)⟩
                    refine c_seq ?_
                    refine c_draw [(k9, C [.int .u8 d.kd, .int .u32 d.cf.init, .int .u32 d.cf.maxc, .int .u32 d.cf.bn, .int .u32 d.cf.bd, .int .u32 d.cf.abc, .int .u32 d.cf.dupt, .bool d.cf.idle, .int .u32 d.cf.mss, .int .u32 d.cf.start, .bool d.cf.sack, .int .u32 d.A, .int .u32 d.B, .bool d.dup, .int .u8 d.gr, .slice d.p d.dat.length d.cap] 50), (k3, C [.pointer (some ⟨z.cp, 0, none⟩)] 24)] [] mixed hh ?_
                    clear hh w; intro w hh
                    have hM : Mem [(k9, C [.int .u8 d.kd, .int .u32 d.cf.init, .int .u32 d.cf.maxc, .int .u32 d.cf.bn, .int .u32 d.cf.bd, .int .u32 d.cf.abc, .int .u32 d.cf.dupt, .bool d.cf.idle, .int .u32 d.cf.mss, .int .u32 d.cf.start, .bool d.cf.sack, .int .u32 d.A, .int .u32 d.B, .bool d.dup, .int .u8 d.gr, .slice d.p d.dat.length d.cap] 50), (k3, C [.pointer (some ⟨z.cp, 0, none⟩)] 24)] w := (by (repeat (first | exact Mem.nil | refine Mem.consR hh (by assumption) (by simp) ?_ | refine Mem.cons hh.mem (by (repeat (first | exact find_head | apply find_tail)); done) ?_ | fail)); done)
                    refine d_take (i := 0) hl rfl (by kernel_rfl) (by kernel_rfl) (by kernel_rfl) (by kernel_rfl) (by kernel_rfl) rfl trivial (fun _ _ _ h => h) hM (fun w hC => r_field hl rfl fld50_6) rfl ?_
                    clear hl a; intro a hl
                    refine d_take (i := 1) hl rfl (by kernel_rfl) (by kernel_rfl) (by kernel_rfl) (by kernel_rfl) (by kernel_rfl) rfl trivial (fun _ _ _ h => h) hM (fun w hC => r_loadC hl rfl one48 hC (by repeat (first | exact find_head | apply find_tail)) (by first | rfl)) rfl ?_
                    clear hl a; intro a hl
                    refine d_take (i := 2) hl rfl (by kernel_rfl) (by kernel_rfl) (by kernel_rfl) (by kernel_rfl) (by kernel_rfl) rfl trivial (fun _ _ _ h => h) hM (fun w hC => r_loadC hl rfl one24 hC (by repeat (first | exact find_head | apply find_tail)) (by first | rfl)) rfl ?_
                    clear hl a; intro a hl
                    refine d_one (i := 3) (by kernel_rfl) rfl ?_
                    try clear hM
                    refine id (w_call hl hh rfl trivial rfl cal18 rfl (una_pc hpwz) (by repeat (first | exact keeps_nil | apply keeps_cons (by repeat (first | exact find_head | apply find_tail)) (by first  | rfl) | exact keeps_self | exact keeps_left | exact keeps_right | exact keeps_swap | apply keeps_mv)) (fun b o m => hh.mem b o (by (repeat (first | exact m | apply List.mem_cons_of_mem)); done)) ?_)
                    clear hl hh a w; intro vc Fc a w hR hl hh
                    obtain ⟨rfl, rfl⟩ := hR
                    try simp only [List.cons_append, List.nil_append] at hh
                    have hM : Mem [(k9, C [.int .u8 d.kd, .int .u32 d.cf.init, .int .u32 d.cf.maxc, .int .u32 d.cf.bn, .int .u32 d.cf.bd, .int .u32 d.cf.abc, .int .u32 d.cf.dupt, .bool d.cf.idle, .int .u32 d.cf.mss, .int .u32 d.cf.start, .bool d.cf.sack, .int .u32 d.A, .int .u32 d.B, .bool d.dup, .int .u8 d.gr, .slice d.p d.dat.length d.cap] 50), (k3, C [.pointer (some ⟨z.cp, 0, none⟩)] 24)] w := (by (repeat (first | exact Mem.nil | refine Mem.consR hh (by assumption) (by simp) ?_ | refine Mem.cons hh.mem (by (repeat (first | exact find_head | apply find_tail)); done) ?_ | fail)); done)
                    refine d_step (fun _ => hM) ?_
                    refine d_one (i := 4) (by kernel_rfl) rfl ?_
                    try clear hM
                    refine id (w_call hl hh rfl trivial rfl cal19 rfl (absolute2_spec d hdok (hsm d hdm) z.t.s.una) (by repeat (first | exact keeps_nil | apply keeps_cons (by repeat (first | exact find_head | apply find_tail)) (by first  | rfl) | exact keeps_self | exact keeps_left | exact keeps_right | exact keeps_swap | apply keeps_mv)) (mem_keep hh hms) ?_)
                    clear hl hh a w; intro vc Fc a w hR hl hh
                    try simp only [List.cons_append, List.nil_append] at hh
                    have hRa := hR; clear hR
                    obtain ⟨pA, cA, hvA⟩ := row_val hRa
                    subst hvA
                    generalize Fc = Ea at hh hRa
                    replace hh := hh.comm
                    simp only [List.cons_append, List.nil_append, List.append_nil, List.append_assoc] at hh
                    have hM : Mem [(k9, C [.int .u8 d.kd, .int .u32 d.cf.init, .int .u32 d.cf.maxc, .int .u32 d.cf.bn, .int .u32 d.cf.bd, .int .u32 d.cf.abc, .int .u32 d.cf.dupt, .bool d.cf.idle, .int .u32 d.cf.mss, .int .u32 d.cf.start, .bool d.cf.sack, .int .u32 d.A, .int .u32 d.B, .bool d.dup, .int .u8 d.gr, .slice d.p d.dat.length d.cap] 50), (k3, C [.pointer (some ⟨z.cp, 0, none⟩)] 24)] w := (by (repeat (first | exact Mem.nil | refine Mem.consR hh (by assumption) (by simp) ?_ | refine Mem.cons hh.mem (by (repeat (first | exact find_head | apply find_tail)); done) ?_ | fail)); done)
                    refine d_step (fun _ => hM) ?_
                    refine d_take (i := 5) hl rfl (by kernel_rfl) (by kernel_rfl) (by kernel_rfl) (by kernel_rfl) (by kernel_rfl) rfl trivial (fun _ _ _ h => h) hM (fun w hC => r_assign hl rfl) rfl ?_
                    clear hl a; intro a hl
                    refine d_done (by kernel_rfl) ?_
                    try clear hM
                    have hl2 := hl.add (t := 3) (hl.add (t := 5) (hl.add (t := 6) (hl.add (t := 7) (hl.add (t := 9) (hl.add (t := 10) (hl.add (t := 18) (hl.add (t := 34) (hl.add (t := 35) (hl.add (t := 36) (hl.nil) rfl) rfl) rfl) rfl) rfl) rfl) rfl) rfl) rfl) rfl; clear hl; have hl := hl2; clear hl2
                    refine then_normal ?_
                    refine c_seq ?_
                    refine c_draw [(k9, C [.int .u8 d.kd, .int .u32 d.cf.init, .int .u32 d.cf.maxc, .int .u32 d.cf.bn, .int .u32 d.cf.bd, .int .u32 d.cf.abc, .int .u32 d.cf.dupt, .bool d.cf.idle, .int .u32 d.cf.mss, .int .u32 d.cf.start, .bool d.cf.sack, .int .u32 d.A, .int .u32 d.B, .bool d.dup, .int .u8 d.gr, .slice d.p d.dat.length d.cap] 50), (k3, C [.pointer (some ⟨z.cp, 0, none⟩)] 24)] [] mixed hh ?_
                    clear hh w; intro w hh
                    have hM : Mem [(k9, C [.int .u8 d.kd, .int .u32 d.cf.init, .int .u32 d.cf.maxc, .int .u32 d.cf.bn, .int .u32 d.cf.bd, .int .u32 d.cf.abc, .int .u32 d.cf.dupt, .bool d.cf.idle, .int .u32 d.cf.mss, .int .u32 d.cf.start, .bool d.cf.sack, .int .u32 d.A, .int .u32 d.B, .bool d.dup, .int .u8 d.gr, .slice d.p d.dat.length d.cap] 50), (k3, C [.pointer (some ⟨z.cp, 0, none⟩)] 24)] w := (by (repeat (first | exact Mem.nil | refine Mem.consR hh (by assumption) (by simp) ?_ | refine Mem.cons hh.mem (by (repeat (first | exact find_head | apply find_tail)); done) ?_ | fail)); done)
                    refine d_take (i := 0) hl rfl (by kernel_rfl) (by kernel_rfl) (by kernel_rfl) (by kernel_rfl) (by kernel_rfl) rfl trivial (fun _ _ _ h => h) hM (fun w hC => r_loadC hl rfl one24 hC (by repeat (first | exact find_head | apply find_tail)) (by first | rfl)) rfl ?_
                    clear hl a; intro a hl
                    refine d_take (i := 1) hl rfl (by kernel_rfl) (by kernel_rfl) (by kernel_rfl) (by kernel_rfl) (by kernel_rfl) rfl trivial (fun _ _ _ h => h) hM (fun w hC => r_loadC hl rfl one24 hC (by repeat (first | exact find_head | apply find_tail)) (by first | rfl)) rfl ?_
                    clear hl a; intro a hl
                    refine d_take (i := 3) hl rfl (by kernel_rfl) (by kernel_rfl) (by kernel_rfl) (by kernel_rfl) (by kernel_rfl) rfl trivial (fun _ _ _ h => h) hM (fun w hC => r_field hl rfl fld50_2) rfl ?_
                    clear hl a; intro a hl
                    refine d_take (i := 4) hl rfl (by kernel_rfl) (by kernel_rfl) (by kernel_rfl) (by kernel_rfl) (by kernel_rfl) rfl trivial (fun _ _ _ h => h) hM (fun w hC => r_loadC hl rfl one29 hC (by repeat (first | exact find_head | apply find_tail)) (by first | rfl)) rfl ?_
                    clear hl a; intro a hl
                    refine d_take (i := 6) hl rfl (by kernel_rfl) (by kernel_rfl) (by kernel_rfl) (by kernel_rfl) (by kernel_rfl) rfl trivial (fun _ _ _ h => h) hM (fun w hC => r_field hl rfl fld50_4) rfl ?_
                    clear hl a; intro a hl
                    refine d_take (i := 7) hl rfl (by kernel_rfl) (by kernel_rfl) (by kernel_rfl) (by kernel_rfl) (by kernel_rfl) rfl trivial (fun _ _ _ h => h) hM (fun w hC => r_loadC hl rfl one4 hC (by repeat (first | exact find_head | apply find_tail)) (by first | rfl)) rfl ?_
                    clear hl a; intro a hl
                    refine d_take (i := 8) hl rfl (by kernel_rfl) (by kernel_rfl) (by kernel_rfl) (by kernel_rfl) (by kernel_rfl) rfl trivial (fun _ _ _ h => h) hM (fun w hC => r_move hl rfl) rfl ?_
                    clear hl a; intro a hl
                    refine d_one (i := 2) (by kernel_rfl) rfl ?_
                    try clear hM
                    refine id (w_call hl hh rfl trivial rfl cal18 rfl (una_pc hpwz) (by repeat (first | exact keeps_nil | apply keeps_cons (by repeat (first | exact find_head | apply find_tail)) (by first  | rfl) | exact keeps_self | exact keeps_left | exact keeps_right | exact keeps_swap | apply keeps_mv)) (fun b o m => hh.mem b o (by simp [m])) ?_)
                    clear hl hh a w; intro vc Fc a w hR hl hh
                    obtain ⟨rfl, rfl⟩ := hR
                    try simp only [List.cons_append, List.nil_append] at hh
                    have hM : Mem [(k9, C [.int .u8 d.kd, .int .u32 d.cf.init, .int .u32 d.cf.maxc, .int .u32 d.cf.bn, .int .u32 d.cf.bd, .int .u32 d.cf.abc, .int .u32 d.cf.dupt, .bool d.cf.idle, .int .u32 d.cf.mss, .int .u32 d.cf.start, .bool d.cf.sack, .int .u32 d.A, .int .u32 d.B, .bool d.dup, .int .u8 d.gr, .slice d.p d.dat.length d.cap] 50), (k3, C [.pointer (some ⟨z.cp, 0, none⟩)] 24)] w := (by (repeat (first | exact Mem.nil | refine Mem.consR hh (by assumption) (by simp) ?_ | refine Mem.cons hh.mem (by (repeat (first | exact find_head | apply find_tail)); done) ?_ | fail)); done)
                    refine d_step (fun _ => hM) ?_
                    refine d_take (i := 5) hl rfl (by kernel_rfl) (by kernel_rfl) (by kernel_rfl) (by kernel_rfl) (by kernel_rfl) rfl trivial (fun _ _ _ h => h) hM (fun w hC => r_addM wm_u32 hl rfl rfl) rfl ?_
                    clear hl a; intro a hl
                    refine d_one (i := 9) (by kernel_rfl) rfl ?_
                    try clear hM
                    refine id (w_call hl hh rfl trivial rfl cal20 rfl (ack_pc hpwz hpiz.si ((z.t.s.una + d.A) % 4294967296) ⟨by omega, by omega⟩ d.dup (d.dat.map (absb z.t.s.una)) (by rw [List.length_map]; omega) pA cA Ea hRa (apart_of3 hh)) (by repeat (first | exact keeps_nil | apply keeps_cons (by repeat (first | exact find_head | apply find_tail)) (by first  | rfl) | exact keeps_self | exact keeps_left | exact keeps_right | exact keeps_swap | apply keeps_mv)) (fun b o m => hh.mem b o (by simp [m])) ?_)
                    clear hl hh a w; intro vc Fc a w hR hl hh
                    obtain ⟨rfl, t9, hat9, hpw1⟩ := hR
                    try simp only [List.cons_append, List.nil_append] at hh
                    replace hh := hh.comm
                    simp only [List.cons_append, List.nil_append, List.append_nil, List.append_assoc] at hh
                    generalize Fc = Z1 at hh hpw1
                    have hM : Mem [(k9, C [.int .u8 d.kd, .int .u32 d.cf.init, .int .u32 d.cf.maxc, .int .u32 d.cf.bn, .int .u32 d.cf.bd, .int .u32 d.cf.abc, .int .u32 d.cf.dupt, .bool d.cf.idle, .int .u32 d.cf.mss, .int .u32 d.cf.start, .bool d.cf.sack, .int .u32 d.A, .int .u32 d.B, .bool d.dup, .int .u8 d.gr, .slice d.p d.dat.length d.cap] 50), (k3, C [.pointer (some ⟨z.cp, 0, none⟩)] 24)] w := (by (repeat (first | exact Mem.nil | refine Mem.consR hh (by assumption) (by simp) ?_ | refine Mem.cons hh.mem (by (repeat (first | exact find_head | apply find_tail)); done) ?_ | fail)); done)
                    refine d_step (fun _ => hM) ?_
                    refine d_done (by kernel_rfl) ?_
                    try clear hM
                    have hl2 := hl.add (t := 3) (hl.add (t := 5) (hl.add (t := 6) (hl.add (t := 7) (hl.add (t := 9) (hl.add (t := 10) (hl.add (t := 18) (hl.add (t := 34) (hl.add (t := 35) (hl.add (t := 36) (hl.nil) rfl) rfl) rfl) rfl) rfl) rfl) rfl) rfl) rfl) rfl; clear hl; have hl := hl2; clear hl2
                    refine then_normal ?_
                    refine c_draw [(k9, C [.int .u8 d.kd, .int .u32 d.cf.init, .int .u32 d.cf.maxc, .int .u32 d.cf.bn, .int .u32 d.cf.bd, .int .u32 d.cf.abc, .int .u32 d.cf.dupt, .bool d.cf.idle, .int .u32 d.cf.mss, .int .u32 d.cf.start, .bool d.cf.sack, .int .u32 d.A, .int .u32 d.B, .bool d.dup, .int .u8 d.gr, .slice d.p d.dat.length d.cap] 50), (k5, C [.pointer (some ⟨z.mp, 0, none⟩)] 34)] [] mixed hh ?_
                    clear hh w; intro w hh
                    have hM : Mem [(k9, C [.int .u8 d.kd, .int .u32 d.cf.init, .int .u32 d.cf.maxc, .int .u32 d.cf.bn, .int .u32 d.cf.bd, .int .u32 d.cf.abc, .int .u32 d.cf.dupt, .bool d.cf.idle, .int .u32 d.cf.mss, .int .u32 d.cf.start, .bool d.cf.sack, .int .u32 d.A, .int .u32 d.B, .bool d.dup, .int .u8 d.gr, .slice d.p d.dat.length d.cap] 50), (k5, C [.pointer (some ⟨z.mp, 0, none⟩)] 34)] w := (by (repeat (first | exact Mem.nil | refine Mem.consR hh (by assumption) (by simp) ?_ | refine Mem.cons hh.mem (by (repeat (first | exact find_head | apply find_tail)); done) ?_ | fail)); done)
                    refine d_take (i := 0) hl rfl (by kernel_rfl) (by kernel_rfl) (by kernel_rfl) (by kernel_rfl) (by kernel_rfl) rfl trivial (fun _ _ _ h => h) hM (fun w hC => r_loadC hl rfl one34 hC (by repeat (first | exact find_head | apply find_tail)) (by first | rfl)) rfl ?_
                    clear hl a; intro a hl
                    refine d_take (i := 1) hl rfl (by kernel_rfl) (by kernel_rfl) (by kernel_rfl) (by kernel_rfl) (by kernel_rfl) rfl trivial (fun _ _ _ h => h) hM (fun w hC => r_loadC hl rfl one34 hC (by repeat (first | exact find_head | apply find_tail)) (by first | rfl)) rfl ?_
                    clear hl a; intro a hl
                    refine d_take (i := 3) hl rfl (by kernel_rfl) (by kernel_rfl) (by kernel_rfl) (by kernel_rfl) (by kernel_rfl) rfl trivial (fun _ _ _ h => h) hM (fun w hC => r_move hl rfl) rfl ?_
                    clear hl a; intro a hl
                    refine d_take (i := 5) hl rfl (by kernel_rfl) (by kernel_rfl) (by kernel_rfl) (by kernel_rfl) (by kernel_rfl) rfl trivial (fun _ _ _ h => h) hM (fun w hC => r_field hl rfl fld50_4) rfl ?_
                    clear hl a; intro a hl
                    refine d_take (i := 6) hl rfl (by kernel_rfl) (by kernel_rfl) (by kernel_rfl) (by kernel_rfl) (by kernel_rfl) rfl trivial (fun _ _ _ h => h) hM (fun w hC => r_loadC hl rfl one4 hC (by repeat (first | exact find_head | apply find_tail)) (by first | rfl)) rfl ?_
                    clear hl a; intro a hl
                    refine d_take (i := 7) hl rfl (by kernel_rfl) (by kernel_rfl) (by kernel_rfl) (by kernel_rfl) (by kernel_rfl) rfl trivial (fun _ _ _ h => h) hM (fun w hC => r_move hl rfl) rfl ?_
                    clear hl a; intro a hl
                    refine d_one (i := 2) (by kernel_rfl) rfl ?_
                    try clear hM
                    refine id (w_call hl hh rfl trivial rfl cal10 rfl (una_pm hpw1 hpiz.hm) (by repeat (first | exact keeps_nil | apply keeps_cons (by repeat (first | exact find_head | apply find_tail)) (by first  | rfl) | exact keeps_self | exact keeps_left | exact keeps_right | exact keeps_swap | apply keeps_mv)) (fun b o m => hh.mem b o (by simp [m])) ?_)
                    clear hl hh a w; intro vc Fc a w hR hl hh
                    obtain ⟨rfl, rfl⟩ := hR
                    try simp only [List.cons_append, List.nil_append] at hh
                    have hM : Mem [(k9, C [.int .u8 d.kd, .int .u32 d.cf.init, .int .u32 d.cf.maxc, .int .u32 d.cf.bn, .int .u32 d.cf.bd, .int .u32 d.cf.abc, .int .u32 d.cf.dupt, .bool d.cf.idle, .int .u32 d.cf.mss, .int .u32 d.cf.start, .bool d.cf.sack, .int .u32 d.A, .int .u32 d.B, .bool d.dup, .int .u8 d.gr, .slice d.p d.dat.length d.cap] 50), (k5, C [.pointer (some ⟨z.mp, 0, none⟩)] 34)] w := (by (repeat (first | exact Mem.nil | refine Mem.consR hh (by assumption) (by simp) ?_ | refine Mem.cons hh.mem (by (repeat (first | exact find_head | apply find_tail)); done) ?_ | fail)); done)
                    refine d_step (fun _ => hM) ?_
                    first | refine d_take (i := 4) hl rfl (by kernel_rfl) (by kernel_rfl) (by kernel_rfl) (by kernel_rfl) (by kernel_rfl) rfl trivial (fun _ _ _ h => h) hM (fun w hC => r_add hl rfl rfl (by simp only [Fits]; omega)) rfl ?_ | refine d_take (i := 4) hl rfl (by kernel_rfl) (by kernel_rfl) (by kernel_rfl) (by kernel_rfl) (by kernel_rfl) rfl trivial (fun _ _ _ h => h) hM (fun w hC => r_addW hl rfl rfl) rfl ?_
                    clear hl a; intro a hl
                    refine d_one (i := 8) (by kernel_rfl) rfl ?_
                    try clear hM
                    refine id (w_call hl hh rfl trivial rfl cal21 rfl (ack_pm hpw1 hpiz (by omega) (z.m.una + IntKind.i32.wrap d.A) (by omega) hwk9 d.dup (d.dat.map (absb z.t.s.una)) (by rw [List.length_map]; omega) pA cA Ea hRa (apart_of4 hh)) (by repeat (first | exact keeps_nil | apply keeps_cons (by repeat (first | exact find_head | apply find_tail)) (by first  | rfl) | exact keeps_self | exact keeps_left | exact keeps_right | exact keeps_swap | apply keeps_mv)) (fun b o m => hh.mem b o (by simp [m])) ?_)
                    clear hl hh a w; intro vc Fc a w hR hl hh
                    obtain ⟨rfl, m9, os9, hat8, hpw2⟩ := hR
                    try simp only [List.cons_append, List.nil_append] at hh
                    replace hh := hh.comm
                    simp only [List.cons_append, List.nil_append, List.append_nil, List.append_assoc] at hh
                    generalize Fc = Z2 at hh hpw2
                    have hM : Mem [(k9, C [.int .u8 d.kd, .int .u32 d.cf.init, .int .u32 d.cf.maxc, .int .u32 d.cf.bn, .int .u32 d.cf.bd, .int .u32 d.cf.abc, .int .u32 d.cf.dupt, .bool d.cf.idle, .int .u32 d.cf.mss, .int .u32 d.cf.start, .bool d.cf.sack, .int .u32 d.A, .int .u32 d.B, .bool d.dup, .int .u8 d.gr, .slice d.p d.dat.length d.cap] 50), (k5, C [.pointer (some ⟨z.mp, 0, none⟩)] 34)] w := (by (repeat (first | exact Mem.nil | refine Mem.consR hh (by assumption) (by simp) ?_ | refine Mem.cons hh.mem (by (repeat (first | exact find_head | apply find_tail)); done) ?_ | fail)); done)
                    refine d_step (fun _ => hM) ?_
                    refine d_done (by kernel_rfl) ?_
                    try clear hM
                    have hl2 := hl.add (t := 3) (hl.add (t := 5) (hl.add (t := 6) (hl.add (t := 7) (hl.add (t := 9) (hl.add (t := 34) (hl.add (t := 35) (hl.add (t := 36) (hl.nil) rfl) rfl) rfl) rfl) rfl) rfl) rfl) rfl; clear hl; have hl := hl2; clear hl2
                    have hpa := pi_ack hpiz (by omega) (i32_bd d.A) (by rw [← una_off]; exact hat9) hat8
                    obtain ⟨hpa1, hpa2, hpa3⟩ := hpa
                    have hfin : ∃ t9 m9 st9 cp9 mp9 Z9, PI (((z.i + 1 : Nat) : Int) * 137438953472) ((z.i + 1 : Nat) : Int) t9 m9 st9 ∧ PW Z9 cp9 mp9 t9 m9 st9 t9.cfg.sack t9.os ∧ Has [] w0 ((k9, C [.int .u8 d.kd, .int .u32 d.cf.init, .int .u32 d.cf.maxc, .int .u32 d.cf.bn, .int .u32 d.cf.bd, .int .u32 d.cf.abc, .int .u32 d.cf.dupt, .bool d.cf.idle, .int .u32 d.cf.mss, .int .u32 d.cf.start, .bool d.cf.sack, .int .u32 d.A, .int .u32 d.B, .bool d.dup, .int .u8 d.gr, .slice d.p d.dat.length d.cap] 50) :: (k3, C [.pointer (some ⟨cp9, 0, none⟩)] 24) :: (k5, C [.pointer (some ⟨mp9, 0, none⟩)] 34) :: Z9) w := ⟨t9, m9, z.st, z.cp, z.mp, Z2, (hpa1.mono (by omega) (by omega)), (by rw [hpa3, ← hpa2]; exact hpw2), has_ea hh⟩
                    clear hh
                    obtain ⟨t9, m9, st9, cp9, mp9, Z9, hpi9, hpw9, hh⟩ := hfin
                    have hfl9 := hpi9.si.fl; have pf9 := flightP_U t9.s; have hpu9 := pipeP_U hpi9.si.ok t9.ns t9.bl; have hdu9 := hpi9.si.ok.dups; have pp9 := hpi9.si.ok.phase; have oc9 := hpi9.si.ok.cwnd; have os9 := hpi9.si.ok.ssth; have om9 := hpi9.si.ok.maxc; have oms9 := hpi9.si.ok.mss
                    refine blk_normal ?_
                    refine then_normal ?_
                    refine c_seq ?_
                    refine c_seq ?_
                    refine c_region ?_
                    refine wl (wl_val hl rfl trivial (r_move hl rfl) ?_)
                    clear hl a; intro a hl
                    refine wl (w_call hl hh rfl trivial rfl cal7 rfl (far_pm hpw9 hpi9.hm k5) (by repeat (first | exact keeps_nil | apply keeps_cons (by repeat (first | exact find_head | apply find_tail)) (by first  | rfl) | exact keeps_self | exact keeps_left | exact keeps_right | exact keeps_swap | apply keeps_mv)) ⟨(hh.mem _ _ (Find.mem (by repeat (first | exact find_head | apply find_tail)))), (fun b o m => hh.mem b o (by (repeat (first | exact m | apply List.mem_cons_of_mem)); done))⟩ ?_)
                    clear hl hh a w; intro vc Fc a w hR hl hh
                    obtain ⟨rfl, rfl⟩ := hR
                    try simp only [List.cons_append, List.nil_append] at hh
                    refine w_nil ?_
                    have hl2 := hl.add (t := 3) (hl.add (t := 5) (hl.add (t := 6) (hl.add (t := 7) (hl.add (t := 9) (hl.add (t := 34) (hl.add (t := 35) (hl.add (t := 36) (hl.add (t := 202) (hl.nil) rfl) rfl) rfl) rfl) rfl) rfl) rfl) rfl) rfl; clear hl; have hl := hl2; clear hl2
                    refine then_normal ?_
                    refine c_cond hl rfl ?_ ?_
                    · intro hc15
                      try simp only [decide_eq_true_eq, decide_eq_false_iff_not, Bool.not_eq_true', Bool.not_eq_false', Bool.not_eq_true, Bool.not_eq_false, Bool.and_eq_true, Bool.or_eq_true, Bool.and_eq_false_iff, Bool.or_eq_false_iff, Bool.not_not, ne_eq, Int.not_lt, Int.not_le, Decidable.not_not, beq_iff_eq, bne_iff_ne] at hc15
                      refine wp_exit ?_
                      refine then_exit ?_
                      refine blk_exit ?_
                      refine then_normal ?_
                      refine c_region ?_
                      first | refine wl (wl_val hl rfl trivial (r_add hl rfl rfl (by simp only [Fits]; omega)) ?_) | refine wl (wl_val hl rfl trivial (r_addW hl rfl rfl) ?_)
                      clear hl a; intro a hl
                      refine wl (wl_val hl rfl trivial (r_move hl rfl) ?_)
                      clear hl a; intro a hl
                      refine w_nil ?_
                      have hl2 := hl.add (t := 3) (hl.add (t := 5) (hl.add (t := 6) (hl.add (t := 7) (hl.add (t := 34) (hl.add (t := 35) (hl.add (t := 36) (hl.nil) rfl) rfl) rfl) rfl) rfl) rfl) rfl; clear hl; have hl := hl2; clear hl2
                      refine then_normal ?_
                      refine ⟨⟨t9, m9, st9, cp9, mp9, Z9, z.i + 1⟩, (by simp only; omega), ⟨⟨hpi9, hpw9⟩, by simp only; omega⟩, hl.addE (t := 36) (hl.addE (t := 3) (hl.addE (t := 5) (hl.addE (t := 6) (hl.addE (t := 7) (hl.addE (t := 34) (hl.addE (t := 35) (hl.nil) rfl (by first | rfl | exact congrArg (Value.int .i64) (i_succ z.i))) rfl (by first | rfl | exact congrArg (Value.int .i64) (i_succ z.i))) rfl (by first | rfl | exact congrArg (Value.int .i64) (i_succ z.i))) rfl (by first | rfl | exact congrArg (Value.int .i64) (i_succ z.i))) rfl (by first | rfl | exact congrArg (Value.int .i64) (i_succ z.i))) rfl (by first | rfl | exact congrArg (Value.int .i64) (i_succ z.i))) rfl (by first | rfl | exact congrArg (Value.int .i64) (i_succ z.i)), hh.keep (by repeat (first | exact keeps_nil | apply keeps_cons (by repeat (first | exact find_head | apply find_tail)) (by first  | rfl) | exact keeps_self | exact keeps_left | exact keeps_right | exact keeps_swap | apply keeps_mv))⟩
                    · intro hc15
                      try simp only [decide_eq_true_eq, decide_eq_false_iff_not, Bool.not_eq_true', Bool.not_eq_false', Bool.not_eq_true, Bool.not_eq_false, Bool.and_eq_true, Bool.or_eq_true, Bool.and_eq_false_iff, Bool.or_eq_false_iff, Bool.not_not, ne_eq, Int.not_lt, Int.not_le, Decidable.not_not, beq_iff_eq, bne_iff_ne] at hc15
                      refine wp_skip ?_
                      refine then_normal ?_
                      refine c_seq ?_
                      refine c_seq ?_
                      refine c_draw [(k3, C [.pointer (some ⟨cp9, 0, none⟩)] 24), (k5, C [.pointer (some ⟨mp9, 0, none⟩)] 34)] [] mixed hh ?_
                      clear hh w; intro w hh
                      have hM : Mem [(k3, C [.pointer (some ⟨cp9, 0, none⟩)] 24), (k5, C [.pointer (some ⟨mp9, 0, none⟩)] 34)] w := (by (repeat (first | exact Mem.nil | refine Mem.consR hh (by assumption) (by simp) ?_ | refine Mem.cons hh.mem (by (repeat (first | exact find_head | apply find_tail)); done) ?_ | fail)); done)
                      refine d_take (i := 0) hl rfl (by kernel_rfl) (by kernel_rfl) (by kernel_rfl) (by kernel_rfl) (by kernel_rfl) rfl trivial (fun _ _ _ h => h) hM (fun w hC => r_loadC hl rfl one24 hC (by repeat (first | exact find_head | apply find_tail)) (by first | rfl)) rfl ?_
                      clear hl a; intro a hl
                      refine d_take (i := 2) hl rfl (by kernel_rfl) (by kernel_rfl) (by kernel_rfl) (by kernel_rfl) (by kernel_rfl) rfl trivial (fun _ _ _ h => h) hM (fun w hC => r_loadC hl rfl one34 hC (by repeat (first | exact find_head | apply find_tail)) (by first | rfl)) rfl ?_
                      clear hl a; intro a hl
                      refine d_one (i := 1) (by kernel_rfl) rfl ?_
                      try clear hM
                      refine id (w_call hl hh rfl trivial rfl cal26 rfl (view_pc hpw9 hpi9.si) (by repeat (first | exact keeps_nil | apply keeps_cons (by repeat (first | exact find_head | apply find_tail)) (by first  | rfl) | exact keeps_self | exact keeps_left | exact keeps_right | exact keeps_swap | apply keeps_mv)) (fun b o m => hh.mem b o (by (repeat (first | exact m | apply List.mem_cons_of_mem)); done)) ?_)
                      clear hl hh a w; intro vc Fc a w hR hl hh
                      obtain ⟨rfl, rfl⟩ := hR
                      try simp only [List.cons_append, List.nil_append] at hh
                      simp only [vwc, viewP] at hl
                      have hM : Mem [(k3, C [.pointer (some ⟨cp9, 0, none⟩)] 24), (k5, C [.pointer (some ⟨mp9, 0, none⟩)] 34)] w := (by (repeat (first | exact Mem.nil | refine Mem.consR hh (by assumption) (by simp) ?_ | refine Mem.cons hh.mem (by (repeat (first | exact find_head | apply find_tail)); done) ?_ | fail)); done)
                      refine d_step (fun _ => hM) ?_
                      refine d_one (i := 3) (by kernel_rfl) rfl ?_
                      try clear hM
                      refine id (w_call hl hh rfl trivial rfl cal27 rfl (view_pm hpw9 hpi9 (by omega) (by assumption)) (by repeat (first | exact keeps_nil | apply keeps_cons (by repeat (first | exact find_head | apply find_tail)) (by first  | rfl) | exact keeps_self | exact keeps_left | exact keeps_right | exact keeps_swap | apply keeps_mv)) (fun b o m => hh.mem b o (by (repeat (first | exact m | apply List.mem_cons_of_mem)); done)) ?_)
                      clear hl hh a w; intro vc Fc a w hR hl hh
                      obtain ⟨rfl, rfl⟩ := hR
                      try simp only [List.cons_append, List.nil_append] at hh
                      simp only [vwc, viewP] at hl
                      have hM : Mem [(k3, C [.pointer (some ⟨cp9, 0, none⟩)] 24), (k5, C [.pointer (some ⟨mp9, 0, none⟩)] 34)] w := (by (repeat (first | exact Mem.nil | refine Mem.consR hh (by assumption) (by simp) ?_ | refine Mem.cons hh.mem (by (repeat (first | exact find_head | apply find_tail)); done) ?_ | fail)); done)
                      refine d_step (fun _ => hM) ?_
                      refine d_take (i := 4) hl rfl (by kernel_rfl) (by kernel_rfl) (by kernel_rfl) (by kernel_rfl) (by kernel_rfl) rfl trivial (fun _ _ _ h => h) hM (fun w hC => r_neqA hl rfl rfl eqf61 shp61 (by simp only [unlitL, unlit]; rfl) (by simp only [unlitL, unlit]; rfl) (by first | exact ⟨trivial⟩ | (refine ⟨?_⟩; simp [LitsOk, litOk, Fits]; done) | (refine ⟨?_⟩; simp [LitsOk, litOk, Fits]; omega)) (by first | exact ⟨trivial⟩ | (refine ⟨?_⟩; simp [LitsOk, litOk, Fits]; done) | (refine ⟨?_⟩; simp [LitsOk, litOk, Fits]; omega))) rfl ?_
                      clear hl a; intro a hl
                      simp only [eqLits, litBeq, beq_self_eq_true, Bool.and_self, Bool.and_true, Bool.not_true, decide_true] at hl
                      refine d_take (i := 5) hl rfl (by kernel_rfl) (by kernel_rfl) (by kernel_rfl) (by kernel_rfl) (by kernel_rfl) rfl trivial (fun _ _ _ h => h) hM (fun w hC => r_move hl rfl) rfl ?_
                      clear hl a; intro a hl
                      refine d_take (i := 6) hl rfl (by kernel_rfl) (by kernel_rfl) (by kernel_rfl) (by kernel_rfl) (by kernel_rfl) rfl ⟨_, _, rfl, rfl, rfl⟩ (fun _ _ _ h => h) hM (fun w hC => r_loadC hl rfl one24 hC (by repeat (first | exact find_head | apply find_tail)) (by first | rfl)) rfl ?_
                      clear hl a; intro a hl
                      refine d_take (i := 8) hl rfl (by kernel_rfl) (by kernel_rfl) (by kernel_rfl) (by kernel_rfl) (by kernel_rfl) rfl ⟨_, _, rfl, rfl, rfl⟩ (fun _ _ _ h => h) hM (fun w hC => r_loadC hl rfl one34 hC (by repeat (first | exact find_head | apply find_tail)) (by first | rfl)) rfl ?_
                      clear hl a; intro a hl
                      refine d_take (i := 9) hl rfl (by kernel_rfl) (by kernel_rfl) (by kernel_rfl) (by kernel_rfl) (by kernel_rfl) rfl ⟨_, _, rfl, rfl, rfl⟩ (fun _ _ _ h => h) hM (fun w hC => r_loadC hl rfl one34 hC (by repeat (first | exact find_head | apply find_tail)) (by first | rfl)) rfl ?_
                      clear hl a; intro a hl
                      refine d_one (i := 7) (by kernel_rfl) rfl ?_
                      try clear hM
                      refine id (w_call hl hh rfl ⟨_, _, rfl, rfl, rfl⟩ rfl cal18 rfl (una_pc hpw9) (by repeat (first | exact keeps_nil | apply keeps_cons (by repeat (first | exact find_head | apply find_tail)) (by first  | rfl) | exact keeps_self | exact keeps_left | exact keeps_right | exact keeps_swap | apply keeps_mv)) (fun b o m => hh.mem b o (by (repeat (first | exact m | apply List.mem_cons_of_mem)); done)) ?_)
                      clear hl hh a w; intro vc Fc a w hR hl hh
                      obtain ⟨rfl, rfl⟩ := hR
                      try simp only [List.cons_append, List.nil_append] at hh
                      have hM : Mem [(k3, C [.pointer (some ⟨cp9, 0, none⟩)] 24), (k5, C [.pointer (some ⟨mp9, 0, none⟩)] 34)] w := (by (repeat (first | exact Mem.nil | refine Mem.consR hh (by assumption) (by simp) ?_ | refine Mem.cons hh.mem (by (repeat (first | exact find_head | apply find_tail)); done) ?_ | fail)); done)
                      refine d_step (fun _ => hM) ?_
                      refine d_one (i := 10) (by kernel_rfl) rfl ?_
                      try clear hM
                      refine id (w_call hl hh rfl ⟨_, _, rfl, rfl, rfl⟩ rfl cal10 rfl (una_pm hpw9 hpi9.hm) (by repeat (first | exact keeps_nil | apply keeps_cons (by repeat (first | exact find_head | apply find_tail)) (by first  | rfl) | exact keeps_self | exact keeps_left | exact keeps_right | exact keeps_swap | apply keeps_mv)) (fun b o m => hh.mem b o (by (repeat (first | exact m | apply List.mem_cons_of_mem)); done)) ?_)
                      clear hl hh a w; intro vc Fc a w hR hl hh
                      obtain ⟨rfl, rfl⟩ := hR
                      try simp only [List.cons_append, List.nil_append] at hh
                      have hM : Mem [(k3, C [.pointer (some ⟨cp9, 0, none⟩)] 24), (k5, C [.pointer (some ⟨mp9, 0, none⟩)] 34)] w := (by (repeat (first | exact Mem.nil | refine Mem.consR hh (by assumption) (by simp) ?_ | refine Mem.cons hh.mem (by (repeat (first | exact find_head | apply find_tail)); done) ?_ | fail)); done)
                      refine d_step (fun _ => hM) ?_
                      refine d_one (i := 11) (by kernel_rfl) rfl ?_
                      try clear hM
                      refine id (w_call hl hh rfl ⟨_, _, rfl, rfl, rfl⟩ rfl cal14 rfl (seq_pm hpw9 hpi9.hm m9.una) (by repeat (first | exact keeps_nil | apply keeps_cons (by repeat (first | exact find_head | apply find_tail)) (by first  | rfl) | exact keeps_self | exact keeps_left | exact keeps_right | exact keeps_swap | apply keeps_mv)) (fun b o m => hh.mem b o (by (repeat (first | exact m | apply List.mem_cons_of_mem)); done)) ?_)
                      clear hl hh a w; intro vc Fc a w hR hl hh
                      obtain ⟨rfl, rfl⟩ := hR
                      try simp only [List.cons_append, List.nil_append] at hh
                      rw [← hpi9.rel.una] at hl
                      have hM : Mem [(k3, C [.pointer (some ⟨cp9, 0, none⟩)] 24), (k5, C [.pointer (some ⟨mp9, 0, none⟩)] 34)] w := (by (repeat (first | exact Mem.nil | refine Mem.consR hh (by assumption) (by simp) ?_ | refine Mem.cons hh.mem (by (repeat (first | exact find_head | apply find_tail)); done) ?_ | fail)); done)
                      refine d_step (fun _ => hM) ?_
                      refine d_take (i := 12) hl rfl (by kernel_rfl) (by kernel_rfl) (by kernel_rfl) (by kernel_rfl) (by kernel_rfl) rfl ⟨_, _, rfl, rfl, rfl⟩ (fun _ _ _ h => h) hM (fun w hC => r_neq hl rfl rfl) rfl ?_
                      clear hl a; intro a hl
                      try simp only [ne_eq, not_true_eq_false, decide_false, decide_true, decide_not, Bool.not_true, beq_self_eq_true, bne_self_eq_false] at hl
                      refine d_take (i := 13) hl rfl (by kernel_rfl) (by kernel_rfl) (by kernel_rfl) (by kernel_rfl) (by kernel_rfl) rfl trivial (fun _ _ _ h => h) hM (fun w hC => r_pickF hl rfl rfl) rfl ?_
                      clear hl a; intro a hl
                      refine d_take (i := 14) hl rfl (by kernel_rfl) (by kernel_rfl) (by kernel_rfl) (by kernel_rfl) (by kernel_rfl) rfl trivial (fun _ _ _ h => h) hM (fun w hC => r_move hl rfl) rfl ?_
                      clear hl a; intro a hl
                      refine d_take (i := 15) hl rfl (by kernel_rfl) (by kernel_rfl) (by kernel_rfl) (by kernel_rfl) (by kernel_rfl) rfl ⟨_, _, rfl, rfl, rfl⟩ (fun _ _ _ h => h) hM (fun w hC => r_loadC hl rfl one24 hC (by repeat (first | exact find_head | apply find_tail)) (by first | rfl)) rfl ?_
                      clear hl a; intro a hl
                      refine d_take (i := 17) hl rfl (by kernel_rfl) (by kernel_rfl) (by kernel_rfl) (by kernel_rfl) (by kernel_rfl) rfl ⟨_, _, rfl, rfl, rfl⟩ (fun _ _ _ h => h) hM (fun w hC => r_loadC hl rfl one34 hC (by repeat (first | exact find_head | apply find_tail)) (by first | rfl)) rfl ?_
                      clear hl a; intro a hl
                      refine d_take (i := 18) hl rfl (by kernel_rfl) (by kernel_rfl) (by kernel_rfl) (by kernel_rfl) (by kernel_rfl) rfl ⟨_, _, rfl, rfl, rfl⟩ (fun _ _ _ h => h) hM (fun w hC => r_loadC hl rfl one34 hC (by repeat (first | exact find_head | apply find_tail)) (by first | rfl)) rfl ?_
                      clear hl a; intro a hl
                      refine d_one (i := 16) (by kernel_rfl) rfl ?_
                      try clear hM
                      refine id (w_call hl hh rfl ⟨_, _, rfl, rfl, rfl⟩ rfl cal28 rfl (nxt_pc hpw9) (by repeat (first | exact keeps_nil | apply keeps_cons (by repeat (first | exact find_head | apply find_tail)) (by first  | rfl) | exact keeps_self | exact keeps_left | exact keeps_right | exact keeps_swap | apply keeps_mv)) (fun b o m => hh.mem b o (by (repeat (first | exact m | apply List.mem_cons_of_mem)); done)) ?_)
                      clear hl hh a w; intro vc Fc a w hR hl hh
                      obtain ⟨rfl, rfl⟩ := hR
                      try simp only [List.cons_append, List.nil_append] at hh
                      have hM : Mem [(k3, C [.pointer (some ⟨cp9, 0, none⟩)] 24), (k5, C [.pointer (some ⟨mp9, 0, none⟩)] 34)] w := (by (repeat (first | exact Mem.nil | refine Mem.consR hh (by assumption) (by simp) ?_ | refine Mem.cons hh.mem (by (repeat (first | exact find_head | apply find_tail)); done) ?_ | fail)); done)
                      refine d_step (fun _ => hM) ?_
                      refine d_one (i := 19) (by kernel_rfl) rfl ?_
                      try clear hM
                      refine id (w_call hl hh rfl ⟨_, _, rfl, rfl, rfl⟩ rfl cal9 rfl (nxt_pm hpw9 hpi9.hm) (by repeat (first | exact keeps_nil | apply keeps_cons (by repeat (first | exact find_head | apply find_tail)) (by first  | rfl) | exact keeps_self | exact keeps_left | exact keeps_right | exact keeps_swap | apply keeps_mv)) (fun b o m => hh.mem b o (by (repeat (first | exact m | apply List.mem_cons_of_mem)); done)) ?_)
                      clear hl hh a w; intro vc Fc a w hR hl hh
                      obtain ⟨rfl, rfl⟩ := hR
                      try simp only [List.cons_append, List.nil_append] at hh
                      have hM : Mem [(k3, C [.pointer (some ⟨cp9, 0, none⟩)] 24), (k5, C [.pointer (some ⟨mp9, 0, none⟩)] 34)] w := (by (repeat (first | exact Mem.nil | refine Mem.consR hh (by assumption) (by simp) ?_ | refine Mem.cons hh.mem (by (repeat (first | exact find_head | apply find_tail)); done) ?_ | fail)); done)
                      refine d_step (fun _ => hM) ?_
                      refine d_one (i := 20) (by kernel_rfl) rfl ?_
                      try clear hM
                      refine id (w_call hl hh rfl ⟨_, _, rfl, rfl, rfl⟩ rfl cal14 rfl (seq_pm hpw9 hpi9.hm m9.nxt) (by repeat (first | exact keeps_nil | apply keeps_cons (by repeat (first | exact find_head | apply find_tail)) (by first  | rfl) | exact keeps_self | exact keeps_left | exact keeps_right | exact keeps_swap | apply keeps_mv)) (fun b o m => hh.mem b o (by (repeat (first | exact m | apply List.mem_cons_of_mem)); done)) ?_)
                      clear hl hh a w; intro vc Fc a w hR hl hh
                      obtain ⟨rfl, rfl⟩ := hR
                      try simp only [List.cons_append, List.nil_append] at hh
                      rw [← hpi9.rel.nxt] at hl
                      have hM : Mem [(k3, C [.pointer (some ⟨cp9, 0, none⟩)] 24), (k5, C [.pointer (some ⟨mp9, 0, none⟩)] 34)] w := (by (repeat (first | exact Mem.nil | refine Mem.consR hh (by assumption) (by simp) ?_ | refine Mem.cons hh.mem (by (repeat (first | exact find_head | apply find_tail)); done) ?_ | fail)); done)
                      refine d_step (fun _ => hM) ?_
                      refine d_take (i := 21) hl rfl (by kernel_rfl) (by kernel_rfl) (by kernel_rfl) (by kernel_rfl) (by kernel_rfl) rfl ⟨_, _, rfl, rfl, rfl⟩ (fun _ _ _ h => h) hM (fun w hC => r_neq hl rfl rfl) rfl ?_
                      clear hl a; intro a hl
                      try simp only [ne_eq, not_true_eq_false, decide_false, decide_true, decide_not, Bool.not_true, beq_self_eq_true, bne_self_eq_false] at hl
                      refine d_take (i := 22) hl rfl (by kernel_rfl) (by kernel_rfl) (by kernel_rfl) (by kernel_rfl) (by kernel_rfl) rfl trivial (fun _ _ _ h => h) hM (fun w hC => r_pickF hl rfl rfl) rfl ?_
                      clear hl a; intro a hl
                      refine d_done (by kernel_rfl) ?_
                      try clear hM
                      have hl2 := hl.add (t := 3) (hl.add (t := 5) (hl.add (t := 6) (hl.add (t := 7) (hl.add (t := 9) (hl.add (t := 34) (hl.add (t := 35) (hl.add (t := 36) (hl.add (t := 225) (hl.nil) rfl) rfl) rfl) rfl) rfl) rfl) rfl) rfl) rfl; clear hl; have hl := hl2; clear hl2
                      refine then_normal ?_
                      refine c_condF hl rfl ?_
                      refine wp_skip ?_
                      refine then_normal ?_
                      refine c_seq ?_
                      refine c_region ?_
                      refine wl (wl_val hl rfl trivial (r_move hl rfl) ?_)
                      clear hl a; intro a hl
                      refine wl (wl_val hl rfl trivial (r_field hl rfl fld50_3) ?_)
                      clear hl a; intro a hl
                      refine wl (w_load hl hh rfl trivial one29 rfl (by repeat (first | exact find_head | apply find_tail)) (by first | rfl) ?_)
                      clear hl a; intro a hl
                      refine wl (w_call hl hh rfl trivial rfl cal11 rfl (same_pw k3 k5 Z9 cp9 mp9 t9 m9 st9 _ _ hpw9 hpi9 (by assumption) d.B hdB) (by repeat (first | exact keeps_nil | apply keeps_cons (by repeat (first | exact find_head | apply find_tail)) (by first  | rfl) | exact keeps_self | exact keeps_left | exact keeps_right | exact keeps_swap | apply keeps_mv)) ⟨(hh.mem _ _ (Find.mem (by repeat (first | exact find_head | apply find_tail)))), (hh.mem _ _ (Find.mem (by repeat (first | exact find_head | apply find_tail)))), (fun b o m => hh.mem b o (by (repeat (first | exact m | apply List.mem_cons_of_mem)); done))⟩ ?_)
                      clear hl hh a w; intro vc Fc a w hR hl hh
                      obtain ⟨⟨off, rfl, hoff⟩, rfl⟩ := hR
                      try simp only [List.cons_append, List.nil_append] at hh
                      refine wl (wl_val hl rfl trivial (r_move hl rfl) ?_)
                      clear hl a; intro a hl
                      refine wl (wl_val hl rfl trivial (r_extract hl rfl (by simp only [List.getElem?_toArray, List.getElem?_cons_zero, List.getElem?_cons_succ]; rfl)) ?_)
                      clear hl a; intro a hl
                      refine wl (wl_val hl rfl trivial (r_extract hl rfl (by simp only [List.getElem?_toArray, List.getElem?_cons_zero, List.getElem?_cons_succ]; rfl)) ?_)
                      clear hl a; intro a hl
                      refine wl (wl_val hl rfl trivial (r_extract hl rfl (by simp only [List.getElem?_toArray, List.getElem?_cons_zero, List.getElem?_cons_succ]; rfl)) ?_)
                      clear hl a; intro a hl
                      refine wl (w_alloc hl hh rfl trivial zero40 rfl ?_)
                      clear hl hh a w; intro k19 a w hl hh
                      refine wl (w_alloc hl hh rfl trivial zero42 rfl ?_)
                      clear hl hh a w; intro k20 a w hl hh
                      refine wl (w_storeA hl hh trivial agg40 rfl rfl (by repeat (first | exact find_head | apply find_tail)) (by first | rfl | (simp; done) | (simp only [List.getElem?_cons_zero, List.getElem?_cons_succ, Value.cells, List.take_zero, List.take_succ_cons, List.take_nil, List.drop_zero, List.drop_succ_cons, List.drop_nil, List.length_cons, List.length_nil, List.cons_append, List.nil_append, List.append_nil, Nat.zero_add, Nat.add_zero, Nat.reduceAdd, Nat.reduceBEq, Nat.reduceEqDiff, Nat.ble, BEq.rfl, Bool.and_true, Bool.and_self, cond_true, beq_self_eq_true]; rfl) | rfl) (by first | (simp; done) | (simp; omega) | (simp [cfL]; done)) (by first | rfl | (simp; done) | rfl) (by first | (simp only [setL, cfL, List.getElem?_cons_zero, List.getElem?_cons_succ, Value.cells, List.take_zero, List.take_succ_cons, List.take_nil, List.drop_zero, List.drop_succ_cons, List.drop_nil, List.length_cons, List.length_nil, List.cons_append, List.nil_append, List.append_nil, Nat.zero_add, Nat.add_zero, Nat.reduceAdd, Nat.reduceBEq, Nat.reduceEqDiff, Nat.ble, BEq.rfl, Bool.and_true, Bool.and_self, cond_true, beq_self_eq_true]; rfl) | (simp only [setL, List.getElem?_cons_zero, List.getElem?_cons_succ, Value.cells, List.take_zero, List.take_succ_cons, List.take_nil, List.drop_zero, List.drop_succ_cons, List.drop_nil, List.length_cons, List.length_nil, List.cons_append, List.nil_append, List.append_nil, Nat.zero_add, Nat.add_zero, Nat.reduceAdd, Nat.reduceBEq, Nat.reduceEqDiff, Nat.ble, BEq.rfl, Bool.and_true, Bool.and_self, cond_true, beq_self_eq_true]; rfl) | (simp only [setL, List.getElem?_cons_zero, List.getElem?_cons_succ, Value.cells, List.take_zero, List.take_succ_cons, List.take_nil, List.drop_zero, List.drop_succ_cons, List.drop_nil, List.length_cons, List.length_nil, List.cons_append, List.nil_append, List.append_nil, Nat.zero_add, Nat.add_zero, Nat.reduceAdd, Nat.reduceBEq, Nat.reduceEqDiff, Nat.ble, BEq.rfl, Bool.and_true, Bool.and_self, cond_true, beq_self_eq_true]; rfl)) ?_)
                      clear hh w; intro w hh
                      refine wl (w_storeA hl hh trivial agg42 rfl rfl (by repeat (first | exact find_head | apply find_tail)) (by first | rfl | (simp; done) | (simp only [List.getElem?_cons_zero, List.getElem?_cons_succ, Value.cells, List.take_zero, List.take_succ_cons, List.take_nil, List.drop_zero, List.drop_succ_cons, List.drop_nil, List.length_cons, List.length_nil, List.cons_append, List.nil_append, List.append_nil, Nat.zero_add, Nat.add_zero, Nat.reduceAdd, Nat.reduceBEq, Nat.reduceEqDiff, Nat.ble, BEq.rfl, Bool.and_true, Bool.and_self, cond_true, beq_self_eq_true]; rfl) | rfl) (by first | (simp; done) | (simp; omega) | (simp [cfL]; done)) (by first | rfl | (simp; done) | rfl) (by first | (simp only [setL, cfL, List.getElem?_cons_zero, List.getElem?_cons_succ, Value.cells, List.take_zero, List.take_succ_cons, List.take_nil, List.drop_zero, List.drop_succ_cons, List.drop_nil, List.length_cons, List.length_nil, List.cons_append, List.nil_append, List.append_nil, Nat.zero_add, Nat.add_zero, Nat.reduceAdd, Nat.reduceBEq, Nat.reduceEqDiff, Nat.ble, BEq.rfl, Bool.and_true, Bool.and_self, cond_true, beq_self_eq_true]; rfl) | (simp only [setL, List.getElem?_cons_zero, List.getElem?_cons_succ, Value.cells, List.take_zero, List.take_succ_cons, List.take_nil, List.drop_zero, List.drop_succ_cons, List.drop_nil, List.length_cons, List.length_nil, List.cons_append, List.nil_append, List.append_nil, Nat.zero_add, Nat.add_zero, Nat.reduceAdd, Nat.reduceBEq, Nat.reduceEqDiff, Nat.ble, BEq.rfl, Bool.and_true, Bool.and_self, cond_true, beq_self_eq_true]; rfl) | (simp only [setL, List.getElem?_cons_zero, List.getElem?_cons_succ, Value.cells, List.take_zero, List.take_succ_cons, List.take_nil, List.drop_zero, List.drop_succ_cons, List.drop_nil, List.length_cons, List.length_nil, List.cons_append, List.nil_append, List.append_nil, Nat.zero_add, Nat.add_zero, Nat.reduceAdd, Nat.reduceBEq, Nat.reduceEqDiff, Nat.ble, BEq.rfl, Bool.and_true, Bool.and_self, cond_true, beq_self_eq_true]; rfl)) ?_)
                      clear hh w; intro w hh
                      refine wl (wl_val hl rfl trivial (r_assign hl rfl) ?_)
                      clear hl a; intro a hl
                      refine w_nil ?_
                      have hl2 := hl.add (t := 3) (hl.add (t := 5) (hl.add (t := 6) (hl.add (t := 7) (hl.add (t := 21) (hl.add (t := 34) (hl.add (t := 35) (hl.add (t := 36) (hl.nil) rfl) rfl) rfl) rfl) rfl) rfl) rfl) rfl; clear hl; have hl := hl2; clear hl2
                      refine then_normal ?_
                      refine c_seq ?_
                      refine c_region ?_
                      refine wl (wl_val hl rfl trivial (r_move hl rfl) ?_)
                      clear hl a; intro a hl
                      refine wl (wl_val hl rfl trivial (r_not hl rfl) ?_)
                      clear hl a; intro a hl
                      refine w_nil ?_
                      have hl2 := hl.add (t := 3) (hl.add (t := 5) (hl.add (t := 6) (hl.add (t := 7) (hl.add (t := 34) (hl.add (t := 35) (hl.add (t := 36) (hl.add (t := 235) (hl.nil) rfl) rfl) rfl) rfl) rfl) rfl) rfl) rfl; clear hl; have hl := hl2; clear hl2
                      refine then_normal ?_
                      refine c_cond hl rfl ?_ ?_
                      · intro hc17
                        try simp only [decide_eq_true_eq, decide_eq_false_iff_not, Bool.not_eq_true', Bool.not_eq_false', Bool.not_eq_true, Bool.not_eq_false, Bool.and_eq_true, Bool.or_eq_true, Bool.and_eq_false_iff, Bool.or_eq_false_iff, Bool.not_not, ne_eq, Int.not_lt, Int.not_le, Decidable.not_not, beq_iff_eq, bne_iff_ne] at hc17
                        exfalso; first | exact Bool.noConfusion (show false = true by assumption) | exact Bool.noConfusion (show true = false by assumption) | contradiction | omega | (simp at *; done)
                      · intro hc17
                        try simp only [decide_eq_true_eq, decide_eq_false_iff_not, Bool.not_eq_true', Bool.not_eq_false', Bool.not_eq_true, Bool.not_eq_false, Bool.and_eq_true, Bool.or_eq_true, Bool.and_eq_false_iff, Bool.or_eq_false_iff, Bool.not_not, ne_eq, Int.not_lt, Int.not_le, Decidable.not_not, beq_iff_eq, bne_iff_ne] at hc17
                        refine wp_skip ?_
                        refine blk_normal ?_
                        refine then_normal ?_
                        refine c_region ?_
                        first | refine wl (wl_val hl rfl trivial (r_add hl rfl rfl (by simp only [Fits]; omega)) ?_) | refine wl (wl_val hl rfl trivial (r_addW hl rfl rfl) ?_)
                        clear hl a; intro a hl
                        refine wl (wl_val hl rfl trivial (r_move hl rfl) ?_)
                        clear hl a; intro a hl
                        refine w_nil ?_
                        have hl2 := hl.add (t := 3) (hl.add (t := 5) (hl.add (t := 6) (hl.add (t := 7) (hl.add (t := 34) (hl.add (t := 35) (hl.add (t := 36) (hl.nil) rfl) rfl) rfl) rfl) rfl) rfl) rfl; clear hl; have hl := hl2; clear hl2
                        refine then_normal ?_
                        refine ⟨⟨t9, m9, st9, cp9, mp9, Z9, z.i + 1⟩, (by simp only; omega), ⟨⟨hpi9, hpw9⟩, by simp only; omega⟩, hl.addE (t := 36) (hl.addE (t := 3) (hl.addE (t := 5) (hl.addE (t := 6) (hl.addE (t := 7) (hl.addE (t := 34) (hl.addE (t := 35) (hl.nil) rfl (by first | rfl | exact congrArg (Value.int .i64) (i_succ z.i))) rfl (by first | rfl | exact congrArg (Value.int .i64) (i_succ z.i))) rfl (by first | rfl | exact congrArg (Value.int .i64) (i_succ z.i))) rfl (by first | rfl | exact congrArg (Value.int .i64) (i_succ z.i))) rfl (by first | rfl | exact congrArg (Value.int .i64) (i_succ z.i))) rfl (by first | rfl | exact congrArg (Value.int .i64) (i_succ z.i))) rfl (by first | rfl | exact congrArg (Value.int .i64) (i_succ z.i)), hh.keep (by repeat (first | exact keeps_nil | apply keeps_cons (by repeat (first | exact find_head | apply find_tail)) (by first  | rfl) | exact keeps_self | exact keeps_left | exact keeps_right | exact keeps_swap | apply keeps_mv))⟩
                  · intro hc12
                    try simp only [decide_eq_true_eq, decide_eq_false_iff_not, Bool.not_eq_true', Bool.not_eq_false', Bool.not_eq_true, Bool.not_eq_false, Bool.and_eq_true, Bool.or_eq_true, Bool.and_eq_false_iff, Bool.or_eq_false_iff, Bool.not_not, ne_eq, Int.not_lt, Int.not_le, Decidable.not_not, beq_iff_eq, bne_iff_ne] at hc12
                    refine c_seq ?_
                    refine c_region ?_
                    refine wl (wl_val hl rfl trivial (r_eql hl rfl rfl) ?_)
                    clear hl a; intro a hl
                    refine wl (wl_val hl rfl trivial (r_assign hl rfl) ?_)
                    clear hl a; intro a hl
                    refine w_nil ?_
                    have hl2 := hl.add (t := 3) (hl.add (t := 5) (hl.add (t := 6) (hl.add (t := 7) (hl.add (t := 9) (hl.add (t := 34) (hl.add (t := 35) (hl.add (t := 36) (hl.add (t := 62) (hl.add (t := 189) (hl.nil) rfl) rfl) rfl) rfl) rfl) rfl) rfl) rfl) rfl) rfl; clear hl; have hl := hl2; clear hl2
                    refine then_normal ?_
                    refine c_cond hl rfl ?_ ?_
                    · intro hc13
                      try simp only [decide_eq_true_eq, decide_eq_false_iff_not, Bool.not_eq_true', Bool.not_eq_false', Bool.not_eq_true, Bool.not_eq_false, Bool.and_eq_true, Bool.or_eq_true, Bool.and_eq_false_iff, Bool.or_eq_false_iff, Bool.not_not, ne_eq, Int.not_lt, Int.not_le, Decidable.not_not, beq_iff_eq, bne_iff_ne] at hc13
                      refine c_seq ?_
                      refine c_region ?_
                      refine wl (w_load hl hh rfl trivial one24 rfl (by repeat (first | exact find_head | apply find_tail)) (by first | rfl) ?_)
                      clear hl a; intro a hl
                      refine wl (w_call hl hh rfl trivial rfl cal22 rfl (rto_pc hpwz hpiz.si) (by repeat (first | exact keeps_nil | apply keeps_cons (by repeat (first | exact find_head | apply find_tail)) (by first  | rfl) | exact keeps_self | exact keeps_left | exact keeps_right | exact keeps_swap | apply keeps_mv)) trivial ?_)
                      clear hl hh a w; intro vc Fc a w hR hl hh
                      obtain ⟨rfl, hpw1⟩ := hR
                      try simp only [List.cons_append, List.nil_append] at hh
                      replace hh := hh.comm
                      simp only [List.cons_append, List.nil_append, List.append_nil, List.append_assoc] at hh
                      generalize Fc = Z1 at hh hpw1
                      refine w_nil ?_
                      have hl2 := hl.add (t := 3) (hl.add (t := 5) (hl.add (t := 6) (hl.add (t := 7) (hl.add (t := 9) (hl.add (t := 34) (hl.add (t := 35) (hl.add (t := 36) (hl.nil) rfl) rfl) rfl) rfl) rfl) rfl) rfl) rfl; clear hl; have hl := hl2; clear hl2
                      refine then_normal ?_
                      refine c_region ?_
                      refine wl (w_load hl hh rfl trivial one34 rfl (by repeat (first | exact find_head | apply find_tail)) (by first | rfl) ?_)
                      clear hl a; intro a hl
                      refine wl (w_call hl hh rfl trivial rfl cal23 rfl (rto_pm hpw1 hpiz.hm hpiz.cr) (by repeat (first | exact keeps_nil | apply keeps_cons (by repeat (first | exact find_head | apply find_tail)) (by first  | rfl) | exact keeps_self | exact keeps_left | exact keeps_right | exact keeps_swap | apply keeps_mv)) trivial ?_)
                      clear hl hh a w; intro vc Fc a w hR hl hh
                      obtain ⟨rfl, hpw2⟩ := hR
                      try simp only [List.cons_append, List.nil_append] at hh
                      replace hh := hh.comm
                      simp only [List.cons_append, List.nil_append, List.append_nil, List.append_assoc] at hh
                      generalize Fc = Z2 at hh hpw2
                      refine w_nil ?_
                      have hl2 := hl.add (t := 3) (hl.add (t := 5) (hl.add (t := 6) (hl.add (t := 7) (hl.add (t := 9) (hl.add (t := 34) (hl.add (t := 35) (hl.add (t := 36) (hl.nil) rfl) rfl) rfl) rfl) rfl) rfl) rfl) rfl; clear hl; have hl := hl2; clear hl2
                      have hfin : ∃ t9 m9 st9 cp9 mp9 Z9, PI (((z.i + 1 : Nat) : Int) * 137438953472) ((z.i + 1 : Nat) : Int) t9 m9 st9 ∧ PW Z9 cp9 mp9 t9 m9 st9 t9.cfg.sack t9.os ∧ Has [] w0 ((k9, C [.int .u8 d.kd, .int .u32 d.cf.init, .int .u32 d.cf.maxc, .int .u32 d.cf.bn, .int .u32 d.cf.bd, .int .u32 d.cf.abc, .int .u32 d.cf.dupt, .bool d.cf.idle, .int .u32 d.cf.mss, .int .u32 d.cf.start, .bool d.cf.sack, .int .u32 d.A, .int .u32 d.B, .bool d.dup, .int .u8 d.gr, .slice d.p d.dat.length d.cap] 50) :: (k3, C [.pointer (some ⟨cp9, 0, none⟩)] 24) :: (k5, C [.pointer (some ⟨mp9, 0, none⟩)] 34) :: Z9) w := ⟨{ z.t with s := rtoP z.t.s }, rtoM z.m, z.st, z.cp, z.mp, Z2, ((pi_rto hpiz).mono (by omega) (by omega)), hpw2, hh⟩
                      clear hh
                      obtain ⟨t9, m9, st9, cp9, mp9, Z9, hpi9, hpw9, hh⟩ := hfin
                      have hfl9 := hpi9.si.fl; have pf9 := flightP_U t9.s; have hpu9 := pipeP_U hpi9.si.ok t9.ns t9.bl; have hdu9 := hpi9.si.ok.dups; have pp9 := hpi9.si.ok.phase; have oc9 := hpi9.si.ok.cwnd; have os9 := hpi9.si.ok.ssth; have om9 := hpi9.si.ok.maxc; have oms9 := hpi9.si.ok.mss
                      refine blk_normal ?_
                      refine then_normal ?_
                      refine c_seq ?_
                      refine c_seq ?_
                      refine c_region ?_
                      refine wl (wl_val hl rfl trivial (r_move hl rfl) ?_)
                      clear hl a; intro a hl
                      refine wl (w_call hl hh rfl trivial rfl cal7 rfl (far_pm hpw9 hpi9.hm k5) (by repeat (first | exact keeps_nil | apply keeps_cons (by repeat (first | exact find_head | apply find_tail)) (by first  | rfl) | exact keeps_self | exact keeps_left | exact keeps_right | exact keeps_swap | apply keeps_mv)) ⟨(hh.mem _ _ (Find.mem (by repeat (first | exact find_head | apply find_tail)))), (fun b o m => hh.mem b o (by (repeat (first | exact m | apply List.mem_cons_of_mem)); done))⟩ ?_)
                      clear hl hh a w; intro vc Fc a w hR hl hh
                      obtain ⟨rfl, rfl⟩ := hR
                      try simp only [List.cons_append, List.nil_append] at hh
                      refine w_nil ?_
                      have hl2 := hl.add (t := 3) (hl.add (t := 5) (hl.add (t := 6) (hl.add (t := 7) (hl.add (t := 9) (hl.add (t := 34) (hl.add (t := 35) (hl.add (t := 36) (hl.add (t := 202) (hl.nil) rfl) rfl) rfl) rfl) rfl) rfl) rfl) rfl) rfl; clear hl; have hl := hl2; clear hl2
                      refine then_normal ?_
                      refine c_cond hl rfl ?_ ?_
                      · intro hc15
                        try simp only [decide_eq_true_eq, decide_eq_false_iff_not, Bool.not_eq_true', Bool.not_eq_false', Bool.not_eq_true, Bool.not_eq_false, Bool.and_eq_true, Bool.or_eq_true, Bool.and_eq_false_iff, Bool.or_eq_false_iff, Bool.not_not, ne_eq, Int.not_lt, Int.not_le, Decidable.not_not, beq_iff_eq, bne_iff_ne] at hc15
                        refine wp_exit ?_
                        refine then_exit ?_
                        refine blk_exit ?_
                        refine then_normal ?_
                        refine c_region ?_
                        first | refine wl (wl_val hl rfl trivial (r_add hl rfl rfl (by simp only [Fits]; omega)) ?_) | refine wl (wl_val hl rfl trivial (r_addW hl rfl rfl) ?_)
                        clear hl a; intro a hl
                        refine wl (wl_val hl rfl trivial (r_move hl rfl) ?_)
                        clear hl a; intro a hl
                        refine w_nil ?_
                        have hl2 := hl.add (t := 3) (hl.add (t := 5) (hl.add (t := 6) (hl.add (t := 7) (hl.add (t := 34) (hl.add (t := 35) (hl.add (t := 36) (hl.nil) rfl) rfl) rfl) rfl) rfl) rfl) rfl; clear hl; have hl := hl2; clear hl2
                        refine then_normal ?_
                        refine ⟨⟨t9, m9, st9, cp9, mp9, Z9, z.i + 1⟩, (by simp only; omega), ⟨⟨hpi9, hpw9⟩, by simp only; omega⟩, hl.addE (t := 36) (hl.addE (t := 3) (hl.addE (t := 5) (hl.addE (t := 6) (hl.addE (t := 7) (hl.addE (t := 34) (hl.addE (t := 35) (hl.nil) rfl (by first | rfl | exact congrArg (Value.int .i64) (i_succ z.i))) rfl (by first | rfl | exact congrArg (Value.int .i64) (i_succ z.i))) rfl (by first | rfl | exact congrArg (Value.int .i64) (i_succ z.i))) rfl (by first | rfl | exact congrArg (Value.int .i64) (i_succ z.i))) rfl (by first | rfl | exact congrArg (Value.int .i64) (i_succ z.i))) rfl (by first | rfl | exact congrArg (Value.int .i64) (i_succ z.i))) rfl (by first | rfl | exact congrArg (Value.int .i64) (i_succ z.i)), hh.keep (by repeat (first | exact keeps_nil | apply keeps_cons (by repeat (first | exact find_head | apply find_tail)) (by first  | rfl) | exact keeps_self | exact keeps_left | exact keeps_right | exact keeps_swap | apply keeps_mv))⟩
                      · intro hc15
                        try simp only [decide_eq_true_eq, decide_eq_false_iff_not, Bool.not_eq_true', Bool.not_eq_false', Bool.not_eq_true, Bool.not_eq_false, Bool.and_eq_true, Bool.or_eq_true, Bool.and_eq_false_iff, Bool.or_eq_false_iff, Bool.not_not, ne_eq, Int.not_lt, Int.not_le, Decidable.not_not, beq_iff_eq, bne_iff_ne] at hc15
                        refine wp_skip ?_
                        refine then_normal ?_
                        refine c_seq ?_
                        refine c_seq ?_
                        refine c_draw [(k3, C [.pointer (some ⟨cp9, 0, none⟩)] 24), (k5, C [.pointer (some ⟨mp9, 0, none⟩)] 34)] [] mixed hh ?_
                        clear hh w; intro w hh
                        have hM : Mem [(k3, C [.pointer (some ⟨cp9, 0, none⟩)] 24), (k5, C [.pointer (some ⟨mp9, 0, none⟩)] 34)] w := (by (repeat (first | exact Mem.nil | refine Mem.consR hh (by assumption) (by simp) ?_ | refine Mem.cons hh.mem (by (repeat (first | exact find_head | apply find_tail)); done) ?_ | fail)); done)
                        refine d_take (i := 0) hl rfl (by kernel_rfl) (by kernel_rfl) (by kernel_rfl) (by kernel_rfl) (by kernel_rfl) rfl trivial (fun _ _ _ h => h) hM (fun w hC => r_loadC hl rfl one24 hC (by repeat (first | exact find_head | apply find_tail)) (by first | rfl)) rfl ?_
                        clear hl a; intro a hl
                        refine d_take (i := 2) hl rfl (by kernel_rfl) (by kernel_rfl) (by kernel_rfl) (by kernel_rfl) (by kernel_rfl) rfl trivial (fun _ _ _ h => h) hM (fun w hC => r_loadC hl rfl one34 hC (by repeat (first | exact find_head | apply find_tail)) (by first | rfl)) rfl ?_
                        clear hl a; intro a hl
                        refine d_one (i := 1) (by kernel_rfl) rfl ?_
                        try clear hM
                        refine id (w_call hl hh rfl trivial rfl cal26 rfl (view_pc hpw9 hpi9.si) (by repeat (first | exact keeps_nil | apply keeps_cons (by repeat (first | exact find_head | apply find_tail)) (by first  | rfl) | exact keeps_self | exact keeps_left | exact keeps_right | exact keeps_swap | apply keeps_mv)) (fun b o m => hh.mem b o (by (repeat (first | exact m | apply List.mem_cons_of_mem)); done)) ?_)
                        clear hl hh a w; intro vc Fc a w hR hl hh
                        obtain ⟨rfl, rfl⟩ := hR
                        try simp only [List.cons_append, List.nil_append] at hh
                        simp only [vwc, viewP] at hl
                        have hM : Mem [(k3, C [.pointer (some ⟨cp9, 0, none⟩)] 24), (k5, C [.pointer (some ⟨mp9, 0, none⟩)] 34)] w := (by (repeat (first | exact Mem.nil | refine Mem.consR hh (by assumption) (by simp) ?_ | refine Mem.cons hh.mem (by (repeat (first | exact find_head | apply find_tail)); done) ?_ | fail)); done)
                        refine d_step (fun _ => hM) ?_
                        refine d_one (i := 3) (by kernel_rfl) rfl ?_
                        try clear hM
                        refine id (w_call hl hh rfl trivial rfl cal27 rfl (view_pm hpw9 hpi9 (by omega) (by assumption)) (by repeat (first | exact keeps_nil | apply keeps_cons (by repeat (first | exact find_head | apply find_tail)) (by first  | rfl) | exact keeps_self | exact keeps_left | exact keeps_right | exact keeps_swap | apply keeps_mv)) (fun b o m => hh.mem b o (by (repeat (first | exact m | apply List.mem_cons_of_mem)); done)) ?_)
                        clear hl hh a w; intro vc Fc a w hR hl hh
                        obtain ⟨rfl, rfl⟩ := hR
                        try simp only [List.cons_append, List.nil_append] at hh
                        simp only [vwc, viewP] at hl
                        have hM : Mem [(k3, C [.pointer (some ⟨cp9, 0, none⟩)] 24), (k5, C [.pointer (some ⟨mp9, 0, none⟩)] 34)] w := (by (repeat (first | exact Mem.nil | refine Mem.consR hh (by assumption) (by simp) ?_ | refine Mem.cons hh.mem (by (repeat (first | exact find_head | apply find_tail)); done) ?_ | fail)); done)
                        refine d_step (fun _ => hM) ?_
                        refine d_take (i := 4) hl rfl (by kernel_rfl) (by kernel_rfl) (by kernel_rfl) (by kernel_rfl) (by kernel_rfl) rfl trivial (fun _ _ _ h => h) hM (fun w hC => r_neqA hl rfl rfl eqf61 shp61 (by simp only [unlitL, unlit]; rfl) (by simp only [unlitL, unlit]; rfl) (by first | exact ⟨trivial⟩ | (refine ⟨?_⟩; simp [LitsOk, litOk, Fits]; done) | (refine ⟨?_⟩; simp [LitsOk, litOk, Fits]; omega)) (by first | exact ⟨trivial⟩ | (refine ⟨?_⟩; simp [LitsOk, litOk, Fits]; done) | (refine ⟨?_⟩; simp [LitsOk, litOk, Fits]; omega))) rfl ?_
                        clear hl a; intro a hl
                        simp only [eqLits, litBeq, beq_self_eq_true, Bool.and_self, Bool.and_true, Bool.not_true, decide_true] at hl
                        refine d_take (i := 5) hl rfl (by kernel_rfl) (by kernel_rfl) (by kernel_rfl) (by kernel_rfl) (by kernel_rfl) rfl trivial (fun _ _ _ h => h) hM (fun w hC => r_move hl rfl) rfl ?_
                        clear hl a; intro a hl
                        refine d_take (i := 6) hl rfl (by kernel_rfl) (by kernel_rfl) (by kernel_rfl) (by kernel_rfl) (by kernel_rfl) rfl ⟨_, _, rfl, rfl, rfl⟩ (fun _ _ _ h => h) hM (fun w hC => r_loadC hl rfl one24 hC (by repeat (first | exact find_head | apply find_tail)) (by first | rfl)) rfl ?_
                        clear hl a; intro a hl
                        refine d_take (i := 8) hl rfl (by kernel_rfl) (by kernel_rfl) (by kernel_rfl) (by kernel_rfl) (by kernel_rfl) rfl ⟨_, _, rfl, rfl, rfl⟩ (fun _ _ _ h => h) hM (fun w hC => r_loadC hl rfl one34 hC (by repeat (first | exact find_head | apply find_tail)) (by first | rfl)) rfl ?_
                        clear hl a; intro a hl
                        refine d_take (i := 9) hl rfl (by kernel_rfl) (by kernel_rfl) (by kernel_rfl) (by kernel_rfl) (by kernel_rfl) rfl ⟨_, _, rfl, rfl, rfl⟩ (fun _ _ _ h => h) hM (fun w hC => r_loadC hl rfl one34 hC (by repeat (first | exact find_head | apply find_tail)) (by first | rfl)) rfl ?_
                        clear hl a; intro a hl
                        refine d_one (i := 7) (by kernel_rfl) rfl ?_
                        try clear hM
                        refine id (w_call hl hh rfl ⟨_, _, rfl, rfl, rfl⟩ rfl cal18 rfl (una_pc hpw9) (by repeat (first | exact keeps_nil | apply keeps_cons (by repeat (first | exact find_head | apply find_tail)) (by first  | rfl) | exact keeps_self | exact keeps_left | exact keeps_right | exact keeps_swap | apply keeps_mv)) (fun b o m => hh.mem b o (by (repeat (first | exact m | apply List.mem_cons_of_mem)); done)) ?_)
                        clear hl hh a w; intro vc Fc a w hR hl hh
                        obtain ⟨rfl, rfl⟩ := hR
                        try simp only [List.cons_append, List.nil_append] at hh
                        have hM : Mem [(k3, C [.pointer (some ⟨cp9, 0, none⟩)] 24), (k5, C [.pointer (some ⟨mp9, 0, none⟩)] 34)] w := (by (repeat (first | exact Mem.nil | refine Mem.consR hh (by assumption) (by simp) ?_ | refine Mem.cons hh.mem (by (repeat (first | exact find_head | apply find_tail)); done) ?_ | fail)); done)
                        refine d_step (fun _ => hM) ?_
                        refine d_one (i := 10) (by kernel_rfl) rfl ?_
                        try clear hM
                        refine id (w_call hl hh rfl ⟨_, _, rfl, rfl, rfl⟩ rfl cal10 rfl (una_pm hpw9 hpi9.hm) (by repeat (first | exact keeps_nil | apply keeps_cons (by repeat (first | exact find_head | apply find_tail)) (by first  | rfl) | exact keeps_self | exact keeps_left | exact keeps_right | exact keeps_swap | apply keeps_mv)) (fun b o m => hh.mem b o (by (repeat (first | exact m | apply List.mem_cons_of_mem)); done)) ?_)
                        clear hl hh a w; intro vc Fc a w hR hl hh
                        obtain ⟨rfl, rfl⟩ := hR
                        try simp only [List.cons_append, List.nil_append] at hh
                        have hM : Mem [(k3, C [.pointer (some ⟨cp9, 0, none⟩)] 24), (k5, C [.pointer (some ⟨mp9, 0, none⟩)] 34)] w := (by (repeat (first | exact Mem.nil | refine Mem.consR hh (by assumption) (by simp) ?_ | refine Mem.cons hh.mem (by (repeat (first | exact find_head | apply find_tail)); done) ?_ | fail)); done)
                        refine d_step (fun _ => hM) ?_
                        refine d_one (i := 11) (by kernel_rfl) rfl ?_
                        try clear hM
                        refine id (w_call hl hh rfl ⟨_, _, rfl, rfl, rfl⟩ rfl cal14 rfl (seq_pm hpw9 hpi9.hm m9.una) (by repeat (first | exact keeps_nil | apply keeps_cons (by repeat (first | exact find_head | apply find_tail)) (by first  | rfl) | exact keeps_self | exact keeps_left | exact keeps_right | exact keeps_swap | apply keeps_mv)) (fun b o m => hh.mem b o (by (repeat (first | exact m | apply List.mem_cons_of_mem)); done)) ?_)
                        clear hl hh a w; intro vc Fc a w hR hl hh
                        obtain ⟨rfl, rfl⟩ := hR
                        try simp only [List.cons_append, List.nil_append] at hh
                        rw [← hpi9.rel.una] at hl
                        have hM : Mem [(k3, C [.pointer (some ⟨cp9, 0, none⟩)] 24), (k5, C [.pointer (some ⟨mp9, 0, none⟩)] 34)] w := (by (repeat (first | exact Mem.nil | refine Mem.consR hh (by assumption) (by simp) ?_ | refine Mem.cons hh.mem (by (repeat (first | exact find_head | apply find_tail)); done) ?_ | fail)); done)
                        refine d_step (fun _ => hM) ?_
                        refine d_take (i := 12) hl rfl (by kernel_rfl) (by kernel_rfl) (by kernel_rfl) (by kernel_rfl) (by kernel_rfl) rfl ⟨_, _, rfl, rfl, rfl⟩ (fun _ _ _ h => h) hM (fun w hC => r_neq hl rfl rfl) rfl ?_
                        clear hl a; intro a hl
                        try simp only [ne_eq, not_true_eq_false, decide_false, decide_true, decide_not, Bool.not_true, beq_self_eq_true, bne_self_eq_false] at hl
                        refine d_take (i := 13) hl rfl (by kernel_rfl) (by kernel_rfl) (by kernel_rfl) (by kernel_rfl) (by kernel_rfl) rfl trivial (fun _ _ _ h => h) hM (fun w hC => r_pickF hl rfl rfl) rfl ?_
                        clear hl a; intro a hl
                        refine d_take (i := 14) hl rfl (by kernel_rfl) (by kernel_rfl) (by kernel_rfl) (by kernel_rfl) (by kernel_rfl) rfl trivial (fun _ _ _ h => h) hM (fun w hC => r_move hl rfl) rfl ?_
                        clear hl a; intro a hl
                        refine d_take (i := 15) hl rfl (by kernel_rfl) (by kernel_rfl) (by kernel_rfl) (by kernel_rfl) (by kernel_rfl) rfl ⟨_, _, rfl, rfl, rfl⟩ (fun _ _ _ h => h) hM (fun w hC => r_loadC hl rfl one24 hC (by repeat (first | exact find_head | apply find_tail)) (by first | rfl)) rfl ?_
                        clear hl a; intro a hl
                        refine d_take (i := 17) hl rfl (by kernel_rfl) (by kernel_rfl) (by kernel_rfl) (by kernel_rfl) (by kernel_rfl) rfl ⟨_, _, rfl, rfl, rfl⟩ (fun _ _ _ h => h) hM (fun w hC => r_loadC hl rfl one34 hC (by repeat (first | exact find_head | apply find_tail)) (by first | rfl)) rfl ?_
                        clear hl a; intro a hl
                        refine d_take (i := 18) hl rfl (by kernel_rfl) (by kernel_rfl) (by kernel_rfl) (by kernel_rfl) (by kernel_rfl) rfl ⟨_, _, rfl, rfl, rfl⟩ (fun _ _ _ h => h) hM (fun w hC => r_loadC hl rfl one34 hC (by repeat (first | exact find_head | apply find_tail)) (by first | rfl)) rfl ?_
                        clear hl a; intro a hl
                        refine d_one (i := 16) (by kernel_rfl) rfl ?_
                        try clear hM
                        refine id (w_call hl hh rfl ⟨_, _, rfl, rfl, rfl⟩ rfl cal28 rfl (nxt_pc hpw9) (by repeat (first | exact keeps_nil | apply keeps_cons (by repeat (first | exact find_head | apply find_tail)) (by first  | rfl) | exact keeps_self | exact keeps_left | exact keeps_right | exact keeps_swap | apply keeps_mv)) (fun b o m => hh.mem b o (by (repeat (first | exact m | apply List.mem_cons_of_mem)); done)) ?_)
                        clear hl hh a w; intro vc Fc a w hR hl hh
                        obtain ⟨rfl, rfl⟩ := hR
                        try simp only [List.cons_append, List.nil_append] at hh
                        have hM : Mem [(k3, C [.pointer (some ⟨cp9, 0, none⟩)] 24), (k5, C [.pointer (some ⟨mp9, 0, none⟩)] 34)] w := (by (repeat (first | exact Mem.nil | refine Mem.consR hh (by assumption) (by simp) ?_ | refine Mem.cons hh.mem (by (repeat (first | exact find_head | apply find_tail)); done) ?_ | fail)); done)
                        refine d_step (fun _ => hM) ?_
                        refine d_one (i := 19) (by kernel_rfl) rfl ?_
                        try clear hM
                        refine id (w_call hl hh rfl ⟨_, _, rfl, rfl, rfl⟩ rfl cal9 rfl (nxt_pm hpw9 hpi9.hm) (by repeat (first | exact keeps_nil | apply keeps_cons (by repeat (first | exact find_head | apply find_tail)) (by first  | rfl) | exact keeps_self | exact keeps_left | exact keeps_right | exact keeps_swap | apply keeps_mv)) (fun b o m => hh.mem b o (by (repeat (first | exact m | apply List.mem_cons_of_mem)); done)) ?_)
                        clear hl hh a w; intro vc Fc a w hR hl hh
                        obtain ⟨rfl, rfl⟩ := hR
                        try simp only [List.cons_append, List.nil_append] at hh
                        have hM : Mem [(k3, C [.pointer (some ⟨cp9, 0, none⟩)] 24), (k5, C [.pointer (some ⟨mp9, 0, none⟩)] 34)] w := (by (repeat (first | exact Mem.nil | refine Mem.consR hh (by assumption) (by simp) ?_ | refine Mem.cons hh.mem (by (repeat (first | exact find_head | apply find_tail)); done) ?_ | fail)); done)
                        refine d_step (fun _ => hM) ?_
                        refine d_one (i := 20) (by kernel_rfl) rfl ?_
                        try clear hM
                        refine id (w_call hl hh rfl ⟨_, _, rfl, rfl, rfl⟩ rfl cal14 rfl (seq_pm hpw9 hpi9.hm m9.nxt) (by repeat (first | exact keeps_nil | apply keeps_cons (by repeat (first | exact find_head | apply find_tail)) (by first  | rfl) | exact keeps_self | exact keeps_left | exact keeps_right | exact keeps_swap | apply keeps_mv)) (fun b o m => hh.mem b o (by (repeat (first | exact m | apply List.mem_cons_of_mem)); done)) ?_)
                        clear hl hh a w; intro vc Fc a w hR hl hh
                        obtain ⟨rfl, rfl⟩ := hR
                        try simp only [List.cons_append, List.nil_append] at hh
                        rw [← hpi9.rel.nxt] at hl
                        have hM : Mem [(k3, C [.pointer (some ⟨cp9, 0, none⟩)] 24), (k5, C [.pointer (some ⟨mp9, 0, none⟩)] 34)] w := (by (repeat (first | exact Mem.nil | refine Mem.consR hh (by assumption) (by simp) ?_ | refine Mem.cons hh.mem (by (repeat (first | exact find_head | apply find_tail)); done) ?_ | fail)); done)
                        refine d_step (fun _ => hM) ?_
                        refine d_take (i := 21) hl rfl (by kernel_rfl) (by kernel_rfl) (by kernel_rfl) (by kernel_rfl) (by kernel_rfl) rfl ⟨_, _, rfl, rfl, rfl⟩ (fun _ _ _ h => h) hM (fun w hC => r_neq hl rfl rfl) rfl ?_
                        clear hl a; intro a hl
                        try simp only [ne_eq, not_true_eq_false, decide_false, decide_true, decide_not, Bool.not_true, beq_self_eq_true, bne_self_eq_false] at hl
                        refine d_take (i := 22) hl rfl (by kernel_rfl) (by kernel_rfl) (by kernel_rfl) (by kernel_rfl) (by kernel_rfl) rfl trivial (fun _ _ _ h => h) hM (fun w hC => r_pickF hl rfl rfl) rfl ?_
                        clear hl a; intro a hl
                        refine d_done (by kernel_rfl) ?_
                        try clear hM
                        have hl2 := hl.add (t := 3) (hl.add (t := 5) (hl.add (t := 6) (hl.add (t := 7) (hl.add (t := 9) (hl.add (t := 34) (hl.add (t := 35) (hl.add (t := 36) (hl.add (t := 225) (hl.nil) rfl) rfl) rfl) rfl) rfl) rfl) rfl) rfl) rfl; clear hl; have hl := hl2; clear hl2
                        refine then_normal ?_
                        refine c_condF hl rfl ?_
                        refine wp_skip ?_
                        refine then_normal ?_
                        refine c_seq ?_
                        refine c_region ?_
                        refine wl (wl_val hl rfl trivial (r_move hl rfl) ?_)
                        clear hl a; intro a hl
                        refine wl (wl_val hl rfl trivial (r_field hl rfl fld50_3) ?_)
                        clear hl a; intro a hl
                        refine wl (w_load hl hh rfl trivial one29 rfl (by repeat (first | exact find_head | apply find_tail)) (by first | rfl) ?_)
                        clear hl a; intro a hl
                        refine wl (w_call hl hh rfl trivial rfl cal11 rfl (same_pw k3 k5 Z9 cp9 mp9 t9 m9 st9 _ _ hpw9 hpi9 (by assumption) d.B hdB) (by repeat (first | exact keeps_nil | apply keeps_cons (by repeat (first | exact find_head | apply find_tail)) (by first  | rfl) | exact keeps_self | exact keeps_left | exact keeps_right | exact keeps_swap | apply keeps_mv)) ⟨(hh.mem _ _ (Find.mem (by repeat (first | exact find_head | apply find_tail)))), (hh.mem _ _ (Find.mem (by repeat (first | exact find_head | apply find_tail)))), (fun b o m => hh.mem b o (by (repeat (first | exact m | apply List.mem_cons_of_mem)); done))⟩ ?_)
                        clear hl hh a w; intro vc Fc a w hR hl hh
                        obtain ⟨⟨off, rfl, hoff⟩, rfl⟩ := hR
                        try simp only [List.cons_append, List.nil_append] at hh
                        refine wl (wl_val hl rfl trivial (r_move hl rfl) ?_)
                        clear hl a; intro a hl
                        refine wl (wl_val hl rfl trivial (r_extract hl rfl (by simp only [List.getElem?_toArray, List.getElem?_cons_zero, List.getElem?_cons_succ]; rfl)) ?_)
                        clear hl a; intro a hl
                        refine wl (wl_val hl rfl trivial (r_extract hl rfl (by simp only [List.getElem?_toArray, List.getElem?_cons_zero, List.getElem?_cons_succ]; rfl)) ?_)
                        clear hl a; intro a hl
                        refine wl (wl_val hl rfl trivial (r_extract hl rfl (by simp only [List.getElem?_toArray, List.getElem?_cons_zero, List.getElem?_cons_succ]; rfl)) ?_)
                        clear hl a; intro a hl
                        refine wl (w_alloc hl hh rfl trivial zero40 rfl ?_)
                        clear hl hh a w; intro k19 a w hl hh
                        refine wl (w_alloc hl hh rfl trivial zero42 rfl ?_)
                        clear hl hh a w; intro k20 a w hl hh
                        refine wl (w_storeA hl hh trivial agg40 rfl rfl (by repeat (first | exact find_head | apply find_tail)) (by first | rfl | (simp; done) | (simp only [List.getElem?_cons_zero, List.getElem?_cons_succ, Value.cells, List.take_zero, List.take_succ_cons, List.take_nil, List.drop_zero, List.drop_succ_cons, List.drop_nil, List.length_cons, List.length_nil, List.cons_append, List.nil_append, List.append_nil, Nat.zero_add, Nat.add_zero, Nat.reduceAdd, Nat.reduceBEq, Nat.reduceEqDiff, Nat.ble, BEq.rfl, Bool.and_true, Bool.and_self, cond_true, beq_self_eq_true]; rfl) | rfl) (by first | (simp; done) | (simp; omega) | (simp [cfL]; done)) (by first | rfl | (simp; done) | rfl) (by first | (simp only [setL, cfL, List.getElem?_cons_zero, List.getElem?_cons_succ, Value.cells, List.take_zero, List.take_succ_cons, List.take_nil, List.drop_zero, List.drop_succ_cons, List.drop_nil, List.length_cons, List.length_nil, List.cons_append, List.nil_append, List.append_nil, Nat.zero_add, Nat.add_zero, Nat.reduceAdd, Nat.reduceBEq, Nat.reduceEqDiff, Nat.ble, BEq.rfl, Bool.and_true, Bool.and_self, cond_true, beq_self_eq_true]; rfl) | (simp only [setL, List.getElem?_cons_zero, List.getElem?_cons_succ, Value.cells, List.take_zero, List.take_succ_cons, List.take_nil, List.drop_zero, List.drop_succ_cons, List.drop_nil, List.length_cons, List.length_nil, List.cons_append, List.nil_append, List.append_nil, Nat.zero_add, Nat.add_zero, Nat.reduceAdd, Nat.reduceBEq, Nat.reduceEqDiff, Nat.ble, BEq.rfl, Bool.and_true, Bool.and_self, cond_true, beq_self_eq_true]; rfl) | (simp only [setL, List.getElem?_cons_zero, List.getElem?_cons_succ, Value.cells, List.take_zero, List.take_succ_cons, List.take_nil, List.drop_zero, List.drop_succ_cons, List.drop_nil, List.length_cons, List.length_nil, List.cons_append, List.nil_append, List.append_nil, Nat.zero_add, Nat.add_zero, Nat.reduceAdd, Nat.reduceBEq, Nat.reduceEqDiff, Nat.ble, BEq.rfl, Bool.and_true, Bool.and_self, cond_true, beq_self_eq_true]; rfl)) ?_)
                        clear hh w; intro w hh
                        refine wl (w_storeA hl hh trivial agg42 rfl rfl (by repeat (first | exact find_head | apply find_tail)) (by first | rfl | (simp; done) | (simp only [List.getElem?_cons_zero, List.getElem?_cons_succ, Value.cells, List.take_zero, List.take_succ_cons, List.take_nil, List.drop_zero, List.drop_succ_cons, List.drop_nil, List.length_cons, List.length_nil, List.cons_append, List.nil_append, List.append_nil, Nat.zero_add, Nat.add_zero, Nat.reduceAdd, Nat.reduceBEq, Nat.reduceEqDiff, Nat.ble, BEq.rfl, Bool.and_true, Bool.and_self, cond_true, beq_self_eq_true]; rfl) | rfl) (by first | (simp; done) | (simp; omega) | (simp [cfL]; done)) (by first | rfl | (simp; done) | rfl) (by first | (simp only [setL, cfL, List.getElem?_cons_zero, List.getElem?_cons_succ, Value.cells, List.take_zero, List.take_succ_cons, List.take_nil, List.drop_zero, List.drop_succ_cons, List.drop_nil, List.length_cons, List.length_nil, List.cons_append, List.nil_append, List.append_nil, Nat.zero_add, Nat.add_zero, Nat.reduceAdd, Nat.reduceBEq, Nat.reduceEqDiff, Nat.ble, BEq.rfl, Bool.and_true, Bool.and_self, cond_true, beq_self_eq_true]; rfl) | (simp only [setL, List.getElem?_cons_zero, List.getElem?_cons_succ, Value.cells, List.take_zero, List.take_succ_cons, List.take_nil, List.drop_zero, List.drop_succ_cons, List.drop_nil, List.length_cons, List.length_nil, List.cons_append, List.nil_append, List.append_nil, Nat.zero_add, Nat.add_zero, Nat.reduceAdd, Nat.reduceBEq, Nat.reduceEqDiff, Nat.ble, BEq.rfl, Bool.and_true, Bool.and_self, cond_true, beq_self_eq_true]; rfl) | (simp only [setL, List.getElem?_cons_zero, List.getElem?_cons_succ, Value.cells, List.take_zero, List.take_succ_cons, List.take_nil, List.drop_zero, List.drop_succ_cons, List.drop_nil, List.length_cons, List.length_nil, List.cons_append, List.nil_append, List.append_nil, Nat.zero_add, Nat.add_zero, Nat.reduceAdd, Nat.reduceBEq, Nat.reduceEqDiff, Nat.ble, BEq.rfl, Bool.and_true, Bool.and_self, cond_true, beq_self_eq_true]; rfl)) ?_)
                        clear hh w; intro w hh
                        refine wl (wl_val hl rfl trivial (r_assign hl rfl) ?_)
                        clear hl a; intro a hl
                        refine w_nil ?_
                        have hl2 := hl.add (t := 3) (hl.add (t := 5) (hl.add (t := 6) (hl.add (t := 7) (hl.add (t := 21) (hl.add (t := 34) (hl.add (t := 35) (hl.add (t := 36) (hl.nil) rfl) rfl) rfl) rfl) rfl) rfl) rfl) rfl; clear hl; have hl := hl2; clear hl2
                        refine then_normal ?_
                        refine c_seq ?_
                        refine c_region ?_
                        refine wl (wl_val hl rfl trivial (r_move hl rfl) ?_)
                        clear hl a; intro a hl
                        refine wl (wl_val hl rfl trivial (r_not hl rfl) ?_)
                        clear hl a; intro a hl
                        refine w_nil ?_
                        have hl2 := hl.add (t := 3) (hl.add (t := 5) (hl.add (t := 6) (hl.add (t := 7) (hl.add (t := 34) (hl.add (t := 35) (hl.add (t := 36) (hl.add (t := 235) (hl.nil) rfl) rfl) rfl) rfl) rfl) rfl) rfl) rfl; clear hl; have hl := hl2; clear hl2
                        refine then_normal ?_
                        refine c_cond hl rfl ?_ ?_
                        · intro hc17
                          try simp only [decide_eq_true_eq, decide_eq_false_iff_not, Bool.not_eq_true', Bool.not_eq_false', Bool.not_eq_true, Bool.not_eq_false, Bool.and_eq_true, Bool.or_eq_true, Bool.and_eq_false_iff, Bool.or_eq_false_iff, Bool.not_not, ne_eq, Int.not_lt, Int.not_le, Decidable.not_not, beq_iff_eq, bne_iff_ne] at hc17
                          exfalso; first | exact Bool.noConfusion (show false = true by assumption) | exact Bool.noConfusion (show true = false by assumption) | contradiction | omega | (simp at *; done)
                        · intro hc17
                          try simp only [decide_eq_true_eq, decide_eq_false_iff_not, Bool.not_eq_true', Bool.not_eq_false', Bool.not_eq_true, Bool.not_eq_false, Bool.and_eq_true, Bool.or_eq_true, Bool.and_eq_false_iff, Bool.or_eq_false_iff, Bool.not_not, ne_eq, Int.not_lt, Int.not_le, Decidable.not_not, beq_iff_eq, bne_iff_ne] at hc17
                          refine wp_skip ?_
                          refine blk_normal ?_
                          refine then_normal ?_
                          refine c_region ?_
                          first | refine wl (wl_val hl rfl trivial (r_add hl rfl rfl (by simp only [Fits]; omega)) ?_) | refine wl (wl_val hl rfl trivial (r_addW hl rfl rfl) ?_)
                          clear hl a; intro a hl
                          refine wl (wl_val hl rfl trivial (r_move hl rfl) ?_)
                          clear hl a; intro a hl
                          refine w_nil ?_
                          have hl2 := hl.add (t := 3) (hl.add (t := 5) (hl.add (t := 6) (hl.add (t := 7) (hl.add (t := 34) (hl.add (t := 35) (hl.add (t := 36) (hl.nil) rfl) rfl) rfl) rfl) rfl) rfl) rfl; clear hl; have hl := hl2; clear hl2
                          refine then_normal ?_
                          refine ⟨⟨t9, m9, st9, cp9, mp9, Z9, z.i + 1⟩, (by simp only; omega), ⟨⟨hpi9, hpw9⟩, by simp only; omega⟩, hl.addE (t := 36) (hl.addE (t := 3) (hl.addE (t := 5) (hl.addE (t := 6) (hl.addE (t := 7) (hl.addE (t := 34) (hl.addE (t := 35) (hl.nil) rfl (by first | rfl | exact congrArg (Value.int .i64) (i_succ z.i))) rfl (by first | rfl | exact congrArg (Value.int .i64) (i_succ z.i))) rfl (by first | rfl | exact congrArg (Value.int .i64) (i_succ z.i))) rfl (by first | rfl | exact congrArg (Value.int .i64) (i_succ z.i))) rfl (by first | rfl | exact congrArg (Value.int .i64) (i_succ z.i))) rfl (by first | rfl | exact congrArg (Value.int .i64) (i_succ z.i))) rfl (by first | rfl | exact congrArg (Value.int .i64) (i_succ z.i)), hh.keep (by repeat (first | exact keeps_nil | apply keeps_cons (by repeat (first | exact find_head | apply find_tail)) (by first  | rfl) | exact keeps_self | exact keeps_left | exact keeps_right | exact keeps_swap | apply keeps_mv))⟩
                    · intro hc13
                      try simp only [decide_eq_true_eq, decide_eq_false_iff_not, Bool.not_eq_true', Bool.not_eq_false', Bool.not_eq_true, Bool.not_eq_false, Bool.and_eq_true, Bool.or_eq_true, Bool.and_eq_false_iff, Bool.or_eq_false_iff, Bool.not_not, ne_eq, Int.not_lt, Int.not_le, Decidable.not_not, beq_iff_eq, bne_iff_ne] at hc13
                      refine c_seq ?_
                      refine c_region ?_
                      refine wl (wl_val hl rfl trivial (r_eql hl rfl rfl) ?_)
                      clear hl a; intro a hl
                      refine wl (wl_val hl rfl trivial (r_assign hl rfl) ?_)
                      clear hl a; intro a hl
                      refine w_nil ?_
                      have hl2 := hl.add (t := 3) (hl.add (t := 5) (hl.add (t := 6) (hl.add (t := 7) (hl.add (t := 9) (hl.add (t := 34) (hl.add (t := 35) (hl.add (t := 36) (hl.add (t := 195) (hl.nil) rfl) rfl) rfl) rfl) rfl) rfl) rfl) rfl) rfl; clear hl; have hl := hl2; clear hl2
                      refine then_normal ?_
                      refine c_cond hl rfl ?_ ?_
                      · intro hc14
                        try simp only [decide_eq_true_eq, decide_eq_false_iff_not, Bool.not_eq_true', Bool.not_eq_false', Bool.not_eq_true, Bool.not_eq_false, Bool.and_eq_true, Bool.or_eq_true, Bool.and_eq_false_iff, Bool.or_eq_false_iff, Bool.not_not, ne_eq, Int.not_lt, Int.not_le, Decidable.not_not, beq_iff_eq, bne_iff_ne] at hc14
                        refine c_seq ?_
                        refine c_region ?_
                        refine wl (w_load hl hh rfl trivial one24 rfl (by repeat (first | exact find_head | apply find_tail)) (by first | rfl) ?_)
                        clear hl a; intro a hl
                        refine wl (w_call hl hh rfl trivial rfl cal24 rfl (idle_pc hpwz hpiz.si) (by repeat (first | exact keeps_nil | apply keeps_cons (by repeat (first | exact find_head | apply find_tail)) (by first  | rfl) | exact keeps_self | exact keeps_left | exact keeps_right | exact keeps_swap | apply keeps_mv)) trivial ?_)
                        clear hl hh a w; intro vc Fc a w hR hl hh
                        obtain ⟨rfl, hpw1⟩ := hR
                        try simp only [List.cons_append, List.nil_append] at hh
                        replace hh := hh.comm
                        simp only [List.cons_append, List.nil_append, List.append_nil, List.append_assoc] at hh
                        generalize Fc = Z1 at hh hpw1
                        refine w_nil ?_
                        have hl2 := hl.add (t := 3) (hl.add (t := 5) (hl.add (t := 6) (hl.add (t := 7) (hl.add (t := 9) (hl.add (t := 34) (hl.add (t := 35) (hl.add (t := 36) (hl.nil) rfl) rfl) rfl) rfl) rfl) rfl) rfl) rfl; clear hl; have hl := hl2; clear hl2
                        refine then_normal ?_
                        refine c_region ?_
                        refine wl (w_load hl hh rfl trivial one34 rfl (by repeat (first | exact find_head | apply find_tail)) (by first | rfl) ?_)
                        clear hl a; intro a hl
                        refine wl (w_call hl hh rfl trivial rfl cal25 rfl (idle_pm hpw1 hpiz.hm hpiz.cr) (by repeat (first | exact keeps_nil | apply keeps_cons (by repeat (first | exact find_head | apply find_tail)) (by first  | rfl) | exact keeps_self | exact keeps_left | exact keeps_right | exact keeps_swap | apply keeps_mv)) trivial ?_)
                        clear hl hh a w; intro vc Fc a w hR hl hh
                        obtain ⟨rfl, hpw2⟩ := hR
                        try simp only [List.cons_append, List.nil_append] at hh
                        replace hh := hh.comm
                        simp only [List.cons_append, List.nil_append, List.append_nil, List.append_assoc] at hh
                        generalize Fc = Z2 at hh hpw2
                        refine w_nil ?_
                        have hl2 := hl.add (t := 3) (hl.add (t := 5) (hl.add (t := 6) (hl.add (t := 7) (hl.add (t := 9) (hl.add (t := 34) (hl.add (t := 35) (hl.add (t := 36) (hl.nil) rfl) rfl) rfl) rfl) rfl) rfl) rfl) rfl; clear hl; have hl := hl2; clear hl2
                        have hfin : ∃ t9 m9 st9 cp9 mp9 Z9, PI (((z.i + 1 : Nat) : Int) * 137438953472) ((z.i + 1 : Nat) : Int) t9 m9 st9 ∧ PW Z9 cp9 mp9 t9 m9 st9 t9.cfg.sack t9.os ∧ Has [] w0 ((k9, C [.int .u8 d.kd, .int .u32 d.cf.init, .int .u32 d.cf.maxc, .int .u32 d.cf.bn, .int .u32 d.cf.bd, .int .u32 d.cf.abc, .int .u32 d.cf.dupt, .bool d.cf.idle, .int .u32 d.cf.mss, .int .u32 d.cf.start, .bool d.cf.sack, .int .u32 d.A, .int .u32 d.B, .bool d.dup, .int .u8 d.gr, .slice d.p d.dat.length d.cap] 50) :: (k3, C [.pointer (some ⟨cp9, 0, none⟩)] 24) :: (k5, C [.pointer (some ⟨mp9, 0, none⟩)] 34) :: Z9) w := ⟨{ z.t with s := idleP z.t.s }, idleM z.m, z.st, z.cp, z.mp, Z2, ((pi_idle hpiz).mono (by omega) (by omega)), hpw2, hh⟩
                        clear hh
                        obtain ⟨t9, m9, st9, cp9, mp9, Z9, hpi9, hpw9, hh⟩ := hfin
                        have hfl9 := hpi9.si.fl; have pf9 := flightP_U t9.s; have hpu9 := pipeP_U hpi9.si.ok t9.ns t9.bl; have hdu9 := hpi9.si.ok.dups; have pp9 := hpi9.si.ok.phase; have oc9 := hpi9.si.ok.cwnd; have os9 := hpi9.si.ok.ssth; have om9 := hpi9.si.ok.maxc; have oms9 := hpi9.si.ok.mss
                        refine blk_normal ?_
                        refine then_normal ?_
                        refine c_seq ?_
                        refine c_seq ?_
                        refine c_region ?_
                        refine wl (wl_val hl rfl trivial (r_move hl rfl) ?_)
                        clear hl a; intro a hl
                        refine wl (w_call hl hh rfl trivial rfl cal7 rfl (far_pm hpw9 hpi9.hm k5) (by repeat (first | exact keeps_nil | apply keeps_cons (by repeat (first | exact find_head | apply find_tail)) (by first  | rfl) | exact keeps_self | exact keeps_left | exact keeps_right | exact keeps_swap | apply keeps_mv)) ⟨(hh.mem _ _ (Find.mem (by repeat (first | exact find_head | apply find_tail)))), (fun b o m => hh.mem b o (by (repeat (first | exact m | apply List.mem_cons_of_mem)); done))⟩ ?_)
                        clear hl hh a w; intro vc Fc a w hR hl hh
                        obtain ⟨rfl, rfl⟩ := hR
                        try simp only [List.cons_append, List.nil_append] at hh
                        refine w_nil ?_
                        have hl2 := hl.add (t := 3) (hl.add (t := 5) (hl.add (t := 6) (hl.add (t := 7) (hl.add (t := 9) (hl.add (t := 34) (hl.add (t := 35) (hl.add (t := 36) (hl.add (t := 202) (hl.nil) rfl) rfl) rfl) rfl) rfl) rfl) rfl) rfl) rfl; clear hl; have hl := hl2; clear hl2
                        refine then_normal ?_
                        refine c_cond hl rfl ?_ ?_
                        · intro hc15
                          try simp only [decide_eq_true_eq, decide_eq_false_iff_not, Bool.not_eq_true', Bool.not_eq_false', Bool.not_eq_true, Bool.not_eq_false, Bool.and_eq_true, Bool.or_eq_true, Bool.and_eq_false_iff, Bool.or_eq_false_iff, Bool.not_not, ne_eq, Int.not_lt, Int.not_le, Decidable.not_not, beq_iff_eq, bne_iff_ne] at hc15
                          refine wp_exit ?_
                          refine then_exit ?_
                          refine blk_exit ?_
                          refine then_normal ?_
                          refine c_region ?_
                          first | refine wl (wl_val hl rfl trivial (r_add hl rfl rfl (by simp only [Fits]; omega)) ?_) | refine wl (wl_val hl rfl trivial (r_addW hl rfl rfl) ?_)
                          clear hl a; intro a hl
                          refine wl (wl_val hl rfl trivial (r_move hl rfl) ?_)
                          clear hl a; intro a hl
                          refine w_nil ?_
                          have hl2 := hl.add (t := 3) (hl.add (t := 5) (hl.add (t := 6) (hl.add (t := 7) (hl.add (t := 34) (hl.add (t := 35) (hl.add (t := 36) (hl.nil) rfl) rfl) rfl) rfl) rfl) rfl) rfl; clear hl; have hl := hl2; clear hl2
                          refine then_normal ?_
                          refine ⟨⟨t9, m9, st9, cp9, mp9, Z9, z.i + 1⟩, (by simp only; omega), ⟨⟨hpi9, hpw9⟩, by simp only; omega⟩, hl.addE (t := 36) (hl.addE (t := 3) (hl.addE (t := 5) (hl.addE (t := 6) (hl.addE (t := 7) (hl.addE (t := 34) (hl.addE (t := 35) (hl.nil) rfl (by first | rfl | exact congrArg (Value.int .i64) (i_succ z.i))) rfl (by first | rfl | exact congrArg (Value.int .i64) (i_succ z.i))) rfl (by first | rfl | exact congrArg (Value.int .i64) (i_succ z.i))) rfl (by first | rfl | exact congrArg (Value.int .i64) (i_succ z.i))) rfl (by first | rfl | exact congrArg (Value.int .i64) (i_succ z.i))) rfl (by first | rfl | exact congrArg (Value.int .i64) (i_succ z.i))) rfl (by first | rfl | exact congrArg (Value.int .i64) (i_succ z.i)), hh.keep (by repeat (first | exact keeps_nil | apply keeps_cons (by repeat (first | exact find_head | apply find_tail)) (by first  | rfl) | exact keeps_self | exact keeps_left | exact keeps_right | exact keeps_swap | apply keeps_mv))⟩
                        · intro hc15
                          try simp only [decide_eq_true_eq, decide_eq_false_iff_not, Bool.not_eq_true', Bool.not_eq_false', Bool.not_eq_true, Bool.not_eq_false, Bool.and_eq_true, Bool.or_eq_true, Bool.and_eq_false_iff, Bool.or_eq_false_iff, Bool.not_not, ne_eq, Int.not_lt, Int.not_le, Decidable.not_not, beq_iff_eq, bne_iff_ne] at hc15
                          refine wp_skip ?_
                          refine then_normal ?_
                          refine c_seq ?_
                          refine c_seq ?_
                          refine c_draw [(k3, C [.pointer (some ⟨cp9, 0, none⟩)] 24), (k5, C [.pointer (some ⟨mp9, 0, none⟩)] 34)] [] mixed hh ?_
                          clear hh w; intro w hh
                          have hM : Mem [(k3, C [.pointer (some ⟨cp9, 0, none⟩)] 24), (k5, C [.pointer (some ⟨mp9, 0, none⟩)] 34)] w := (by (repeat (first | exact Mem.nil | refine Mem.consR hh (by assumption) (by simp) ?_ | refine Mem.cons hh.mem (by (repeat (first | exact find_head | apply find_tail)); done) ?_ | fail)); done)
                          refine d_take (i := 0) hl rfl (by kernel_rfl) (by kernel_rfl) (by kernel_rfl) (by kernel_rfl) (by kernel_rfl) rfl trivial (fun _ _ _ h => h) hM (fun w hC => r_loadC hl rfl one24 hC (by repeat (first | exact find_head | apply find_tail)) (by first | rfl)) rfl ?_
                          clear hl a; intro a hl
                          refine d_take (i := 2) hl rfl (by kernel_rfl) (by kernel_rfl) (by kernel_rfl) (by kernel_rfl) (by kernel_rfl) rfl trivial (fun _ _ _ h => h) hM (fun w hC => r_loadC hl rfl one34 hC (by repeat (first | exact find_head | apply find_tail)) (by first | rfl)) rfl ?_
                          clear hl a; intro a hl
                          refine d_one (i := 1) (by kernel_rfl) rfl ?_
                          try clear hM
                          refine id (w_call hl hh rfl trivial rfl cal26 rfl (view_pc hpw9 hpi9.si) (by repeat (first | exact keeps_nil | apply keeps_cons (by repeat (first | exact find_head | apply find_tail)) (by first  | rfl) | exact keeps_self | exact keeps_left | exact keeps_right | exact keeps_swap | apply keeps_mv)) (fun b o m => hh.mem b o (by (repeat (first | exact m | apply List.mem_cons_of_mem)); done)) ?_)
                          clear hl hh a w; intro vc Fc a w hR hl hh
                          obtain ⟨rfl, rfl⟩ := hR
                          try simp only [List.cons_append, List.nil_append] at hh
                          simp only [vwc, viewP] at hl
                          have hM : Mem [(k3, C [.pointer (some ⟨cp9, 0, none⟩)] 24), (k5, C [.pointer (some ⟨mp9, 0, none⟩)] 34)] w := (by (repeat (first | exact Mem.nil | refine Mem.consR hh (by assumption) (by simp) ?_ | refine Mem.cons hh.mem (by (repeat (first | exact find_head | apply find_tail)); done) ?_ | fail)); done)
                          refine d_step (fun _ => hM) ?_
                          refine d_one (i := 3) (by kernel_rfl) rfl ?_
                          try clear hM
                          refine id (w_call hl hh rfl trivial rfl cal27 rfl (view_pm hpw9 hpi9 (by omega) (by assumption)) (by repeat (first | exact keeps_nil | apply keeps_cons (by repeat (first | exact find_head | apply find_tail)) (by first  | rfl) | exact keeps_self | exact keeps_left | exact keeps_right | exact keeps_swap | apply keeps_mv)) (fun b o m => hh.mem b o (by (repeat (first | exact m | apply List.mem_cons_of_mem)); done)) ?_)
                          clear hl hh a w; intro vc Fc a w hR hl hh
                          obtain ⟨rfl, rfl⟩ := hR
                          try simp only [List.cons_append, List.nil_append] at hh
                          simp only [vwc, viewP] at hl
                          have hM : Mem [(k3, C [.pointer (some ⟨cp9, 0, none⟩)] 24), (k5, C [.pointer (some ⟨mp9, 0, none⟩)] 34)] w := (by (repeat (first | exact Mem.nil | refine Mem.consR hh (by assumption) (by simp) ?_ | refine Mem.cons hh.mem (by (repeat (first | exact find_head | apply find_tail)); done) ?_ | fail)); done)
                          refine d_step (fun _ => hM) ?_
                          refine d_take (i := 4) hl rfl (by kernel_rfl) (by kernel_rfl) (by kernel_rfl) (by kernel_rfl) (by kernel_rfl) rfl trivial (fun _ _ _ h => h) hM (fun w hC => r_neqA hl rfl rfl eqf61 shp61 (by simp only [unlitL, unlit]; rfl) (by simp only [unlitL, unlit]; rfl) (by first | exact ⟨trivial⟩ | (refine ⟨?_⟩; simp [LitsOk, litOk, Fits]; done) | (refine ⟨?_⟩; simp [LitsOk, litOk, Fits]; omega)) (by first | exact ⟨trivial⟩ | (refine ⟨?_⟩; simp [LitsOk, litOk, Fits]; done) | (refine ⟨?_⟩; simp [LitsOk, litOk, Fits]; omega))) rfl ?_
                          clear hl a; intro a hl
                          simp only [eqLits, litBeq, beq_self_eq_true, Bool.and_self, Bool.and_true, Bool.not_true, decide_true] at hl
                          refine d_take (i := 5) hl rfl (by kernel_rfl) (by kernel_rfl) (by kernel_rfl) (by kernel_rfl) (by kernel_rfl) rfl trivial (fun _ _ _ h => h) hM (fun w hC => r_move hl rfl) rfl ?_
                          clear hl a; intro a hl
                          refine d_take (i := 6) hl rfl (by kernel_rfl) (by kernel_rfl) (by kernel_rfl) (by kernel_rfl) (by kernel_rfl) rfl ⟨_, _, rfl, rfl, rfl⟩ (fun _ _ _ h => h) hM (fun w hC => r_loadC hl rfl one24 hC (by repeat (first | exact find_head | apply find_tail)) (by first | rfl)) rfl ?_
                          clear hl a; intro a hl
                          refine d_take (i := 8) hl rfl (by kernel_rfl) (by kernel_rfl) (by kernel_rfl) (by kernel_rfl) (by kernel_rfl) rfl ⟨_, _, rfl, rfl, rfl⟩ (fun _ _ _ h => h) hM (fun w hC => r_loadC hl rfl one34 hC (by repeat (first | exact find_head | apply find_tail)) (by first | rfl)) rfl ?_
                          clear hl a; intro a hl
                          refine d_take (i := 9) hl rfl (by kernel_rfl) (by kernel_rfl) (by kernel_rfl) (by kernel_rfl) (by kernel_rfl) rfl ⟨_, _, rfl, rfl, rfl⟩ (fun _ _ _ h => h) hM (fun w hC => r_loadC hl rfl one34 hC (by repeat (first | exact find_head | apply find_tail)) (by first | rfl)) rfl ?_
                          clear hl a; intro a hl
                          refine d_one (i := 7) (by kernel_rfl) rfl ?_
                          try clear hM
                          refine id (w_call hl hh rfl ⟨_, _, rfl, rfl, rfl⟩ rfl cal18 rfl (una_pc hpw9) (by repeat (first | exact keeps_nil | apply keeps_cons (by repeat (first | exact find_head | apply find_tail)) (by first  | rfl) | exact keeps_self | exact keeps_left | exact keeps_right | exact keeps_swap | apply keeps_mv)) (fun b o m => hh.mem b o (by (repeat (first | exact m | apply List.mem_cons_of_mem)); done)) ?_)
                          clear hl hh a w; intro vc Fc a w hR hl hh
                          obtain ⟨rfl, rfl⟩ := hR
                          try simp only [List.cons_append, List.nil_append] at hh
                          have hM : Mem [(k3, C [.pointer (some ⟨cp9, 0, none⟩)] 24), (k5, C [.pointer (some ⟨mp9, 0, none⟩)] 34)] w := (by (repeat (first | exact Mem.nil | refine Mem.consR hh (by assumption) (by simp) ?_ | refine Mem.cons hh.mem (by (repeat (first | exact find_head | apply find_tail)); done) ?_ | fail)); done)
                          refine d_step (fun _ => hM) ?_
                          refine d_one (i := 10) (by kernel_rfl) rfl ?_
                          try clear hM
                          refine id (w_call hl hh rfl ⟨_, _, rfl, rfl, rfl⟩ rfl cal10 rfl (una_pm hpw9 hpi9.hm) (by repeat (first | exact keeps_nil | apply keeps_cons (by repeat (first | exact find_head | apply find_tail)) (by first  | rfl) | exact keeps_self | exact keeps_left | exact keeps_right | exact keeps_swap | apply keeps_mv)) (fun b o m => hh.mem b o (by (repeat (first | exact m | apply List.mem_cons_of_mem)); done)) ?_)
                          clear hl hh a w; intro vc Fc a w hR hl hh
                          obtain ⟨rfl, rfl⟩ := hR
                          try simp only [List.cons_append, List.nil_append] at hh
                          have hM : Mem [(k3, C [.pointer (some ⟨cp9, 0, none⟩)] 24), (k5, C [.pointer (some ⟨mp9, 0, none⟩)] 34)] w := (by (repeat (first | exact Mem.nil | refine Mem.consR hh (by assumption) (by simp) ?_ | refine Mem.cons hh.mem (by (repeat (first | exact find_head | apply find_tail)); done) ?_ | fail)); done)
                          refine d_step (fun _ => hM) ?_
                          refine d_one (i := 11) (by kernel_rfl) rfl ?_
                          try clear hM
                          refine id (w_call hl hh rfl ⟨_, _, rfl, rfl, rfl⟩ rfl cal14 rfl (seq_pm hpw9 hpi9.hm m9.una) (by repeat (first | exact keeps_nil | apply keeps_cons (by repeat (first | exact find_head | apply find_tail)) (by first  | rfl) | exact keeps_self | exact keeps_left | exact keeps_right | exact keeps_swap | apply keeps_mv)) (fun b o m => hh.mem b o (by (repeat (first | exact m | apply List.mem_cons_of_mem)); done)) ?_)
                          clear hl hh a w; intro vc Fc a w hR hl hh
                          obtain ⟨rfl, rfl⟩ := hR
                          try simp only [List.cons_append, List.nil_append] at hh
                          rw [← hpi9.rel.una] at hl
                          have hM : Mem [(k3, C [.pointer (some ⟨cp9, 0, none⟩)] 24), (k5, C [.pointer (some ⟨mp9, 0, none⟩)] 34)] w := (by (repeat (first | exact Mem.nil | refine Mem.consR hh (by assumption) (by simp) ?_ | refine Mem.cons hh.mem (by (repeat (first | exact find_head | apply find_tail)); done) ?_ | fail)); done)
                          refine d_step (fun _ => hM) ?_
                          refine d_take (i := 12) hl rfl (by kernel_rfl) (by kernel_rfl) (by kernel_rfl) (by kernel_rfl) (by kernel_rfl) rfl ⟨_, _, rfl, rfl, rfl⟩ (fun _ _ _ h => h) hM (fun w hC => r_neq hl rfl rfl) rfl ?_
                          clear hl a; intro a hl
                          try simp only [ne_eq, not_true_eq_false, decide_false, decide_true, decide_not, Bool.not_true, beq_self_eq_true, bne_self_eq_false] at hl
                          refine d_take (i := 13) hl rfl (by kernel_rfl) (by kernel_rfl) (by kernel_rfl) (by kernel_rfl) (by kernel_rfl) rfl trivial (fun _ _ _ h => h) hM (fun w hC => r_pickF hl rfl rfl) rfl ?_
                          clear hl a; intro a hl
                          refine d_take (i := 14) hl rfl (by kernel_rfl) (by kernel_rfl) (by kernel_rfl) (by kernel_rfl) (by kernel_rfl) rfl trivial (fun _ _ _ h => h) hM (fun w hC => r_move hl rfl) rfl ?_
                          clear hl a; intro a hl
                          refine d_take (i := 15) hl rfl (by kernel_rfl) (by kernel_rfl) (by kernel_rfl) (by kernel_rfl) (by kernel_rfl) rfl ⟨_, _, rfl, rfl, rfl⟩ (fun _ _ _ h => h) hM (fun w hC => r_loadC hl rfl one24 hC (by repeat (first | exact find_head | apply find_tail)) (by first | rfl)) rfl ?_
                          clear hl a; intro a hl
                          refine d_take (i := 17) hl rfl (by kernel_rfl) (by kernel_rfl) (by kernel_rfl) (by kernel_rfl) (by kernel_rfl) rfl ⟨_, _, rfl, rfl, rfl⟩ (fun _ _ _ h => h) hM (fun w hC => r_loadC hl rfl one34 hC (by repeat (first | exact find_head | apply find_tail)) (by first | rfl)) rfl ?_
                          clear hl a; intro a hl
                          refine d_take (i := 18) hl rfl (by kernel_rfl) (by kernel_rfl) (by kernel_rfl) (by kernel_rfl) (by kernel_rfl) rfl ⟨_, _, rfl, rfl, rfl⟩ (fun _ _ _ h => h) hM (fun w hC => r_loadC hl rfl one34 hC (by repeat (first | exact find_head | apply find_tail)) (by first | rfl)) rfl ?_
                          clear hl a; intro a hl
                          refine d_one (i := 16) (by kernel_rfl) rfl ?_
                          try clear hM
                          refine id (w_call hl hh rfl ⟨_, _, rfl, rfl, rfl⟩ rfl cal28 rfl (nxt_pc hpw9) (by repeat (first | exact keeps_nil | apply keeps_cons (by repeat (first | exact find_head | apply find_tail)) (by first  | rfl) | exact keeps_self | exact keeps_left | exact keeps_right | exact keeps_swap | apply keeps_mv)) (fun b o m => hh.mem b o (by (repeat (first | exact m | apply List.mem_cons_of_mem)); done)) ?_)
                          clear hl hh a w; intro vc Fc a w hR hl hh
                          obtain ⟨rfl, rfl⟩ := hR
                          try simp only [List.cons_append, List.nil_append] at hh
                          have hM : Mem [(k3, C [.pointer (some ⟨cp9, 0, none⟩)] 24), (k5, C [.pointer (some ⟨mp9, 0, none⟩)] 34)] w := (by (repeat (first | exact Mem.nil | refine Mem.consR hh (by assumption) (by simp) ?_ | refine Mem.cons hh.mem (by (repeat (first | exact find_head | apply find_tail)); done) ?_ | fail)); done)
                          refine d_step (fun _ => hM) ?_
                          refine d_one (i := 19) (by kernel_rfl) rfl ?_
                          try clear hM
                          refine id (w_call hl hh rfl ⟨_, _, rfl, rfl, rfl⟩ rfl cal9 rfl (nxt_pm hpw9 hpi9.hm) (by repeat (first | exact keeps_nil | apply keeps_cons (by repeat (first | exact find_head | apply find_tail)) (by first  | rfl) | exact keeps_self | exact keeps_left | exact keeps_right | exact keeps_swap | apply keeps_mv)) (fun b o m => hh.mem b o (by (repeat (first | exact m | apply List.mem_cons_of_mem)); done)) ?_)
                          clear hl hh a w; intro vc Fc a w hR hl hh
                          obtain ⟨rfl, rfl⟩ := hR
                          try simp only [List.cons_append, List.nil_append] at hh
                          have hM : Mem [(k3, C [.pointer (some ⟨cp9, 0, none⟩)] 24), (k5, C [.pointer (some ⟨mp9, 0, none⟩)] 34)] w := (by (repeat (first | exact Mem.nil | refine Mem.consR hh (by assumption) (by simp) ?_ | refine Mem.cons hh.mem (by (repeat (first | exact find_head | apply find_tail)); done) ?_ | fail)); done)
                          refine d_step (fun _ => hM) ?_
                          refine d_one (i := 20) (by kernel_rfl) rfl ?_
                          try clear hM
                          refine id (w_call hl hh rfl ⟨_, _, rfl, rfl, rfl⟩ rfl cal14 rfl (seq_pm hpw9 hpi9.hm m9.nxt) (by repeat (first | exact keeps_nil | apply keeps_cons (by repeat (first | exact find_head | apply find_tail)) (by first  | rfl) | exact keeps_self | exact keeps_left | exact keeps_right | exact keeps_swap | apply keeps_mv)) (fun b o m => hh.mem b o (by (repeat (first | exact m | apply List.mem_cons_of_mem)); done)) ?_)
                          clear hl hh a w; intro vc Fc a w hR hl hh
                          obtain ⟨rfl, rfl⟩ := hR
                          try simp only [List.cons_append, List.nil_append] at hh
                          rw [← hpi9.rel.nxt] at hl
                          have hM : Mem [(k3, C [.pointer (some ⟨cp9, 0, none⟩)] 24), (k5, C [.pointer (some ⟨mp9, 0, none⟩)] 34)] w := (by (repeat (first | exact Mem.nil | refine Mem.consR hh (by assumption) (by simp) ?_ | refine Mem.cons hh.mem (by (repeat (first | exact find_head | apply find_tail)); done) ?_ | fail)); done)
                          refine d_step (fun _ => hM) ?_
                          refine d_take (i := 21) hl rfl (by kernel_rfl) (by kernel_rfl) (by kernel_rfl) (by kernel_rfl) (by kernel_rfl) rfl ⟨_, _, rfl, rfl, rfl⟩ (fun _ _ _ h => h) hM (fun w hC => r_neq hl rfl rfl) rfl ?_
                          clear hl a; intro a hl
                          try simp only [ne_eq, not_true_eq_false, decide_false, decide_true, decide_not, Bool.not_true, beq_self_eq_true, bne_self_eq_false] at hl
                          refine d_take (i := 22) hl rfl (by kernel_rfl) (by kernel_rfl) (by kernel_rfl) (by kernel_rfl) (by kernel_rfl) rfl trivial (fun _ _ _ h => h) hM (fun w hC => r_pickF hl rfl rfl) rfl ?_
                          clear hl a; intro a hl
                          refine d_done (by kernel_rfl) ?_
                          try clear hM
                          have hl2 := hl.add (t := 3) (hl.add (t := 5) (hl.add (t := 6) (hl.add (t := 7) (hl.add (t := 9) (hl.add (t := 34) (hl.add (t := 35) (hl.add (t := 36) (hl.add (t := 225) (hl.nil) rfl) rfl) rfl) rfl) rfl) rfl) rfl) rfl) rfl; clear hl; have hl := hl2; clear hl2
                          refine then_normal ?_
                          refine c_condF hl rfl ?_
                          refine wp_skip ?_
                          refine then_normal ?_
                          refine c_seq ?_
                          refine c_region ?_
                          refine wl (wl_val hl rfl trivial (r_move hl rfl) ?_)
                          clear hl a; intro a hl
                          refine wl (wl_val hl rfl trivial (r_field hl rfl fld50_3) ?_)
                          clear hl a; intro a hl
                          refine wl (w_load hl hh rfl trivial one29 rfl (by repeat (first | exact find_head | apply find_tail)) (by first | rfl) ?_)
                          clear hl a; intro a hl
                          refine wl (w_call hl hh rfl trivial rfl cal11 rfl (same_pw k3 k5 Z9 cp9 mp9 t9 m9 st9 _ _ hpw9 hpi9 (by assumption) d.B hdB) (by repeat (first | exact keeps_nil | apply keeps_cons (by repeat (first | exact find_head | apply find_tail)) (by first  | rfl) | exact keeps_self | exact keeps_left | exact keeps_right | exact keeps_swap | apply keeps_mv)) ⟨(hh.mem _ _ (Find.mem (by repeat (first | exact find_head | apply find_tail)))), (hh.mem _ _ (Find.mem (by repeat (first | exact find_head | apply find_tail)))), (fun b o m => hh.mem b o (by (repeat (first | exact m | apply List.mem_cons_of_mem)); done))⟩ ?_)
                          clear hl hh a w; intro vc Fc a w hR hl hh
                          obtain ⟨⟨off, rfl, hoff⟩, rfl⟩ := hR
                          try simp only [List.cons_append, List.nil_append] at hh
                          refine wl (wl_val hl rfl trivial (r_move hl rfl) ?_)
                          clear hl a; intro a hl
                          refine wl (wl_val hl rfl trivial (r_extract hl rfl (by simp only [List.getElem?_toArray, List.getElem?_cons_zero, List.getElem?_cons_succ]; rfl)) ?_)
                          clear hl a; intro a hl
                          refine wl (wl_val hl rfl trivial (r_extract hl rfl (by simp only [List.getElem?_toArray, List.getElem?_cons_zero, List.getElem?_cons_succ]; rfl)) ?_)
                          clear hl a; intro a hl
                          refine wl (wl_val hl rfl trivial (r_extract hl rfl (by simp only [List.getElem?_toArray, List.getElem?_cons_zero, List.getElem?_cons_succ]; rfl)) ?_)
                          clear hl a; intro a hl
                          refine wl (w_alloc hl hh rfl trivial zero40 rfl ?_)
                          clear hl hh a w; intro k19 a w hl hh
                          refine wl (w_alloc hl hh rfl trivial zero42 rfl ?_)
                          clear hl hh a w; intro k20 a w hl hh
                          refine wl (w_storeA hl hh trivial agg40 rfl rfl (by repeat (first | exact find_head | apply find_tail)) (by first | rfl | (simp; done) | (simp only [List.getElem?_cons_zero, List.getElem?_cons_succ, Value.cells, List.take_zero, List.take_succ_cons, List.take_nil, List.drop_zero, List.drop_succ_cons, List.drop_nil, List.length_cons, List.length_nil, List.cons_append, List.nil_append, List.append_nil, Nat.zero_add, Nat.add_zero, Nat.reduceAdd, Nat.reduceBEq, Nat.reduceEqDiff, Nat.ble, BEq.rfl, Bool.and_true, Bool.and_self, cond_true, beq_self_eq_true]; rfl) | rfl) (by first | (simp; done) | (simp; omega) | (simp [cfL]; done)) (by first | rfl | (simp; done) | rfl) (by first | (simp only [setL, cfL, List.getElem?_cons_zero, List.getElem?_cons_succ, Value.cells, List.take_zero, List.take_succ_cons, List.take_nil, List.drop_zero, List.drop_succ_cons, List.drop_nil, List.length_cons, List.length_nil, List.cons_append, List.nil_append, List.append_nil, Nat.zero_add, Nat.add_zero, Nat.reduceAdd, Nat.reduceBEq, Nat.reduceEqDiff, Nat.ble, BEq.rfl, Bool.and_true, Bool.and_self, cond_true, beq_self_eq_true]; rfl) | (simp only [setL, List.getElem?_cons_zero, List.getElem?_cons_succ, Value.cells, List.take_zero, List.take_succ_cons, List.take_nil, List.drop_zero, List.drop_succ_cons, List.drop_nil, List.length_cons, List.length_nil, List.cons_append, List.nil_append, List.append_nil, Nat.zero_add, Nat.add_zero, Nat.reduceAdd, Nat.reduceBEq, Nat.reduceEqDiff, Nat.ble, BEq.rfl, Bool.and_true, Bool.and_self, cond_true, beq_self_eq_true]; rfl) | (simp only [setL, List.getElem?_cons_zero, List.getElem?_cons_succ, Value.cells, List.take_zero, List.take_succ_cons, List.take_nil, List.drop_zero, List.drop_succ_cons, List.drop_nil, List.length_cons, List.length_nil, List.cons_append, List.nil_append, List.append_nil, Nat.zero_add, Nat.add_zero, Nat.reduceAdd, Nat.reduceBEq, Nat.reduceEqDiff, Nat.ble, BEq.rfl, Bool.and_true, Bool.and_self, cond_true, beq_self_eq_true]; rfl)) ?_)
                          clear hh w; intro w hh
                          refine wl (w_storeA hl hh trivial agg42 rfl rfl (by repeat (first | exact find_head | apply find_tail)) (by first | rfl | (simp; done) | (simp only [List.getElem?_cons_zero, List.getElem?_cons_succ, Value.cells, List.take_zero, List.take_succ_cons, List.take_nil, List.drop_zero, List.drop_succ_cons, List.drop_nil, List.length_cons, List.length_nil, List.cons_append, List.nil_append, List.append_nil, Nat.zero_add, Nat.add_zero, Nat.reduceAdd, Nat.reduceBEq, Nat.reduceEqDiff, Nat.ble, BEq.rfl, Bool.and_true, Bool.and_self, cond_true, beq_self_eq_true]; rfl) | rfl) (by first | (simp; done) | (simp; omega) | (simp [cfL]; done)) (by first | rfl | (simp; done) | rfl) (by first | (simp only [setL, cfL, List.getElem?_cons_zero, List.getElem?_cons_succ, Value.cells, List.take_zero, List.take_succ_cons, List.take_nil, List.drop_zero, List.drop_succ_cons, List.drop_nil, List.length_cons, List.length_nil, List.cons_append, List.nil_append, List.append_nil, Nat.zero_add, Nat.add_zero, Nat.reduceAdd, Nat.reduceBEq, Nat.reduceEqDiff, Nat.ble, BEq.rfl, Bool.and_true, Bool.and_self, cond_true, beq_self_eq_true]; rfl) | (simp only [setL, List.getElem?_cons_zero, List.getElem?_cons_succ, Value.cells, List.take_zero, List.take_succ_cons, List.take_nil, List.drop_zero, List.drop_succ_cons, List.drop_nil, List.length_cons, List.length_nil, List.cons_append, List.nil_append, List.append_nil, Nat.zero_add, Nat.add_zero, Nat.reduceAdd, Nat.reduceBEq, Nat.reduceEqDiff, Nat.ble, BEq.rfl, Bool.and_true, Bool.and_self, cond_true, beq_self_eq_true]; rfl) | (simp only [setL, List.getElem?_cons_zero, List.getElem?_cons_succ, Value.cells, List.take_zero, List.take_succ_cons, List.take_nil, List.drop_zero, List.drop_succ_cons, List.drop_nil, List.length_cons, List.length_nil, List.cons_append, List.nil_append, List.append_nil, Nat.zero_add, Nat.add_zero, Nat.reduceAdd, Nat.reduceBEq, Nat.reduceEqDiff, Nat.ble, BEq.rfl, Bool.and_true, Bool.and_self, cond_true, beq_self_eq_true]; rfl)) ?_)
                          clear hh w; intro w hh
                          refine wl (wl_val hl rfl trivial (r_assign hl rfl) ?_)
                          clear hl a; intro a hl
                          refine w_nil ?_
                          have hl2 := hl.add (t := 3) (hl.add (t := 5) (hl.add (t := 6) (hl.add (t := 7) (hl.add (t := 21) (hl.add (t := 34) (hl.add (t := 35) (hl.add (t := 36) (hl.nil) rfl) rfl) rfl) rfl) rfl) rfl) rfl) rfl; clear hl; have hl := hl2; clear hl2
                          refine then_normal ?_
                          refine c_seq ?_
                          refine c_region ?_
                          refine wl (wl_val hl rfl trivial (r_move hl rfl) ?_)
                          clear hl a; intro a hl
                          refine wl (wl_val hl rfl trivial (r_not hl rfl) ?_)
                          clear hl a; intro a hl
                          refine w_nil ?_
                          have hl2 := hl.add (t := 3) (hl.add (t := 5) (hl.add (t := 6) (hl.add (t := 7) (hl.add (t := 34) (hl.add (t := 35) (hl.add (t := 36) (hl.add (t := 235) (hl.nil) rfl) rfl) rfl) rfl) rfl) rfl) rfl) rfl; clear hl; have hl := hl2; clear hl2
                          refine then_normal ?_
                          refine c_cond hl rfl ?_ ?_
                          · intro hc17
                            try simp only [decide_eq_true_eq, decide_eq_false_iff_not, Bool.not_eq_true', Bool.not_eq_false', Bool.not_eq_true, Bool.not_eq_false, Bool.and_eq_true, Bool.or_eq_true, Bool.and_eq_false_iff, Bool.or_eq_false_iff, Bool.not_not, ne_eq, Int.not_lt, Int.not_le, Decidable.not_not, beq_iff_eq, bne_iff_ne] at hc17
                            exfalso; first | exact Bool.noConfusion (show false = true by assumption) | exact Bool.noConfusion (show true = false by assumption) | contradiction | omega | (simp at *; done)
                          · intro hc17
                            try simp only [decide_eq_true_eq, decide_eq_false_iff_not, Bool.not_eq_true', Bool.not_eq_false', Bool.not_eq_true, Bool.not_eq_false, Bool.and_eq_true, Bool.or_eq_true, Bool.and_eq_false_iff, Bool.or_eq_false_iff, Bool.not_not, ne_eq, Int.not_lt, Int.not_le, Decidable.not_not, beq_iff_eq, bne_iff_ne] at hc17
                            refine wp_skip ?_
                            refine blk_normal ?_
                            refine then_normal ?_
                            refine c_region ?_
                            first | refine wl (wl_val hl rfl trivial (r_add hl rfl rfl (by simp only [Fits]; omega)) ?_) | refine wl (wl_val hl rfl trivial (r_addW hl rfl rfl) ?_)
                            clear hl a; intro a hl
                            refine wl (wl_val hl rfl trivial (r_move hl rfl) ?_)
                            clear hl a; intro a hl
                            refine w_nil ?_
                            have hl2 := hl.add (t := 3) (hl.add (t := 5) (hl.add (t := 6) (hl.add (t := 7) (hl.add (t := 34) (hl.add (t := 35) (hl.add (t := 36) (hl.nil) rfl) rfl) rfl) rfl) rfl) rfl) rfl; clear hl; have hl := hl2; clear hl2
                            refine then_normal ?_
                            refine ⟨⟨t9, m9, st9, cp9, mp9, Z9, z.i + 1⟩, (by simp only; omega), ⟨⟨hpi9, hpw9⟩, by simp only; omega⟩, hl.addE (t := 36) (hl.addE (t := 3) (hl.addE (t := 5) (hl.addE (t := 6) (hl.addE (t := 7) (hl.addE (t := 34) (hl.addE (t := 35) (hl.nil) rfl (by first | rfl | exact congrArg (Value.int .i64) (i_succ z.i))) rfl (by first | rfl | exact congrArg (Value.int .i64) (i_succ z.i))) rfl (by first | rfl | exact congrArg (Value.int .i64) (i_succ z.i))) rfl (by first | rfl | exact congrArg (Value.int .i64) (i_succ z.i))) rfl (by first | rfl | exact congrArg (Value.int .i64) (i_succ z.i))) rfl (by first | rfl | exact congrArg (Value.int .i64) (i_succ z.i))) rfl (by first | rfl | exact congrArg (Value.int .i64) (i_succ z.i)), hh.keep (by repeat (first | exact keeps_nil | apply keeps_cons (by repeat (first | exact find_head | apply find_tail)) (by first  | rfl) | exact keeps_self | exact keeps_left | exact keeps_right | exact keeps_swap | apply keeps_mv))⟩
                      · intro hc14
                        try simp only [decide_eq_true_eq, decide_eq_false_iff_not, Bool.not_eq_true', Bool.not_eq_false', Bool.not_eq_true, Bool.not_eq_false, Bool.and_eq_true, Bool.or_eq_true, Bool.and_eq_false_iff, Bool.or_eq_false_iff, Bool.not_not, ne_eq, Int.not_lt, Int.not_le, Decidable.not_not, beq_iff_eq, bne_iff_ne] at hc14
                        have hfin : ∃ t9 m9 st9 cp9 mp9 Z9, PI (((z.i + 1 : Nat) : Int) * 137438953472) ((z.i + 1 : Nat) : Int) t9 m9 st9 ∧ PW Z9 cp9 mp9 t9 m9 st9 t9.cfg.sack t9.os ∧ Has [] w0 ((k9, C [.int .u8 d.kd, .int .u32 d.cf.init, .int .u32 d.cf.maxc, .int .u32 d.cf.bn, .int .u32 d.cf.bd, .int .u32 d.cf.abc, .int .u32 d.cf.dupt, .bool d.cf.idle, .int .u32 d.cf.mss, .int .u32 d.cf.start, .bool d.cf.sack, .int .u32 d.A, .int .u32 d.B, .bool d.dup, .int .u8 d.gr, .slice d.p d.dat.length d.cap] 50) :: (k3, C [.pointer (some ⟨cp9, 0, none⟩)] 24) :: (k5, C [.pointer (some ⟨mp9, 0, none⟩)] 34) :: Z9) w := ⟨z.t, z.m, z.st, z.cp, z.mp, z.Z, (hpiz.mono (by omega) (by omega)), hpwz, (hh.keep (by repeat (first | exact keeps_nil | apply keeps_cons (by repeat (first | exact find_head | apply find_tail)) (by first  | rfl) | exact keeps_self | exact keeps_left | exact keeps_right | exact keeps_swap | apply keeps_mv)))⟩
                        clear hh
                        obtain ⟨t9, m9, st9, cp9, mp9, Z9, hpi9, hpw9, hh⟩ := hfin
                        have hfl9 := hpi9.si.fl; have pf9 := flightP_U t9.s; have hpu9 := pipeP_U hpi9.si.ok t9.ns t9.bl; have hdu9 := hpi9.si.ok.dups; have pp9 := hpi9.si.ok.phase; have oc9 := hpi9.si.ok.cwnd; have os9 := hpi9.si.ok.ssth; have om9 := hpi9.si.ok.maxc; have oms9 := hpi9.si.ok.mss
                        refine wp_skip ?_
                        refine blk_normal ?_
                        refine then_normal ?_
                        refine c_seq ?_
                        refine c_seq ?_
                        refine c_region ?_
                        refine wl (wl_val hl rfl trivial (r_move hl rfl) ?_)
                        clear hl a; intro a hl
                        refine wl (w_call hl hh rfl trivial rfl cal7 rfl (far_pm hpw9 hpi9.hm k5) (by repeat (first | exact keeps_nil | apply keeps_cons (by repeat (first | exact find_head | apply find_tail)) (by first  | rfl) | exact keeps_self | exact keeps_left | exact keeps_right | exact keeps_swap | apply keeps_mv)) ⟨(hh.mem _ _ (Find.mem (by repeat (first | exact find_head | apply find_tail)))), (fun b o m => hh.mem b o (by (repeat (first | exact m | apply List.mem_cons_of_mem)); done))⟩ ?_)
                        clear hl hh a w; intro vc Fc a w hR hl hh
                        obtain ⟨rfl, rfl⟩ := hR
                        try simp only [List.cons_append, List.nil_append] at hh
                        refine w_nil ?_
                        have hl2 := hl.add (t := 3) (hl.add (t := 5) (hl.add (t := 6) (hl.add (t := 7) (hl.add (t := 9) (hl.add (t := 34) (hl.add (t := 35) (hl.add (t := 36) (hl.add (t := 202) (hl.nil) rfl) rfl) rfl) rfl) rfl) rfl) rfl) rfl) rfl; clear hl; have hl := hl2; clear hl2
                        refine then_normal ?_
                        refine c_cond hl rfl ?_ ?_
                        · intro hc15
                          try simp only [decide_eq_true_eq, decide_eq_false_iff_not, Bool.not_eq_true', Bool.not_eq_false', Bool.not_eq_true, Bool.not_eq_false, Bool.and_eq_true, Bool.or_eq_true, Bool.and_eq_false_iff, Bool.or_eq_false_iff, Bool.not_not, ne_eq, Int.not_lt, Int.not_le, Decidable.not_not, beq_iff_eq, bne_iff_ne] at hc15
                          refine wp_exit ?_
                          refine then_exit ?_
                          refine blk_exit ?_
                          refine then_normal ?_
                          refine c_region ?_
                          first | refine wl (wl_val hl rfl trivial (r_add hl rfl rfl (by simp only [Fits]; omega)) ?_) | refine wl (wl_val hl rfl trivial (r_addW hl rfl rfl) ?_)
                          clear hl a; intro a hl
                          refine wl (wl_val hl rfl trivial (r_move hl rfl) ?_)
                          clear hl a; intro a hl
                          refine w_nil ?_
                          have hl2 := hl.add (t := 3) (hl.add (t := 5) (hl.add (t := 6) (hl.add (t := 7) (hl.add (t := 34) (hl.add (t := 35) (hl.add (t := 36) (hl.nil) rfl) rfl) rfl) rfl) rfl) rfl) rfl; clear hl; have hl := hl2; clear hl2
                          refine then_normal ?_
                          refine ⟨⟨t9, m9, st9, cp9, mp9, Z9, z.i + 1⟩, (by simp only; omega), ⟨⟨hpi9, hpw9⟩, by simp only; omega⟩, hl.addE (t := 36) (hl.addE (t := 3) (hl.addE (t := 5) (hl.addE (t := 6) (hl.addE (t := 7) (hl.addE (t := 34) (hl.addE (t := 35) (hl.nil) rfl (by first | rfl | exact congrArg (Value.int .i64) (i_succ z.i))) rfl (by first | rfl | exact congrArg (Value.int .i64) (i_succ z.i))) rfl (by first | rfl | exact congrArg (Value.int .i64) (i_succ z.i))) rfl (by first | rfl | exact congrArg (Value.int .i64) (i_succ z.i))) rfl (by first | rfl | exact congrArg (Value.int .i64) (i_succ z.i))) rfl (by first | rfl | exact congrArg (Value.int .i64) (i_succ z.i))) rfl (by first | rfl | exact congrArg (Value.int .i64) (i_succ z.i)), hh.keep (by repeat (first | exact keeps_nil | apply keeps_cons (by repeat (first | exact find_head | apply find_tail)) (by first  | rfl) | exact keeps_self | exact keeps_left | exact keeps_right | exact keeps_swap | apply keeps_mv))⟩
                        · intro hc15
                          try simp only [decide_eq_true_eq, decide_eq_false_iff_not, Bool.not_eq_true', Bool.not_eq_false', Bool.not_eq_true, Bool.not_eq_false, Bool.and_eq_true, Bool.or_eq_true, Bool.and_eq_false_iff, Bool.or_eq_false_iff, Bool.not_not, ne_eq, Int.not_lt, Int.not_le, Decidable.not_not, beq_iff_eq, bne_iff_ne] at hc15
                          refine wp_skip ?_
                          refine then_normal ?_
                          refine c_seq ?_
                          refine c_seq ?_
                          refine c_draw [(k3, C [.pointer (some ⟨cp9, 0, none⟩)] 24), (k5, C [.pointer (some ⟨mp9, 0, none⟩)] 34)] [] mixed hh ?_
                          clear hh w; intro w hh
                          have hM : Mem [(k3, C [.pointer (some ⟨cp9, 0, none⟩)] 24), (k5, C [.pointer (some ⟨mp9, 0, none⟩)] 34)] w := (by (repeat (first | exact Mem.nil | refine Mem.consR hh (by assumption) (by simp) ?_ | refine Mem.cons hh.mem (by (repeat (first | exact find_head | apply find_tail)); done) ?_ | fail)); done)
                          refine d_take (i := 0) hl rfl (by kernel_rfl) (by kernel_rfl) (by kernel_rfl) (by kernel_rfl) (by kernel_rfl) rfl trivial (fun _ _ _ h => h) hM (fun w hC => r_loadC hl rfl one24 hC (by repeat (first | exact find_head | apply find_tail)) (by first | rfl)) rfl ?_
                          clear hl a; intro a hl
                          refine d_take (i := 2) hl rfl (by kernel_rfl) (by kernel_rfl) (by kernel_rfl) (by kernel_rfl) (by kernel_rfl) rfl trivial (fun _ _ _ h => h) hM (fun w hC => r_loadC hl rfl one34 hC (by repeat (first | exact find_head | apply find_tail)) (by first | rfl)) rfl ?_
                          clear hl a; intro a hl
                          refine d_one (i := 1) (by kernel_rfl) rfl ?_
                          try clear hM
                          refine id (w_call hl hh rfl trivial rfl cal26 rfl (view_pc hpw9 hpi9.si) (by repeat (first | exact keeps_nil | apply keeps_cons (by repeat (first | exact find_head | apply find_tail)) (by first  | rfl) | exact keeps_self | exact keeps_left | exact keeps_right | exact keeps_swap | apply keeps_mv)) (fun b o m => hh.mem b o (by (repeat (first | exact m | apply List.mem_cons_of_mem)); done)) ?_)
                          clear hl hh a w; intro vc Fc a w hR hl hh
                          obtain ⟨rfl, rfl⟩ := hR
                          try simp only [List.cons_append, List.nil_append] at hh
                          simp only [vwc, viewP] at hl
                          have hM : Mem [(k3, C [.pointer (some ⟨cp9, 0, none⟩)] 24), (k5, C [.pointer (some ⟨mp9, 0, none⟩)] 34)] w := (by (repeat (first | exact Mem.nil | refine Mem.consR hh (by assumption) (by simp) ?_ | refine Mem.cons hh.mem (by (repeat (first | exact find_head | apply find_tail)); done) ?_ | fail)); done)
                          refine d_step (fun _ => hM) ?_
                          refine d_one (i := 3) (by kernel_rfl) rfl ?_
                          try clear hM
                          refine id (w_call hl hh rfl trivial rfl cal27 rfl (view_pm hpw9 hpi9 (by omega) (by assumption)) (by repeat (first | exact keeps_nil | apply keeps_cons (by repeat (first | exact find_head | apply find_tail)) (by first  | rfl) | exact keeps_self | exact keeps_left | exact keeps_right | exact keeps_swap | apply keeps_mv)) (fun b o m => hh.mem b o (by (repeat (first | exact m | apply List.mem_cons_of_mem)); done)) ?_)
                          clear hl hh a w; intro vc Fc a w hR hl hh
                          obtain ⟨rfl, rfl⟩ := hR
                          try simp only [List.cons_append, List.nil_append] at hh
                          simp only [vwc, viewP] at hl
                          have hM : Mem [(k3, C [.pointer (some ⟨cp9, 0, none⟩)] 24), (k5, C [.pointer (some ⟨mp9, 0, none⟩)] 34)] w := (by (repeat (first | exact Mem.nil | refine Mem.consR hh (by assumption) (by simp) ?_ | refine Mem.cons hh.mem (by (repeat (first | exact find_head | apply find_tail)); done) ?_ | fail)); done)
                          refine d_step (fun _ => hM) ?_
                          refine d_take (i := 4) hl rfl (by kernel_rfl) (by kernel_rfl) (by kernel_rfl) (by kernel_rfl) (by kernel_rfl) rfl trivial (fun _ _ _ h => h) hM (fun w hC => r_neqA hl rfl rfl eqf61 shp61 (by simp only [unlitL, unlit]; rfl) (by simp only [unlitL, unlit]; rfl) (by first | exact ⟨trivial⟩ | (refine ⟨?_⟩; simp [LitsOk, litOk, Fits]; done) | (refine ⟨?_⟩; simp [LitsOk, litOk, Fits]; omega)) (by first | exact ⟨trivial⟩ | (refine ⟨?_⟩; simp [LitsOk, litOk, Fits]; done) | (refine ⟨?_⟩; simp [LitsOk, litOk, Fits]; omega))) rfl ?_
                          clear hl a; intro a hl
                          simp only [eqLits, litBeq, beq_self_eq_true, Bool.and_self, Bool.and_true, Bool.not_true, decide_true] at hl
                          refine d_take (i := 5) hl rfl (by kernel_rfl) (by kernel_rfl) (by kernel_rfl) (by kernel_rfl) (by kernel_rfl) rfl trivial (fun _ _ _ h => h) hM (fun w hC => r_move hl rfl) rfl ?_
                          clear hl a; intro a hl
                          refine d_take (i := 6) hl rfl (by kernel_rfl) (by kernel_rfl) (by kernel_rfl) (by kernel_rfl) (by kernel_rfl) rfl ⟨_, _, rfl, rfl, rfl⟩ (fun _ _ _ h => h) hM (fun w hC => r_loadC hl rfl one24 hC (by repeat (first | exact find_head | apply find_tail)) (by first | rfl)) rfl ?_
                          clear hl a; intro a hl
                          refine d_take (i := 8) hl rfl (by kernel_rfl) (by kernel_rfl) (by kernel_rfl) (by kernel_rfl) (by kernel_rfl) rfl ⟨_, _, rfl, rfl, rfl⟩ (fun _ _ _ h => h) hM (fun w hC => r_loadC hl rfl one34 hC (by repeat (first | exact find_head | apply find_tail)) (by first | rfl)) rfl ?_
                          clear hl a; intro a hl
                          refine d_take (i := 9) hl rfl (by kernel_rfl) (by kernel_rfl) (by kernel_rfl) (by kernel_rfl) (by kernel_rfl) rfl ⟨_, _, rfl, rfl, rfl⟩ (fun _ _ _ h => h) hM (fun w hC => r_loadC hl rfl one34 hC (by repeat (first | exact find_head | apply find_tail)) (by first | rfl)) rfl ?_
                          clear hl a; intro a hl
                          refine d_one (i := 7) (by kernel_rfl) rfl ?_
                          try clear hM
                          refine id (w_call hl hh rfl ⟨_, _, rfl, rfl, rfl⟩ rfl cal18 rfl (una_pc hpw9) (by repeat (first | exact keeps_nil | apply keeps_cons (by repeat (first | exact find_head | apply find_tail)) (by first  | rfl) | exact keeps_self | exact keeps_left | exact keeps_right | exact keeps_swap | apply keeps_mv)) (fun b o m => hh.mem b o (by (repeat (first | exact m | apply List.mem_cons_of_mem)); done)) ?_)
                          clear hl hh a w; intro vc Fc a w hR hl hh
                          obtain ⟨rfl, rfl⟩ := hR
                          try simp only [List.cons_append, List.nil_append] at hh
                          have hM : Mem [(k3, C [.pointer (some ⟨cp9, 0, none⟩)] 24), (k5, C [.pointer (some ⟨mp9, 0, none⟩)] 34)] w := (by (repeat (first | exact Mem.nil | refine Mem.consR hh (by assumption) (by simp) ?_ | refine Mem.cons hh.mem (by (repeat (first | exact find_head | apply find_tail)); done) ?_ | fail)); done)
                          refine d_step (fun _ => hM) ?_
                          refine d_one (i := 10) (by kernel_rfl) rfl ?_
                          try clear hM
                          refine id (w_call hl hh rfl ⟨_, _, rfl, rfl, rfl⟩ rfl cal10 rfl (una_pm hpw9 hpi9.hm) (by repeat (first | exact keeps_nil | apply keeps_cons (by repeat (first | exact find_head | apply find_tail)) (by first  | rfl) | exact keeps_self | exact keeps_left | exact keeps_right | exact keeps_swap | apply keeps_mv)) (fun b o m => hh.mem b o (by (repeat (first | exact m | apply List.mem_cons_of_mem)); done)) ?_)
                          clear hl hh a w; intro vc Fc a w hR hl hh
                          obtain ⟨rfl, rfl⟩ := hR
                          try simp only [List.cons_append, List.nil_append] at hh
                          have hM : Mem [(k3, C [.pointer (some ⟨cp9, 0, none⟩)] 24), (k5, C [.pointer (some ⟨mp9, 0, none⟩)] 34)] w := (by (repeat (first | exact Mem.nil | refine Mem.consR hh (by assumption) (by simp) ?_ | refine Mem.cons hh.mem (by (repeat (first | exact find_head | apply find_tail)); done) ?_ | fail)); done)
                          refine d_step (fun _ => hM) ?_
                          refine d_one (i := 11) (by kernel_rfl) rfl ?_
                          try clear hM
                          refine id (w_call hl hh rfl ⟨_, _, rfl, rfl, rfl⟩ rfl cal14 rfl (seq_pm hpw9 hpi9.hm m9.una) (by repeat (first | exact keeps_nil | apply keeps_cons (by repeat (first | exact find_head | apply find_tail)) (by first  | rfl) | exact keeps_self | exact keeps_left | exact keeps_right | exact keeps_swap | apply keeps_mv)) (fun b o m => hh.mem b o (by (repeat (first | exact m | apply List.mem_cons_of_mem)); done)) ?_)
                          clear hl hh a w; intro vc Fc a w hR hl hh
                          obtain ⟨rfl, rfl⟩ := hR
                          try simp only [List.cons_append, List.nil_append] at hh
                          rw [← hpi9.rel.una] at hl
                          have hM : Mem [(k3, C [.pointer (some ⟨cp9, 0, none⟩)] 24), (k5, C [.pointer (some ⟨mp9, 0, none⟩)] 34)] w := (by (repeat (first | exact Mem.nil | refine Mem.consR hh (by assumption) (by simp) ?_ | refine Mem.cons hh.mem (by (repeat (first | exact find_head | apply find_tail)); done) ?_ | fail)); done)
                          refine d_step (fun _ => hM) ?_
                          refine d_take (i := 12) hl rfl (by kernel_rfl) (by kernel_rfl) (by kernel_rfl) (by kernel_rfl) (by kernel_rfl) rfl ⟨_, _, rfl, rfl, rfl⟩ (fun _ _ _ h => h) hM (fun w hC => r_neq hl rfl rfl) rfl ?_
                          clear hl a; intro a hl
                          try simp only [ne_eq, not_true_eq_false, decide_false, decide_true, decide_not, Bool.not_true, beq_self_eq_true, bne_self_eq_false] at hl
                          refine d_take (i := 13) hl rfl (by kernel_rfl) (by kernel_rfl) (by kernel_rfl) (by kernel_rfl) (by kernel_rfl) rfl trivial (fun _ _ _ h => h) hM (fun w hC => r_pickF hl rfl rfl) rfl ?_
                          clear hl a; intro a hl
                          refine d_take (i := 14) hl rfl (by kernel_rfl) (by kernel_rfl) (by kernel_rfl) (by kernel_rfl) (by kernel_rfl) rfl trivial (fun _ _ _ h => h) hM (fun w hC => r_move hl rfl) rfl ?_
                          clear hl a; intro a hl
                          refine d_take (i := 15) hl rfl (by kernel_rfl) (by kernel_rfl) (by kernel_rfl) (by kernel_rfl) (by kernel_rfl) rfl ⟨_, _, rfl, rfl, rfl⟩ (fun _ _ _ h => h) hM (fun w hC => r_loadC hl rfl one24 hC (by repeat (first | exact find_head | apply find_tail)) (by first | rfl)) rfl ?_
                          clear hl a; intro a hl
                          refine d_take (i := 17) hl rfl (by kernel_rfl) (by kernel_rfl) (by kernel_rfl) (by kernel_rfl) (by kernel_rfl) rfl ⟨_, _, rfl, rfl, rfl⟩ (fun _ _ _ h => h) hM (fun w hC => r_loadC hl rfl one34 hC (by repeat (first | exact find_head | apply find_tail)) (by first | rfl)) rfl ?_
                          clear hl a; intro a hl
                          refine d_take (i := 18) hl rfl (by kernel_rfl) (by kernel_rfl) (by kernel_rfl) (by kernel_rfl) (by kernel_rfl) rfl ⟨_, _, rfl, rfl, rfl⟩ (fun _ _ _ h => h) hM (fun w hC => r_loadC hl rfl one34 hC (by repeat (first | exact find_head | apply find_tail)) (by first | rfl)) rfl ?_
                          clear hl a; intro a hl
                          refine d_one (i := 16) (by kernel_rfl) rfl ?_
                          try clear hM
                          refine id (w_call hl hh rfl ⟨_, _, rfl, rfl, rfl⟩ rfl cal28 rfl (nxt_pc hpw9) (by repeat (first | exact keeps_nil | apply keeps_cons (by repeat (first | exact find_head | apply find_tail)) (by first  | rfl) | exact keeps_self | exact keeps_left | exact keeps_right | exact keeps_swap | apply keeps_mv)) (fun b o m => hh.mem b o (by (repeat (first | exact m | apply List.mem_cons_of_mem)); done)) ?_)
                          clear hl hh a w; intro vc Fc a w hR hl hh
                          obtain ⟨rfl, rfl⟩ := hR
                          try simp only [List.cons_append, List.nil_append] at hh
                          have hM : Mem [(k3, C [.pointer (some ⟨cp9, 0, none⟩)] 24), (k5, C [.pointer (some ⟨mp9, 0, none⟩)] 34)] w := (by (repeat (first | exact Mem.nil | refine Mem.consR hh (by assumption) (by simp) ?_ | refine Mem.cons hh.mem (by (repeat (first | exact find_head | apply find_tail)); done) ?_ | fail)); done)
                          refine d_step (fun _ => hM) ?_
                          refine d_one (i := 19) (by kernel_rfl) rfl ?_
                          try clear hM
                          refine id (w_call hl hh rfl ⟨_, _, rfl, rfl, rfl⟩ rfl cal9 rfl (nxt_pm hpw9 hpi9.hm) (by repeat (first | exact keeps_nil | apply keeps_cons (by repeat (first | exact find_head | apply find_tail)) (by first  | rfl) | exact keeps_self | exact keeps_left | exact keeps_right | exact keeps_swap | apply keeps_mv)) (fun b o m => hh.mem b o (by (repeat (first | exact m | apply List.mem_cons_of_mem)); done)) ?_)
                          clear hl hh a w; intro vc Fc a w hR hl hh
                          obtain ⟨rfl, rfl⟩ := hR
                          try simp only [List.cons_append, List.nil_append] at hh
                          have hM : Mem [(k3, C [.pointer (some ⟨cp9, 0, none⟩)] 24), (k5, C [.pointer (some ⟨mp9, 0, none⟩)] 34)] w := (by (repeat (first | exact Mem.nil | refine Mem.consR hh (by assumption) (by simp) ?_ | refine Mem.cons hh.mem (by (repeat (first | exact find_head | apply find_tail)); done) ?_ | fail)); done)
                          refine d_step (fun _ => hM) ?_
                          refine d_one (i := 20) (by kernel_rfl) rfl ?_
                          try clear hM
                          refine id (w_call hl hh rfl ⟨_, _, rfl, rfl, rfl⟩ rfl cal14 rfl (seq_pm hpw9 hpi9.hm m9.nxt) (by repeat (first | exact keeps_nil | apply keeps_cons (by repeat (first | exact find_head | apply find_tail)) (by first  | rfl) | exact keeps_self | exact keeps_left | exact keeps_right | exact keeps_swap | apply keeps_mv)) (fun b o m => hh.mem b o (by (repeat (first | exact m | apply List.mem_cons_of_mem)); done)) ?_)
                          clear hl hh a w; intro vc Fc a w hR hl hh
                          obtain ⟨rfl, rfl⟩ := hR
                          try simp only [List.cons_append, List.nil_append] at hh
                          rw [← hpi9.rel.nxt] at hl
                          have hM : Mem [(k3, C [.pointer (some ⟨cp9, 0, none⟩)] 24), (k5, C [.pointer (some ⟨mp9, 0, none⟩)] 34)] w := (by (repeat (first | exact Mem.nil | refine Mem.consR hh (by assumption) (by simp) ?_ | refine Mem.cons hh.mem (by (repeat (first | exact find_head | apply find_tail)); done) ?_ | fail)); done)
                          refine d_step (fun _ => hM) ?_
                          refine d_take (i := 21) hl rfl (by kernel_rfl) (by kernel_rfl) (by kernel_rfl) (by kernel_rfl) (by kernel_rfl) rfl ⟨_, _, rfl, rfl, rfl⟩ (fun _ _ _ h => h) hM (fun w hC => r_neq hl rfl rfl) rfl ?_
                          clear hl a; intro a hl
                          try simp only [ne_eq, not_true_eq_false, decide_false, decide_true, decide_not, Bool.not_true, beq_self_eq_true, bne_self_eq_false] at hl
                          refine d_take (i := 22) hl rfl (by kernel_rfl) (by kernel_rfl) (by kernel_rfl) (by kernel_rfl) (by kernel_rfl) rfl trivial (fun _ _ _ h => h) hM (fun w hC => r_pickF hl rfl rfl) rfl ?_
                          clear hl a; intro a hl
                          refine d_done (by kernel_rfl) ?_
                          try clear hM
                          have hl2 := hl.add (t := 3) (hl.add (t := 5) (hl.add (t := 6) (hl.add (t := 7) (hl.add (t := 9) (hl.add (t := 34) (hl.add (t := 35) (hl.add (t := 36) (hl.add (t := 225) (hl.nil) rfl) rfl) rfl) rfl) rfl) rfl) rfl) rfl) rfl; clear hl; have hl := hl2; clear hl2
                          refine then_normal ?_
                          refine c_condF hl rfl ?_
                          refine wp_skip ?_
                          refine then_normal ?_
                          refine c_seq ?_
                          refine c_region ?_
                          refine wl (wl_val hl rfl trivial (r_move hl rfl) ?_)
                          clear hl a; intro a hl
                          refine wl (wl_val hl rfl trivial (r_field hl rfl fld50_3) ?_)
                          clear hl a; intro a hl
                          refine wl (w_load hl hh rfl trivial one29 rfl (by repeat (first | exact find_head | apply find_tail)) (by first | rfl) ?_)
                          clear hl a; intro a hl
                          refine wl (w_call hl hh rfl trivial rfl cal11 rfl (same_pw k3 k5 Z9 cp9 mp9 t9 m9 st9 _ _ hpw9 hpi9 (by assumption) d.B hdB) (by repeat (first | exact keeps_nil | apply keeps_cons (by repeat (first | exact find_head | apply find_tail)) (by first  | rfl) | exact keeps_self | exact keeps_left | exact keeps_right | exact keeps_swap | apply keeps_mv)) ⟨(hh.mem _ _ (Find.mem (by repeat (first | exact find_head | apply find_tail)))), (hh.mem _ _ (Find.mem (by repeat (first | exact find_head | apply find_tail)))), (fun b o m => hh.mem b o (by (repeat (first | exact m | apply List.mem_cons_of_mem)); done))⟩ ?_)
                          clear hl hh a w; intro vc Fc a w hR hl hh
                          obtain ⟨⟨off, rfl, hoff⟩, rfl⟩ := hR
                          try simp only [List.cons_append, List.nil_append] at hh
                          refine wl (wl_val hl rfl trivial (r_move hl rfl) ?_)
                          clear hl a; intro a hl
                          refine wl (wl_val hl rfl trivial (r_extract hl rfl (by simp only [List.getElem?_toArray, List.getElem?_cons_zero, List.getElem?_cons_succ]; rfl)) ?_)
                          clear hl a; intro a hl
                          refine wl (wl_val hl rfl trivial (r_extract hl rfl (by simp only [List.getElem?_toArray, List.getElem?_cons_zero, List.getElem?_cons_succ]; rfl)) ?_)
                          clear hl a; intro a hl
                          refine wl (wl_val hl rfl trivial (r_extract hl rfl (by simp only [List.getElem?_toArray, List.getElem?_cons_zero, List.getElem?_cons_succ]; rfl)) ?_)
                          clear hl a; intro a hl
                          refine wl (w_alloc hl hh rfl trivial zero40 rfl ?_)
                          clear hl hh a w; intro k19 a w hl hh
                          refine wl (w_alloc hl hh rfl trivial zero42 rfl ?_)
                          clear hl hh a w; intro k20 a w hl hh
                          refine wl (w_storeA hl hh trivial agg40 rfl rfl (by repeat (first | exact find_head | apply find_tail)) (by first | rfl | (simp; done) | (simp only [List.getElem?_cons_zero, List.getElem?_cons_succ, Value.cells, List.take_zero, List.take_succ_cons, List.take_nil, List.drop_zero, List.drop_succ_cons, List.drop_nil, List.length_cons, List.length_nil, List.cons_append, List.nil_append, List.append_nil, Nat.zero_add, Nat.add_zero, Nat.reduceAdd, Nat.reduceBEq, Nat.reduceEqDiff, Nat.ble, BEq.rfl, Bool.and_true, Bool.and_self, cond_true, beq_self_eq_true]; rfl) | rfl) (by first | (simp; done) | (simp; omega) | (simp [cfL]; done)) (by first | rfl | (simp; done) | rfl) (by first | (simp only [setL, cfL, List.getElem?_cons_zero, List.getElem?_cons_succ, Value.cells, List.take_zero, List.take_succ_cons, List.take_nil, List.drop_zero, List.drop_succ_cons, List.drop_nil, List.length_cons, List.length_nil, List.cons_append, List.nil_append, List.append_nil, Nat.zero_add, Nat.add_zero, Nat.reduceAdd, Nat.reduceBEq, Nat.reduceEqDiff, Nat.ble, BEq.rfl, Bool.and_true, Bool.and_self, cond_true, beq_self_eq_true]; rfl) | (simp only [setL, List.getElem?_cons_zero, List.getElem?_cons_succ, Value.cells, List.take_zero, List.take_succ_cons, List.take_nil, List.drop_zero, List.drop_succ_cons, List.drop_nil, List.length_cons, List.length_nil, List.cons_append, List.nil_append, List.append_nil, Nat.zero_add, Nat.add_zero, Nat.reduceAdd, Nat.reduceBEq, Nat.reduceEqDiff, Nat.ble, BEq.rfl, Bool.and_true, Bool.and_self, cond_true, beq_self_eq_true]; rfl) | (simp only [setL, List.getElem?_cons_zero, List.getElem?_cons_succ, Value.cells, List.take_zero, List.take_succ_cons, List.take_nil, List.drop_zero, List.drop_succ_cons, List.drop_nil, List.length_cons, List.length_nil, List.cons_append, List.nil_append, List.append_nil, Nat.zero_add, Nat.add_zero, Nat.reduceAdd, Nat.reduceBEq, Nat.reduceEqDiff, Nat.ble, BEq.rfl, Bool.and_true, Bool.and_self, cond_true, beq_self_eq_true]; rfl)) ?_)
                          clear hh w; intro w hh
                          refine wl (w_storeA hl hh trivial agg42 rfl rfl (by repeat (first | exact find_head | apply find_tail)) (by first | rfl | (simp; done) | (simp only [List.getElem?_cons_zero, List.getElem?_cons_succ, Value.cells, List.take_zero, List.take_succ_cons, List.take_nil, List.drop_zero, List.drop_succ_cons, List.drop_nil, List.length_cons, List.length_nil, List.cons_append, List.nil_append, List.append_nil, Nat.zero_add, Nat.add_zero, Nat.reduceAdd, Nat.reduceBEq, Nat.reduceEqDiff, Nat.ble, BEq.rfl, Bool.and_true, Bool.and_self, cond_true, beq_self_eq_true]; rfl) | rfl) (by first | (simp; done) | (simp; omega) | (simp [cfL]; done)) (by first | rfl | (simp; done) | rfl) (by first | (simp only [setL, cfL, List.getElem?_cons_zero, List.getElem?_cons_succ, Value.cells, List.take_zero, List.take_succ_cons, List.take_nil, List.drop_zero, List.drop_succ_cons, List.drop_nil, List.length_cons, List.length_nil, List.cons_append, List.nil_append, List.append_nil, Nat.zero_add, Nat.add_zero, Nat.reduceAdd, Nat.reduceBEq, Nat.reduceEqDiff, Nat.ble, BEq.rfl, Bool.and_true, Bool.and_self, cond_true, beq_self_eq_true]; rfl) | (simp only [setL, List.getElem?_cons_zero, List.getElem?_cons_succ, Value.cells, List.take_zero, List.take_succ_cons, List.take_nil, List.drop_zero, List.drop_succ_cons, List.drop_nil, List.length_cons, List.length_nil, List.cons_append, List.nil_append, List.append_nil, Nat.zero_add, Nat.add_zero, Nat.reduceAdd, Nat.reduceBEq, Nat.reduceEqDiff, Nat.ble, BEq.rfl, Bool.and_true, Bool.and_self, cond_true, beq_self_eq_true]; rfl) | (simp only [setL, List.getElem?_cons_zero, List.getElem?_cons_succ, Value.cells, List.take_zero, List.take_succ_cons, List.take_nil, List.drop_zero, List.drop_succ_cons, List.drop_nil, List.length_cons, List.length_nil, List.cons_append, List.nil_append, List.append_nil, Nat.zero_add, Nat.add_zero, Nat.reduceAdd, Nat.reduceBEq, Nat.reduceEqDiff, Nat.ble, BEq.rfl, Bool.and_true, Bool.and_self, cond_true, beq_self_eq_true]; rfl)) ?_)
                          clear hh w; intro w hh
                          refine wl (wl_val hl rfl trivial (r_assign hl rfl) ?_)
                          clear hl a; intro a hl
                          refine w_nil ?_
                          have hl2 := hl.add (t := 3) (hl.add (t := 5) (hl.add (t := 6) (hl.add (t := 7) (hl.add (t := 21) (hl.add (t := 34) (hl.add (t := 35) (hl.add (t := 36) (hl.nil) rfl) rfl) rfl) rfl) rfl) rfl) rfl) rfl; clear hl; have hl := hl2; clear hl2
                          refine then_normal ?_
                          refine c_seq ?_
                          refine c_region ?_
                          refine wl (wl_val hl rfl trivial (r_move hl rfl) ?_)
                          clear hl a; intro a hl
                          refine wl (wl_val hl rfl trivial (r_not hl rfl) ?_)
                          clear hl a; intro a hl
                          refine w_nil ?_
                          have hl2 := hl.add (t := 3) (hl.add (t := 5) (hl.add (t := 6) (hl.add (t := 7) (hl.add (t := 34) (hl.add (t := 35) (hl.add (t := 36) (hl.add (t := 235) (hl.nil) rfl) rfl) rfl) rfl) rfl) rfl) rfl) rfl; clear hl; have hl := hl2; clear hl2
                          refine then_normal ?_
                          refine c_cond hl rfl ?_ ?_
                          · intro hc17
                            try simp only [decide_eq_true_eq, decide_eq_false_iff_not, Bool.not_eq_true', Bool.not_eq_false', Bool.not_eq_true, Bool.not_eq_false, Bool.and_eq_true, Bool.or_eq_true, Bool.and_eq_false_iff, Bool.or_eq_false_iff, Bool.not_not, ne_eq, Int.not_lt, Int.not_le, Decidable.not_not, beq_iff_eq, bne_iff_ne] at hc17
                            exfalso; first | exact Bool.noConfusion (show false = true by assumption) | exact Bool.noConfusion (show true = false by assumption) | contradiction | omega | (simp at *; done)
                          · intro hc17
                            try simp only [decide_eq_true_eq, decide_eq_false_iff_not, Bool.not_eq_true', Bool.not_eq_false', Bool.not_eq_true, Bool.not_eq_false, Bool.and_eq_true, Bool.or_eq_true, Bool.and_eq_false_iff, Bool.or_eq_false_iff, Bool.not_not, ne_eq, Int.not_lt, Int.not_le, Decidable.not_not, beq_iff_eq, bne_iff_ne] at hc17
                            refine wp_skip ?_
                            refine blk_normal ?_
                            refine then_normal ?_
                            refine c_region ?_
                            first | refine wl (wl_val hl rfl trivial (r_add hl rfl rfl (by simp only [Fits]; omega)) ?_) | refine wl (wl_val hl rfl trivial (r_addW hl rfl rfl) ?_)
                            clear hl a; intro a hl
                            refine wl (wl_val hl rfl trivial (r_move hl rfl) ?_)
                            clear hl a; intro a hl
                            refine w_nil ?_
                            have hl2 := hl.add (t := 3) (hl.add (t := 5) (hl.add (t := 6) (hl.add (t := 7) (hl.add (t := 34) (hl.add (t := 35) (hl.add (t := 36) (hl.nil) rfl) rfl) rfl) rfl) rfl) rfl) rfl; clear hl; have hl := hl2; clear hl2
                            refine then_normal ?_
                            refine ⟨⟨t9, m9, st9, cp9, mp9, Z9, z.i + 1⟩, (by simp only; omega), ⟨⟨hpi9, hpw9⟩, by simp only; omega⟩, hl.addE (t := 36) (hl.addE (t := 3) (hl.addE (t := 5) (hl.addE (t := 6) (hl.addE (t := 7) (hl.addE (t := 34) (hl.addE (t := 35) (hl.nil) rfl (by first | rfl | exact congrArg (Value.int .i64) (i_succ z.i))) rfl (by first | rfl | exact congrArg (Value.int .i64) (i_succ z.i))) rfl (by first | rfl | exact congrArg (Value.int .i64) (i_succ z.i))) rfl (by first | rfl | exact congrArg (Value.int .i64) (i_succ z.i))) rfl (by first | rfl | exact congrArg (Value.int .i64) (i_succ z.i))) rfl (by first | rfl | exact congrArg (Value.int .i64) (i_succ z.i))) rfl (by first | rfl | exact congrArg (Value.int .i64) (i_succ z.i)), hh.keep (by repeat (first | exact keeps_nil | apply keeps_cons (by repeat (first | exact find_head | apply find_tail)) (by first  | rfl) | exact keeps_self | exact keeps_left | exact keeps_right | exact keeps_swap | apply keeps_mv))⟩
      · intro hc1
        try simp only [decide_eq_true_eq, decide_eq_false_iff_not, Bool.not_eq_true', Bool.not_eq_false', Bool.not_eq_true, Bool.not_eq_false, Bool.and_eq_true, Bool.or_eq_true, Bool.and_eq_false_iff, Bool.or_eq_false_iff, Bool.not_not, ne_eq, Int.not_lt, Int.not_le, Decidable.not_not, beq_iff_eq, bne_iff_ne] at hc1
        refine wp_exit ?_
        refine then_exit ?_
        refine then_exit ?_
        refine blk_exit ?_
        refine then_normal ?_
        refine c_seq ?_
        refine c_region ?_
        refine wl (wl_val hl rfl trivial (r_assign hl rfl) ?_)
        clear hl a; intro a hl
        refine w_nil ?_
        have hl2 := hl.add (t := 2) (hl.nil) rfl; clear hl; have hl := hl2; clear hl2
        refine then_normal ?_
        refine wp_ret ?_
        refine f_ret1 (F' := []) hl hh rfl rfl (by repeat (first | exact keeps_nil | apply keeps_cons (by repeat (first | exact find_head | apply find_tail)) (by first  | rfl) | exact keeps_self | exact keeps_left | exact keeps_right | exact keeps_swap | apply keeps_mv)) ?_
        exact ⟨rfl, rfl⟩
end Go.Proofs.Qxb6500912aGreatDoor

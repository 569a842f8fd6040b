import Derived.Test.Qxb6500911aDoorA24
namespace Go.Proofs.Qxb6500911aDoor
open Go.Eng
set_option linter.unusedVariables false
set_option linter.unusedSimpArgs false
theorem cal11 : callable Tryd.prog 11 = true := by kernel_rfl
theorem cal12 : callable Tryd.prog 12 = true := by kernel_rfl
theorem one24 : oneOk Tryd.prog 24 = true := by kernel_rfl
theorem agg32 : aggOk Tryd.prog 32 4 = true := by kernel_rfl
theorem zero32 : zeroOk Tryd.prog 32 (.agg #[(.int .u8 0), (.int .i64 0), (.int .i64 0), (.int .i64 0)]) := by unfold zeroOk; kernel_rfl
theorem cal13 : callable Tryd.prog 13 = true := by kernel_rfl
theorem fldT61_1 : fieldTOk Tryd.prog 61 1 16 59 = true := by kernel_rfl
theorem fld28_0 : fieldOk Tryd.prog 28 0 0 = true := by kernel_rfl
theorem cal25 : callable Tryd.prog 25 = true := by kernel_rfl
theorem cal20 : callable Tryd.prog 20 = true := by kernel_rfl
theorem cal26 : callable Tryd.prog 26 = true := by kernel_rfl
theorem fld64_0 : fieldOk Tryd.prog 64 0 0 = true := by kernel_rfl
theorem fld64_2 : fieldOk Tryd.prog 64 2 2 = true := by kernel_rfl
theorem fld64_3 : fieldOk Tryd.prog 64 3 3 = true := by kernel_rfl
theorem fld64_1 : fieldOk Tryd.prog 64 1 1 = true := by kernel_rfl
theorem fld28_2 : fieldOk Tryd.prog 28 2 2 = true := by kernel_rfl
attribute [local irreducible] sysL

structure L5Z where
  g : Gs
  M : Mm
  i : Nat
structure P5 where
  i : Nat
theorem sys_bt {bg : Nat} {M : Mm} {w : World} (h : Mem (sysL bg M) w) : Mem (tbL M.bt M.ft M.Et) w := by unfold sysL at h; exact (mem_app (mem_app h).2).2

set_option maxHeartbeats 8000000 in
theorem law5 (sb : Nat) (c : List Value) (T : TypeId) (fr : Nat × Nat) (p : Option Addr) (n cap : Nat) (ops : List DO) (hn : n = ops.length) (hlen : n ≤ 9223372036854775807) (h : Ops sb c p cap ops) (tT : TypeId) (tf : Nat × Nat) : SpK Tryd.prog 5 #[.slice p n cap] (fun w => OpsIn sb c T fr ops w ∧ w.heap[0]? = some (.cells ⟨tabL⟩ tT tf)) [] (fun v F' => v = .bool true ∧ F' = []) := by
  refine f_enter (args := [.slice p n cap]) Tryd.func5 rfl Tryd.ntmps5 rfl ?_
  intro w0 w a hpre hl hh
  simp only [slotsFrom, Nat.reduceAdd] at hl
  refine c_seq ?_
  refine c_region ?_
  refine wl (wl_val hl rfl trivial (r_assign hl rfl) ?_)
  clear hl a; intro a hl
  refine w_nil ?_
  have hl2 := hl.add (t := 0) (hl.nil) rfl; clear hl; have hl := hl2; clear hl2
  refine then_normal ?_
  refine c_seq ?_
  refine c_seq ?_
  refine c_region ?_
  refine wl (wl_val hl rfl trivial (r_move hl rfl) ?_)
  clear hl a; intro a hl
  refine wl (w_call hl hh rfl trivial rfl cal11 rfl (small_spec p n cap hlen) (by repeat (first | exact keeps_nil | apply keeps_cons (by repeat (first | exact find_head | apply find_tail | apply find_skip)) (by first  | rfl) | exact keeps_self | exact keeps_left | apply keeps_app | apply keeps_mv | apply keeps_skip)) trivial ?_)
  clear hl hh a w; intro vc Fc a w hR hl hh
  obtain ⟨rfl, rfl⟩ := hR
  try simp only [List.cons_append, List.nil_append, List.append_assoc, List.append_nil] at hh
  refine wl (wl_val hl rfl trivial (r_not hl rfl) ?_)
  clear hl a; intro a hl
  refine w_nil ?_
  have hl2 := hl.add (t := 0) (hl.add (t := 16) (hl.nil) rfl) rfl; clear hl; have hl := hl2; clear hl2
  refine then_normal ?_
  refine c_cond hl rfl ?_ ?_
  · intro hc0
    try simp only [decide_eq_true_eq, decide_eq_false_iff_not, Bool.not_eq_true', Bool.not_eq_false', Bool.not_eq_true, Bool.not_eq_false, Bool.and_eq_true, Bool.or_eq_true, Bool.and_eq_false_iff, Bool.or_eq_false_iff, Bool.not_not, ne_eq, Int.not_lt, Int.not_le, Decidable.not_not, beq_iff_eq, bne_iff_ne] at hc0
    refine c_seq ?_
    refine c_region ?_
    refine wl (wl_val hl rfl trivial (r_assign hl rfl) ?_)
    clear hl a; intro a hl
    refine w_nil ?_
    have hl2 := hl.add (t := 2) (hl.nil) rfl; clear hl; have hl := hl2; clear hl2
    refine then_normal ?_
    refine wp_ret ?_
    refine then_ret ?_
    refine f_ret1 (F' := []) hl hh rfl rfl (by repeat (first | exact keeps_nil | apply keeps_cons (by repeat (first | exact find_head | apply find_tail | apply find_skip)) (by first  | rfl) | exact keeps_self | exact keeps_left | apply keeps_app | apply keeps_mv | apply keeps_skip)) ?_
    exact ⟨rfl, rfl⟩
  · intro hc0
    try simp only [decide_eq_true_eq, decide_eq_false_iff_not, Bool.not_eq_true', Bool.not_eq_false', Bool.not_eq_true, Bool.not_eq_false, Bool.and_eq_true, Bool.or_eq_true, Bool.and_eq_false_iff, Bool.or_eq_false_iff, Bool.not_not, ne_eq, Int.not_lt, Int.not_le, Decidable.not_not, beq_iff_eq, bne_iff_ne] at hc0
    have hn6 : n ≤ 65536 := by simpa using hc0
    refine wp_skip ?_
    refine then_normal ?_
    refine c_seq ?_
    refine c_region ?_
    refine wl (w_call hl hh rfl trivial rfl cal12 rfl (fresh_spec) (by repeat (first | exact keeps_nil | apply keeps_cons (by repeat (first | exact find_head | apply find_tail | apply find_skip)) (by first  | rfl) | exact keeps_self | exact keeps_left | apply keeps_app | apply keeps_mv | apply keeps_skip)) trivial ?_)
    clear hl hh a w; intro vc Fc a w hR hl hh
    obtain ⟨bg, bm, bt, rfl, hF0⟩ := hR
    try simp only [List.cons_append, List.nil_append, List.append_assoc, List.append_nil] at hh
    subst hF0
    refine wl (w_alloc hl hh rfl trivial zero28 rfl ?_)
    clear hl hh a w; intro k3 a w hl hh
    refine wl (w_storeA hl hh trivial agg28 rfl rfl (by repeat (first | exact find_head | apply find_tail | apply find_skip)) (by first | rfl | (simp; done) | exact hrd | rfl) (by first | (simp; done) | (simp; omega)) (by first | rfl | (simp; done) | rfl) (by first | (simp only [setL, List.getElem?_cons_zero, List.getElem?_cons_succ, Value.cells, List.take_zero, List.take_succ_cons, List.take_nil, List.drop_zero, List.drop_succ_cons, List.drop_nil, List.length_cons, List.length_nil, List.cons_append, List.nil_append, List.append_nil, Nat.zero_add, Nat.add_zero, Nat.reduceAdd, Nat.reduceBEq, Nat.reduceEqDiff, Nat.ble, BEq.rfl, Bool.and_true, Bool.and_self, cond_true, beq_self_eq_true]; rfl)) ?_)
    clear hh w; intro w hh
    refine w_nil ?_
    have hl2 := hl.add (t := 0) (hl.add (t := 3) (hl.nil) rfl) rfl; clear hl; have hl := hl2; clear hl2
    refine then_normal ?_
    refine c_seq ?_
    refine c_seq ?_
    refine c_region ?_
    refine wl (wl_val hl rfl trivial (r_move hl rfl) ?_)
    clear hl a; intro a hl
    refine wl (wl_val hl rfl trivial (r_lenS hl rfl slc22) ?_)
    clear hl a; intro a hl
    refine wl (wl_val hl rfl trivial (r_move hl rfl) ?_)
    clear hl a; intro a hl
    refine w_nil ?_
    have hl2 := hl.add (t := 3) (hl.add (t := 18) (hl.add (t := 19) (hl.add (t := 20) (hl.nil) rfl) rfl) rfl) rfl; clear hl; have hl := hl2; clear hl2
    refine then_normal ?_
    refine wp_block ?_
    obtain ⟨KS0, hKS0, hk⟩ := (hl.add (t := 3) (hl.add (t := 18) (hl.add (t := 19) (hl.nil) rfl) rfl) rfl).name
    obtain ⟨HS0, hHS0, hh2⟩ := hh.nameT (A := []) (U := (sysL bg (M00 bm bt))) ((by repeat (first | exact keeps_nil | exact keeps_self | exact keeps_left | apply keeps_app | apply keeps_mv | apply keeps_skip)))
    refine c_loop (α := L5Z) (fun z => ops.length - z.i) (fun z a w => (z.i ≤ ops.length ∧ SysF z.g z.M ∧ GI (40 * z.i) (400 * z.i) z.g ∧ MIall z.g ∧ z.M.bm = bm ∧ z.M.bt = bt) ∧ Sl 110 ([(20, .int .i64 (z.i : Int))] ++ KS0) a ∧ Has _ w0 ([] ++ (HS0 ++ (sysL bg z.M))) w) ⟨g00, M00 bm bt, 0⟩ ⟨⟨Nat.zero_le _, sys00 bm bt, by simpa using GI00, MI00, rfl, rfl⟩, hl.addE (t := 20) (hk) rfl (by first | rfl), hh2⟩ ?_
    clear hk hh2 hl hh a w
    intro z a w hI
    obtain ⟨⟨hzi, hS, hG, hM, hbm, hbt⟩, hl, hh⟩ := hI
    subst hKS0; subst hHS0
    simp only [List.cons_append, List.nil_append, List.append_nil, List.append_assoc] at hl hh
    refine c_seq ?_
    refine c_region ?_
    refine wl (wl_val hl rfl trivial (r_lss hl rfl rfl) ?_)
    clear hl a; intro a hl
    refine w_nil ?_
    have hl2 := hl.add (t := 3) (hl.add (t := 18) (hl.add (t := 19) (hl.add (t := 20) (hl.add (t := 21) (hl.nil) rfl) rfl) rfl) rfl) rfl; clear hl; have hl := hl2; clear hl2
    refine then_normal ?_
    refine c_seq ?_
    refine c_cond hl rfl ?_ ?_
    · intro hc1
      try simp only [decide_eq_true_eq, decide_eq_false_iff_not, Bool.not_eq_true', Bool.not_eq_false', Bool.not_eq_true, Bool.not_eq_false, Bool.and_eq_true, Bool.or_eq_true, Bool.and_eq_false_iff, Bool.or_eq_false_iff, Bool.not_not, ne_eq, Int.not_lt, Int.not_le, Decidable.not_not, beq_iff_eq, bne_iff_ne] at hc1
      obtain ⟨so, hso, hat⟩ := h.at_ (by omega)
      subst hso
      obtain ⟨o, hoi⟩ : ∃ o, ops[z.i]? = some o := ⟨_, List.getElem?_eq_getElem (by omega)⟩
      have hopv := hat _ o hoi
      have hok := h.ok o (List.mem_of_getElem? hoi)
      have hin := hpre.1 (by omega)
      have hoa := hok.a; have hob := hok.b; have hoc := hok.c; have hokk := hok.k
      have hzn : z.i < n := by omega
      refine wp_skip ?_
      refine then_normal ?_
      refine c_seq ?_
      refine wp_block ?_
      refine c_seq ?_
      refine c_region ?_
      refine wl (wl_val hl rfl trivial (r_indexS hl rfl rfl slc22 (by omega) (by omega) (by first | (simp only [Int.reduceToNat]; rfl) | exact toNat_add1 _ | exact toNat_add2 _ _ | exact toNat_emod _ _ | exact Int.toNat_natCast _ | rfl)) ?_)
      clear hl a; intro a hl
      first | refine wl (w_loadA hl hh rfl trivial agg32 rfl (by repeat (first | exact find_head | apply find_tail | apply find_skip)) (by first | exact hrd | rfl | (simp only [List.getElem?_cons_zero, List.getElem?_cons_succ, Value.cells, List.take_zero, List.take_succ_cons, List.take_nil, List.drop_zero, List.drop_succ_cons, List.drop_nil, List.length_cons, List.length_nil, List.cons_append, List.nil_append, List.append_nil, Nat.zero_add, Nat.add_zero, Nat.reduceAdd, Nat.reduceBEq, Nat.reduceEqDiff, Nat.ble, BEq.rfl, Bool.and_true, Bool.and_self, cond_true, beq_self_eq_true]; rfl)) (by first | rfl | (simp; done)) ?_) | refine wl (w_loadRA hl hh rfl trivial agg32 rfl hin (by simp) hopv rfl ?_)
      clear hl a; intro a hl
      refine wl (w_alloc hl hh rfl trivial zero32 rfl ?_)
      clear hl hh a w; intro k5 a w hl hh
      refine wl (w_storeA hl hh trivial agg32 rfl rfl (by repeat (first | exact find_head | apply find_tail | apply find_skip)) (by first | rfl | (simp; done) | exact hrd | rfl) (by first | (simp; done) | (simp; omega)) (by first | rfl | (simp; done) | rfl) (by first | (simp only [setL, List.getElem?_cons_zero, List.getElem?_cons_succ, Value.cells, List.take_zero, List.take_succ_cons, List.take_nil, List.drop_zero, List.drop_succ_cons, List.drop_nil, List.length_cons, List.length_nil, List.cons_append, List.nil_append, List.append_nil, Nat.zero_add, Nat.add_zero, Nat.reduceAdd, Nat.reduceBEq, Nat.reduceEqDiff, Nat.ble, BEq.rfl, Bool.and_true, Bool.and_self, cond_true, beq_self_eq_true]; rfl)) ?_)
      clear hh w; intro w hh
      refine w_nil ?_
      have hl2 := hl.add (t := 3) (hl.add (t := 5) (hl.add (t := 18) (hl.add (t := 19) (hl.add (t := 20) (hl.nil) rfl) rfl) rfl) rfl) rfl; clear hl; have hl := hl2; clear hl2
      refine then_normal ?_
      refine c_seq ?_
      refine c_region ?_
      refine wl (wl_val hl rfl trivial (r_field hl rfl fld28_0) ?_)
      clear hl a; intro a hl
      refine wl (w_load hl hh rfl trivial one24 rfl (by repeat (first | exact find_head | apply find_tail | apply find_skip)) (by first | rfl | exact fl_cell egc_len hy rfl jk | rfl) ?_)
      clear hl a; intro a hl
      first | refine wl (w_loadA hl hh rfl trivial agg32 rfl (by repeat (first | exact find_head | apply find_tail | apply find_skip)) (by first | exact hrd | rfl | (simp only [List.getElem?_cons_zero, List.getElem?_cons_succ, Value.cells, List.take_zero, List.take_succ_cons, List.take_nil, List.drop_zero, List.drop_succ_cons, List.drop_nil, List.length_cons, List.length_nil, List.cons_append, List.nil_append, List.append_nil, Nat.zero_add, Nat.add_zero, Nat.reduceAdd, Nat.reduceBEq, Nat.reduceEqDiff, Nat.ble, BEq.rfl, Bool.and_true, Bool.and_self, cond_true, beq_self_eq_true]; rfl)) (by first | rfl | (simp; done)) ?_) | refine wl (w_loadRA hl hh rfl trivial agg32 rfl hin (by simp) hopv rfl ?_)
      clear hl a; intro a hl
      refine wl (w_call hl hh rfl trivial rfl cal13 rfl (step_spec hS bg tT tf (40 * z.i) (400 * z.i) ⟨by omega, by omega⟩ (by omega) (by omega) hG o.k o.a o.b o.c hoa) (by repeat (first | exact keeps_nil | apply keeps_cons (by repeat (first | exact find_head | apply find_tail | apply find_skip)) (by first  | rfl) | exact keeps_self | exact keeps_left | apply keeps_app | apply keeps_mv | apply keeps_skip)) (pt_law hh hpre.2 (by repeat (first | exact keeps_nil | apply keeps_cons (by repeat (first | exact find_head | apply find_tail | apply find_skip)) (by first  | rfl) | exact keeps_self | exact keeps_left | apply keeps_app | apply keeps_mv | apply keeps_skip))) ?_)
      clear hl hh a w; intro vc Fc a w hR hl hh
      obtain ⟨rfl, M2, hF2, hS2, hG2, hbm2, hbt2⟩ := hR
      try simp only [List.cons_append, List.nil_append, List.append_assoc, List.append_nil] at hh
      subst hF2
      obtain ⟨g2, hg2⟩ : ∃ z_, z_ = (stepG z.g ⟨o.k, o.a, o.b, o.c⟩).1 := ⟨_, rfl⟩
      obtain ⟨cd, hcd⟩ : ∃ z_, z_ = (stepG z.g ⟨o.k, o.a, o.b, o.c⟩).2.1 := ⟨_, rfl⟩
      obtain ⟨wk, hwk⟩ : ∃ z_, z_ = (stepG z.g ⟨o.k, o.a, o.b, o.c⟩).2.2 := ⟨_, rfl⟩
      rw [← hg2] at hS2 hG2
      rw [← hcd, ← hwk] at hl
      have hG3 : GI (40 * ((z.i + 1 : Nat) : Int)) (400 * ((z.i + 1 : Nat) : Int)) g2 := by
        rw [show 40 * ((z.i + 1 : Nat) : Int) = 40 * (z.i : Int) + 40 by omega, show 400 * ((z.i + 1 : Nat) : Int) = 400 * (z.i : Int) + 400 by omega]; exact hG2
      refine w_nil ?_
      have hl2 := hl.add (t := 3) (hl.add (t := 18) (hl.add (t := 19) (hl.add (t := 20) (hl.nil) rfl) rfl) rfl) rfl; clear hl; have hl := hl2; clear hl2
      have hM2 : MIall g2 := by rw [hg2]; exact step_MI hG ⟨by omega, by omega⟩ (by omega) (by omega) hM
      refine then_normal ?_
      refine c_seq ?_
      refine c_region ?_
      refine wl (wl_val hl rfl trivial (r_assign hl rfl) ?_)
      clear hl a; intro a hl
      refine w_nil ?_
      have hl2 := hl.add (t := 3) (hl.add (t := 6) (hl.add (t := 18) (hl.add (t := 19) (hl.add (t := 20) (hl.nil) rfl) rfl) rfl) rfl) rfl; clear hl; have hl := hl2; clear hl2
      refine then_normal ?_
      refine wp_block ?_
      obtain ⟨KS1, hKS1, hk⟩ := (hl.add (t := 3) (hl.add (t := 18) (hl.add (t := 19) (hl.add (t := 20) (hl.nil) rfl) rfl) rfl) rfl).name
      obtain ⟨HS1, hHS1, hh2⟩ := hh.name (keeps_nil)
      refine c_loop (α := Nat) (fun t => 16 - t) (fun t a w => (t ≤ 16) ∧ Sl 110 ([(6, .int .i64 (t : Int))] ++ KS1) a ∧ Has _ w0 ([] ++ HS1) w) 0 ⟨(by omega), hl.addE (t := 6) (hk) rfl (by first | rfl), hh2⟩ ?_
      clear hk hh2 hl hh a w
      intro t a w hI
      obtain ⟨ht16, hl, hh⟩ := hI
      subst hKS1; subst hHS1
      simp only [List.cons_append, List.nil_append, List.append_nil, List.append_assoc] at hl hh
      refine c_seq ?_
      refine c_seq ?_
      refine c_region ?_
      refine wl (wl_val hl rfl trivial (r_move hl rfl) ?_)
      clear hl a; intro a hl
      refine wl (wl_val hl rfl trivial (r_lss hl rfl rfl) ?_)
      clear hl a; intro a hl
      refine w_nil ?_
      have hl2 := hl.add (t := 3) (hl.add (t := 6) (hl.add (t := 18) (hl.add (t := 19) (hl.add (t := 20) (hl.add (t := 29) (hl.nil) rfl) rfl) rfl) rfl) rfl) rfl; clear hl; have hl := hl2; clear hl2
      refine then_normal ?_
      refine c_cond hl rfl ?_ ?_
      · intro hc2
        try simp only [decide_eq_true_eq, decide_eq_false_iff_not, Bool.not_eq_true', Bool.not_eq_false', Bool.not_eq_true, Bool.not_eq_false, Bool.and_eq_true, Bool.or_eq_true, Bool.and_eq_false_iff, Bool.or_eq_false_iff, Bool.not_not, ne_eq, Int.not_lt, Int.not_le, Decidable.not_not, beq_iff_eq, bne_iff_ne] at hc2
        refine wp_skip ?_
        refine then_normal ?_
        refine c_seq ?_
        refine wp_block ?_
        refine c_seq ?_
        refine c_region ?_
        refine wl (wl_val hl rfl trivial (r_field hl rfl fld28_0) ?_)
        clear hl a; intro a hl
        refine wl (w_load hl hh rfl trivial one24 rfl (by repeat (first | exact find_head | apply find_tail | apply find_skip)) (by first | rfl | exact fl_cell egc_len hy rfl jk | rfl) ?_)
        clear hl a; intro a hl
        refine wl (wl_val hl rfl trivial (r_move hl rfl) ?_)
        clear hl a; intro a hl
        refine wl (w_call hl hh rfl trivial rfl cal25 rfl (succs_spec hS2 bg (40 * ((z.i + 1 : Nat) : Int)) (400 * ((z.i + 1 : Nat) : Int)) ⟨by omega, by omega⟩ hG3 t (by omega)) (by repeat (first | exact keeps_nil | apply keeps_cons (by repeat (first | exact find_head | apply find_tail | apply find_skip)) (by first  | rfl) | exact keeps_self | exact keeps_left | apply keeps_app | apply keeps_mv | apply keeps_skip)) (memK (E := sysL bg M2) hh (by repeat (first | exact keeps_nil | apply keeps_cons (by repeat (first | exact find_head | apply find_tail | apply find_skip)) (by first  | rfl) | exact keeps_self | exact keeps_left | apply keeps_app | apply keeps_mv | apply keeps_skip))) ?_)
        clear hl hh a w; intro vc Fc a w hR hl hh
        obtain ⟨rfl, rfl⟩ := hR
        try simp only [List.cons_append, List.nil_append, List.append_assoc, List.append_nil] at hh
        have hep9 := hG3.ep.bd t (by omega)
        refine wl (wl_val hl rfl trivial (r_move hl rfl) ?_)
        clear hl a; intro a hl
        refine wl (wl_val hl rfl trivial (r_extract hl rfl (by simp only [List.getElem?_toArray, List.getElem?_cons_zero, List.getElem?_cons_succ]; rfl)) ?_)
        clear hl a; intro a hl
        refine wl (wl_val hl rfl trivial (r_extract hl rfl (by simp only [List.getElem?_toArray, List.getElem?_cons_zero, List.getElem?_cons_succ]; rfl)) ?_)
        clear hl a; intro a hl
        refine wl (wl_val hl rfl trivial (r_assign hl rfl) ?_)
        clear hl a; intro a hl
        refine wl (wl_val hl rfl trivial (r_assign hl rfl) ?_)
        clear hl a; intro a hl
        refine w_nil ?_
        have hl2 := hl.add (t := 3) (hl.add (t := 6) (hl.add (t := 7) (hl.add (t := 8) (hl.add (t := 18) (hl.add (t := 19) (hl.add (t := 20) (hl.nil) rfl) rfl) rfl) rfl) rfl) rfl) rfl; clear hl; have hl := hl2; clear hl2
        refine then_normal ?_
        refine c_seq ?_
        refine c_seq ?_
        refine c_region ?_
        refine wl (wl_val hl rfl trivial (r_move hl rfl) ?_)
        clear hl a; intro a hl
        refine wl (wl_val hl rfl trivial (r_field hl rfl fld28_0) ?_)
        clear hl a; intro a hl
        refine wl (w_load hl hh rfl trivial one24 rfl (by repeat (first | exact find_head | apply find_tail | apply find_skip)) (by first | rfl | exact fl_cell egc_len hy rfl jk | rfl) ?_)
        clear hl a; intro a hl
        refine wl (wl_val hl rfl trivial (r_move hl rfl) ?_)
        clear hl a; intro a hl
        refine wl (w_call hl hh rfl trivial rfl cal20 rfl (epoch_spec hS2 bg t (by omega)) (by repeat (first | exact keeps_nil | apply keeps_cons (by repeat (first | exact find_head | apply find_tail | apply find_skip)) (by first  | rfl) | exact keeps_self | exact keeps_left | apply keeps_app | apply keeps_mv | apply keeps_skip)) (memK (E := sysL bg M2) hh (by repeat (first | exact keeps_nil | apply keeps_cons (by repeat (first | exact find_head | apply find_tail | apply find_skip)) (by first  | rfl) | exact keeps_self | exact keeps_left | apply keeps_app | apply keeps_mv | apply keeps_skip))) ?_)
        clear hl hh a w; intro vc Fc a w hR hl hh
        obtain ⟨rfl, rfl⟩ := hR
        try simp only [List.cons_append, List.nil_append, List.append_assoc, List.append_nil] at hh
        refine wl (wl_val hl rfl trivial (r_neq hl rfl rfl) ?_)
        clear hl a; intro a hl
        refine wl (wl_val hl rfl trivial (r_move hl rfl) ?_)
        clear hl a; intro a hl
        refine sl_split (t := 45) hl rfl ?_ ?_
        · intro hg1; clear hl; intro hl
          try simp only [decide_eq_true_eq, decide_eq_false_iff_not, Bool.not_eq_true', Bool.not_eq_false', Bool.not_eq_true, Bool.not_eq_false, Bool.and_eq_true, Bool.or_eq_true, Bool.and_eq_false_iff, Bool.or_eq_false_iff, Bool.not_not, ne_eq, Int.not_lt, Int.not_le, Decidable.not_not, beq_iff_eq, bne_iff_ne] at hg1
          exfalso; first | contradiction | omega
        · intro hg1; clear hl; intro hl
          try simp only [decide_eq_true_eq, decide_eq_false_iff_not, Bool.not_eq_true', Bool.not_eq_false', Bool.not_eq_true, Bool.not_eq_false, Bool.and_eq_true, Bool.or_eq_true, Bool.and_eq_false_iff, Bool.or_eq_false_iff, Bool.not_not, ne_eq, Int.not_lt, Int.not_le, Decidable.not_not, beq_iff_eq, bne_iff_ne] at hg1
          refine wl (wl_val hl rfl ⟨_, _, rfl, rfl, rfl⟩ (r_field hl rfl fld28_0) ?_)
          clear hl a; intro a hl
          refine wl (w_load hl hh rfl ⟨_, _, rfl, rfl, rfl⟩ one24 rfl (by repeat (first | exact find_head | apply find_tail | apply find_skip)) (by first | rfl | exact fl_cell egc_len hy rfl jk | rfl) ?_)
          clear hl a; intro a hl
          refine wl (wl_val hl rfl ⟨_, _, rfl, rfl, rfl⟩ (r_move hl rfl) ?_)
          clear hl a; intro a hl
          refine wl (wl_val hl rfl ⟨_, _, rfl, rfl, rfl⟩ (r_move hl rfl) ?_)
          clear hl a; intro a hl
          refine wl (w_call hl hh rfl ⟨_, _, rfl, rfl, rfl⟩ rfl cal26 rfl (still_spec hS2 bg t (by omega) _) (by repeat (first | exact keeps_nil | apply keeps_cons (by repeat (first | exact find_head | apply find_tail | apply find_skip)) (by first  | rfl) | exact keeps_self | exact keeps_left | apply keeps_app | apply keeps_mv | apply keeps_skip)) (memK (E := sysL bg M2) hh (by repeat (first | exact keeps_nil | apply keeps_cons (by repeat (first | exact find_head | apply find_tail | apply find_skip)) (by first  | rfl) | exact keeps_self | exact keeps_left | apply keeps_app | apply keeps_mv | apply keeps_skip))) ?_)
          clear hl hh a w; intro vc Fc a w hR hl hh
          obtain ⟨rfl, rfl⟩ := hR
          try simp only [List.cons_append, List.nil_append, List.append_assoc, List.append_nil] at hh
          refine wl (wl_val hl rfl ⟨_, _, rfl, rfl, rfl⟩ (r_not hl rfl) ?_)
          clear hl a; intro a hl
          refine wl (wl_val hl rfl trivial (r_pickF hl rfl rfl) ?_)
          clear hl a; intro a hl
          refine wl (wl_val hl rfl trivial (r_move hl rfl) ?_)
          clear hl a; intro a hl
          refine sl_split (t := 53) hl rfl ?_ ?_
          · intro hg2; clear hl; intro hl
            try simp only [decide_eq_true_eq, decide_eq_false_iff_not, Bool.not_eq_true', Bool.not_eq_false', Bool.not_eq_true, Bool.not_eq_false, Bool.and_eq_true, Bool.or_eq_true, Bool.and_eq_false_iff, Bool.or_eq_false_iff, Bool.not_not, ne_eq, Int.not_lt, Int.not_le, Decidable.not_not, beq_iff_eq, bne_iff_ne] at hg2
            exfalso; first | contradiction | omega
          · intro hg2; clear hl; intro hl
            try simp only [decide_eq_true_eq, decide_eq_false_iff_not, Bool.not_eq_true', Bool.not_eq_false', Bool.not_eq_true, Bool.not_eq_false, Bool.and_eq_true, Bool.or_eq_true, Bool.and_eq_false_iff, Bool.or_eq_false_iff, Bool.not_not, ne_eq, Int.not_lt, Int.not_le, Decidable.not_not, beq_iff_eq, bne_iff_ne] at hg2
            refine wl (wl_val hl rfl ⟨_, _, rfl, rfl, rfl⟩ (r_field hl rfl fld28_0) ?_)
            clear hl a; intro a hl
            refine wl (w_load hl hh rfl ⟨_, _, rfl, rfl, rfl⟩ one24 rfl (by repeat (first | exact find_head | apply find_tail | apply find_skip)) (by first | rfl | exact fl_cell egc_len hy rfl jk | rfl) ?_)
            clear hl a; intro a hl
            refine wl (wl_val hl rfl ⟨_, _, rfl, rfl, rfl⟩ (r_move hl rfl) ?_)
            clear hl a; intro a hl
            refine wl (wl_val hl rfl ⟨_, _, rfl, rfl, rfl⟩ (r_move hl rfl) ?_)
            clear hl a; intro a hl
            first | refine wl (wl_val hl rfl ⟨_, _, rfl, rfl, rfl⟩ (r_add hl rfl rfl (by simp only [Fits]; omega)) ?_) | refine wl (wl_val hl rfl ⟨_, _, rfl, rfl, rfl⟩ (r_addM wm_u64 hl rfl rfl) ?_)
            clear hl a; intro a hl
            refine wl (w_call hl hh rfl ⟨_, _, rfl, rfl, rfl⟩ rfl cal26 rfl (still_spec hS2 bg t (by omega) _) (by repeat (first | exact keeps_nil | apply keeps_cons (by repeat (first | exact find_head | apply find_tail | apply find_skip)) (by first  | rfl) | exact keeps_self | exact keeps_left | apply keeps_app | apply keeps_mv | apply keeps_skip)) (memK (E := sysL bg M2) hh (by repeat (first | exact keeps_nil | apply keeps_cons (by repeat (first | exact find_head | apply find_tail | apply find_skip)) (by first  | rfl) | exact keeps_self | exact keeps_left | apply keeps_app | apply keeps_mv | apply keeps_skip))) ?_)
            clear hl hh a w; intro vc Fc a w hR hl hh
            obtain ⟨rfl, rfl⟩ := hR
            try simp only [List.cons_append, List.nil_append, List.append_assoc, List.append_nil] at hh
            refine wl (wl_val hl rfl trivial (r_pickF hl rfl rfl) ?_)
            clear hl a; intro a hl
            refine w_nil ?_
            have hl2 := hl.add (t := 3) (hl.add (t := 6) (hl.add (t := 7) (hl.add (t := 8) (hl.add (t := 18) (hl.add (t := 19) (hl.add (t := 20) (hl.add (t := 60) (hl.nil) rfl) rfl) rfl) rfl) rfl) rfl) rfl) rfl; clear hl; have hl := hl2; clear hl2
            refine then_normal ?_
            refine c_cond hl rfl ?_ ?_
            · intro hc3
              try simp only [decide_eq_true_eq, decide_eq_false_iff_not, Bool.not_eq_true', Bool.not_eq_false', Bool.not_eq_true, Bool.not_eq_false, Bool.and_eq_true, Bool.or_eq_true, Bool.and_eq_false_iff, Bool.or_eq_false_iff, Bool.not_not, ne_eq, Int.not_lt, Int.not_le, Decidable.not_not, beq_iff_eq, bne_iff_ne] at hc3
              exfalso; first | contradiction | omega
            · intro hc3
              try simp only [decide_eq_true_eq, decide_eq_false_iff_not, Bool.not_eq_true', Bool.not_eq_false', Bool.not_eq_true, Bool.not_eq_false, Bool.and_eq_true, Bool.or_eq_true, Bool.and_eq_false_iff, Bool.or_eq_false_iff, Bool.not_not, ne_eq, Int.not_lt, Int.not_le, Decidable.not_not, beq_iff_eq, bne_iff_ne] at hc3
              refine wp_skip ?_
              refine then_normal ?_
              refine c_seq ?_
              refine c_region ?_
              refine wl (wl_val hl rfl trivial (r_assign hl rfl) ?_)
              clear hl a; intro a hl
              refine w_nil ?_
              have hl2 := hl.add (t := 3) (hl.add (t := 6) (hl.add (t := 7) (hl.add (t := 8) (hl.add (t := 9) (hl.add (t := 18) (hl.add (t := 19) (hl.add (t := 20) (hl.nil) rfl) rfl) rfl) rfl) rfl) rfl) rfl) rfl; clear hl; have hl := hl2; clear hl2
              refine then_normal ?_
              refine c_seq ?_
              refine c_seq ?_
              refine c_draw [(k3, C [.pointer (some ⟨bg, 0, none⟩), .pointer (some ⟨bm, 0, none⟩), .pointer (some ⟨bt, 0, none⟩)] 28)] [] mixed hh ?_
              clear hh w; intro w hh
              have hM : Mem [(k3, C [.pointer (some ⟨bg, 0, none⟩), .pointer (some ⟨bm, 0, none⟩), .pointer (some ⟨bt, 0, none⟩)] 28)] w := (memK hh (by repeat (first | exact keeps_nil | apply keeps_cons (by repeat (first | exact find_head | apply find_tail | apply find_skip)) (by first  | rfl) | exact keeps_self | exact keeps_left | apply keeps_app | apply keeps_mv | apply keeps_skip)))
              refine d_take (i := 0) hl rfl (by kernel_rfl) (by kernel_rfl) (by kernel_rfl) (by kernel_rfl) (by kernel_rfl) rfl trivial (fun _ _ _ h => h) hM (fun w hC => r_field hl rfl fld28_0) rfl ?_
              clear hl a; intro a hl
              refine d_take (i := 1) hl rfl (by kernel_rfl) (by kernel_rfl) (by kernel_rfl) (by kernel_rfl) (by kernel_rfl) rfl trivial (fun _ _ _ h => h) hM (fun w hC => r_loadC hl rfl one24 hC (by repeat (first | exact find_head | apply find_tail | apply find_skip)) (by first | rfl | exact fl_cell egc_len hy rfl jk | rfl)) rfl ?_
              clear hl a; intro a hl
              refine d_take (i := 2) hl rfl (by kernel_rfl) (by kernel_rfl) (by kernel_rfl) (by kernel_rfl) (by kernel_rfl) rfl trivial (fun _ _ _ h => h) hM (fun w hC => r_move hl rfl) rfl ?_
              clear hl a; intro a hl
              refine d_take (i := 7) hl rfl (by kernel_rfl) (by kernel_rfl) (by kernel_rfl) (by kernel_rfl) (by kernel_rfl) rfl trivial (fun _ _ _ h => h) hM (fun w hC => r_move hl rfl) rfl ?_
              clear hl a; intro a hl
              refine d_one (i := 3) (by kernel_rfl) rfl ?_
              try clear hM
              refine id (w_call hl hh rfl trivial rfl cal23 rfl (home_spec t (by omega)) (by repeat (first | exact keeps_nil | apply keeps_cons (by repeat (first | exact find_head | apply find_tail | apply find_skip)) (by first  | rfl) | exact keeps_self | exact keeps_left | apply keeps_app | apply keeps_mv | apply keeps_skip)) trivial ?_)
              clear hl hh a w; intro vc Fc a w hR hl hh
              obtain ⟨rfl, rfl⟩ := hR
              try simp only [List.cons_append, List.nil_append, List.append_assoc, List.append_nil] at hh
              have hM : Mem [(k3, C [.pointer (some ⟨bg, 0, none⟩), .pointer (some ⟨bm, 0, none⟩), .pointer (some ⟨bt, 0, none⟩)] 28)] w := (memK hh (by repeat (first | exact keeps_nil | apply keeps_cons (by repeat (first | exact find_head | apply find_tail | apply find_skip)) (by first  | rfl) | exact keeps_self | exact keeps_left | apply keeps_app | apply keeps_mv | apply keeps_skip)))
              refine d_step (fun _ => hM) ?_
              refine d_one (i := 4) (by kernel_rfl) rfl ?_
              try clear hM
              refine id (w_call hl hh rfl trivial rfl cal22 rfl (shard_spec hS2 bg (40 * ((z.i + 1 : Nat) : Int)) (400 * ((z.i + 1 : Nat) : Int)) ⟨by omega, by omega⟩ hG3 (t % 4) (by omega)) (by repeat (first | exact keeps_nil | apply keeps_cons (by repeat (first | exact find_head | apply find_tail | apply find_skip)) (by first  | rfl) | exact keeps_self | exact keeps_left | apply keeps_app | apply keeps_mv | apply keeps_skip)) (memK (E := sysL bg M2) hh (by repeat (first | exact keeps_nil | apply keeps_cons (by repeat (first | exact find_head | apply find_tail | apply find_skip)) (by first  | rfl) | exact keeps_self | exact keeps_left | apply keeps_app | apply keeps_mv | apply keeps_skip))) ?_)
              clear hl hh a w; intro vc Fc a w hR hl hh
              obtain ⟨ve, rfl, hRe⟩ := hR
              try simp only [List.cons_append, List.nil_append, List.append_assoc, List.append_nil] at hh
              generalize Fc = Ee at hh hRe
              obtain ⟨es, hes⟩ : ∃ z_, z_ = edN (wsK g2.ws (t % 4)) 16 := ⟨_, rfl⟩
              rw [← hes] at hRe
              obtain ⟨pe, ce, hpe⟩ := row_val hRe
              subst hpe
              have hel : es.length ≤ 100000000000 := by rw [hes]; exact edK_len hG3 ⟨by omega, by omega⟩ (t % 4)
              have hpq : prF t (g2.ep t) es = maskN (nt (g2.ws t) (g2.ep t)) 16 := by rw [hes]; exact prF_eq (by omega) (hG3.ok t (by omega))
              have hM : Mem [(k3, C [.pointer (some ⟨bg, 0, none⟩), .pointer (some ⟨bm, 0, none⟩), .pointer (some ⟨bt, 0, none⟩)] 28)] w := (memK hh (by repeat (first | exact keeps_nil | apply keeps_cons (by repeat (first | exact find_head | apply find_tail | apply find_skip)) (by first  | rfl) | exact keeps_self | exact keeps_left | apply keeps_app | apply keeps_mv | apply keeps_skip)))
              refine d_step (fun _ => hM) ?_
              refine d_take (i := 5) hl rfl (by kernel_rfl) (by kernel_rfl) (by kernel_rfl) (by kernel_rfl) (by kernel_rfl) rfl trivial (fun _ _ _ h => h) hM (fun w hC => r_fieldV hl rfl fldT61_1 one59 (arrL_get (show 16 < 17 by decide))) rfl ?_
              clear hl a; intro a hl
              refine d_take (i := 6) hl rfl (by kernel_rfl) (by kernel_rfl) (by kernel_rfl) (by kernel_rfl) (by kernel_rfl) rfl trivial (fun _ _ _ h => h) hM (fun w hC => r_lenS hl rfl slc59) rfl ?_
              clear hl a; intro a hl
              refine d_done (by kernel_rfl) ?_
              try clear hM
              have hl2 := hl.add (t := 3) (hl.add (t := 6) (hl.add (t := 7) (hl.add (t := 8) (hl.add (t := 9) (hl.add (t := 18) (hl.add (t := 19) (hl.add (t := 20) (hl.add (t := 66) (hl.add (t := 67) (hl.add (t := 68) (hl.nil) rfl) rfl) rfl) rfl) rfl) rfl) rfl) rfl) rfl) rfl) rfl; clear hl; have hl := hl2; clear hl2
              refine then_normal ?_
              refine wp_block ?_
              obtain ⟨KS2, hKS2, hk⟩ := (hl.add (t := 3) (hl.add (t := 6) (hl.add (t := 7) (hl.add (t := 8) (hl.add (t := 18) (hl.add (t := 19) (hl.add (t := 20) (hl.add (t := 66) (hl.add (t := 67) (hl.nil) rfl) rfl) rfl) rfl) rfl) rfl) rfl) rfl) rfl).name
              obtain ⟨HS2, hHS2, hh2⟩ := hh.name (keeps_nil)
              refine c_loop (α := Nat) (fun j => es.length - j) (fun j a w => (j ≤ es.length) ∧ Sl 110 ([(68, .int .i64 (j : Int)), (9, .int .u16 (mi (prF t (g2.ep t) (es.take j))))] ++ KS2) a ∧ Has _ w0 ([] ++ HS2) w) 0 ⟨(by omega), hl.addE (t := 68) (hl.addE (t := 9) (hk) rfl (by first | rfl)) rfl (by first | rfl), hh2⟩ ?_
              clear hk hh2 hl hh a w
              intro j a w hI
              obtain ⟨hj, hl, hh⟩ := hI
              subst hKS2; subst hHS2
              simp only [List.cons_append, List.nil_append, List.append_nil, List.append_assoc] at hl hh
              refine c_seq ?_
              refine c_region ?_
              refine wl (wl_val hl rfl trivial (r_lss hl rfl rfl) ?_)
              clear hl a; intro a hl
              refine w_nil ?_
              have hl2 := hl.add (t := 3) (hl.add (t := 6) (hl.add (t := 7) (hl.add (t := 8) (hl.add (t := 9) (hl.add (t := 18) (hl.add (t := 19) (hl.add (t := 20) (hl.add (t := 66) (hl.add (t := 67) (hl.add (t := 68) (hl.add (t := 69) (hl.nil) rfl) rfl) rfl) rfl) rfl) rfl) rfl) rfl) rfl) rfl) rfl) rfl; clear hl; have hl := hl2; clear hl2
              refine then_normal ?_
              refine c_seq ?_
              refine c_cond hl rfl ?_ ?_
              · intro hc4
                try simp only [decide_eq_true_eq, decide_eq_false_iff_not, Bool.not_eq_true', Bool.not_eq_false', Bool.not_eq_true, Bool.not_eq_false, Bool.and_eq_true, Bool.or_eq_true, Bool.and_eq_false_iff, Bool.or_eq_false_iff, Bool.not_not, ne_eq, Int.not_lt, Int.not_le, Decidable.not_not, beq_iff_eq, bne_iff_ne] at hc4
                obtain ⟨kb, jk, hpb, hjl, hjc, hEb⟩ := row_pos hRe (by omega)
                subst hpb
                subst hEb
                obtain ⟨y, hy⟩ : ∃ y, es[j]? = some y := ⟨_, List.getElem?_eq_getElem (by omega)⟩
                have hrd := fl_at egc_len hy jk
                have hyh : y.h < 16 := by
                  have := List.mem_of_getElem? hy
                  rw [hes] at this
                  exact (edN_mem this).2.choose_spec.2.1
                refine wp_skip ?_
                refine then_normal ?_
                refine c_seq ?_
                refine wp_block ?_
                refine c_seq ?_
                refine c_region ?_
                refine wl (wl_val hl rfl trivial (r_indexS hl rfl rfl slc59 (by omega) (by omega) (by first | (simp only [Int.reduceToNat]; rfl) | exact toNat_add1 _ | exact toNat_add2 _ _ | exact toNat_emod _ _ | exact Int.toNat_natCast _ | rfl)) ?_)
                clear hl a; intro a hl
                first | refine wl (w_loadA hl hh rfl trivial agg64 rfl (by repeat (first | exact find_head | apply find_tail | apply find_skip)) (by first | exact hrd | rfl | (simp only [List.getElem?_cons_zero, List.getElem?_cons_succ, Value.cells, List.take_zero, List.take_succ_cons, List.take_nil, List.drop_zero, List.drop_succ_cons, List.drop_nil, List.length_cons, List.length_nil, List.cons_append, List.nil_append, List.append_nil, Nat.zero_add, Nat.add_zero, Nat.reduceAdd, Nat.reduceBEq, Nat.reduceEqDiff, Nat.ble, BEq.rfl, Bool.and_true, Bool.and_self, cond_true, beq_self_eq_true]; rfl)) (by first | rfl | (simp; done)) ?_) | refine wl (w_loadRA hl hh rfl trivial agg64 rfl hin (by simp) hopv rfl ?_)
                clear hl a; intro a hl
                refine wl (w_alloc hl hh rfl trivial zero64 rfl ?_)
                clear hl hh a w; intro k11 a w hl hh
                refine wl (w_storeA hl hh trivial agg64 rfl rfl (by repeat (first | exact find_head | apply find_tail | apply find_skip)) (by first | rfl | (simp; done) | exact hrd | rfl) (by first | (simp; done) | (simp; omega)) (by first | rfl | (simp; done) | rfl) (by first | (simp only [setL, List.getElem?_cons_zero, List.getElem?_cons_succ, Value.cells, List.take_zero, List.take_succ_cons, List.take_nil, List.drop_zero, List.drop_succ_cons, List.drop_nil, List.length_cons, List.length_nil, List.cons_append, List.nil_append, List.append_nil, Nat.zero_add, Nat.add_zero, Nat.reduceAdd, Nat.reduceBEq, Nat.reduceEqDiff, Nat.ble, BEq.rfl, Bool.and_true, Bool.and_self, cond_true, beq_self_eq_true]; rfl)) ?_)
                clear hh w; intro w hh
                refine w_nil ?_
                have hl2 := hl.add (t := 3) (hl.add (t := 6) (hl.add (t := 7) (hl.add (t := 8) (hl.add (t := 9) (hl.add (t := 11) (hl.add (t := 18) (hl.add (t := 19) (hl.add (t := 20) (hl.add (t := 66) (hl.add (t := 67) (hl.add (t := 68) (hl.nil) rfl) rfl) rfl) rfl) rfl) rfl) rfl) rfl) rfl) rfl) rfl) rfl; clear hl; have hl := hl2; clear hl2
                refine then_normal ?_
                refine c_seq ?_
                refine c_region ?_
                refine wl (wl_val hl rfl trivial (r_field hl rfl fld64_0) ?_)
                clear hl a; intro a hl
                refine wl (w_load hl hh rfl trivial one52 rfl (by repeat (first | exact find_head | apply find_tail | apply find_skip)) (by first | rfl | exact fl_cell egc_len hy rfl jk | rfl) ?_)
                clear hl a; intro a hl
                refine wl (wl_val hl rfl trivial (r_move hl rfl) ?_)
                clear hl a; intro a hl
                refine wl (wl_val hl rfl trivial (r_eql hl rfl rfl) ?_)
                clear hl a; intro a hl
                refine wl (wl_val hl rfl trivial (r_move hl rfl) ?_)
                clear hl a; intro a hl
                refine sl_split (t := 76) hl rfl ?_ ?_
                · intro hg3; clear hl; intro hl
                  try simp only [decide_eq_true_eq, decide_eq_false_iff_not, Bool.not_eq_true', Bool.not_eq_false', Bool.not_eq_true, Bool.not_eq_false, Bool.and_eq_true, Bool.or_eq_true, Bool.and_eq_false_iff, Bool.or_eq_false_iff, Bool.not_not, ne_eq, Int.not_lt, Int.not_le, Decidable.not_not, beq_iff_eq, bne_iff_ne] at hg3
                  refine wl (wl_val hl rfl ⟨_, _, rfl, rfl, rfl⟩ (r_field hl rfl fld64_2) ?_)
                  clear hl a; intro a hl
                  refine wl (w_load hl hh rfl ⟨_, _, rfl, rfl, rfl⟩ one49 rfl (by repeat (first | exact find_head | apply find_tail | apply find_skip)) (by first | rfl | exact fl_cell egc_len hy rfl jk | rfl) ?_)
                  clear hl a; intro a hl
                  refine wl (wl_val hl rfl ⟨_, _, rfl, rfl, rfl⟩ (r_move hl rfl) ?_)
                  clear hl a; intro a hl
                  refine wl (wl_val hl rfl ⟨_, _, rfl, rfl, rfl⟩ (r_eql hl rfl rfl) ?_)
                  clear hl a; intro a hl
                  refine wl (wl_val hl rfl trivial (r_pickT hl rfl rfl) ?_)
                  clear hl a; intro a hl
                  refine wl (wl_val hl rfl trivial (r_move hl rfl) ?_)
                  clear hl a; intro a hl
                  refine sl_split (t := 82) hl rfl ?_ ?_
                  · intro hg4; clear hl; intro hl
                    try simp only [decide_eq_true_eq, decide_eq_false_iff_not, Bool.not_eq_true', Bool.not_eq_false', Bool.not_eq_true, Bool.not_eq_false, Bool.and_eq_true, Bool.or_eq_true, Bool.and_eq_false_iff, Bool.or_eq_false_iff, Bool.not_not, ne_eq, Int.not_lt, Int.not_le, Decidable.not_not, beq_iff_eq, bne_iff_ne] at hg4
                    refine wl (wl_val hl rfl ⟨_, _, rfl, rfl, rfl⟩ (r_field hl rfl fld64_3) ?_)
                    clear hl a; intro a hl
                    refine wl (w_load hl hh rfl ⟨_, _, rfl, rfl, rfl⟩ one3 rfl (by repeat (first | exact find_head | apply find_tail | apply find_skip)) (by first | rfl | exact fl_cell egc_len hy rfl jk | rfl) ?_)
                    clear hl a; intro a hl
                    refine wl (wl_val hl rfl ⟨_, _, rfl, rfl, rfl⟩ (r_gtr hl rfl rfl) ?_)
                    clear hl a; intro a hl
                    refine wl (wl_val hl rfl trivial (r_pickT hl rfl rfl) ?_)
                    clear hl a; intro a hl
                    refine w_nil ?_
                    have hl2 := hl.add (t := 3) (hl.add (t := 6) (hl.add (t := 7) (hl.add (t := 8) (hl.add (t := 9) (hl.add (t := 11) (hl.add (t := 18) (hl.add (t := 19) (hl.add (t := 20) (hl.add (t := 66) (hl.add (t := 67) (hl.add (t := 68) (hl.add (t := 86) (hl.nil) rfl) rfl) rfl) rfl) rfl) rfl) rfl) rfl) rfl) rfl) rfl) rfl) rfl; clear hl; have hl := hl2; clear hl2
                    refine then_normal ?_
                    refine c_cond hl rfl ?_ ?_
                    · intro hc5
                      try simp only [decide_eq_true_eq, decide_eq_false_iff_not, Bool.not_eq_true', Bool.not_eq_false', Bool.not_eq_true, Bool.not_eq_false, Bool.and_eq_true, Bool.or_eq_true, Bool.and_eq_false_iff, Bool.or_eq_false_iff, Bool.not_not, ne_eq, Int.not_lt, Int.not_le, Decidable.not_not, beq_iff_eq, bne_iff_ne] at hc5
                      refine c_region ?_
                      refine wl (wl_val hl rfl trivial (r_move hl rfl) ?_)
                      clear hl a; intro a hl
                      refine wl (wl_val hl rfl trivial (r_field hl rfl fld64_1) ?_)
                      clear hl a; intro a hl
                      refine wl (w_load hl hh rfl trivial one52 rfl (by repeat (first | exact find_head | apply find_tail | apply find_skip)) (by first | rfl | exact fl_cell egc_len hy rfl jk | rfl) ?_)
                      clear hl a; intro a hl
                      refine wl (w_call hl hh rfl trivial rfl cal27 rfl (bit_spec y.h (by omega)) (by repeat (first | exact keeps_nil | apply keeps_cons (by repeat (first | exact find_head | apply find_tail | apply find_skip)) (by first  | rfl) | exact keeps_self | exact keeps_left | apply keeps_app | apply keeps_mv | apply keeps_skip)) trivial ?_)
                      clear hl hh a w; intro vc Fc a w hR hl hh
                      obtain ⟨rfl, rfl⟩ := hR
                      try simp only [List.cons_append, List.nil_append, List.append_assoc, List.append_nil] at hh
                      refine wl (wl_val hl rfl trivial (r_or hl rfl rfl) ?_)
                      clear hl a; intro a hl
                      rw [or_mi] at hl
                      refine wl (wl_val hl rfl trivial (r_assign hl rfl) ?_)
                      clear hl a; intro a hl
                      refine w_nil ?_
                      have hl2 := hl.add (t := 3) (hl.add (t := 6) (hl.add (t := 7) (hl.add (t := 8) (hl.add (t := 9) (hl.add (t := 18) (hl.add (t := 19) (hl.add (t := 20) (hl.add (t := 66) (hl.add (t := 67) (hl.add (t := 68) (hl.nil) rfl) rfl) rfl) rfl) rfl) rfl) rfl) rfl) rfl) rfl) rfl; clear hl; have hl := hl2; clear hl2
                      refine blk_normal ?_
                      refine then_normal ?_
                      refine c_region ?_
                      first | refine wl (wl_val hl rfl trivial (r_add hl rfl rfl (by simp only [Fits]; omega)) ?_) | refine wl (wl_val hl rfl trivial (r_addW hl rfl rfl) ?_)
                      clear hl a; intro a hl
                      refine wl (wl_val hl rfl trivial (r_move hl rfl) ?_)
                      clear hl a; intro a hl
                      refine w_nil ?_
                      have hl2 := hl.add (t := 3) (hl.add (t := 6) (hl.add (t := 7) (hl.add (t := 8) (hl.add (t := 9) (hl.add (t := 18) (hl.add (t := 19) (hl.add (t := 20) (hl.add (t := 66) (hl.add (t := 67) (hl.add (t := 68) (hl.nil) rfl) rfl) rfl) rfl) rfl) rfl) rfl) rfl) rfl) rfl) rfl; clear hl; have hl := hl2; clear hl2
                      refine then_normal ?_
                      refine ⟨(j + 1), (by omega), (by omega), hl.addE (t := 68) (hl.addE (t := 9) (hl.addE (t := 3) (hl.addE (t := 6) (hl.addE (t := 7) (hl.addE (t := 8) (hl.addE (t := 18) (hl.addE (t := 19) (hl.addE (t := 20) (hl.addE (t := 66) (hl.addE (t := 67) (hl.nil) rfl (by first | rfl | exact pr_T hy (by assumption) (by assumption) (by assumption) | exact pr_F1 hy (by assumption) | exact pr_F2 hy (by assumption) | exact pr_F3 hy (by assumption))) rfl (by first | rfl | exact pr_T hy (by assumption) (by assumption) (by assumption) | exact pr_F1 hy (by assumption) | exact pr_F2 hy (by assumption) | exact pr_F3 hy (by assumption))) rfl (by first | rfl | exact pr_T hy (by assumption) (by assumption) (by assumption) | exact pr_F1 hy (by assumption) | exact pr_F2 hy (by assumption) | exact pr_F3 hy (by assumption))) rfl (by first | rfl | exact pr_T hy (by assumption) (by assumption) (by assumption) | exact pr_F1 hy (by assumption) | exact pr_F2 hy (by assumption) | exact pr_F3 hy (by assumption))) rfl (by first | rfl | exact pr_T hy (by assumption) (by assumption) (by assumption) | exact pr_F1 hy (by assumption) | exact pr_F2 hy (by assumption) | exact pr_F3 hy (by assumption))) rfl (by first | rfl | exact pr_T hy (by assumption) (by assumption) (by assumption) | exact pr_F1 hy (by assumption) | exact pr_F2 hy (by assumption) | exact pr_F3 hy (by assumption))) rfl (by first | rfl | exact pr_T hy (by assumption) (by assumption) (by assumption) | exact pr_F1 hy (by assumption) | exact pr_F2 hy (by assumption) | exact pr_F3 hy (by assumption))) rfl (by first | rfl | exact pr_T hy (by assumption) (by assumption) (by assumption) | exact pr_F1 hy (by assumption) | exact pr_F2 hy (by assumption) | exact pr_F3 hy (by assumption))) rfl (by first | rfl | exact pr_T hy (by assumption) (by assumption) (by assumption) | exact pr_F1 hy (by assumption) | exact pr_F2 hy (by assumption) | exact pr_F3 hy (by assumption))) rfl (by first | rfl | exact pr_T hy (by assumption) (by assumption) (by assumption) | exact pr_F1 hy (by assumption) | exact pr_F2 hy (by assumption) | exact pr_F3 hy (by assumption))) rfl (by first | rfl | exact pr_T hy (by assumption) (by assumption) (by assumption) | exact pr_F1 hy (by assumption) | exact pr_F2 hy (by assumption) | exact pr_F3 hy (by assumption)), hh.keep (by repeat (first | exact keeps_nil | apply keeps_cons (by repeat (first | exact find_head | apply find_tail | apply find_skip)) (by first  | rfl) | exact keeps_self | exact keeps_left | apply keeps_app | apply keeps_mv | apply keeps_skip))⟩
                    · intro hc5
                      try simp only [decide_eq_true_eq, decide_eq_false_iff_not, Bool.not_eq_true', Bool.not_eq_false', Bool.not_eq_true, Bool.not_eq_false, Bool.and_eq_true, Bool.or_eq_true, Bool.and_eq_false_iff, Bool.or_eq_false_iff, Bool.not_not, ne_eq, Int.not_lt, Int.not_le, Decidable.not_not, beq_iff_eq, bne_iff_ne] at hc5
                      refine wp_skip ?_
                      refine blk_normal ?_
                      refine then_normal ?_
                      refine c_region ?_
                      first | refine wl (wl_val hl rfl trivial (r_add hl rfl rfl (by simp only [Fits]; omega)) ?_) | refine wl (wl_val hl rfl trivial (r_addW hl rfl rfl) ?_)
                      clear hl a; intro a hl
                      refine wl (wl_val hl rfl trivial (r_move hl rfl) ?_)
                      clear hl a; intro a hl
                      refine w_nil ?_
                      have hl2 := hl.add (t := 3) (hl.add (t := 6) (hl.add (t := 7) (hl.add (t := 8) (hl.add (t := 9) (hl.add (t := 18) (hl.add (t := 19) (hl.add (t := 20) (hl.add (t := 66) (hl.add (t := 67) (hl.add (t := 68) (hl.nil) rfl) rfl) rfl) rfl) rfl) rfl) rfl) rfl) rfl) rfl) rfl; clear hl; have hl := hl2; clear hl2
                      refine then_normal ?_
                      refine ⟨(j + 1), (by omega), (by omega), hl.addE (t := 68) (hl.addE (t := 9) (hl.addE (t := 3) (hl.addE (t := 6) (hl.addE (t := 7) (hl.addE (t := 8) (hl.addE (t := 18) (hl.addE (t := 19) (hl.addE (t := 20) (hl.addE (t := 66) (hl.addE (t := 67) (hl.nil) rfl (by first | rfl | exact pr_T hy (by assumption) (by assumption) (by assumption) | exact pr_F1 hy (by assumption) | exact pr_F2 hy (by assumption) | exact pr_F3 hy (by assumption))) rfl (by first | rfl | exact pr_T hy (by assumption) (by assumption) (by assumption) | exact pr_F1 hy (by assumption) | exact pr_F2 hy (by assumption) | exact pr_F3 hy (by assumption))) rfl (by first | rfl | exact pr_T hy (by assumption) (by assumption) (by assumption) | exact pr_F1 hy (by assumption) | exact pr_F2 hy (by assumption) | exact pr_F3 hy (by assumption))) rfl (by first | rfl | exact pr_T hy (by assumption) (by assumption) (by assumption) | exact pr_F1 hy (by assumption) | exact pr_F2 hy (by assumption) | exact pr_F3 hy (by assumption))) rfl (by first | rfl | exact pr_T hy (by assumption) (by assumption) (by assumption) | exact pr_F1 hy (by assumption) | exact pr_F2 hy (by assumption) | exact pr_F3 hy (by assumption))) rfl (by first | rfl | exact pr_T hy (by assumption) (by assumption) (by assumption) | exact pr_F1 hy (by assumption) | exact pr_F2 hy (by assumption) | exact pr_F3 hy (by assumption))) rfl (by first | rfl | exact pr_T hy (by assumption) (by assumption) (by assumption) | exact pr_F1 hy (by assumption) | exact pr_F2 hy (by assumption) | exact pr_F3 hy (by assumption))) rfl (by first | rfl | exact pr_T hy (by assumption) (by assumption) (by assumption) | exact pr_F1 hy (by assumption) | exact pr_F2 hy (by assumption) | exact pr_F3 hy (by assumption))) rfl (by first | rfl | exact pr_T hy (by assumption) (by assumption) (by assumption) | exact pr_F1 hy (by assumption) | exact pr_F2 hy (by assumption) | exact pr_F3 hy (by assumption))) rfl (by first | rfl | exact pr_T hy (by assumption) (by assumption) (by assumption) | exact pr_F1 hy (by assumption) | exact pr_F2 hy (by assumption) | exact pr_F3 hy (by assumption))) rfl (by first | rfl | exact pr_T hy (by assumption) (by assumption) (by assumption) | exact pr_F1 hy (by assumption) | exact pr_F2 hy (by assumption) | exact pr_F3 hy (by assumption)), hh.keep (by repeat (first | exact keeps_nil | apply keeps_cons (by repeat (first | exact find_head | apply find_tail | apply find_skip)) (by first  | rfl) | exact keeps_self | exact keeps_left | apply keeps_app | apply keeps_mv | apply keeps_skip))⟩
                  · intro hg4; clear hl; intro hl
                    try simp only [decide_eq_true_eq, decide_eq_false_iff_not, Bool.not_eq_true', Bool.not_eq_false', Bool.not_eq_true, Bool.not_eq_false, Bool.and_eq_true, Bool.or_eq_true, Bool.and_eq_false_iff, Bool.or_eq_false_iff, Bool.not_not, ne_eq, Int.not_lt, Int.not_le, Decidable.not_not, beq_iff_eq, bne_iff_ne] at hg4
                    refine wl (wl_skip hl rfl ⟨_, _, rfl, rfl, rfl⟩ ?_)
                    clear hl a; intro a hl
                    refine wl (wl_skip hl rfl ⟨_, _, rfl, rfl, rfl⟩ ?_)
                    clear hl a; intro a hl
                    refine wl (wl_skip hl rfl ⟨_, _, rfl, rfl, rfl⟩ ?_)
                    clear hl a; intro a hl
                    refine wl (wl_val hl rfl trivial (r_pickF hl rfl rfl) ?_)
                    clear hl a; intro a hl
                    refine w_nil ?_
                    have hl2 := hl.add (t := 3) (hl.add (t := 6) (hl.add (t := 7) (hl.add (t := 8) (hl.add (t := 9) (hl.add (t := 11) (hl.add (t := 18) (hl.add (t := 19) (hl.add (t := 20) (hl.add (t := 66) (hl.add (t := 67) (hl.add (t := 68) (hl.add (t := 86) (hl.nil) rfl) rfl) rfl) rfl) rfl) rfl) rfl) rfl) rfl) rfl) rfl) rfl) rfl; clear hl; have hl := hl2; clear hl2
                    refine then_normal ?_
                    refine c_condF hl rfl ?_
                    refine wp_skip ?_
                    refine blk_normal ?_
                    refine then_normal ?_
                    refine c_region ?_
                    first | refine wl (wl_val hl rfl trivial (r_add hl rfl rfl (by simp only [Fits]; omega)) ?_) | refine wl (wl_val hl rfl trivial (r_addW hl rfl rfl) ?_)
                    clear hl a; intro a hl
                    refine wl (wl_val hl rfl trivial (r_move hl rfl) ?_)
                    clear hl a; intro a hl
                    refine w_nil ?_
                    have hl2 := hl.add (t := 3) (hl.add (t := 6) (hl.add (t := 7) (hl.add (t := 8) (hl.add (t := 9) (hl.add (t := 18) (hl.add (t := 19) (hl.add (t := 20) (hl.add (t := 66) (hl.add (t := 67) (hl.add (t := 68) (hl.nil) rfl) rfl) rfl) rfl) rfl) rfl) rfl) rfl) rfl) rfl) rfl; clear hl; have hl := hl2; clear hl2
                    refine then_normal ?_
                    refine ⟨(j + 1), (by omega), (by omega), hl.addE (t := 68) (hl.addE (t := 9) (hl.addE (t := 3) (hl.addE (t := 6) (hl.addE (t := 7) (hl.addE (t := 8) (hl.addE (t := 18) (hl.addE (t := 19) (hl.addE (t := 20) (hl.addE (t := 66) (hl.addE (t := 67) (hl.nil) rfl (by first | rfl | exact pr_T hy (by assumption) (by assumption) (by assumption) | exact pr_F1 hy (by assumption) | exact pr_F2 hy (by assumption) | exact pr_F3 hy (by assumption))) rfl (by first | rfl | exact pr_T hy (by assumption) (by assumption) (by assumption) | exact pr_F1 hy (by assumption) | exact pr_F2 hy (by assumption) | exact pr_F3 hy (by assumption))) rfl (by first | rfl | exact pr_T hy (by assumption) (by assumption) (by assumption) | exact pr_F1 hy (by assumption) | exact pr_F2 hy (by assumption) | exact pr_F3 hy (by assumption))) rfl (by first | rfl | exact pr_T hy (by assumption) (by assumption) (by assumption) | exact pr_F1 hy (by assumption) | exact pr_F2 hy (by assumption) | exact pr_F3 hy (by assumption))) rfl (by first | rfl | exact pr_T hy (by assumption) (by assumption) (by assumption) | exact pr_F1 hy (by assumption) | exact pr_F2 hy (by assumption) | exact pr_F3 hy (by assumption))) rfl (by first | rfl | exact pr_T hy (by assumption) (by assumption) (by assumption) | exact pr_F1 hy (by assumption) | exact pr_F2 hy (by assumption) | exact pr_F3 hy (by assumption))) rfl (by first | rfl | exact pr_T hy (by assumption) (by assumption) (by assumption) | exact pr_F1 hy (by assumption) | exact pr_F2 hy (by assumption) | exact pr_F3 hy (by assumption))) rfl (by first | rfl | exact pr_T hy (by assumption) (by assumption) (by assumption) | exact pr_F1 hy (by assumption) | exact pr_F2 hy (by assumption) | exact pr_F3 hy (by assumption))) rfl (by first | rfl | exact pr_T hy (by assumption) (by assumption) (by assumption) | exact pr_F1 hy (by assumption) | exact pr_F2 hy (by assumption) | exact pr_F3 hy (by assumption))) rfl (by first | rfl | exact pr_T hy (by assumption) (by assumption) (by assumption) | exact pr_F1 hy (by assumption) | exact pr_F2 hy (by assumption) | exact pr_F3 hy (by assumption))) rfl (by first | rfl | exact pr_T hy (by assumption) (by assumption) (by assumption) | exact pr_F1 hy (by assumption) | exact pr_F2 hy (by assumption) | exact pr_F3 hy (by assumption)), hh.keep (by repeat (first | exact keeps_nil | apply keeps_cons (by repeat (first | exact find_head | apply find_tail | apply find_skip)) (by first  | rfl) | exact keeps_self | exact keeps_left | apply keeps_app | apply keeps_mv | apply keeps_skip))⟩
                · intro hg3; clear hl; intro hl
                  try simp only [decide_eq_true_eq, decide_eq_false_iff_not, Bool.not_eq_true', Bool.not_eq_false', Bool.not_eq_true, Bool.not_eq_false, Bool.and_eq_true, Bool.or_eq_true, Bool.and_eq_false_iff, Bool.or_eq_false_iff, Bool.not_not, ne_eq, Int.not_lt, Int.not_le, Decidable.not_not, beq_iff_eq, bne_iff_ne] at hg3
                  refine wl (wl_skip hl rfl ⟨_, _, rfl, rfl, rfl⟩ ?_)
                  clear hl a; intro a hl
                  refine wl (wl_skip hl rfl ⟨_, _, rfl, rfl, rfl⟩ ?_)
                  clear hl a; intro a hl
                  refine wl (wl_skip hl rfl ⟨_, _, rfl, rfl, rfl⟩ ?_)
                  clear hl a; intro a hl
                  refine wl (wl_skip hl rfl ⟨_, _, rfl, rfl, rfl⟩ ?_)
                  clear hl a; intro a hl
                  refine wl (wl_val hl rfl trivial (r_pickF hl rfl rfl) ?_)
                  clear hl a; intro a hl
                  refine wl (wl_val hl rfl trivial (r_move hl rfl) ?_)
                  clear hl a; intro a hl
                  refine wl (wl_skip hl rfl ⟨_, _, rfl, rfl, rfl⟩ ?_)
                  clear hl a; intro a hl
                  refine wl (wl_skip hl rfl ⟨_, _, rfl, rfl, rfl⟩ ?_)
                  clear hl a; intro a hl
                  refine wl (wl_skip hl rfl ⟨_, _, rfl, rfl, rfl⟩ ?_)
                  clear hl a; intro a hl
                  refine wl (wl_val hl rfl trivial (r_pickF hl rfl rfl) ?_)
                  clear hl a; intro a hl
                  refine w_nil ?_
                  have hl2 := hl.add (t := 3) (hl.add (t := 6) (hl.add (t := 7) (hl.add (t := 8) (hl.add (t := 9) (hl.add (t := 11) (hl.add (t := 18) (hl.add (t := 19) (hl.add (t := 20) (hl.add (t := 66) (hl.add (t := 67) (hl.add (t := 68) (hl.add (t := 86) (hl.nil) rfl) rfl) rfl) rfl) rfl) rfl) rfl) rfl) rfl) rfl) rfl) rfl) rfl; clear hl; have hl := hl2; clear hl2
                  refine then_normal ?_
                  refine c_condF hl rfl ?_
                  refine wp_skip ?_
                  refine blk_normal ?_
                  refine then_normal ?_
                  refine c_region ?_
                  first | refine wl (wl_val hl rfl trivial (r_add hl rfl rfl (by simp only [Fits]; omega)) ?_) | refine wl (wl_val hl rfl trivial (r_addW hl rfl rfl) ?_)
                  clear hl a; intro a hl
                  refine wl (wl_val hl rfl trivial (r_move hl rfl) ?_)
                  clear hl a; intro a hl
                  refine w_nil ?_
                  have hl2 := hl.add (t := 3) (hl.add (t := 6) (hl.add (t := 7) (hl.add (t := 8) (hl.add (t := 9) (hl.add (t := 18) (hl.add (t := 19) (hl.add (t := 20) (hl.add (t := 66) (hl.add (t := 67) (hl.add (t := 68) (hl.nil) rfl) rfl) rfl) rfl) rfl) rfl) rfl) rfl) rfl) rfl) rfl; clear hl; have hl := hl2; clear hl2
                  refine then_normal ?_
                  refine ⟨(j + 1), (by omega), (by omega), hl.addE (t := 68) (hl.addE (t := 9) (hl.addE (t := 3) (hl.addE (t := 6) (hl.addE (t := 7) (hl.addE (t := 8) (hl.addE (t := 18) (hl.addE (t := 19) (hl.addE (t := 20) (hl.addE (t := 66) (hl.addE (t := 67) (hl.nil) rfl (by first | rfl | exact pr_T hy (by assumption) (by assumption) (by assumption) | exact pr_F1 hy (by assumption) | exact pr_F2 hy (by assumption) | exact pr_F3 hy (by assumption))) rfl (by first | rfl | exact pr_T hy (by assumption) (by assumption) (by assumption) | exact pr_F1 hy (by assumption) | exact pr_F2 hy (by assumption) | exact pr_F3 hy (by assumption))) rfl (by first | rfl | exact pr_T hy (by assumption) (by assumption) (by assumption) | exact pr_F1 hy (by assumption) | exact pr_F2 hy (by assumption) | exact pr_F3 hy (by assumption))) rfl (by first | rfl | exact pr_T hy (by assumption) (by assumption) (by assumption) | exact pr_F1 hy (by assumption) | exact pr_F2 hy (by assumption) | exact pr_F3 hy (by assumption))) rfl (by first | rfl | exact pr_T hy (by assumption) (by assumption) (by assumption) | exact pr_F1 hy (by assumption) | exact pr_F2 hy (by assumption) | exact pr_F3 hy (by assumption))) rfl (by first | rfl | exact pr_T hy (by assumption) (by assumption) (by assumption) | exact pr_F1 hy (by assumption) | exact pr_F2 hy (by assumption) | exact pr_F3 hy (by assumption))) rfl (by first | rfl | exact pr_T hy (by assumption) (by assumption) (by assumption) | exact pr_F1 hy (by assumption) | exact pr_F2 hy (by assumption) | exact pr_F3 hy (by assumption))) rfl (by first | rfl | exact pr_T hy (by assumption) (by assumption) (by assumption) | exact pr_F1 hy (by assumption) | exact pr_F2 hy (by assumption) | exact pr_F3 hy (by assumption))) rfl (by first | rfl | exact pr_T hy (by assumption) (by assumption) (by assumption) | exact pr_F1 hy (by assumption) | exact pr_F2 hy (by assumption) | exact pr_F3 hy (by assumption))) rfl (by first | rfl | exact pr_T hy (by assumption) (by assumption) (by assumption) | exact pr_F1 hy (by assumption) | exact pr_F2 hy (by assumption) | exact pr_F3 hy (by assumption))) rfl (by first | rfl | exact pr_T hy (by assumption) (by assumption) (by assumption) | exact pr_F1 hy (by assumption) | exact pr_F2 hy (by assumption) | exact pr_F3 hy (by assumption)), hh.keep (by repeat (first | exact keeps_nil | apply keeps_cons (by repeat (first | exact find_head | apply find_tail | apply find_skip)) (by first  | rfl) | exact keeps_self | exact keeps_left | apply keeps_app | apply keeps_mv | apply keeps_skip))⟩
              · intro hc4
                try simp only [decide_eq_true_eq, decide_eq_false_iff_not, Bool.not_eq_true', Bool.not_eq_false', Bool.not_eq_true, Bool.not_eq_false, Bool.and_eq_true, Bool.or_eq_true, Bool.and_eq_false_iff, Bool.or_eq_false_iff, Bool.not_not, ne_eq, Int.not_lt, Int.not_le, Decidable.not_not, beq_iff_eq, bne_iff_ne] at hc4
                rw [show j = es.length by omega, List.take_length, hpq] at hl
                refine wp_exit ?_
                refine then_exit ?_
                refine then_exit ?_
                refine blk_exit ?_
                refine then_normal ?_
                refine c_seq ?_
                refine c_seq ?_
                refine c_region ?_
                refine wl (wl_val hl rfl trivial (r_move hl rfl) ?_)
                clear hl a; intro a hl
                refine wl (wl_val hl rfl trivial (r_move hl rfl) ?_)
                clear hl a; intro a hl
                refine wl (wl_val hl rfl trivial (r_neq hl rfl rfl) ?_)
                clear hl a; intro a hl
                refine w_nil ?_
                have hl2 := hl.add (t := 3) (hl.add (t := 6) (hl.add (t := 8) (hl.add (t := 18) (hl.add (t := 19) (hl.add (t := 20) (hl.add (t := 95) (hl.nil) rfl) rfl) rfl) rfl) rfl) rfl) rfl; clear hl; have hl := hl2; clear hl2
                refine then_normal ?_
                refine c_cond hl rfl ?_ ?_
                · intro hc6
                  try simp only [decide_eq_true_eq, decide_eq_false_iff_not, Bool.not_eq_true', Bool.not_eq_false', Bool.not_eq_true, Bool.not_eq_false, Bool.and_eq_true, Bool.or_eq_true, Bool.and_eq_false_iff, Bool.or_eq_false_iff, Bool.not_not, ne_eq, Int.not_lt, Int.not_le, Decidable.not_not, beq_iff_eq, bne_iff_ne] at hc6
                  exfalso; first | contradiction | omega
                · intro hc6
                  try simp only [decide_eq_true_eq, decide_eq_false_iff_not, Bool.not_eq_true', Bool.not_eq_false', Bool.not_eq_true, Bool.not_eq_false, Bool.and_eq_true, Bool.or_eq_true, Bool.and_eq_false_iff, Bool.or_eq_false_iff, Bool.not_not, ne_eq, Int.not_lt, Int.not_le, Decidable.not_not, beq_iff_eq, bne_iff_ne] at hc6
                  refine wp_skip ?_
                  refine then_normal ?_
                  refine c_seq ?_
                  refine c_region ?_
                  refine wl (wl_val hl rfl trivial (r_field hl rfl fld28_2) ?_)
                  clear hl a; intro a hl
                  refine wl (w_load hl hh rfl trivial one26 rfl (by repeat (first | exact find_head | apply find_tail | apply find_skip)) (by first | rfl | exact fl_cell egc_len hy rfl jk | rfl) ?_)
                  clear hl a; intro a hl
                  refine wl (wl_val hl rfl trivial (r_move hl rfl) ?_)
                  clear hl a; intro a hl
                  refine wl (w_call hl hh rfl trivial rfl cal21 rfl (waitOn2 hS2.tb bt hG3.ti t) (by repeat (first | exact keeps_nil | apply keeps_cons (by repeat (first | exact find_head | apply find_tail | apply find_skip)) (by first  | rfl) | exact keeps_self | exact keeps_left | apply keeps_app | apply keeps_mv | apply keeps_skip)) (by have hx9 := sys_bt (memK (E := sysL bg M2) hh (by repeat (first | exact keeps_nil | apply keeps_cons (by repeat (first | exact find_head | apply find_tail | apply find_skip)) (by first  | rfl) | exact keeps_self | exact keeps_left | apply keeps_app | apply keeps_mv | apply keeps_skip))); rw [hbt2.trans hbt] at hx9; exact hx9) ?_)
                  clear hl hh a w; intro vc Fc a w hR hl hh
                  rcases hR with ⟨rw_, hw9, rfl, rfl⟩ | ⟨hw9, rfl, rfl⟩
                  ·
                    try simp only [List.cons_append, List.nil_append, List.append_nil] at hh
                    refine wl (wl_val hl rfl trivial (r_move hl rfl) ?_)
                    clear hl a; intro a hl
                    refine wl (wl_val hl rfl trivial (r_extract hl rfl (by simp only [List.getElem?_toArray, List.getElem?_cons_zero, List.getElem?_cons_succ]; rfl)) ?_)
                    clear hl a; intro a hl
                    refine wl (wl_val hl rfl trivial (r_extract hl rfl (by simp only [List.getElem?_toArray, List.getElem?_cons_zero, List.getElem?_cons_succ]; rfl)) ?_)
                    clear hl a; intro a hl
                    refine wl (wl_val hl rfl trivial (r_assign hl rfl) ?_)
                    clear hl a; intro a hl
                    refine wl (wl_val hl rfl trivial (r_assign hl rfl) ?_)
                    clear hl a; intro a hl
                    refine w_nil ?_
                    have hl2 := hl.add (t := 3) (hl.add (t := 6) (hl.add (t := 8) (hl.add (t := 13) (hl.add (t := 18) (hl.add (t := 19) (hl.add (t := 20) (hl.nil) rfl) rfl) rfl) rfl) rfl) rfl) rfl; clear hl; have hl := hl2; clear hl2
                    refine then_normal ?_
                    refine c_seq ?_
                    refine c_region ?_
                    refine wl (wl_val hl rfl trivial (r_move hl rfl) ?_)
                    clear hl a; intro a hl
                    refine wl (wl_val hl rfl trivial (r_not hl rfl) ?_)
                    clear hl a; intro a hl
                    refine wl (wl_val hl rfl trivial (r_move hl rfl) ?_)
                    clear hl a; intro a hl
                    refine wl (wl_skip hl rfl ⟨_, _, rfl, rfl, rfl⟩ ?_)
                    clear hl a; intro a hl
                    refine wl (wl_skip hl rfl ⟨_, _, rfl, rfl, rfl⟩ ?_)
                    clear hl a; intro a hl
                    refine wl (wl_val hl rfl trivial (r_pickF hl rfl rfl) ?_)
                    clear hl a; intro a hl
                    refine w_nil ?_
                    have hl2 := hl.add (t := 3) (hl.add (t := 6) (hl.add (t := 18) (hl.add (t := 19) (hl.add (t := 20) (hl.add (t := 108) (hl.nil) rfl) rfl) rfl) rfl) rfl) rfl; clear hl; have hl := hl2; clear hl2
                    refine then_normal ?_
                    refine c_condF hl rfl ?_
                    refine wp_skip ?_
                    refine blk_normal ?_
                    refine then_normal ?_
                    refine c_region ?_
                    refine wl (wl_val hl rfl trivial (r_move hl rfl) ?_)
                    clear hl a; intro a hl
                    first | refine wl (wl_val hl rfl trivial (r_add hl rfl rfl (by simp only [Fits]; omega)) ?_) | refine wl (wl_val hl rfl trivial (r_addW hl rfl rfl) ?_)
                    clear hl a; intro a hl
                    refine wl (wl_val hl rfl trivial (r_assign hl rfl) ?_)
                    clear hl a; intro a hl
                    refine w_nil ?_
                    have hl2 := hl.add (t := 3) (hl.add (t := 6) (hl.add (t := 18) (hl.add (t := 19) (hl.add (t := 20) (hl.nil) rfl) rfl) rfl) rfl) rfl; clear hl; have hl := hl2; clear hl2
                    refine then_normal ?_
                    refine ⟨(t + 1), (by omega), (by omega), hl.addE (t := 6) (hl.addE (t := 3) (hl.addE (t := 18) (hl.addE (t := 19) (hl.addE (t := 20) (hl.nil) rfl (by first | rfl | (congr 1; omega))) rfl (by first | rfl | (congr 1; omega))) rfl (by first | rfl | (congr 1; omega))) rfl (by first | rfl | (congr 1; omega))) rfl (by first | rfl | (congr 1; omega)), hh.keep (by repeat (first | exact keeps_nil | apply keeps_cons (by repeat (first | exact find_head | apply find_tail | apply find_skip)) (by first  | rfl) | exact keeps_self | exact keeps_left | apply keeps_app | apply keeps_mv | apply keeps_skip))⟩
                  ·
                    try simp only [List.cons_append, List.nil_append, List.append_nil] at hh
                    have hm0 := mi_nowait hM2 (t := t) (by omega) hw9
                    rw [hm0] at hl
                    refine wl (wl_val hl rfl trivial (r_move hl rfl) ?_)
                    clear hl a; intro a hl
                    refine wl (wl_val hl rfl trivial (r_extract hl rfl (by simp only [List.getElem?_toArray, List.getElem?_cons_zero, List.getElem?_cons_succ]; rfl)) ?_)
                    clear hl a; intro a hl
                    refine wl (wl_val hl rfl trivial (r_extract hl rfl (by simp only [List.getElem?_toArray, List.getElem?_cons_zero, List.getElem?_cons_succ]; rfl)) ?_)
                    clear hl a; intro a hl
                    refine wl (wl_val hl rfl trivial (r_assign hl rfl) ?_)
                    clear hl a; intro a hl
                    refine wl (wl_val hl rfl trivial (r_assign hl rfl) ?_)
                    clear hl a; intro a hl
                    refine w_nil ?_
                    have hl2 := hl.add (t := 3) (hl.add (t := 6) (hl.add (t := 8) (hl.add (t := 13) (hl.add (t := 18) (hl.add (t := 19) (hl.add (t := 20) (hl.nil) rfl) rfl) rfl) rfl) rfl) rfl) rfl; clear hl; have hl := hl2; clear hl2
                    refine then_normal ?_
                    refine c_seq ?_
                    refine c_region ?_
                    refine wl (wl_val hl rfl trivial (r_move hl rfl) ?_)
                    clear hl a; intro a hl
                    refine wl (wl_val hl rfl trivial (r_not hl rfl) ?_)
                    clear hl a; intro a hl
                    refine wl (wl_val hl rfl trivial (r_move hl rfl) ?_)
                    clear hl a; intro a hl
                    refine wl (wl_val hl rfl ⟨_, _, rfl, rfl, rfl⟩ (r_move hl rfl) ?_)
                    clear hl a; intro a hl
                    refine wl (wl_val hl rfl ⟨_, _, rfl, rfl, rfl⟩ (r_neq hl rfl rfl) ?_)
                    clear hl a; intro a hl
                    refine wl (wl_val hl rfl trivial (r_pickT hl rfl rfl) ?_)
                    clear hl a; intro a hl
                    refine w_nil ?_
                    have hl2 := hl.add (t := 3) (hl.add (t := 6) (hl.add (t := 18) (hl.add (t := 19) (hl.add (t := 20) (hl.add (t := 108) (hl.nil) rfl) rfl) rfl) rfl) rfl) rfl; clear hl; have hl := hl2; clear hl2
                    refine then_normal ?_
                    refine c_cond hl rfl ?_ ?_
                    · intro hc7
                      try simp only [decide_eq_true_eq, decide_eq_false_iff_not, Bool.not_eq_true', Bool.not_eq_false', Bool.not_eq_true, Bool.not_eq_false, Bool.and_eq_true, Bool.or_eq_true, Bool.and_eq_false_iff, Bool.or_eq_false_iff, Bool.not_not, ne_eq, Int.not_lt, Int.not_le, Decidable.not_not, beq_iff_eq, bne_iff_ne] at hc7
                      exfalso; first | contradiction | omega
                    · intro hc7
                      try simp only [decide_eq_true_eq, decide_eq_false_iff_not, Bool.not_eq_true', Bool.not_eq_false', Bool.not_eq_true, Bool.not_eq_false, Bool.and_eq_true, Bool.or_eq_true, Bool.and_eq_false_iff, Bool.or_eq_false_iff, Bool.not_not, ne_eq, Int.not_lt, Int.not_le, Decidable.not_not, beq_iff_eq, bne_iff_ne] at hc7
                      refine wp_skip ?_
                      refine blk_normal ?_
                      refine then_normal ?_
                      refine c_region ?_
                      refine wl (wl_val hl rfl trivial (r_move hl rfl) ?_)
                      clear hl a; intro a hl
                      first | refine wl (wl_val hl rfl trivial (r_add hl rfl rfl (by simp only [Fits]; omega)) ?_) | refine wl (wl_val hl rfl trivial (r_addW hl rfl rfl) ?_)
                      clear hl a; intro a hl
                      refine wl (wl_val hl rfl trivial (r_assign hl rfl) ?_)
                      clear hl a; intro a hl
                      refine w_nil ?_
                      have hl2 := hl.add (t := 3) (hl.add (t := 6) (hl.add (t := 18) (hl.add (t := 19) (hl.add (t := 20) (hl.nil) rfl) rfl) rfl) rfl) rfl; clear hl; have hl := hl2; clear hl2
                      refine then_normal ?_
                      refine ⟨(t + 1), (by omega), (by omega), hl.addE (t := 6) (hl.addE (t := 3) (hl.addE (t := 18) (hl.addE (t := 19) (hl.addE (t := 20) (hl.nil) rfl (by first | rfl | (congr 1; omega))) rfl (by first | rfl | (congr 1; omega))) rfl (by first | rfl | (congr 1; omega))) rfl (by first | rfl | (congr 1; omega))) rfl (by first | rfl | (congr 1; omega)), hh.keep (by repeat (first | exact keeps_nil | apply keeps_cons (by repeat (first | exact find_head | apply find_tail | apply find_skip)) (by first  | rfl) | exact keeps_self | exact keeps_left | apply keeps_app | apply keeps_mv | apply keeps_skip))⟩
      · intro hc2
        try simp only [decide_eq_true_eq, decide_eq_false_iff_not, Bool.not_eq_true', Bool.not_eq_false', Bool.not_eq_true, Bool.not_eq_false, Bool.and_eq_true, Bool.or_eq_true, Bool.and_eq_false_iff, Bool.or_eq_false_iff, Bool.not_not, ne_eq, Int.not_lt, Int.not_le, Decidable.not_not, beq_iff_eq, bne_iff_ne] at hc2
        refine wp_exit ?_
        refine then_exit ?_
        refine then_exit ?_
        refine blk_exit ?_
        refine blk_normal ?_
        refine then_normal ?_
        refine c_region ?_
        first | refine wl (wl_val hl rfl trivial (r_add hl rfl rfl (by simp only [Fits]; omega)) ?_) | refine wl (wl_val hl rfl trivial (r_addW hl rfl rfl) ?_)
        clear hl a; intro a hl
        refine wl (wl_val hl rfl trivial (r_move hl rfl) ?_)
        clear hl a; intro a hl
        refine w_nil ?_
        have hl2 := hl.add (t := 3) (hl.add (t := 18) (hl.add (t := 19) (hl.add (t := 20) (hl.nil) rfl) rfl) rfl) rfl; clear hl; have hl := hl2; clear hl2
        refine then_normal ?_
        refine ⟨⟨g2, M2, z.i + 1⟩, (by simp only; omega), ⟨by simp only; omega, hS2, hG3, hM2, hbm2.trans hbm, hbt2.trans hbt⟩, hl.addE (t := 20) (hl.addE (t := 3) (hl.addE (t := 18) (hl.addE (t := 19) (hl.nil) rfl (by first | rfl | (congr 1; omega))) rfl (by first | rfl | (congr 1; omega))) rfl (by first | rfl | (congr 1; omega))) rfl (by first | rfl | (congr 1; omega)), hh.keep (by repeat (first | exact keeps_nil | apply keeps_cons (by repeat (first | exact find_head | apply find_tail | apply find_skip)) (by first  | rfl) | exact keeps_self | exact keeps_left | apply keeps_app | apply keeps_mv | apply keeps_skip))⟩
    · intro hc1
      try simp only [decide_eq_true_eq, decide_eq_false_iff_not, Bool.not_eq_true', Bool.not_eq_false', Bool.not_eq_true, Bool.not_eq_false, Bool.and_eq_true, Bool.or_eq_true, Bool.and_eq_false_iff, Bool.or_eq_false_iff, Bool.not_not, ne_eq, Int.not_lt, Int.not_le, Decidable.not_not, beq_iff_eq, bne_iff_ne] at hc1
      refine wp_exit ?_
      refine then_exit ?_
      refine then_exit ?_
      refine blk_exit ?_
      refine then_normal ?_
      refine c_seq ?_
      refine c_region ?_
      refine wl (wl_val hl rfl trivial (r_assign hl rfl) ?_)
      clear hl a; intro a hl
      refine w_nil ?_
      have hl2 := hl.add (t := 2) (hl.nil) rfl; clear hl; have hl := hl2; clear hl2
      refine then_normal ?_
      refine wp_ret ?_
      refine f_ret1 (F' := []) hl hh rfl rfl (by repeat (first | exact keeps_nil | apply keeps_cons (by repeat (first | exact find_head | apply find_tail | apply find_skip)) (by first  | rfl) | exact keeps_self | exact keeps_left | apply keeps_app | apply keeps_mv | apply keeps_skip)) ?_
      exact ⟨rfl, rfl⟩
end Go.Proofs.Qxb6500911aDoor

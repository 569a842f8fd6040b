import Derived.Test.Qxb6500915aGreatDoorE3
namespace Go.Proofs.Qxb6500915aGreatDoor
open Go.Eng
set_option linter.unusedVariables false
set_option linter.unusedSimpArgs false
theorem slc117 : slcOk Tryz.prog 117 1 = true := by kernel_rfl
theorem zero178 : zeroOk Tryz.prog 178 (.agg #[(.int .i64 0), (.int .i64 0)]) := by unfold zeroOk; kernel_rfl
theorem bld178 : buildOk Tryz.prog 178 [(0, 1), (1, 1)] = true := by kernel_rfl
theorem app176 : appOk Tryz.prog 176 178 2 16 = true := by kernel_rfl
theorem slc176 : slcOk Tryz.prog 176 2 = true := by kernel_rfl
theorem fld178_0 : fieldOk Tryz.prog 178 0 0 = true := by kernel_rfl
theorem fld178_1 : fieldOk Tryz.prog 178 1 1 = true := by kernel_rfl
theorem one118 : oneOk Tryz.prog 118 = true := by kernel_rfl
theorem slc118 : slcOk Tryz.prog 118 2 = true := by kernel_rfl
theorem fld120_0 : fieldOk Tryz.prog 120 0 0 = true := by kernel_rfl
set_option maxHeartbeats 16000000 in
theorem comp_spec {dcap : Nat} (ds : List EV) (db : Nat) (DE : List (Nat × Obj)) (hdp : DpI ds db DE) : SpK Tryz.prog 55 #[.slice (some ⟨db, 0, none⟩) ds.length dcap] (Mem DE) [] (fun u F' => ∃ cb cp od op oc oE, Cmps ds.length (dpV ds) cp od ∧ u = .tuple #[.slice (some ⟨cb, 0, none⟩) ds.length ds.length, .slice op od.length oc] ∧ Row (.slice op od.length oc) od.length (fl iN od) 1 3 oE ∧ F' = (cb, C (fl iI cp) 3) :: oE) := by
  refine f_enter (args := [.slice (some ⟨db, 0, none⟩) ds.length dcap]) Tryz.func55 rfl Tryz.ntmps55 rfl ?_
  intro w0 w a hpre hl hh
  have hnn := hdp.len; have htot := hdp.tot
  simp only [slotsFrom, Nat.reduceAdd] at hl
  refine c_seq ?_
  refine c_region ?_
  refine wl (wl_val hl rfl trivial (r_assign hl rfl) ?_)
  clear hl a; intro a hl
  refine wl (wl_val hl rfl trivial (r_assign hl rfl) ?_)
  clear hl a; intro a hl
  refine w_nil ?_
  have hl2 := hl.add (t := 0) (hl.nil) rfl; clear hl; have hl := hl2; clear hl2
  refine then_normal ?_
  refine c_seq ?_
  refine c_region ?_
  refine wl (wl_val hl rfl trivial (r_move hl rfl) ?_)
  clear hl a; intro a hl
  refine wl (wl_val hl rfl trivial (r_lenS hl rfl slc117) ?_)
  clear hl a; intro a hl
  refine wl (wl_val hl rfl trivial (r_assign hl rfl) ?_)
  clear hl a; intro a hl
  refine w_nil ?_
  have hl2 := hl.add (t := 0) (hl.add (t := 4) (hl.nil) rfl) rfl; clear hl; have hl := hl2; clear hl2
  refine then_normal ?_
  refine c_seq ?_
  refine c_region ?_
  refine wl (wl_val hl rfl trivial (r_move hl rfl) ?_)
  clear hl a; intro a hl
  refine wl (w_makeSliceN hl hh rfl trivial app58 zero3 rfl rfl (by omega) (by decide) ?_)
  clear hl hh a w; intro k21 jk21 a w hjk21 hl hh
  refine wl (wl_val hl rfl trivial (r_assign hl rfl) ?_)
  clear hl a; intro a hl
  refine w_nil ?_
  have hl2 := hl.add (t := 0) (hl.add (t := 2) (hl.add (t := 4) (hl.nil) rfl) rfl) rfl; clear hl; have hl := hl2; clear hl2
  refine then_normal ?_
  refine c_seq ?_
  refine c_region ?_
  refine wl (wl_val hl rfl trivial (r_move hl rfl) ?_)
  clear hl a; intro a hl
  refine wl (w_makeSliceN hl hh rfl trivial app58 zero3 rfl rfl (by omega) (by decide) ?_)
  clear hl hh a w; intro k23 jk23 a w hjk23 hl hh
  refine wl (wl_val hl rfl trivial (r_assign hl rfl) ?_)
  clear hl a; intro a hl
  refine w_nil ?_
  have hl2 := hl.add (t := 0) (hl.add (t := 2) (hl.add (t := 4) (hl.add (t := 5) (hl.nil) rfl) rfl) rfl) rfl; clear hl; have hl := hl2; clear hl2
  refine then_normal ?_
  refine c_seq ?_
  refine c_region ?_
  refine wl (wl_val hl rfl trivial (r_move hl rfl) ?_)
  clear hl a; intro a hl
  refine wl (w_makeSliceN hl hh rfl trivial app58 zero3 rfl rfl (by omega) (by decide) ?_)
  clear hl hh a w; intro k25 jk25 a w hjk25 hl hh
  refine wl (wl_val hl rfl trivial (r_assign hl rfl) ?_)
  clear hl a; intro a hl
  refine w_nil ?_
  have hl2 := hl.add (t := 0) (hl.add (t := 2) (hl.add (t := 4) (hl.add (t := 5) (hl.add (t := 6) (hl.nil) rfl) rfl) rfl) rfl) rfl; clear hl; have hl := hl2; clear hl2
  rw [zeros_eq hjk21, zeros_eq hjk23, zeros_eq hjk25] at hh
  refine then_normal ?_
  refine c_seq ?_
  refine c_region ?_
  refine wl (wl_val hl rfl trivial (r_move hl rfl) ?_)
  clear hl a; intro a hl
  refine wl (w_makeSlice0 hl hh rfl trivial app58 rfl rfl (by omega) (by decide) ?_)
  clear hl hh a w; intro k27 jk27 a w hjk27 hl hh
  refine wl (wl_val hl rfl trivial (r_assign hl rfl) ?_)
  clear hl a; intro a hl
  refine w_nil ?_
  have hl2 := hl.add (t := 0) (hl.add (t := 2) (hl.add (t := 3) (hl.add (t := 4) (hl.add (t := 5) (hl.add (t := 6) (hl.nil) rfl) rfl) rfl) rfl) rfl) rfl; clear hl; have hl := hl2; clear hl2
  refine then_normal ?_
  refine c_seq ?_
  refine c_seq ?_
  refine c_region ?_
  refine wl (wl_val hl rfl trivial (r_move hl rfl) ?_)
  clear hl a; intro a hl
  refine wl (wl_val hl rfl trivial (r_move hl rfl) ?_)
  clear hl a; intro a hl
  refine w_nil ?_
  have hl2 := hl.add (t := 0) (hl.add (t := 2) (hl.add (t := 3) (hl.add (t := 4) (hl.add (t := 5) (hl.add (t := 6) (hl.add (t := 28) (hl.add (t := 29) (hl.nil) rfl) rfl) rfl) rfl) rfl) rfl) rfl) rfl; clear hl; have hl := hl2; clear hl2
  refine then_normal ?_
  refine wp_block ?_
  obtain ⟨KS0, hKS0, hk⟩ := (hl.add (t := 0) (hl.add (t := 2) (hl.add (t := 3) (hl.add (t := 4) (hl.add (t := 5) (hl.add (t := 6) (hl.add (t := 28) (hl.nil) rfl) rfl) rfl) rfl) rfl) rfl) rfl).name
  obtain ⟨HS0, hHS0, hh2⟩ := hh.name (keeps_cons (b := k21) (o' := C (fl iI (List.replicate ds.length 0)) 3) (by repeat (first | exact find_head | apply find_tail | apply find_skip)) (by first | rfl) (keeps_cons (b := k23) (o' := C (fl iI (List.replicate ds.length 0)) 3) (by repeat (first | exact find_head | apply find_tail | apply find_skip)) (by first | rfl) (keeps_nil)))
  refine c_loop (α := Nat) (fun i => ds.length - i) (fun i a w => (i ≤ ds.length) ∧ Sl 202 ([(29, .int .i64 (i : Int))] ++ KS0) a ∧ Has _ w0 ([(k21, C (fl iI (nmI ds.length i)) 3), (k23, C (fl iI (nmI ds.length i)) 3)] ++ HS0) w) 0 ⟨Nat.zero_le _, hl.addE (t := 29) (hk) rfl (by first | rfl), (by rw [nm_zero]; exact hh2)⟩ ?_
  clear hk hh2 hl hh a w
  intro i a w hI
  obtain ⟨hi, hl, hh⟩ := hI
  subst hKS0; subst hHS0
  simp only [List.cons_append, List.nil_append, List.append_nil, List.append_assoc] at hl hh
  refine c_seq ?_
  refine c_region ?_
  refine wl (wl_val hl rfl trivial (r_lss hl rfl rfl) ?_)
  clear hl a; intro a hl
  refine w_nil ?_
  have hl2 := hl.add (t := 0) (hl.add (t := 2) (hl.add (t := 3) (hl.add (t := 4) (hl.add (t := 5) (hl.add (t := 6) (hl.add (t := 28) (hl.add (t := 29) (hl.add (t := 30) (hl.nil) rfl) rfl) rfl) rfl) rfl) rfl) rfl) rfl) rfl; clear hl; have hl := hl2; clear hl2
  refine then_normal ?_
  refine c_seq ?_
  refine c_cond hl rfl ?_ ?_
  · intro hc0
    try simp only [decide_eq_true_eq, decide_eq_false_iff_not, Bool.not_eq_true', Bool.not_eq_false', Bool.not_eq_true, Bool.not_eq_false, Bool.and_eq_true, Bool.or_eq_true, Bool.and_eq_false_iff, Bool.or_eq_false_iff, Bool.not_not, ne_eq, Int.not_lt, Int.not_le, Decidable.not_not, beq_iff_eq, bne_iff_ne] at hc0
    refine wp_skip ?_
    refine then_normal ?_
    refine c_seq ?_
    refine wp_block ?_
    refine c_seq ?_
    refine c_region ?_
    refine wl (wl_val hl rfl trivial (r_move hl rfl) ?_)
    clear hl a; intro a hl
    refine wl (wl_val hl rfl trivial (r_assign hl rfl) ?_)
    clear hl a; intro a hl
    refine w_nil ?_
    have hl2 := hl.add (t := 0) (hl.add (t := 2) (hl.add (t := 3) (hl.add (t := 4) (hl.add (t := 5) (hl.add (t := 6) (hl.add (t := 7) (hl.add (t := 28) (hl.add (t := 29) (hl.nil) rfl) rfl) rfl) rfl) rfl) rfl) rfl) rfl) rfl; clear hl; have hl := hl2; clear hl2
    refine then_normal ?_
    refine c_region ?_
    refine wl (wl_val hl rfl trivial (r_move hl rfl) ?_)
    clear hl a; intro a hl
    refine wl (wl_val hl rfl trivial (r_move hl rfl) ?_)
    clear hl a; intro a hl
    refine wl (wl_val hl rfl trivial (r_move hl rfl) ?_)
    clear hl a; intro a hl
    refine wl (wl_val hl rfl trivial (r_move hl rfl) ?_)
    clear hl a; intro a hl
    refine wl (wl_val hl rfl trivial (r_indexS hl rfl rfl slc58 (by omega) (by omega) (by first | (simp only [Int.reduceToNat]; rfl) | exact toNat_add1 _ | exact toNat_add2 _ _ | exact toNat_emod _ _ | exact Int.toNat_natCast _ | rfl)) ?_)
    clear hl a; intro a hl
    refine wl (w_store hl hh trivial one3 rfl rfl (by repeat (first | exact find_head | apply find_tail | apply find_skip)) (by first | (simp; done) | (simp; omega) | exact fm0 (by first | omega | (rw [nm_len (by omega)]; omega)) | exact qc2_lt (by omega)) (by first | rfl | assumption | (apply Row.one; assumption)) (by first | exact nm_set (by omega) | exact fs0 (by omega) | exact qc2_put hQat | (simp only [setL, List.getElem?_cons_zero, List.getElem?_cons_succ, Value.cells, List.take_zero, List.take_succ_cons, List.take_nil, List.drop_zero, List.drop_succ_cons, List.drop_nil, List.length_cons, List.length_nil, List.cons_append, List.nil_append, List.append_nil, Nat.zero_add, Nat.add_zero, Nat.reduceAdd, Nat.reduceBEq, Nat.reduceEqDiff, Nat.ble, BEq.rfl, Bool.and_true, Bool.and_self, cond_true, beq_self_eq_true]; rfl)) ?_)
    clear hh w; intro w hh
    refine wl (wl_val hl rfl trivial (r_indexS hl rfl rfl slc58 (by omega) (by omega) (by first | (simp only [Int.reduceToNat]; rfl) | exact toNat_add1 _ | exact toNat_add2 _ _ | exact toNat_emod _ _ | exact Int.toNat_natCast _ | rfl)) ?_)
    clear hl a; intro a hl
    refine wl (w_store hl hh trivial one3 rfl rfl (by repeat (first | exact find_head | apply find_tail | apply find_skip)) (by first | (simp; done) | (simp; omega) | exact fm0 (by first | omega | (rw [nm_len (by omega)]; omega)) | exact qc2_lt (by omega)) (by first | rfl | assumption | (apply Row.one; assumption)) (by first | exact nm_set (by omega) | exact fs0 (by omega) | exact qc2_put hQat | (simp only [setL, List.getElem?_cons_zero, List.getElem?_cons_succ, Value.cells, List.take_zero, List.take_succ_cons, List.take_nil, List.drop_zero, List.drop_succ_cons, List.drop_nil, List.length_cons, List.length_nil, List.cons_append, List.nil_append, List.append_nil, Nat.zero_add, Nat.add_zero, Nat.reduceAdd, Nat.reduceBEq, Nat.reduceEqDiff, Nat.ble, BEq.rfl, Bool.and_true, Bool.and_self, cond_true, beq_self_eq_true]; rfl)) ?_)
    clear hh w; intro w hh
    refine w_nil ?_
    have hl2 := hl.add (t := 0) (hl.add (t := 2) (hl.add (t := 3) (hl.add (t := 4) (hl.add (t := 5) (hl.add (t := 6) (hl.add (t := 28) (hl.add (t := 29) (hl.nil) rfl) rfl) rfl) rfl) rfl) rfl) rfl) rfl; clear hl; have hl := hl2; clear hl2
    refine blk_normal ?_
    refine then_normal ?_
    refine c_region ?_
    first | refine wl (wl_val hl rfl trivial (r_add hl rfl rfl (by simp only [Fits]; omega)) ?_) | refine wl (wl_val hl rfl trivial (r_addW hl rfl rfl) ?_)
    clear hl a; intro a hl
    refine wl (wl_val hl rfl trivial (r_move hl rfl) ?_)
    clear hl a; intro a hl
    refine w_nil ?_
    have hl2 := hl.add (t := 0) (hl.add (t := 2) (hl.add (t := 3) (hl.add (t := 4) (hl.add (t := 5) (hl.add (t := 6) (hl.add (t := 28) (hl.add (t := 29) (hl.nil) rfl) rfl) rfl) rfl) rfl) rfl) rfl) rfl; clear hl; have hl := hl2; clear hl2
    refine then_normal ?_
    refine ⟨i + 1, (by omega), (by omega), hl.addE (t := 29) (hl.addE (t := 0) (hl.addE (t := 2) (hl.addE (t := 3) (hl.addE (t := 4) (hl.addE (t := 5) (hl.addE (t := 6) (hl.addE (t := 28) (hl.nil) rfl (by first | rfl | exact congrArg (Value.int .i64) (show (i : Int) + 1 = ((i + 1 : Nat) : Int) by omega))) rfl (by first | rfl | exact congrArg (Value.int .i64) (show (i : Int) + 1 = ((i + 1 : Nat) : Int) by omega))) rfl (by first | rfl | exact congrArg (Value.int .i64) (show (i : Int) + 1 = ((i + 1 : Nat) : Int) by omega))) rfl (by first | rfl | exact congrArg (Value.int .i64) (show (i : Int) + 1 = ((i + 1 : Nat) : Int) by omega))) rfl (by first | rfl | exact congrArg (Value.int .i64) (show (i : Int) + 1 = ((i + 1 : Nat) : Int) by omega))) rfl (by first | rfl | exact congrArg (Value.int .i64) (show (i : Int) + 1 = ((i + 1 : Nat) : Int) by omega))) rfl (by first | rfl | exact congrArg (Value.int .i64) (show (i : Int) + 1 = ((i + 1 : Nat) : Int) by omega))) rfl (by first | rfl | exact congrArg (Value.int .i64) (show (i : Int) + 1 = ((i + 1 : Nat) : Int) by omega)), hh.keep (by repeat (first | exact keeps_nil | apply keeps_cons (by repeat (first | exact find_head | apply find_tail | apply find_skip)) (by first  | rfl) | exact keeps_self | exact keeps_left | apply keeps_app | apply keeps_mv | apply keeps_skip))⟩
  · intro hc0
    try simp only [decide_eq_true_eq, decide_eq_false_iff_not, Bool.not_eq_true', Bool.not_eq_false', Bool.not_eq_true, Bool.not_eq_false, Bool.and_eq_true, Bool.or_eq_true, Bool.and_eq_false_iff, Bool.or_eq_false_iff, Bool.not_not, ne_eq, Int.not_lt, Int.not_le, Decidable.not_not, beq_iff_eq, bne_iff_ne] at hc0
    have hie : i = ds.length := by omega
    rw [hie, nm_full] at hh
    refine wp_exit ?_
    refine then_exit ?_
    refine then_exit ?_
    refine blk_exit ?_
    refine then_normal ?_
    refine c_seq ?_
    refine c_region ?_
    refine wl (wl_val hl rfl trivial (r_assign hl rfl) ?_)
    clear hl a; intro a hl
    refine w_nil ?_
    have hl2 := hl.add (t := 0) (hl.add (t := 2) (hl.add (t := 3) (hl.add (t := 4) (hl.add (t := 5) (hl.add (t := 6) (hl.add (t := 8) (hl.nil) rfl) rfl) rfl) rfl) rfl) rfl) rfl; clear hl; have hl := hl2; clear hl2
    refine then_normal ?_
    refine c_seq ?_
    refine c_region ?_
    refine wl (wl_val hl rfl trivial (r_assign hl rfl) ?_)
    clear hl a; intro a hl
    refine w_nil ?_
    have hl2 := hl.add (t := 0) (hl.add (t := 2) (hl.add (t := 3) (hl.add (t := 4) (hl.add (t := 5) (hl.add (t := 6) (hl.add (t := 8) (hl.add (t := 9) (hl.nil) rfl) rfl) rfl) rfl) rfl) rfl) rfl) rfl; clear hl; have hl := hl2; clear hl2
    refine then_normal ?_
    refine c_seq ?_
    refine c_region ?_
    refine wl (wl_val hl rfl trivial (r_assign hl rfl) ?_)
    clear hl a; intro a hl
    refine w_nil ?_
    have hl2 := hl.add (t := 0) (hl.add (t := 2) (hl.add (t := 3) (hl.add (t := 4) (hl.add (t := 5) (hl.add (t := 6) (hl.add (t := 8) (hl.add (t := 9) (hl.add (t := 10) (hl.nil) rfl) rfl) rfl) rfl) rfl) rfl) rfl) rfl) rfl; clear hl; have hl := hl2; clear hl2
    refine then_normal ?_
    refine c_seq ?_
    refine c_region ?_
    refine wl (wl_val hl rfl trivial (r_assign hl rfl) ?_)
    clear hl a; intro a hl
    refine w_nil ?_
    have hl2 := hl.add (t := 0) (hl.add (t := 2) (hl.add (t := 3) (hl.add (t := 4) (hl.add (t := 5) (hl.add (t := 6) (hl.add (t := 8) (hl.add (t := 9) (hl.add (t := 10) (hl.add (t := 11) (hl.nil) rfl) rfl) rfl) rfl) rfl) rfl) rfl) rfl) rfl) rfl; clear hl; have hl := hl2; clear hl2
    refine then_normal ?_
    refine c_seq ?_
    refine c_seq ?_
    refine c_region ?_
    refine wl (wl_val hl rfl trivial (r_move hl rfl) ?_)
    clear hl a; intro a hl
    refine wl (wl_val hl rfl trivial (r_move hl rfl) ?_)
    clear hl a; intro a hl
    refine w_nil ?_
    have hl2 := hl.add (t := 0) (hl.add (t := 2) (hl.add (t := 3) (hl.add (t := 5) (hl.add (t := 6) (hl.add (t := 8) (hl.add (t := 9) (hl.add (t := 10) (hl.add (t := 11) (hl.add (t := 39) (hl.add (t := 40) (hl.nil) rfl) rfl) rfl) rfl) rfl) rfl) rfl) rfl) rfl) rfl) rfl; clear hl; have hl := hl2; clear hl2
    refine then_normal ?_
    refine wp_block ?_
    obtain ⟨KS1, hKS1, hk⟩ := (hl.add (t := 0) (hl.add (t := 2) (hl.add (t := 5) (hl.add (t := 6) (hl.add (t := 39) (hl.nil) rfl) rfl) rfl) rfl) rfl).name
    obtain ⟨HS1, hHS1, hh2⟩ := hh.nameT (A := [(k21, C (fl iI (List.replicate ds.length (-1))) 3), (k23, C (fl iI (List.replicate ds.length (-1))) 3), (k25, C (fl iI (List.replicate ds.length 0)) 3)]) (U := [(k27, C jk27 3)]) (keeps_cons (b := k21) (o' := C (fl iI (List.replicate ds.length (-1))) 3) (by repeat (first | exact find_head | apply find_tail | apply find_skip)) (by first | rfl) (keeps_cons (b := k23) (o' := C (fl iI (List.replicate ds.length (-1))) 3) (by repeat (first | exact find_head | apply find_tail | apply find_skip)) (by first | rfl) (keeps_cons (b := k25) (o' := C (fl iI (List.replicate ds.length 0)) 3) (by repeat (first | exact find_head | apply find_tail | apply find_skip)) (by first | rfl) ((by repeat (first | exact keeps_nil | exact keeps_self | exact keeps_left | apply keeps_app | apply keeps_mv | apply keeps_skip))))))
    refine c_loop (α := TX) (fun z => ds.length - z.i) (fun z a w => (z.i ≤ ds.length ∧ TR ds.length (dpV ds) z.i z.t.c ∧ TWr z.t) ∧ Sl 202 ([(40, .int .i64 (z.i : Int)), (8, .slice z.t.qa z.t.c.Q.length z.t.qc), (9, .slice z.t.oa z.t.c.O.length z.t.oc), (10, .int .i64 (z.t.c.clk : Int)), (11, .int .i64 (z.t.c.cnt : Int)), (3, .slice z.t.da z.t.c.od.length z.t.dc)] ++ KS1) a ∧ Has _ w0 ([(k21, C (fl iI z.t.c.cp) 3), (k23, C (fl iI z.t.c.sn) 3), (k25, C (fl iI z.t.c.lw) 3)] ++ (HS1 ++ (z.t.oE ++ (z.t.qE ++ z.t.dE)))) w) ⟨0, ⟨⟨List.replicate ds.length (-1), List.replicate ds.length 0, List.replicate ds.length (-1), [], [], [], fun _ => 0, 0, 0⟩, none, 0, [], none, 0, [], some ⟨k27, 0, none⟩, ds.length, [(k27, C jk27 3)]⟩⟩ ⟨⟨Nat.zero_le _, TR.start _ _ _ (by simp), ⟨Row.nil _ _, Row.nil _ _, row_mk0 hjk27⟩⟩, hl.addE (t := 40) (hl.addE (t := 8) (hl.addE (t := 9) (hl.addE (t := 10) (hl.addE (t := 11) (hl.addE (t := 3) (hk) rfl (by first | rfl)) rfl (by first | rfl)) rfl (by first | rfl)) rfl (by first | rfl)) rfl (by first | rfl)) rfl (by first | rfl), hh2⟩ ?_
    clear hk hh2 hl hh a w
    intro z a w hI
    obtain ⟨⟨hi, hR, hW⟩, hl, hh⟩ := hI
    subst hKS1; subst hHS1
    simp only [List.cons_append, List.nil_append, List.append_nil, List.append_assoc] at hl hh
    have hl1 := hR.l1; have hl2 := hR.l2; have hl3 := hR.l3
    refine c_seq ?_
    refine c_region ?_
    refine wl (wl_val hl rfl trivial (r_lss hl rfl rfl) ?_)
    clear hl a; intro a hl
    refine w_nil ?_
    have hl2 := hl.add (t := 0) (hl.add (t := 2) (hl.add (t := 3) (hl.add (t := 5) (hl.add (t := 6) (hl.add (t := 8) (hl.add (t := 9) (hl.add (t := 10) (hl.add (t := 11) (hl.add (t := 39) (hl.add (t := 40) (hl.add (t := 41) (hl.nil) rfl) rfl) rfl) rfl) rfl) rfl) rfl) rfl) rfl) rfl) rfl) rfl; clear hl; have hl := hl2; clear hl2
    refine then_normal ?_
    refine c_seq ?_
    refine c_cond hl rfl ?_ ?_
    · intro hc1
      try simp only [decide_eq_true_eq, decide_eq_false_iff_not, Bool.not_eq_true', Bool.not_eq_false', Bool.not_eq_true, Bool.not_eq_false, Bool.and_eq_true, Bool.or_eq_true, Bool.and_eq_false_iff, Bool.or_eq_false_iff, Bool.not_not, ne_eq, Int.not_lt, Int.not_le, Decidable.not_not, beq_iff_eq, bne_iff_ne] at hc1
      have hzi : z.i < ds.length := by omega
      refine wp_skip ?_
      refine then_normal ?_
      refine c_seq ?_
      refine wp_block ?_
      refine c_seq ?_
      refine c_region ?_
      refine wl (wl_val hl rfl trivial (r_move hl rfl) ?_)
      clear hl a; intro a hl
      refine wl (wl_val hl rfl trivial (r_assign hl rfl) ?_)
      clear hl a; intro a hl
      refine w_nil ?_
      have hl2 := hl.add (t := 0) (hl.add (t := 2) (hl.add (t := 3) (hl.add (t := 5) (hl.add (t := 6) (hl.add (t := 8) (hl.add (t := 9) (hl.add (t := 10) (hl.add (t := 11) (hl.add (t := 12) (hl.add (t := 39) (hl.add (t := 40) (hl.nil) rfl) rfl) rfl) rfl) rfl) rfl) rfl) rfl) rfl) rfl) rfl) rfl; clear hl; have hl := hl2; clear hl2
      refine then_normal ?_
      refine c_seq ?_
      refine c_seq ?_
      refine c_region ?_
      refine wl (wl_val hl rfl trivial (r_move hl rfl) ?_)
      clear hl a; intro a hl
      refine wl (wl_val hl rfl trivial (r_move hl rfl) ?_)
      clear hl a; intro a hl
      refine wl (wl_val hl rfl trivial (r_indexS hl rfl rfl slc58 (by omega) (by omega) (by first | (simp only [Int.reduceToNat]; rfl) | exact toNat_add1 _ | exact toNat_add2 _ _ | exact toNat_emod _ _ | exact Int.toNat_natCast _ | rfl)) ?_)
      clear hl a; intro a hl
      first | refine wl (w_load hl hh rfl trivial one3 rfl (by repeat (first | exact find_head | apply find_tail | apply find_skip)) (by first | exact fc0 (fnI_get (by omega)) | exact fl_cell qc2_len hQat rfl j1 | exact fl_cell qc2_len hQpt rfl j1 | exact fcN hOx j3 | rfl) ?_) | refine wl (w_loadR hl hh rfl trivial one3 rfl (hpre _ _ hdp.blk) (by simp) (ev_at hdu) ?_) | refine wl (w_loadR hl hh rfl trivial one3 rfl (hpre _ _ hm2) (by simp) (fl_cell edc_len hke rfl j2) ?_)
      clear hl a; intro a hl
      refine wl (wl_val hl rfl trivial (r_neq hl rfl rfl) ?_)
      clear hl a; intro a hl
      refine w_nil ?_
      have hl2 := hl.add (t := 0) (hl.add (t := 2) (hl.add (t := 3) (hl.add (t := 5) (hl.add (t := 6) (hl.add (t := 8) (hl.add (t := 9) (hl.add (t := 10) (hl.add (t := 11) (hl.add (t := 12) (hl.add (t := 39) (hl.add (t := 40) (hl.add (t := 47) (hl.nil) rfl) rfl) rfl) rfl) rfl) rfl) rfl) rfl) rfl) rfl) rfl) rfl) rfl; clear hl; have hl := hl2; clear hl2
      refine then_normal ?_
      refine c_cond hl rfl ?_ ?_
      · intro hc2
        try simp only [decide_eq_true_eq, decide_eq_false_iff_not, Bool.not_eq_true', Bool.not_eq_false', Bool.not_eq_true, Bool.not_eq_false, Bool.and_eq_true, Bool.or_eq_true, Bool.and_eq_false_iff, Bool.or_eq_false_iff, Bool.not_not, ne_eq, Int.not_lt, Int.not_le, Decidable.not_not, beq_iff_eq, bne_iff_ne] at hc2
        refine wp_exit ?_
        refine then_exit ?_
        refine blk_exit ?_
        refine then_normal ?_
        refine c_region ?_
        first | refine wl (wl_val hl rfl trivial (r_add hl rfl rfl (by simp only [Fits]; omega)) ?_) | refine wl (wl_val hl rfl trivial (r_addW hl rfl rfl) ?_)
        clear hl a; intro a hl
        refine wl (wl_val hl rfl trivial (r_move hl rfl) ?_)
        clear hl a; intro a hl
        refine w_nil ?_
        have hl2 := hl.add (t := 0) (hl.add (t := 2) (hl.add (t := 3) (hl.add (t := 5) (hl.add (t := 6) (hl.add (t := 8) (hl.add (t := 9) (hl.add (t := 10) (hl.add (t := 11) (hl.add (t := 39) (hl.add (t := 40) (hl.nil) rfl) rfl) rfl) rfl) rfl) rfl) rfl) rfl) rfl) rfl) rfl; clear hl; have hl := hl2; clear hl2
        refine then_normal ?_
        first | refine ⟨⟨z.i + 1, y⟩, (by simp only; omega), ⟨by simp only; omega, hdone, hW⟩, hl.addE (t := 40) (hl.addE (t := 8) (hl.addE (t := 9) (hl.addE (t := 10) (hl.addE (t := 11) (hl.addE (t := 3) (hl.addE (t := 0) (hl.addE (t := 2) (hl.addE (t := 5) (hl.addE (t := 6) (hl.addE (t := 39) (hl.nil) rfl (by first | rfl | exact congrArg (Value.int .i64) (show (z.i : Int) + 1 = ((z.i + 1 : Nat) : Int) by omega))) rfl (by first | rfl | exact congrArg (Value.int .i64) (show (z.i : Int) + 1 = ((z.i + 1 : Nat) : Int) by omega))) rfl (by first | rfl | exact congrArg (Value.int .i64) (show (z.i : Int) + 1 = ((z.i + 1 : Nat) : Int) by omega))) rfl (by first | rfl | exact congrArg (Value.int .i64) (show (z.i : Int) + 1 = ((z.i + 1 : Nat) : Int) by omega))) rfl (by first | rfl | exact congrArg (Value.int .i64) (show (z.i : Int) + 1 = ((z.i + 1 : Nat) : Int) by omega))) rfl (by first | rfl | exact congrArg (Value.int .i64) (show (z.i : Int) + 1 = ((z.i + 1 : Nat) : Int) by omega))) rfl (by first | rfl | exact congrArg (Value.int .i64) (show (z.i : Int) + 1 = ((z.i + 1 : Nat) : Int) by omega))) rfl (by first | rfl | exact congrArg (Value.int .i64) (show (z.i : Int) + 1 = ((z.i + 1 : Nat) : Int) by omega))) rfl (by first | rfl | exact congrArg (Value.int .i64) (show (z.i : Int) + 1 = ((z.i + 1 : Nat) : Int) by omega))) rfl (by first | rfl | exact congrArg (Value.int .i64) (show (z.i : Int) + 1 = ((z.i + 1 : Nat) : Int) by omega))) rfl (by first | rfl | exact congrArg (Value.int .i64) (show (z.i : Int) + 1 = ((z.i + 1 : Nat) : Int) by omega)), hh.keep (by repeat (first | exact keeps_nil | apply keeps_cons (by repeat (first | exact find_head | apply find_tail | apply find_skip)) (by first  | rfl) | exact keeps_self | exact keeps_left | apply keeps_app | apply keeps_mv | apply keeps_skip))⟩ | refine ⟨⟨z.i + 1, z.t⟩, (by simp only; omega), ⟨by simp only; omega, hR.next hc2, hW⟩, hl.addE (t := 40) (hl.addE (t := 8) (hl.addE (t := 9) (hl.addE (t := 10) (hl.addE (t := 11) (hl.addE (t := 3) (hl.addE (t := 0) (hl.addE (t := 2) (hl.addE (t := 5) (hl.addE (t := 6) (hl.addE (t := 39) (hl.nil) rfl (by first | rfl | exact congrArg (Value.int .i64) (show (z.i : Int) + 1 = ((z.i + 1 : Nat) : Int) by omega))) rfl (by first | rfl | exact congrArg (Value.int .i64) (show (z.i : Int) + 1 = ((z.i + 1 : Nat) : Int) by omega))) rfl (by first | rfl | exact congrArg (Value.int .i64) (show (z.i : Int) + 1 = ((z.i + 1 : Nat) : Int) by omega))) rfl (by first | rfl | exact congrArg (Value.int .i64) (show (z.i : Int) + 1 = ((z.i + 1 : Nat) : Int) by omega))) rfl (by first | rfl | exact congrArg (Value.int .i64) (show (z.i : Int) + 1 = ((z.i + 1 : Nat) : Int) by omega))) rfl (by first | rfl | exact congrArg (Value.int .i64) (show (z.i : Int) + 1 = ((z.i + 1 : Nat) : Int) by omega))) rfl (by first | rfl | exact congrArg (Value.int .i64) (show (z.i : Int) + 1 = ((z.i + 1 : Nat) : Int) by omega))) rfl (by first | rfl | exact congrArg (Value.int .i64) (show (z.i : Int) + 1 = ((z.i + 1 : Nat) : Int) by omega))) rfl (by first | rfl | exact congrArg (Value.int .i64) (show (z.i : Int) + 1 = ((z.i + 1 : Nat) : Int) by omega))) rfl (by first | rfl | exact congrArg (Value.int .i64) (show (z.i : Int) + 1 = ((z.i + 1 : Nat) : Int) by omega))) rfl (by first | rfl | exact congrArg (Value.int .i64) (show (z.i : Int) + 1 = ((z.i + 1 : Nat) : Int) by omega)), hh.keep (by repeat (first | exact keeps_nil | apply keeps_cons (by repeat (first | exact find_head | apply find_tail | apply find_skip)) (by first  | rfl) | exact keeps_self | exact keeps_left | apply keeps_app | apply keeps_mv | apply keeps_skip))⟩
      · intro hc2
        try simp only [decide_eq_true_eq, decide_eq_false_iff_not, Bool.not_eq_true', Bool.not_eq_false', Bool.not_eq_true, Bool.not_eq_false, Bool.and_eq_true, Bool.or_eq_true, Bool.and_eq_false_iff, Bool.or_eq_false_iff, Bool.not_not, ne_eq, Int.not_lt, Int.not_le, Decidable.not_not, beq_iff_eq, bne_iff_ne] at hc2
        refine wp_skip ?_
        refine then_normal ?_
        refine c_seq ?_
        refine c_region ?_
        refine wl (wl_val hl rfl trivial (r_move hl rfl) ?_)
        clear hl a; intro a hl
        refine wl (wl_val hl rfl trivial (r_move hl rfl) ?_)
        clear hl a; intro a hl
        refine wl (wl_val hl rfl trivial (r_build hl rfl zero178 bld178 (by simp only [fillL, setL, List.getElem?_cons_zero, List.getElem?_cons_succ, Value.cells, List.take_zero, List.take_succ_cons, List.take_nil, List.drop_zero, List.drop_succ_cons, List.drop_nil, List.length_cons, List.length_nil, List.cons_append, List.nil_append, List.append_nil, Nat.zero_add, Nat.add_zero, Nat.reduceAdd, Nat.reduceBEq, Nat.reduceEqDiff, Nat.ble, BEq.rfl, Bool.and_true, Bool.and_self, cond_true, beq_self_eq_true]; rfl)) ?_)
        clear hl a; intro a hl
        refine wl (w_buildSlice hl hh rfl trivial app176 zero178 rfl rfl rfl rfl rfl (by simp only [fillL, arrPl, List.range_succ, List.range_zero, List.map_cons, List.map_nil, List.map_append, List.nil_append, List.replicate_succ, List.replicate_zero, List.flatten_cons, List.flatten_nil, Nat.zero_mul, Nat.mul_one, Nat.one_mul, Nat.reduceMul, setL, List.getElem?_cons_zero, List.getElem?_cons_succ, Value.cells, List.take_zero, List.take_succ_cons, List.take_nil, List.drop_zero, List.drop_succ_cons, List.drop_nil, List.length_cons, List.length_nil, List.cons_append, List.nil_append, List.append_nil, Nat.zero_add, Nat.add_zero, Nat.reduceAdd, Nat.reduceBEq, Nat.reduceEqDiff, Nat.ble, BEq.rfl, Bool.and_true, Bool.and_self, cond_true, beq_self_eq_true]; rfl) ?_)
        clear hl hh a w; intro k51 a w hl hh
        refine wl (w_append (news := [.int .i64 (z.i : Int), .int .i64 0]) hl hh rfl trivial app176 rfl rfl rfl hW.q (by repeat (first | exact keeps_nil | apply keeps_cons (by repeat (first | exact find_head | apply find_tail | apply find_skip)) (by first  | rfl) | exact keeps_self | exact keeps_left | apply keeps_app | apply keeps_mv | apply keeps_skip)) (hh.mem _ _ (Find.mem (by repeat (first | exact find_head | apply find_tail | apply find_skip)))) rfl rfl rfl (by omega) (by have := hR.q; rw [this]; simp) (by have := hR.q; rw [this]; simp) (by decide) ?_)
        clear hl hh a w; intro rv2 E2 a w hR2 hl hh
        have hh3 := hh.comm; clear hh; have hh := hh3; clear hh3
        try simp only [List.cons_append, List.nil_append, List.append_assoc, List.append_nil] at hh
        refine wl (wl_val hl rfl trivial (r_assign hl rfl) ?_)
        clear hl a; intro a hl
        refine w_nil ?_
        have hl2 := hl.add (t := 0) (hl.add (t := 2) (hl.add (t := 3) (hl.add (t := 5) (hl.add (t := 6) (hl.add (t := 8) (hl.add (t := 9) (hl.add (t := 10) (hl.add (t := 11) (hl.add (t := 39) (hl.add (t := 40) (hl.nil) rfl) rfl) rfl) rfl) rfl) rfl) rfl) rfl) rfl) rfl) rfl; clear hl; have hl := hl2; clear hl2
        obtain ⟨p9, c9, hv9⟩ := row_val hR2
        subst hv9
        generalize E2 = E9 at hh hR2
        have hR9 : Row (.slice p9 1 c9) 1 (fl qc2 [(z.i, 0)]) 2 178 E9 := by
          rw [hR.q] at hR2; exact hR2
        rw [hR.q] at hl
        refine then_normal ?_
        refine wp_block ?_
        obtain ⟨KS2, hKS2, hk⟩ := (hl.add (t := 0) (hl.add (t := 2) (hl.add (t := 5) (hl.add (t := 6) (hl.add (t := 39) (hl.add (t := 40) (hl.nil) rfl) rfl) rfl) rfl) rfl) rfl).name
        obtain ⟨HS2, hHS2, hh2⟩ := hh.nameT (A := [(k21, C (fl iI z.t.c.cp) 3), (k23, C (fl iI z.t.c.sn) 3), (k25, C (fl iI z.t.c.lw) 3)]) (U := (z.t.oE ++ (E9 ++ z.t.dE))) (keeps_cons (b := k21) (o' := C (fl iI z.t.c.cp) 3) (by repeat (first | exact find_head | apply find_tail | apply find_skip)) (by first | rfl) (keeps_cons (b := k23) (o' := C (fl iI z.t.c.sn) 3) (by repeat (first | exact find_head | apply find_tail | apply find_skip)) (by first | rfl) (keeps_cons (b := k25) (o' := C (fl iI z.t.c.lw) 3) (by repeat (first | exact find_head | apply find_tail | apply find_skip)) (by first | rfl) ((by repeat (first | exact keeps_nil | exact keeps_self | exact keeps_left | apply keeps_app | apply keeps_mv | apply keeps_skip))))))
        refine c_loop (α := TW) (fun y => mz (dpV ds) ds.length y.c) (fun y a w => (TI ds.length (dpV ds) (2 * rem (dpV ds) (fun _ => 0) ds.length + 1) z.i y.c ∧ TWr y) ∧ Sl 202 ([(8, .slice y.qa y.c.Q.length y.qc), (9, .slice y.oa y.c.O.length y.oc), (10, .int .i64 (y.c.clk : Int)), (11, .int .i64 (y.c.cnt : Int)), (3, .slice y.da y.c.od.length y.dc)] ++ KS2) a ∧ Has _ w0 ([(k21, C (fl iI y.c.cp) 3), (k23, C (fl iI y.c.sn) 3), (k25, C (fl iI y.c.lw) 3)] ++ (HS2 ++ (y.oE ++ (y.qE ++ y.dE)))) w) ⟨⟨z.t.c.sn, z.t.c.lw, z.t.c.cp, z.t.c.O, z.t.c.od, [(z.i, 0)], z.t.c.nx, z.t.c.clk, z.t.c.cnt⟩, z.t.oa, z.t.oc, z.t.oE, p9, c9, E9, z.t.da, z.t.dc, z.t.dE⟩ ⟨⟨hR.go hdp.hd hzi hc2, ⟨hW.o, hR9, hW.d⟩⟩, hl.addE (t := 8) (hl.addE (t := 9) (hl.addE (t := 10) (hl.addE (t := 11) (hl.addE (t := 3) (hk) rfl (by first | rfl)) rfl (by first | rfl)) rfl (by first | rfl)) rfl (by first | rfl)) rfl (by first | rfl), hh2⟩ ?_
        clear hk hh2 hl hh a w hR hW hl1 hl2 hl3
        intro y a w hI
        obtain ⟨⟨hT, hW⟩, hl, hh⟩ := hI
        subst hKS2; subst hHS2
        simp only [List.cons_append, List.nil_append, List.append_nil, List.append_assoc] at hl hh
        have hl1 := hT.b.l1; have hl2 := hT.b.l2; have hl3 := hT.b.l3
        have hck := hT.bd
        have hms := hT.b.ms
        rw [mz_eq] at hms
        have hcd := hT.b.ck; have hcn := hT.b.cn
        refine c_seq ?_
        refine c_seq ?_
        refine c_region ?_
        refine wl (wl_val hl rfl trivial (r_move hl rfl) ?_)
        clear hl a; intro a hl
        refine wl (wl_val hl rfl trivial (r_lenS hl rfl slc176) ?_)
        clear hl a; intro a hl
        refine wl (wl_val hl rfl trivial (r_gtr hl rfl rfl) ?_)
        clear hl a; intro a hl
        refine w_nil ?_
        have hl2 := hl.add (t := 0) (hl.add (t := 2) (hl.add (t := 3) (hl.add (t := 5) (hl.add (t := 6) (hl.add (t := 8) (hl.add (t := 9) (hl.add (t := 10) (hl.add (t := 11) (hl.add (t := 39) (hl.add (t := 40) (hl.add (t := 55) (hl.nil) rfl) rfl) rfl) rfl) rfl) rfl) rfl) rfl) rfl) rfl) rfl) rfl; clear hl; have hl := hl2; clear hl2
        refine then_normal ?_
        refine c_cond hl rfl ?_ ?_
        · intro hc3
          try simp only [decide_eq_true_eq, decide_eq_false_iff_not, Bool.not_eq_true', Bool.not_eq_false', Bool.not_eq_true, Bool.not_eq_false, Bool.and_eq_true, Bool.or_eq_true, Bool.and_eq_false_iff, Bool.or_eq_false_iff, Bool.not_not, ne_eq, Int.not_lt, Int.not_le, Decidable.not_not, beq_iff_eq, bne_iff_ne] at hc3
          obtain ⟨Q0, ⟨u, k⟩, hQe⟩ := snoc_of (l := y.c.Q) (by omega)
          have hun := hT.uN hQe
          have hQl : y.c.Q.length = Q0.length + 1 := by rw [hQe]; simp
          have hQat : y.c.Q[Q0.length]? = some (u, k) := at_mid hQe
          obtain ⟨b1, j1, hq1, hjl1, hjc1, hE1⟩ := row_pos hW.q (by omega)
          rw [hq1] at hl
          rw [hE1] at hh
          refine wp_skip ?_
          refine then_normal ?_
          refine wp_block ?_
          refine c_seq ?_
          refine c_region ?_
          refine wl (wl_val hl rfl trivial (r_move hl rfl) ?_)
          clear hl a; intro a hl
          refine wl (wl_val hl rfl trivial (r_move hl rfl) ?_)
          clear hl a; intro a hl
          refine wl (wl_val hl rfl trivial (r_lenS hl rfl slc176) ?_)
          clear hl a; intro a hl
          first | refine wl (wl_val hl rfl trivial (r_sub hl rfl rfl (by simp only [Fits]; omega)) ?_) | refine wl (wl_val hl rfl trivial (r_subW hl rfl rfl) ?_)
          clear hl a; intro a hl
          rw [show (y.c.Q.length : Int) - 1 = (Q0.length : Int) by omega] at hl
          refine wl (wl_val hl rfl trivial (r_indexS hl rfl rfl slc176 (by omega) (by omega) (by first | (simp only [Int.reduceToNat]; rfl) | exact toNat_add1 _ | exact toNat_add2 _ _ | exact toNat_emod _ _ | exact Int.toNat_natCast _ | rfl)) ?_)
          clear hl a; intro a hl
          refine wl (wl_val hl rfl trivial (r_assign hl rfl) ?_)
          clear hl a; intro a hl
          refine w_nil ?_
          have hl2 := hl.add (t := 0) (hl.add (t := 2) (hl.add (t := 3) (hl.add (t := 5) (hl.add (t := 6) (hl.add (t := 8) (hl.add (t := 9) (hl.add (t := 10) (hl.add (t := 11) (hl.add (t := 13) (hl.add (t := 39) (hl.add (t := 40) (hl.nil) rfl) rfl) rfl) rfl) rfl) rfl) rfl) rfl) rfl) rfl) rfl) rfl; clear hl; have hl := hl2; clear hl2
          refine then_normal ?_
          refine c_seq ?_
          refine c_region ?_
          refine wl (wl_val hl rfl trivial (r_move hl rfl) ?_)
          clear hl a; intro a hl
          refine wl (wl_val hl rfl trivial (r_nilCheck hl rfl) ?_)
          clear hl a; intro a hl
          refine wl (wl_val hl rfl trivial (r_field hl rfl fld178_0) ?_)
          clear hl a; intro a hl
          first | refine wl (w_load hl hh rfl trivial one3 rfl (by repeat (first | exact find_head | apply find_tail | apply find_skip)) (by first | exact fc0 (fnI_get (by omega)) | exact fl_cell qc2_len hQat rfl j1 | exact fl_cell qc2_len hQpt rfl j1 | exact fcN hOx j3 | rfl) ?_) | refine wl (w_loadR hl hh rfl trivial one3 rfl (hpre _ _ hdp.blk) (by simp) (ev_at hdu) ?_) | refine wl (w_loadR hl hh rfl trivial one3 rfl (hpre _ _ hm2) (by simp) (fl_cell edc_len hke rfl j2) ?_)
          clear hl a; intro a hl
          try dsimp only at hl
          refine wl (wl_val hl rfl trivial (r_assign hl rfl) ?_)
          clear hl a; intro a hl
          refine w_nil ?_
          have hl2 := hl.add (t := 0) (hl.add (t := 2) (hl.add (t := 3) (hl.add (t := 5) (hl.add (t := 6) (hl.add (t := 8) (hl.add (t := 9) (hl.add (t := 10) (hl.add (t := 11) (hl.add (t := 13) (hl.add (t := 14) (hl.add (t := 39) (hl.add (t := 40) (hl.nil) rfl) rfl) rfl) rfl) rfl) rfl) rfl) rfl) rfl) rfl) rfl) rfl) rfl; clear hl; have hl := hl2; clear hl2
          refine then_normal ?_
          refine c_seq ?_
          refine c_seq ?_
          refine c_region ?_
          refine wl (wl_val hl rfl trivial (r_move hl rfl) ?_)
          clear hl a; intro a hl
          refine wl (wl_val hl rfl trivial (r_move hl rfl) ?_)
          clear hl a; intro a hl
          refine wl (wl_val hl rfl trivial (r_indexS hl rfl rfl slc58 (by omega) (by omega) (by first | (simp only [Int.reduceToNat]; rfl) | exact toNat_add1 _ | exact toNat_add2 _ _ | exact toNat_emod _ _ | exact Int.toNat_natCast _ | rfl)) ?_)
          clear hl a; intro a hl
          first | refine wl (w_load hl hh rfl trivial one3 rfl (by repeat (first | exact find_head | apply find_tail | apply find_skip)) (by first | exact fc0 (fnI_get (by omega)) | exact fl_cell qc2_len hQat rfl j1 | exact fl_cell qc2_len hQpt rfl j1 | exact fcN hOx j3 | rfl) ?_) | refine wl (w_loadR hl hh rfl trivial one3 rfl (hpre _ _ hdp.blk) (by simp) (ev_at hdu) ?_) | refine wl (w_loadR hl hh rfl trivial one3 rfl (hpre _ _ hm2) (by simp) (fl_cell edc_len hke rfl j2) ?_)
          clear hl a; intro a hl
          refine wl (wl_val hl rfl trivial (r_eql hl rfl rfl) ?_)
          clear hl a; intro a hl
          refine w_nil ?_
          have hl2 := hl.add (t := 0) (hl.add (t := 2) (hl.add (t := 3) (hl.add (t := 5) (hl.add (t := 6) (hl.add (t := 8) (hl.add (t := 9) (hl.add (t := 10) (hl.add (t := 11) (hl.add (t := 13) (hl.add (t := 14) (hl.add (t := 39) (hl.add (t := 40) (hl.add (t := 69) (hl.nil) rfl) rfl) rfl) rfl) rfl) rfl) rfl) rfl) rfl) rfl) rfl) rfl) rfl) rfl; clear hl; have hl := hl2; clear hl2
          refine then_normal ?_
          refine cut_region (fun a w => ∃ v : TW, (TA ds.length (dpV ds) (2 * rem (dpV ds) (fun _ => 0) ds.length + 1) z.i v.c Q0 u k ∧ TWr v ∧ mz (dpV ds) ds.length v.c = mz (dpV ds) ds.length y.c ∧ (fl qc2 v.c.Q ++ j1).length = v.qc * 2 ∧ v.c.Q.length ≤ v.qc) ∧ Sl 202 [(0, .slice (some ⟨db, 0, none⟩) ds.length dcap), (2, .slice (some ⟨k21, 0, none⟩) ds.length ds.length), (5, .slice (some ⟨k23, 0, none⟩) ds.length ds.length), (6, .slice (some ⟨k25, 0, none⟩) ds.length ds.length), (8, .slice (some ⟨b1, 0, none⟩) v.c.Q.length v.qc), (9, .slice v.oa v.c.O.length v.oc), (10, .int .i64 (v.c.clk : Int)), (11, .int .i64 (v.c.cnt : Int)), (3, .slice v.da v.c.od.length v.dc), (13, .pointer (some ⟨b1, 0 + Q0.length * 2, none⟩)), (14, .int .i64 (u : Int)), (39, .int .i64 (ds.length : Int)), (40, .int .i64 (z.i : Int))] a ∧ Has (List.map Prod.fst ([] : List (Nat × Obj))) w0 ((b1, C (fl qc2 v.c.Q ++ j1) 178) :: (k21, C (fl iI v.c.cp) 3) :: (k23, C (fl iI v.c.sn) 3) :: (k25, C (fl iI v.c.lw) 3) :: (k51, C [.int .i64 (z.i : Int), .int .i64 0] 178) :: (v.oE ++ v.dE)) w) ?_ ?_
          ·
            refine c_cond hl rfl ?_ ?_
            · intro hc4
              try simp only [decide_eq_true_eq, decide_eq_false_iff_not, Bool.not_eq_true', Bool.not_eq_false', Bool.not_eq_true, Bool.not_eq_false, Bool.and_eq_true, Bool.or_eq_true, Bool.and_eq_false_iff, Bool.or_eq_false_iff, Bool.not_not, ne_eq, Int.not_lt, Int.not_le, Decidable.not_not, beq_iff_eq, bne_iff_ne] at hc4
              refine c_seq ?_
              refine c_region ?_
              refine wl (wl_val hl rfl trivial (r_move hl rfl) ?_)
              clear hl a; intro a hl
              refine wl (wl_val hl rfl trivial (r_move hl rfl) ?_)
              clear hl a; intro a hl
              refine wl (wl_val hl rfl trivial (r_move hl rfl) ?_)
              clear hl a; intro a hl
              refine wl (wl_val hl rfl trivial (r_move hl rfl) ?_)
              clear hl a; intro a hl
              refine wl (wl_val hl rfl trivial (r_move hl rfl) ?_)
              clear hl a; intro a hl
              refine wl (wl_val hl rfl trivial (r_move hl rfl) ?_)
              clear hl a; intro a hl
              refine wl (wl_val hl rfl trivial (r_indexS hl rfl rfl slc58 (by omega) (by omega) (by first | (simp only [Int.reduceToNat]; rfl) | exact toNat_add1 _ | exact toNat_add2 _ _ | exact toNat_emod _ _ | exact Int.toNat_natCast _ | rfl)) ?_)
              clear hl a; intro a hl
              refine wl (w_store hl hh trivial one3 rfl rfl (by repeat (first | exact find_head | apply find_tail | apply find_skip)) (by first | (simp; done) | (simp; omega) | exact fm0 (by first | omega | (rw [nm_len (by omega)]; omega)) | exact qc2_lt (by omega)) (by first | rfl | assumption | (apply Row.one; assumption)) (by first | exact nm_set (by omega) | exact fs0 (by omega) | exact qc2_put hQat | (simp only [setL, List.getElem?_cons_zero, List.getElem?_cons_succ, Value.cells, List.take_zero, List.take_succ_cons, List.take_nil, List.drop_zero, List.drop_succ_cons, List.drop_nil, List.length_cons, List.length_nil, List.cons_append, List.nil_append, List.append_nil, Nat.zero_add, Nat.add_zero, Nat.reduceAdd, Nat.reduceBEq, Nat.reduceEqDiff, Nat.ble, BEq.rfl, Bool.and_true, Bool.and_self, cond_true, beq_self_eq_true]; rfl)) ?_)
              clear hh w; intro w hh
              refine wl (wl_val hl rfl trivial (r_indexS hl rfl rfl slc58 (by omega) (by omega) (by first | (simp only [Int.reduceToNat]; rfl) | exact toNat_add1 _ | exact toNat_add2 _ _ | exact toNat_emod _ _ | exact Int.toNat_natCast _ | rfl)) ?_)
              clear hl a; intro a hl
              refine wl (w_store hl hh trivial one3 rfl rfl (by repeat (first | exact find_head | apply find_tail | apply find_skip)) (by first | (simp; done) | (simp; omega) | exact fm0 (by first | omega | (rw [nm_len (by omega)]; omega)) | exact qc2_lt (by omega)) (by first | rfl | assumption | (apply Row.one; assumption)) (by first | exact nm_set (by omega) | exact fs0 (by omega) | exact qc2_put hQat | (simp only [setL, List.getElem?_cons_zero, List.getElem?_cons_succ, Value.cells, List.take_zero, List.take_succ_cons, List.take_nil, List.drop_zero, List.drop_succ_cons, List.drop_nil, List.length_cons, List.length_nil, List.cons_append, List.nil_append, List.append_nil, Nat.zero_add, Nat.add_zero, Nat.reduceAdd, Nat.reduceBEq, Nat.reduceEqDiff, Nat.ble, BEq.rfl, Bool.and_true, Bool.and_self, cond_true, beq_self_eq_true]; rfl)) ?_)
              clear hh w; intro w hh
              refine w_nil ?_
              have hl2 := hl.add (t := 0) (hl.add (t := 2) (hl.add (t := 3) (hl.add (t := 5) (hl.add (t := 6) (hl.add (t := 8) (hl.add (t := 9) (hl.add (t := 10) (hl.add (t := 11) (hl.add (t := 13) (hl.add (t := 14) (hl.add (t := 39) (hl.add (t := 40) (hl.nil) rfl) rfl) rfl) rfl) rfl) rfl) rfl) rfl) rfl) rfl) rfl) rfl) rfl; clear hl; have hl := hl2; clear hl2
              refine then_normal ?_
              refine c_seq ?_
              refine c_region ?_
              refine wl (wl_val hl rfl trivial (r_move hl rfl) ?_)
              clear hl a; intro a hl
              first | refine wl (wl_val hl rfl trivial (r_add hl rfl rfl (by simp only [Fits]; omega)) ?_) | refine wl (wl_val hl rfl trivial (r_addW hl rfl rfl) ?_)
              clear hl a; intro a hl
              rw [show (y.c.clk : Int) + 1 = ((y.c.clk + 1 : Nat) : Int) by omega] at hl
              refine wl (wl_val hl rfl trivial (r_assign hl rfl) ?_)
              clear hl a; intro a hl
              refine w_nil ?_
              have hl2 := hl.add (t := 0) (hl.add (t := 2) (hl.add (t := 3) (hl.add (t := 5) (hl.add (t := 6) (hl.add (t := 8) (hl.add (t := 9) (hl.add (t := 10) (hl.add (t := 11) (hl.add (t := 13) (hl.add (t := 14) (hl.add (t := 39) (hl.add (t := 40) (hl.nil) rfl) rfl) rfl) rfl) rfl) rfl) rfl) rfl) rfl) rfl) rfl) rfl) rfl; clear hl; have hl := hl2; clear hl2
              refine then_normal ?_
              refine c_region ?_
              refine wl (wl_val hl rfl trivial (r_move hl rfl) ?_)
              clear hl a; intro a hl
              refine wl (wl_val hl rfl trivial (r_move hl rfl) ?_)
              clear hl a; intro a hl
              refine wl (w_buildSlice hl hh rfl trivial app58 zero3 rfl rfl rfl rfl rfl (by simp only [fillL, arrPl, List.range_succ, List.range_zero, List.map_cons, List.map_nil, List.map_append, List.nil_append, List.replicate_succ, List.replicate_zero, List.flatten_cons, List.flatten_nil, Nat.zero_mul, Nat.mul_one, Nat.one_mul, Nat.reduceMul, setL, List.getElem?_cons_zero, List.getElem?_cons_succ, Value.cells, List.take_zero, List.take_succ_cons, List.take_nil, List.drop_zero, List.drop_succ_cons, List.drop_nil, List.length_cons, List.length_nil, List.cons_append, List.nil_append, List.append_nil, Nat.zero_add, Nat.add_zero, Nat.reduceAdd, Nat.reduceBEq, Nat.reduceEqDiff, Nat.ble, BEq.rfl, Bool.and_true, Bool.and_self, cond_true, beq_self_eq_true]; rfl) ?_)
              clear hl hh a w; intro k82 a w hl hh
              refine wl (w_append (news := [.int .i64 (u : Int)]) hl hh rfl trivial app58 rfl rfl rfl hW.o (by repeat (first | exact keeps_nil | apply keeps_cons (by repeat (first | exact find_head | apply find_tail | apply find_skip)) (by first  | rfl) | exact keeps_self | exact keeps_left | apply keeps_app | apply keeps_mv | apply keeps_skip)) (hh.mem _ _ (Find.mem (by repeat (first | exact find_head | apply find_tail | apply find_skip)))) rfl rfl rfl (by omega) (by omega) (by omega) (by decide) ?_)
              clear hl hh a w; intro rv2 E2 a w hR2 hl hh
              have hh3 := hh.comm; clear hh; have hh := hh3; clear hh3
              try simp only [List.cons_append, List.nil_append, List.append_assoc, List.append_nil] at hh
              refine wl (wl_val hl rfl trivial (r_assign hl rfl) ?_)
              clear hl a; intro a hl
              refine w_nil ?_
              have hl2 := hl.add (t := 0) (hl.add (t := 2) (hl.add (t := 3) (hl.add (t := 5) (hl.add (t := 6) (hl.add (t := 8) (hl.add (t := 9) (hl.add (t := 10) (hl.add (t := 11) (hl.add (t := 13) (hl.add (t := 14) (hl.add (t := 39) (hl.add (t := 40) (hl.nil) rfl) rfl) rfl) rfl) rfl) rfl) rfl) rfl) rfl) rfl) rfl) rfl) rfl; clear hl; have hl := hl2; clear hl2
              obtain ⟨p9, c9, hv9⟩ := row_val hR2
              subst hv9
              obtain ⟨v, hv⟩ : ∃ v : TW, v = TW.mk ⟨y.c.sn.set u (y.c.clk : Int), y.c.lw.set u (y.c.clk : Int), y.c.cp, y.c.O ++ [u], y.c.od, y.c.Q, y.c.nx, y.c.clk + 1, y.c.cnt⟩ p9 c9 E2 y.qa y.qc y.qE y.da y.dc y.dE := ⟨_, rfl⟩
              have hA : TA ds.length (dpV ds) (2 * rem (dpV ds) (fun _ => 0) ds.length + 1) z.i v.c Q0 u k := by rw [hv]; exact hT.new hQe hc4
              have hV : TWr v := by rw [hv]; exact ⟨row_snoc hR2, hW.q, hW.d⟩
              have hmv : mz (dpV ds) ds.length v.c = mz (dpV ds) ds.length y.c := by rw [hv]; rfl
              have e1 : y.c.sn.set u (y.c.clk : Int) = v.c.sn := by rw [hv]
              have e2 : y.c.lw.set u (y.c.clk : Int) = v.c.lw := by rw [hv]
              have e3 : y.c.cp = v.c.cp := by rw [hv]
              have e4 : y.c.O.length + 1 = v.c.O.length := by rw [hv]; simp
              have e5 : y.c.od = v.c.od := by rw [hv]
              have e6 : y.c.Q = v.c.Q := by rw [hv]
              have e7 : y.c.clk + 1 = v.c.clk := by rw [hv]
              have e8 : y.c.cnt = v.c.cnt := by rw [hv]
              have e9 : p9 = v.oa := by rw [hv]
              have e10 : c9 = v.oc := by rw [hv]
              have e11 : E2 = v.oE := by rw [hv]
              have e12 : y.qc = v.qc := by rw [hv]
              have e13 : y.da = v.da := by rw [hv]
              have e14 : y.dc = v.dc := by rw [hv]
              have e15 : y.dE = v.dE := by rw [hv]
              simp only [e1, e2, e3, e4, e5, e6, e7, e8, e9, e10, e11, e12, e13, e14, e15] at hl hh hQe hQl hQat hjl1 hjc1
              clear e1 e2 e3 e4 e5 e6 e7 e8 e9 e10 e11 e12 e13 e14 e15 hv hc4
              exact ⟨rfl, v, ⟨hA, hV, hmv, hjl1, hjc1⟩, hl.addE (t := 0) (hl.addE (t := 2) (hl.addE (t := 5) (hl.addE (t := 6) (hl.addE (t := 8) (hl.addE (t := 9) (hl.addE (t := 10) (hl.addE (t := 11) (hl.addE (t := 3) (hl.addE (t := 13) (hl.addE (t := 14) (hl.addE (t := 39) (hl.addE (t := 40) (hl.nil) rfl (by first | rfl)) rfl (by first | rfl)) rfl (by first | rfl)) rfl (by first | rfl)) rfl (by first | rfl)) rfl (by first | rfl)) rfl (by first | rfl)) rfl (by first | rfl)) rfl (by first | rfl)) rfl (by first | rfl)) rfl (by first | rfl)) rfl (by first | rfl)) rfl (by first | rfl), hh.keep (by repeat (first | exact keeps_nil | apply keeps_cons (by repeat (first | exact find_head | apply find_tail | apply find_skip)) (by first  | rfl) | exact keeps_self | exact keeps_left | apply keeps_app | apply keeps_mv | apply keeps_skip))⟩
            · intro hc4
              try simp only [decide_eq_true_eq, decide_eq_false_iff_not, Bool.not_eq_true', Bool.not_eq_false', Bool.not_eq_true, Bool.not_eq_false, Bool.and_eq_true, Bool.or_eq_true, Bool.and_eq_false_iff, Bool.or_eq_false_iff, Bool.not_not, ne_eq, Int.not_lt, Int.not_le, Decidable.not_not, beq_iff_eq, bne_iff_ne] at hc4
              have hA := hT.old hQe hc4
              have hV := hW
              obtain ⟨v, hv⟩ : ∃ v, v = y := ⟨y, rfl⟩
              subst hv
              have hmv : mz (dpV ds) ds.length v.c = mz (dpV ds) ds.length v.c := rfl
              clear hc4
              refine wp_skip ?_
              exact ⟨rfl, v, ⟨hA, hV, hmv, hjl1, hjc1⟩, hl.addE (t := 0) (hl.addE (t := 2) (hl.addE (t := 5) (hl.addE (t := 6) (hl.addE (t := 8) (hl.addE (t := 9) (hl.addE (t := 10) (hl.addE (t := 11) (hl.addE (t := 3) (hl.addE (t := 13) (hl.addE (t := 14) (hl.addE (t := 39) (hl.addE (t := 40) (hl.nil) rfl (by first | rfl)) rfl (by first | rfl)) rfl (by first | rfl)) rfl (by first | rfl)) rfl (by first | rfl)) rfl (by first | rfl)) rfl (by first | rfl)) rfl (by first | rfl)) rfl (by first | rfl)) rfl (by first | rfl)) rfl (by first | rfl)) rfl (by first | rfl)) rfl (by first | rfl), hh.keep (by repeat (first | exact keeps_nil | apply keeps_cons (by repeat (first | exact find_head | apply find_tail | apply find_skip)) (by first  | rfl) | exact keeps_self | exact keeps_left | apply keeps_app | apply keeps_mv | apply keeps_skip))⟩
          ·
            clear hl hh a w hjl1 hjc1 hE1 hQat hQl hck hms hcd hcn hl1 hl2 hl3; intro a w hI
            obtain ⟨v, ⟨hA, hV, hmv, hjl1, hjc1⟩, hl, hh⟩ := hI
            have hQe := hA.q
            have hQl := hA.qlen
            have hQat : v.c.Q[Q0.length]? = some (u, k) := at_mid hQe
            have hl1 := hA.b.l1; have hl2 := hA.b.l2; have hl3 := hA.b.l3
            have hun := hA.un
            have hck := hA.b.clk_le hA.t
            have hms := hA.b.ms
            rw [mz_eq] at hms
            have hcn := hA.b.cn; have hcd := hA.b.ck
            obtain ⟨d, hdu⟩ : ∃ d, ds[u]? = some d := ⟨_, List.getElem?_eq_getElem hun⟩
            have hdd := hdp.ok d (List.mem_of_getElem? hdu)
            have hd9 := hdp.ll d (List.mem_of_getElem? hdu)
            have hdl : (dpV ds u).length = d.l.length := by rw [dpV_at hdu, List.length_map]
            refine then_normal ?_
            refine c_seq ?_
            refine c_seq ?_
            refine c_draw [(b1, C (fl qc2 v.c.Q ++ j1) 178)] [9] mixed hh ?_
            clear hh w; intro w hh
            have hM : Mem [(b1, C (fl qc2 v.c.Q ++ j1) 178)] w := (memK hh (by repeat (first | exact keeps_nil | apply keeps_cons (by repeat (first | exact find_head | apply find_tail | apply find_skip)) (by first  | rfl) | exact keeps_self | exact keeps_left | apply keeps_app | apply keeps_mv | apply keeps_skip)))
            refine d_take (i := 0) hl rfl (by kernel_rfl) (by kernel_rfl) (by kernel_rfl) (by kernel_rfl) (by kernel_rfl) rfl trivial (fun _ _ _ h => h) hM (fun w hC => r_move hl rfl) rfl ?_
            clear hl a; intro a hl
            refine d_take (i := 1) hl rfl (by kernel_rfl) (by kernel_rfl) (by kernel_rfl) (by kernel_rfl) (by kernel_rfl) rfl trivial (fun _ _ _ h => h) hM (fun w hC => r_nilCheck hl rfl) rfl ?_
            clear hl a; intro a hl
            refine d_take (i := 2) hl rfl (by kernel_rfl) (by kernel_rfl) (by kernel_rfl) (by kernel_rfl) (by kernel_rfl) rfl trivial (fun _ _ _ h => h) hM (fun w hC => r_field hl rfl fld178_1) rfl ?_
            clear hl a; intro a hl
            refine d_take (i := 3) hl rfl (by kernel_rfl) (by kernel_rfl) (by kernel_rfl) (by kernel_rfl) (by kernel_rfl) rfl trivial (fun _ _ _ h => h) hM (fun w hC => r_loadC hl rfl one3 hC (by repeat (first | exact find_head | apply find_tail | apply find_skip)) (by first | exact fc0 (fnI_get (by omega)) | exact fl_cell qc2_len hQat rfl j1 | exact fl_cell qc2_len hQpt rfl j1 | exact fcN hOx j3 | rfl)) rfl ?_
            clear hl a; intro a hl
            refine d_take (i := 4) hl rfl (by kernel_rfl) (by kernel_rfl) (by kernel_rfl) (by kernel_rfl) (by kernel_rfl) rfl trivial (fun _ _ _ h => h) hM (fun w hC => r_move hl rfl) rfl ?_
            clear hl a; intro a hl
            refine d_take (i := 5) hl rfl (by kernel_rfl) (by kernel_rfl) (by kernel_rfl) (by kernel_rfl) (by kernel_rfl) rfl trivial (fun _ _ _ h => h) hM (fun w hC => r_move hl rfl) rfl ?_
            clear hl a; intro a hl
            refine d_take (i := 6) hl rfl (by kernel_rfl) (by kernel_rfl) (by kernel_rfl) (by kernel_rfl) (by kernel_rfl) rfl trivial (fun _ _ _ h => h) hM (fun w hC => r_indexS hl rfl rfl slc117 (by omega) (by omega) (by first | (simp only [Int.reduceToNat]; rfl) | exact toNat_add1 _ | exact toNat_add2 _ _ | exact toNat_emod _ _ | exact Int.toNat_natCast _ | rfl)) rfl ?_
            clear hl a; intro a hl
            refine d_one (i := 7) (by kernel_rfl) rfl ?_
            try clear hM
            first | refine id (w_load hl hh rfl trivial one118 rfl (by repeat (first | exact find_head | apply find_tail | apply find_skip)) (by first | exact fc0 (fnI_get (by omega)) | exact fl_cell qc2_len hQat rfl j1 | exact fl_cell qc2_len hQpt rfl j1 | exact fcN hOx j3 | rfl) ?_) | refine id (w_loadR hl hh rfl trivial one118 rfl (hpre _ _ hdp.blk) (by simp) (ev_at hdu) ?_) | refine id (w_loadR hl hh rfl trivial one118 rfl (hpre _ _ hm2) (by simp) (fl_cell edc_len hke rfl j2) ?_)
            clear hl a; intro a hl
            have hM : Mem [(b1, C (fl qc2 v.c.Q ++ j1) 178)] w := (memK hh (by repeat (first | exact keeps_nil | apply keeps_cons (by repeat (first | exact find_head | apply find_tail | apply find_skip)) (by first  | rfl) | exact keeps_self | exact keeps_left | apply keeps_app | apply keeps_mv | apply keeps_skip)))
            refine d_step (fun _ => hM) ?_
            refine d_take (i := 8) hl rfl (by kernel_rfl) (by kernel_rfl) (by kernel_rfl) (by kernel_rfl) (by kernel_rfl) rfl trivial (fun _ _ _ h => h) hM (fun w hC => r_lenS hl rfl slc118) rfl ?_
            clear hl a; intro a hl
            refine d_takeL (i := 9) hl rfl (by kernel_rfl) (by kernel_rfl) (by kernel_rfl) (by kernel_rfl) (by kernel_rfl) rfl trivial (fun _ _ _ h => h) (fun w => r_lss hl rfl rfl) rfl ?_
            clear hl a; intro a hl
            refine d_done (by kernel_rfl) ?_
            try clear hM
            have hl2 := hl.add (t := 0) (hl.add (t := 2) (hl.add (t := 3) (hl.add (t := 5) (hl.add (t := 6) (hl.add (t := 8) (hl.add (t := 9) (hl.add (t := 10) (hl.add (t := 11) (hl.add (t := 13) (hl.add (t := 14) (hl.add (t := 39) (hl.add (t := 40) (hl.add (t := 93) (hl.nil) rfl) rfl) rfl) rfl) rfl) rfl) rfl) rfl) rfl) rfl) rfl) rfl) rfl) rfl; clear hl; have hl := hl2; clear hl2
            refine then_normal ?_
            refine c_cond hl rfl ?_ ?_
            · intro hc5
              try simp only [decide_eq_true_eq, decide_eq_false_iff_not, Bool.not_eq_true', Bool.not_eq_false', Bool.not_eq_true, Bool.not_eq_false, Bool.and_eq_true, Bool.or_eq_true, Bool.and_eq_false_iff, Bool.or_eq_false_iff, Bool.not_not, ne_eq, Int.not_lt, Int.not_le, Decidable.not_not, beq_iff_eq, bne_iff_ne] at hc5
              obtain ⟨b2, j2, hq2, hjl2, hjc2, hE2⟩ := row_pos hdd.1 (by omega)
              have hm2 := hdd.2 _ (by rw [hE2]; exact List.mem_singleton.2 rfl)
              obtain ⟨e, hke⟩ : ∃ e, d.l[k]? = some e := ⟨_, List.getElem?_eq_getElem (by omega)⟩
              have hek := dpV_nth hdu hke
              have hen : e.1 < ds.length := hdp.to d e (List.mem_of_getElem? hdu) (List.mem_of_getElem? hke)
              refine c_seq ?_
              refine c_draw [(b1, C (fl qc2 v.c.Q ++ j1) 178)] [11] mixed hh ?_
              clear hh w; intro w hh
              have hM : Mem [(b1, C (fl qc2 v.c.Q ++ j1) 178)] w := (memK hh (by repeat (first | exact keeps_nil | apply keeps_cons (by repeat (first | exact find_head | apply find_tail | apply find_skip)) (by first  | rfl) | exact keeps_self | exact keeps_left | apply keeps_app | apply keeps_mv | apply keeps_skip)))
              refine d_take (i := 0) hl rfl (by kernel_rfl) (by kernel_rfl) (by kernel_rfl) (by kernel_rfl) (by kernel_rfl) rfl trivial (fun _ _ _ h => h) hM (fun w hC => r_move hl rfl) rfl ?_
              clear hl a; intro a hl
              refine d_take (i := 1) hl rfl (by kernel_rfl) (by kernel_rfl) (by kernel_rfl) (by kernel_rfl) (by kernel_rfl) rfl trivial (fun _ _ _ h => h) hM (fun w hC => r_move hl rfl) rfl ?_
              clear hl a; intro a hl
              refine d_take (i := 2) hl rfl (by kernel_rfl) (by kernel_rfl) (by kernel_rfl) (by kernel_rfl) (by kernel_rfl) rfl trivial (fun _ _ _ h => h) hM (fun w hC => r_indexS hl rfl rfl slc117 (by omega) (by omega) (by first | (simp only [Int.reduceToNat]; rfl) | exact toNat_add1 _ | exact toNat_add2 _ _ | exact toNat_emod _ _ | exact Int.toNat_natCast _ | rfl)) rfl ?_
              clear hl a; intro a hl
              refine d_take (i := 4) hl rfl (by kernel_rfl) (by kernel_rfl) (by kernel_rfl) (by kernel_rfl) (by kernel_rfl) rfl trivial (fun _ _ _ h => h) hM (fun w hC => r_move hl rfl) rfl ?_
              clear hl a; intro a hl
              refine d_take (i := 5) hl rfl (by kernel_rfl) (by kernel_rfl) (by kernel_rfl) (by kernel_rfl) (by kernel_rfl) rfl trivial (fun _ _ _ h => h) hM (fun w hC => r_nilCheck hl rfl) rfl ?_
              clear hl a; intro a hl
              refine d_take (i := 6) hl rfl (by kernel_rfl) (by kernel_rfl) (by kernel_rfl) (by kernel_rfl) (by kernel_rfl) rfl trivial (fun _ _ _ h => h) hM (fun w hC => r_field hl rfl fld178_1) rfl ?_
              clear hl a; intro a hl
              refine d_take (i := 7) hl rfl (by kernel_rfl) (by kernel_rfl) (by kernel_rfl) (by kernel_rfl) (by kernel_rfl) rfl trivial (fun _ _ _ h => h) hM (fun w hC => r_loadC hl rfl one3 hC (by repeat (first | exact find_head | apply find_tail | apply find_skip)) (by first | exact fc0 (fnI_get (by omega)) | exact fl_cell qc2_len hQat rfl j1 | exact fl_cell qc2_len hQpt rfl j1 | exact fcN hOx j3 | rfl)) rfl ?_
              clear hl a; intro a hl
              refine d_one (i := 3) (by kernel_rfl) rfl ?_
              try clear hM
              first | refine id (w_load hl hh rfl trivial one118 rfl (by repeat (first | exact find_head | apply find_tail | apply find_skip)) (by first | exact fc0 (fnI_get (by omega)) | exact fl_cell qc2_len hQat rfl j1 | exact fl_cell qc2_len hQpt rfl j1 | exact fcN hOx j3 | rfl) ?_) | refine id (w_loadR hl hh rfl trivial one118 rfl (hpre _ _ hdp.blk) (by simp) (ev_at hdu) ?_) | refine id (w_loadR hl hh rfl trivial one118 rfl (hpre _ _ hm2) (by simp) (fl_cell edc_len hke rfl j2) ?_)
              clear hl a; intro a hl
              rw [hq2] at hl
              have hM : Mem [(b1, C (fl qc2 v.c.Q ++ j1) 178)] w := (memK hh (by repeat (first | exact keeps_nil | apply keeps_cons (by repeat (first | exact find_head | apply find_tail | apply find_skip)) (by first  | rfl) | exact keeps_self | exact keeps_left | apply keeps_app | apply keeps_mv | apply keeps_skip)))
              refine d_step (fun _ => hM) ?_
              refine d_take (i := 8) hl rfl (by kernel_rfl) (by kernel_rfl) (by kernel_rfl) (by kernel_rfl) (by kernel_rfl) rfl trivial (fun _ _ _ h => h) hM (fun w hC => r_indexS hl rfl rfl slc118 (by omega) (by omega) (by first | (simp only [Int.reduceToNat]; rfl) | exact toNat_add1 _ | exact toNat_add2 _ _ | exact toNat_emod _ _ | exact Int.toNat_natCast _ | rfl)) rfl ?_
              clear hl a; intro a hl
              refine d_take (i := 9) hl rfl (by kernel_rfl) (by kernel_rfl) (by kernel_rfl) (by kernel_rfl) (by kernel_rfl) rfl trivial (fun _ _ _ h => h) hM (fun w hC => r_field hl rfl fld120_0) rfl ?_
              clear hl a; intro a hl
              refine d_one (i := 10) (by kernel_rfl) rfl ?_
              try clear hM
              first | refine id (w_load hl hh rfl trivial one3 rfl (by repeat (first | exact find_head | apply find_tail | apply find_skip)) (by first | exact fc0 (fnI_get (by omega)) | exact fl_cell qc2_len hQat rfl j1 | exact fl_cell qc2_len hQpt rfl j1 | exact fcN hOx j3 | rfl) ?_) | refine id (w_loadR hl hh rfl trivial one3 rfl (hpre _ _ hdp.blk) (by simp) (ev_at hdu) ?_) | refine id (w_loadR hl hh rfl trivial one3 rfl (hpre _ _ hm2) (by simp) (fl_cell edc_len hke rfl j2) ?_)
              clear hl a; intro a hl
              have hM : Mem [(b1, C (fl qc2 v.c.Q ++ j1) 178)] w := (memK hh (by repeat (first | exact keeps_nil | apply keeps_cons (by repeat (first | exact find_head | apply find_tail | apply find_skip)) (by first  | rfl) | exact keeps_self | exact keeps_left | apply keeps_app | apply keeps_mv | apply keeps_skip)))
              refine d_step (fun _ => hM) ?_
              refine d_takeL (i := 11) hl rfl (by kernel_rfl) (by kernel_rfl) (by kernel_rfl) (by kernel_rfl) (by kernel_rfl) rfl trivial (fun _ _ _ h => h) (fun w => r_assign hl rfl) rfl ?_
              clear hl a; intro a hl
              refine d_done (by kernel_rfl) ?_
              try clear hM
              have hl2 := hl.add (t := 0) (hl.add (t := 2) (hl.add (t := 3) (hl.add (t := 5) (hl.add (t := 6) (hl.add (t := 8) (hl.add (t := 9) (hl.add (t := 10) (hl.add (t := 11) (hl.add (t := 13) (hl.add (t := 14) (hl.add (t := 15) (hl.add (t := 39) (hl.add (t := 40) (hl.nil) rfl) rfl) rfl) rfl) rfl) rfl) rfl) rfl) rfl) rfl) rfl) rfl) rfl) rfl; clear hl; have hl := hl2; clear hl2
              refine then_normal ?_
              refine c_seq ?_
              refine c_region ?_
              refine wl (wl_val hl rfl trivial (r_move hl rfl) ?_)
              clear hl a; intro a hl
              refine wl (wl_val hl rfl trivial (r_nilCheck hl rfl) ?_)
              clear hl a; intro a hl
              refine wl (wl_val hl rfl trivial (r_field hl rfl fld178_1) ?_)
              clear hl a; intro a hl
              first | refine wl (w_load hl hh rfl trivial one3 rfl (by repeat (first | exact find_head | apply find_tail | apply find_skip)) (by first | exact fc0 (fnI_get (by omega)) | exact fl_cell qc2_len hQat rfl j1 | exact fl_cell qc2_len hQpt rfl j1 | exact fcN hOx j3 | rfl) ?_) | refine wl (w_loadR hl hh rfl trivial one3 rfl (hpre _ _ hdp.blk) (by simp) (ev_at hdu) ?_) | refine wl (w_loadR hl hh rfl trivial one3 rfl (hpre _ _ hm2) (by simp) (fl_cell edc_len hke rfl j2) ?_)
              clear hl a; intro a hl
              first | refine wl (wl_val hl rfl trivial (r_add hl rfl rfl (by simp only [Fits]; omega)) ?_) | refine wl (wl_val hl rfl trivial (r_addW hl rfl rfl) ?_)
              clear hl a; intro a hl
              rw [show (k : Int) + 1 = ((k + 1 : Nat) : Int) by omega] at hl
              refine wl (wl_val hl rfl trivial (r_nilCheck hl rfl) ?_)
              clear hl a; intro a hl
              refine wl (wl_val hl rfl trivial (r_field hl rfl fld178_1) ?_)
              clear hl a; intro a hl
              refine wl (w_store hl hh trivial one3 rfl rfl (by repeat (first | exact find_head | apply find_tail | apply find_skip)) (by first | (simp; done) | (simp; omega) | exact fm0 (by first | omega | (rw [nm_len (by omega)]; omega)) | exact qc2_lt (by omega)) (by first | rfl | assumption | (apply Row.one; assumption)) (by first | exact nm_set (by omega) | exact fs0 (by omega) | exact qc2_put hQat | (simp only [setL, List.getElem?_cons_zero, List.getElem?_cons_succ, Value.cells, List.take_zero, List.take_succ_cons, List.take_nil, List.drop_zero, List.drop_succ_cons, List.drop_nil, List.length_cons, List.length_nil, List.cons_append, List.nil_append, List.append_nil, Nat.zero_add, Nat.add_zero, Nat.reduceAdd, Nat.reduceBEq, Nat.reduceEqDiff, Nat.ble, BEq.rfl, Bool.and_true, Bool.and_self, cond_true, beq_self_eq_true]; rfl)) ?_)
              clear hh w; intro w hh
              refine w_nil ?_
              have hl2 := hl.add (t := 0) (hl.add (t := 2) (hl.add (t := 3) (hl.add (t := 5) (hl.add (t := 6) (hl.add (t := 8) (hl.add (t := 9) (hl.add (t := 10) (hl.add (t := 11) (hl.add (t := 14) (hl.add (t := 15) (hl.add (t := 39) (hl.add (t := 40) (hl.nil) rfl) rfl) rfl) rfl) rfl) rfl) rfl) rfl) rfl) rfl) rfl) rfl) rfl; clear hl; have hl := hl2; clear hl2
              rw [show v.c.Q.set Q0.length (u, k + 1) = Q0 ++ [(u, k + 1)] by rw [hQe]; exact set_snoc] at hh
              have hQn : Row (.slice (some ⟨b1, 0, none⟩) (Q0 ++ [(u, k + 1)]).length v.qc) (Q0 ++ [(u, k + 1)]).length (fl qc2 (Q0 ++ [(u, k + 1)])) 2 178 [(b1, C (fl qc2 (Q0 ++ [(u, k + 1)]) ++ j1) 178)] := row_put qc2_len (by rw [hQe]; simp) hjl1 hjc1
              rw [show v.c.Q.length = (Q0 ++ [(u, k + 1)]).length by rw [hQe]; simp] at hl
              refine then_normal ?_
              refine c_seq ?_
              refine c_seq ?_
              refine c_region ?_
              refine wl (wl_val hl rfl trivial (r_move hl rfl) ?_)
              clear hl a; intro a hl
              refine wl (wl_val hl rfl trivial (r_move hl rfl) ?_)
              clear hl a; intro a hl
              refine wl (wl_val hl rfl trivial (r_indexS hl rfl rfl slc58 (by omega) (by omega) (by first | (simp only [Int.reduceToNat]; rfl) | exact toNat_add1 _ | exact toNat_add2 _ _ | exact toNat_emod _ _ | exact Int.toNat_natCast _ | rfl)) ?_)
              clear hl a; intro a hl
              first | refine wl (w_load hl hh rfl trivial one3 rfl (by repeat (first | exact find_head | apply find_tail | apply find_skip)) (by first | exact fc0 (fnI_get (by omega)) | exact fl_cell qc2_len hQat rfl j1 | exact fl_cell qc2_len hQpt rfl j1 | exact fcN hOx j3 | rfl) ?_) | refine wl (w_loadR hl hh rfl trivial one3 rfl (hpre _ _ hdp.blk) (by simp) (ev_at hdu) ?_) | refine wl (w_loadR hl hh rfl trivial one3 rfl (hpre _ _ hm2) (by simp) (fl_cell edc_len hke rfl j2) ?_)
              clear hl a; intro a hl
              refine wl (wl_val hl rfl trivial (r_eql hl rfl rfl) ?_)
              clear hl a; intro a hl
              refine w_nil ?_
              have hl2 := hl.add (t := 0) (hl.add (t := 2) (hl.add (t := 3) (hl.add (t := 5) (hl.add (t := 6) (hl.add (t := 8) (hl.add (t := 9) (hl.add (t := 10) (hl.add (t := 11) (hl.add (t := 14) (hl.add (t := 15) (hl.add (t := 39) (hl.add (t := 40) (hl.add (t := 116) (hl.nil) rfl) rfl) rfl) rfl) rfl) rfl) rfl) rfl) rfl) rfl) rfl) rfl) rfl) rfl; clear hl; have hl := hl2; clear hl2
              refine then_normal ?_
              refine c_cond hl rfl ?_ ?_
              · intro hc6
                try simp only [decide_eq_true_eq, decide_eq_false_iff_not, Bool.not_eq_true', Bool.not_eq_false', Bool.not_eq_true, Bool.not_eq_false, Bool.and_eq_true, Bool.or_eq_true, Bool.and_eq_false_iff, Bool.or_eq_false_iff, Bool.not_not, ne_eq, Int.not_lt, Int.not_le, Decidable.not_not, beq_iff_eq, bne_iff_ne] at hc6
                refine c_region ?_
                refine wl (wl_val hl rfl trivial (r_move hl rfl) ?_)
                clear hl a; intro a hl
                refine wl (wl_val hl rfl trivial (r_move hl rfl) ?_)
                clear hl a; intro a hl
                refine wl (wl_val hl rfl trivial (r_build hl rfl zero178 bld178 (by simp only [fillL, setL, List.getElem?_cons_zero, List.getElem?_cons_succ, Value.cells, List.take_zero, List.take_succ_cons, List.take_nil, List.drop_zero, List.drop_succ_cons, List.drop_nil, List.length_cons, List.length_nil, List.cons_append, List.nil_append, List.append_nil, Nat.zero_add, Nat.add_zero, Nat.reduceAdd, Nat.reduceBEq, Nat.reduceEqDiff, Nat.ble, BEq.rfl, Bool.and_true, Bool.and_self, cond_true, beq_self_eq_true]; rfl)) ?_)
                clear hl a; intro a hl
                refine wl (w_buildSlice hl hh rfl trivial app176 zero178 rfl rfl rfl rfl rfl (by simp only [fillL, arrPl, List.range_succ, List.range_zero, List.map_cons, List.map_nil, List.map_append, List.nil_append, List.replicate_succ, List.replicate_zero, List.flatten_cons, List.flatten_nil, Nat.zero_mul, Nat.mul_one, Nat.one_mul, Nat.reduceMul, setL, List.getElem?_cons_zero, List.getElem?_cons_succ, Value.cells, List.take_zero, List.take_succ_cons, List.take_nil, List.drop_zero, List.drop_succ_cons, List.drop_nil, List.length_cons, List.length_nil, List.cons_append, List.nil_append, List.append_nil, Nat.zero_add, Nat.add_zero, Nat.reduceAdd, Nat.reduceBEq, Nat.reduceEqDiff, Nat.ble, BEq.rfl, Bool.and_true, Bool.and_self, cond_true, beq_self_eq_true]; rfl) ?_)
                clear hl hh a w; intro k120 a w hl hh
                refine wl (w_append (news := [.int .i64 (e.1 : Int), .int .i64 0]) hl hh rfl trivial app176 rfl rfl rfl hQn (by repeat (first | exact keeps_nil | apply keeps_cons (by repeat (first | exact find_head | apply find_tail | apply find_skip)) (by first  | rfl) | exact keeps_self | exact keeps_left | apply keeps_app | apply keeps_mv | apply keeps_skip)) (hh.mem _ _ (Find.mem (by repeat (first | exact find_head | apply find_tail | apply find_skip)))) rfl rfl rfl (by omega) (by simp only [List.length_append, List.length_singleton]; omega) (by simp only [List.length_append, List.length_singleton]; omega) (by decide) ?_)
                clear hl hh a w; intro rv2 E2 a w hR2 hl hh
                have hh3 := hh.comm; clear hh; have hh := hh3; clear hh3
                try simp only [List.cons_append, List.nil_append, List.append_assoc, List.append_nil] at hh
                refine wl (wl_val hl rfl trivial (r_assign hl rfl) ?_)
                clear hl a; intro a hl
                refine w_nil ?_
                have hl2 := hl.add (t := 0) (hl.add (t := 2) (hl.add (t := 3) (hl.add (t := 5) (hl.add (t := 6) (hl.add (t := 8) (hl.add (t := 9) (hl.add (t := 10) (hl.add (t := 11) (hl.add (t := 39) (hl.add (t := 40) (hl.nil) rfl) rfl) rfl) rfl) rfl) rfl) rfl) rfl) rfl) rfl) rfl; clear hl; have hl := hl2; clear hl2
                obtain ⟨p8, c8, hv8⟩ := row_val hR2
                subst hv8
                generalize E2 = E8 at hh hR2
                have hN := hA.eNew hek hc6
                have hNW : TWr (⟨⟨v.c.sn, v.c.lw, v.c.cp, v.c.O, v.c.od, Q0 ++ [(u, k + 1)] ++ [(e.1, 0)], updN v.c.nx u (k + 1), v.c.clk, v.c.cnt⟩, v.oa, v.oc, v.oE, p8, c8, E8, v.da, v.dc, v.dE⟩ : TW) := ⟨hV.o, row_snoc hR2, hV.d⟩
                refine then_normal ?_
                refine wp_exit ?_
                refine then_exit ?_
                refine blk_exit ?_
                refine then_normal ?_
                refine ⟨⟨⟨v.c.sn, v.c.lw, v.c.cp, v.c.O, v.c.od, Q0 ++ [(u, k + 1)] ++ [(e.1, 0)], updN v.c.nx u (k + 1), v.c.clk, v.c.cnt⟩, v.oa, v.oc, v.oE, p8, c8, E8, v.da, v.dc, v.dE⟩, (Nat.lt_of_lt_of_eq hN.2 hmv), ⟨hN.1, hNW⟩, hl.addE (t := 8) (hl.addE (t := 9) (hl.addE (t := 10) (hl.addE (t := 11) (hl.addE (t := 3) (hl.addE (t := 0) (hl.addE (t := 2) (hl.addE (t := 5) (hl.addE (t := 6) (hl.addE (t := 39) (hl.addE (t := 40) (hl.nil) rfl (by first | rfl | exact congrArg (Value.int .i64) (show (v.c.cnt : Int) + 1 = ((v.c.cnt + 1 : Nat) : Int) by omega) | (rw [hse]) | (simp [List.length_append]; done))) rfl (by first | rfl | exact congrArg (Value.int .i64) (show (v.c.cnt : Int) + 1 = ((v.c.cnt + 1 : Nat) : Int) by omega) | (rw [hse]) | (simp [List.length_append]; done))) rfl (by first | rfl | exact congrArg (Value.int .i64) (show (v.c.cnt : Int) + 1 = ((v.c.cnt + 1 : Nat) : Int) by omega) | (rw [hse]) | (simp [List.length_append]; done))) rfl (by first | rfl | exact congrArg (Value.int .i64) (show (v.c.cnt : Int) + 1 = ((v.c.cnt + 1 : Nat) : Int) by omega) | (rw [hse]) | (simp [List.length_append]; done))) rfl (by first | rfl | exact congrArg (Value.int .i64) (show (v.c.cnt : Int) + 1 = ((v.c.cnt + 1 : Nat) : Int) by omega) | (rw [hse]) | (simp [List.length_append]; done))) rfl (by first | rfl | exact congrArg (Value.int .i64) (show (v.c.cnt : Int) + 1 = ((v.c.cnt + 1 : Nat) : Int) by omega) | (rw [hse]) | (simp [List.length_append]; done))) rfl (by first | rfl | exact congrArg (Value.int .i64) (show (v.c.cnt : Int) + 1 = ((v.c.cnt + 1 : Nat) : Int) by omega) | (rw [hse]) | (simp [List.length_append]; done))) rfl (by first | rfl | exact congrArg (Value.int .i64) (show (v.c.cnt : Int) + 1 = ((v.c.cnt + 1 : Nat) : Int) by omega) | (rw [hse]) | (simp [List.length_append]; done))) rfl (by first | rfl | exact congrArg (Value.int .i64) (show (v.c.cnt : Int) + 1 = ((v.c.cnt + 1 : Nat) : Int) by omega) | (rw [hse]) | (simp [List.length_append]; done))) rfl (by first | rfl | exact congrArg (Value.int .i64) (show (v.c.cnt : Int) + 1 = ((v.c.cnt + 1 : Nat) : Int) by omega) | (rw [hse]) | (simp [List.length_append]; done))) rfl (by first | rfl | exact congrArg (Value.int .i64) (show (v.c.cnt : Int) + 1 = ((v.c.cnt + 1 : Nat) : Int) by omega) | (rw [hse]) | (simp [List.length_append]; done)), hh.keep (by repeat (first | exact keeps_nil | apply keeps_cons (by repeat (first | exact find_head | apply find_tail | apply find_skip)) (by first  | rfl) | exact keeps_self | exact keeps_left | apply keeps_app | apply keeps_mv | apply keeps_skip))⟩
              · intro hc6
                try simp only [decide_eq_true_eq, decide_eq_false_iff_not, Bool.not_eq_true', Bool.not_eq_false', Bool.not_eq_true, Bool.not_eq_false, Bool.and_eq_true, Bool.or_eq_true, Bool.and_eq_false_iff, Bool.or_eq_false_iff, Bool.not_not, ne_eq, Int.not_lt, Int.not_le, Decidable.not_not, beq_iff_eq, bne_iff_ne] at hc6
                refine c_seq ?_
                refine c_region ?_
                refine wl (wl_val hl rfl trivial (r_move hl rfl) ?_)
                clear hl a; intro a hl
                refine wl (wl_val hl rfl trivial (r_move hl rfl) ?_)
                clear hl a; intro a hl
                refine wl (wl_val hl rfl trivial (r_indexS hl rfl rfl slc58 (by omega) (by omega) (by first | (simp only [Int.reduceToNat]; rfl) | exact toNat_add1 _ | exact toNat_add2 _ _ | exact toNat_emod _ _ | exact Int.toNat_natCast _ | rfl)) ?_)
                clear hl a; intro a hl
                first | refine wl (w_load hl hh rfl trivial one3 rfl (by repeat (first | exact find_head | apply find_tail | apply find_skip)) (by first | exact fc0 (fnI_get (by omega)) | exact fl_cell qc2_len hQat rfl j1 | exact fl_cell qc2_len hQpt rfl j1 | exact fcN hOx j3 | rfl) ?_) | refine wl (w_loadR hl hh rfl trivial one3 rfl (hpre _ _ hdp.blk) (by simp) (ev_at hdu) ?_) | refine wl (w_loadR hl hh rfl trivial one3 rfl (hpre _ _ hm2) (by simp) (fl_cell edc_len hke rfl j2) ?_)
                clear hl a; intro a hl
                refine wl (wl_val hl rfl trivial (r_eql hl rfl rfl) ?_)
                clear hl a; intro a hl
                refine w_nil ?_
                have hl2 := hl.add (t := 0) (hl.add (t := 2) (hl.add (t := 3) (hl.add (t := 5) (hl.add (t := 6) (hl.add (t := 8) (hl.add (t := 9) (hl.add (t := 10) (hl.add (t := 11) (hl.add (t := 14) (hl.add (t := 15) (hl.add (t := 39) (hl.add (t := 40) (hl.add (t := 126) (hl.nil) rfl) rfl) rfl) rfl) rfl) rfl) rfl) rfl) rfl) rfl) rfl) rfl) rfl) rfl; clear hl; have hl := hl2; clear hl2
                refine then_normal ?_
                refine c_cond hl rfl ?_ ?_
                · intro hc7
                  try simp only [decide_eq_true_eq, decide_eq_false_iff_not, Bool.not_eq_true', Bool.not_eq_false', Bool.not_eq_true, Bool.not_eq_false, Bool.and_eq_true, Bool.or_eq_true, Bool.and_eq_false_iff, Bool.or_eq_false_iff, Bool.not_not, ne_eq, Int.not_lt, Int.not_le, Decidable.not_not, beq_iff_eq, bne_iff_ne] at hc7
                  refine c_draw [(k25, C (fl iI v.c.lw) 3), (k23, C (fl iI v.c.sn) 3)] [11, 12] mixed hh ?_
                  clear hh w; intro w hh
                  have hM : Mem [(k25, C (fl iI v.c.lw) 3), (k23, C (fl iI v.c.sn) 3)] w := (memK hh (by repeat (first | exact keeps_nil | apply keeps_cons (by repeat (first | exact find_head | apply find_tail | apply find_skip)) (by first  | rfl) | exact keeps_self | exact keeps_left | apply keeps_app | apply keeps_mv | apply keeps_skip)))
                  refine d_take (i := 0) hl rfl (by kernel_rfl) (by kernel_rfl) (by kernel_rfl) (by kernel_rfl) (by kernel_rfl) rfl trivial (fun _ _ _ h => h) hM (fun w hC => r_move hl rfl) rfl ?_
                  clear hl a; intro a hl
                  refine d_take (i := 1) hl rfl (by kernel_rfl) (by kernel_rfl) (by kernel_rfl) (by kernel_rfl) (by kernel_rfl) rfl trivial (fun _ _ _ h => h) hM (fun w hC => r_move hl rfl) rfl ?_
                  clear hl a; intro a hl
                  refine d_take (i := 2) hl rfl (by kernel_rfl) (by kernel_rfl) (by kernel_rfl) (by kernel_rfl) (by kernel_rfl) rfl trivial (fun _ _ _ h => h) hM (fun w hC => r_move hl rfl) rfl ?_
                  clear hl a; intro a hl
                  refine d_take (i := 3) hl rfl (by kernel_rfl) (by kernel_rfl) (by kernel_rfl) (by kernel_rfl) (by kernel_rfl) rfl trivial (fun _ _ _ h => h) hM (fun w hC => r_move hl rfl) rfl ?_
                  clear hl a; intro a hl
                  refine d_take (i := 4) hl rfl (by kernel_rfl) (by kernel_rfl) (by kernel_rfl) (by kernel_rfl) (by kernel_rfl) rfl trivial (fun _ _ _ h => h) hM (fun w hC => r_indexS hl rfl rfl slc58 (by omega) (by omega) (by first | (simp only [Int.reduceToNat]; rfl) | exact toNat_add1 _ | exact toNat_add2 _ _ | exact toNat_emod _ _ | exact Int.toNat_natCast _ | rfl)) rfl ?_
                  clear hl a; intro a hl
                  refine d_take (i := 5) hl rfl (by kernel_rfl) (by kernel_rfl) (by kernel_rfl) (by kernel_rfl) (by kernel_rfl) rfl trivial (fun _ _ _ h => h) hM (fun w hC => r_loadC hl rfl one3 hC (by repeat (first | exact find_head | apply find_tail | apply find_skip)) (by first | exact fc0 (fnI_get (by omega)) | exact fl_cell qc2_len hQat rfl j1 | exact fl_cell qc2_len hQpt rfl j1 | exact fcN hOx j3 | rfl)) rfl ?_
                  clear hl a; intro a hl
                  refine d_take (i := 6) hl rfl (by kernel_rfl) (by kernel_rfl) (by kernel_rfl) (by kernel_rfl) (by kernel_rfl) rfl trivial (fun _ _ _ h => h) hM (fun w hC => r_move hl rfl) rfl ?_
                  clear hl a; intro a hl
                  refine d_take (i := 7) hl rfl (by kernel_rfl) (by kernel_rfl) (by kernel_rfl) (by kernel_rfl) (by kernel_rfl) rfl trivial (fun _ _ _ h => h) hM (fun w hC => r_move hl rfl) rfl ?_
                  clear hl a; intro a hl
                  refine d_take (i := 8) hl rfl (by kernel_rfl) (by kernel_rfl) (by kernel_rfl) (by kernel_rfl) (by kernel_rfl) rfl trivial (fun _ _ _ h => h) hM (fun w hC => r_indexS hl rfl rfl slc58 (by omega) (by omega) (by first | (simp only [Int.reduceToNat]; rfl) | exact toNat_add1 _ | exact toNat_add2 _ _ | exact toNat_emod _ _ | exact Int.toNat_natCast _ | rfl)) rfl ?_
                  clear hl a; intro a hl
                  refine d_take (i := 9) hl rfl (by kernel_rfl) (by kernel_rfl) (by kernel_rfl) (by kernel_rfl) (by kernel_rfl) rfl trivial (fun _ _ _ h => h) hM (fun w hC => r_loadC hl rfl one3 hC (by repeat (first | exact find_head | apply find_tail | apply find_skip)) (by first | exact fc0 (fnI_get (by omega)) | exact fl_cell qc2_len hQat rfl j1 | exact fl_cell qc2_len hQpt rfl j1 | exact fcN hOx j3 | rfl)) rfl ?_
                  clear hl a; intro a hl
                  refine d_take (i := 10) hl rfl (by kernel_rfl) (by kernel_rfl) (by kernel_rfl) (by kernel_rfl) (by kernel_rfl) rfl trivial (fun _ _ _ h => h) hM (fun w hC => r_min hl rfl rfl) rfl ?_
                  clear hl a; intro a hl
                  rw [min_ite] at hl
                  refine d_takeL (i := 11) hl rfl (by kernel_rfl) (by kernel_rfl) (by kernel_rfl) (by kernel_rfl) (by kernel_rfl) rfl trivial (fun _ _ _ h => h) (fun w => r_indexS hl rfl rfl slc58 (by omega) (by omega) (by first | (simp only [Int.reduceToNat]; rfl) | exact toNat_add1 _ | exact toNat_add2 _ _ | exact toNat_emod _ _ | exact Int.toNat_natCast _ | rfl)) rfl ?_
                  clear hl a; intro a hl
                  refine d_one (i := 12) (by kernel_rfl) rfl ?_
                  try clear hM
                  refine id (w_store hl hh trivial one3 rfl rfl (by repeat (first | exact find_head | apply find_tail | apply find_skip)) (by first | (simp; done) | (simp; omega) | exact fm0 (by first | omega | (rw [nm_len (by omega)]; omega)) | exact qc2_lt (by omega)) (by first | rfl | assumption | (apply Row.one; assumption)) (by first | exact nm_set (by omega) | exact fs0 (by omega) | exact qc2_put hQat | (simp only [setL, List.getElem?_cons_zero, List.getElem?_cons_succ, Value.cells, List.take_zero, List.take_succ_cons, List.take_nil, List.drop_zero, List.drop_succ_cons, List.drop_nil, List.length_cons, List.length_nil, List.cons_append, List.nil_append, List.append_nil, Nat.zero_add, Nat.add_zero, Nat.reduceAdd, Nat.reduceBEq, Nat.reduceEqDiff, Nat.ble, BEq.rfl, Bool.and_true, Bool.and_self, cond_true, beq_self_eq_true]; rfl)) ?_)
                  clear hh w; intro w hh
                  refine d_step (fun h => absurd h (by decide)) ?_
                  refine d_done (by kernel_rfl) ?_
                  try clear hM
                  have hl2 := hl.add (t := 0) (hl.add (t := 2) (hl.add (t := 3) (hl.add (t := 5) (hl.add (t := 6) (hl.add (t := 8) (hl.add (t := 9) (hl.add (t := 10) (hl.add (t := 11) (hl.add (t := 39) (hl.add (t := 40) (hl.nil) rfl) rfl) rfl) rfl) rfl) rfl) rfl) rfl) rfl) rfl) rfl; clear hl; have hl := hl2; clear hl2
                  obtain ⟨lw9, hlw9⟩ : ∃ l, v.c.lw.set u (min (fnI v.c.lw u) (fnI v.c.sn e.1)) = l := ⟨_, rfl⟩
                  rw [hlw9] at hh
                  have hN := hA.eSeen hek hc6 (.inl ⟨hc7, hlw9.symm⟩)
                  have hNW : TWr (⟨⟨v.c.sn, lw9, v.c.cp, v.c.O, v.c.od, Q0 ++ [(u, k + 1)], updN v.c.nx u (k + 1), v.c.clk, v.c.cnt⟩, v.oa, v.oc, v.oE, some ⟨b1, 0, none⟩, v.qc, [(b1, C (fl qc2 (Q0 ++ [(u, k + 1)]) ++ j1) 178)], v.da, v.dc, v.dE⟩ : TW) := ⟨hV.o, hQn, hV.d⟩
                  refine then_normal ?_
                  refine wp_exit ?_
                  refine then_exit ?_
                  refine blk_exit ?_
                  refine then_normal ?_
                  refine ⟨⟨⟨v.c.sn, lw9, v.c.cp, v.c.O, v.c.od, Q0 ++ [(u, k + 1)], updN v.c.nx u (k + 1), v.c.clk, v.c.cnt⟩, v.oa, v.oc, v.oE, some ⟨b1, 0, none⟩, v.qc, [(b1, C (fl qc2 (Q0 ++ [(u, k + 1)]) ++ j1) 178)], v.da, v.dc, v.dE⟩, (Nat.lt_of_lt_of_eq hN.2 hmv), ⟨hN.1, hNW⟩, hl.addE (t := 8) (hl.addE (t := 9) (hl.addE (t := 10) (hl.addE (t := 11) (hl.addE (t := 3) (hl.addE (t := 0) (hl.addE (t := 2) (hl.addE (t := 5) (hl.addE (t := 6) (hl.addE (t := 39) (hl.addE (t := 40) (hl.nil) rfl (by first | rfl | exact congrArg (Value.int .i64) (show (v.c.cnt : Int) + 1 = ((v.c.cnt + 1 : Nat) : Int) by omega) | (rw [hse]) | (simp [List.length_append]; done))) rfl (by first | rfl | exact congrArg (Value.int .i64) (show (v.c.cnt : Int) + 1 = ((v.c.cnt + 1 : Nat) : Int) by omega) | (rw [hse]) | (simp [List.length_append]; done))) rfl (by first | rfl | exact congrArg (Value.int .i64) (show (v.c.cnt : Int) + 1 = ((v.c.cnt + 1 : Nat) : Int) by omega) | (rw [hse]) | (simp [List.length_append]; done))) rfl (by first | rfl | exact congrArg (Value.int .i64) (show (v.c.cnt : Int) + 1 = ((v.c.cnt + 1 : Nat) : Int) by omega) | (rw [hse]) | (simp [List.length_append]; done))) rfl (by first | rfl | exact congrArg (Value.int .i64) (show (v.c.cnt : Int) + 1 = ((v.c.cnt + 1 : Nat) : Int) by omega) | (rw [hse]) | (simp [List.length_append]; done))) rfl (by first | rfl | exact congrArg (Value.int .i64) (show (v.c.cnt : Int) + 1 = ((v.c.cnt + 1 : Nat) : Int) by omega) | (rw [hse]) | (simp [List.length_append]; done))) rfl (by first | rfl | exact congrArg (Value.int .i64) (show (v.c.cnt : Int) + 1 = ((v.c.cnt + 1 : Nat) : Int) by omega) | (rw [hse]) | (simp [List.length_append]; done))) rfl (by first | rfl | exact congrArg (Value.int .i64) (show (v.c.cnt : Int) + 1 = ((v.c.cnt + 1 : Nat) : Int) by omega) | (rw [hse]) | (simp [List.length_append]; done))) rfl (by first | rfl | exact congrArg (Value.int .i64) (show (v.c.cnt : Int) + 1 = ((v.c.cnt + 1 : Nat) : Int) by omega) | (rw [hse]) | (simp [List.length_append]; done))) rfl (by first | rfl | exact congrArg (Value.int .i64) (show (v.c.cnt : Int) + 1 = ((v.c.cnt + 1 : Nat) : Int) by omega) | (rw [hse]) | (simp [List.length_append]; done))) rfl (by first | rfl | exact congrArg (Value.int .i64) (show (v.c.cnt : Int) + 1 = ((v.c.cnt + 1 : Nat) : Int) by omega) | (rw [hse]) | (simp [List.length_append]; done)), hh.keep (by repeat (first | exact keeps_nil | apply keeps_cons (by repeat (first | exact find_head | apply find_tail | apply find_skip)) (by first  | rfl) | exact keeps_self | exact keeps_left | apply keeps_app | apply keeps_mv | apply keeps_skip))⟩
                · intro hc7
                  try simp only [decide_eq_true_eq, decide_eq_false_iff_not, Bool.not_eq_true', Bool.not_eq_false', Bool.not_eq_true, Bool.not_eq_false, Bool.and_eq_true, Bool.or_eq_true, Bool.and_eq_false_iff, Bool.or_eq_false_iff, Bool.not_not, ne_eq, Int.not_lt, Int.not_le, Decidable.not_not, beq_iff_eq, bne_iff_ne] at hc7
                  obtain ⟨lw9, hlw9⟩ : ∃ l, v.c.lw = l := ⟨_, rfl⟩
                  rw [hlw9] at hh
                  have hN := hA.eSeen hek hc6 (.inr ⟨hc7, hlw9.symm⟩)
                  have hNW : TWr (⟨⟨v.c.sn, lw9, v.c.cp, v.c.O, v.c.od, Q0 ++ [(u, k + 1)], updN v.c.nx u (k + 1), v.c.clk, v.c.cnt⟩, v.oa, v.oc, v.oE, some ⟨b1, 0, none⟩, v.qc, [(b1, C (fl qc2 (Q0 ++ [(u, k + 1)]) ++ j1) 178)], v.da, v.dc, v.dE⟩ : TW) := ⟨hV.o, hQn, hV.d⟩
                  refine wp_skip ?_
                  refine then_normal ?_
                  refine wp_exit ?_
                  refine then_exit ?_
                  refine blk_exit ?_
                  refine then_normal ?_
                  refine ⟨⟨⟨v.c.sn, lw9, v.c.cp, v.c.O, v.c.od, Q0 ++ [(u, k + 1)], updN v.c.nx u (k + 1), v.c.clk, v.c.cnt⟩, v.oa, v.oc, v.oE, some ⟨b1, 0, none⟩, v.qc, [(b1, C (fl qc2 (Q0 ++ [(u, k + 1)]) ++ j1) 178)], v.da, v.dc, v.dE⟩, (Nat.lt_of_lt_of_eq hN.2 hmv), ⟨hN.1, hNW⟩, hl.addE (t := 8) (hl.addE (t := 9) (hl.addE (t := 10) (hl.addE (t := 11) (hl.addE (t := 3) (hl.addE (t := 0) (hl.addE (t := 2) (hl.addE (t := 5) (hl.addE (t := 6) (hl.addE (t := 39) (hl.addE (t := 40) (hl.nil) rfl (by first | rfl | exact congrArg (Value.int .i64) (show (v.c.cnt : Int) + 1 = ((v.c.cnt + 1 : Nat) : Int) by omega) | (rw [hse]) | (simp [List.length_append]; done))) rfl (by first | rfl | exact congrArg (Value.int .i64) (show (v.c.cnt : Int) + 1 = ((v.c.cnt + 1 : Nat) : Int) by omega) | (rw [hse]) | (simp [List.length_append]; done))) rfl (by first | rfl | exact congrArg (Value.int .i64) (show (v.c.cnt : Int) + 1 = ((v.c.cnt + 1 : Nat) : Int) by omega) | (rw [hse]) | (simp [List.length_append]; done))) rfl (by first | rfl | exact congrArg (Value.int .i64) (show (v.c.cnt : Int) + 1 = ((v.c.cnt + 1 : Nat) : Int) by omega) | (rw [hse]) | (simp [List.length_append]; done))) rfl (by first | rfl | exact congrArg (Value.int .i64) (show (v.c.cnt : Int) + 1 = ((v.c.cnt + 1 : Nat) : Int) by omega) | (rw [hse]) | (simp [List.length_append]; done))) rfl (by first | rfl | exact congrArg (Value.int .i64) (show (v.c.cnt : Int) + 1 = ((v.c.cnt + 1 : Nat) : Int) by omega) | (rw [hse]) | (simp [List.length_append]; done))) rfl (by first | rfl | exact congrArg (Value.int .i64) (show (v.c.cnt : Int) + 1 = ((v.c.cnt + 1 : Nat) : Int) by omega) | (rw [hse]) | (simp [List.length_append]; done))) rfl (by first | rfl | exact congrArg (Value.int .i64) (show (v.c.cnt : Int) + 1 = ((v.c.cnt + 1 : Nat) : Int) by omega) | (rw [hse]) | (simp [List.length_append]; done))) rfl (by first | rfl | exact congrArg (Value.int .i64) (show (v.c.cnt : Int) + 1 = ((v.c.cnt + 1 : Nat) : Int) by omega) | (rw [hse]) | (simp [List.length_append]; done))) rfl (by first | rfl | exact congrArg (Value.int .i64) (show (v.c.cnt : Int) + 1 = ((v.c.cnt + 1 : Nat) : Int) by omega) | (rw [hse]) | (simp [List.length_append]; done))) rfl (by first | rfl | exact congrArg (Value.int .i64) (show (v.c.cnt : Int) + 1 = ((v.c.cnt + 1 : Nat) : Int) by omega) | (rw [hse]) | (simp [List.length_append]; done)), hh.keep (by repeat (first | exact keeps_nil | apply keeps_cons (by repeat (first | exact find_head | apply find_tail | apply find_skip)) (by first  | rfl) | exact keeps_self | exact keeps_left | apply keeps_app | apply keeps_mv | apply keeps_skip))⟩
            · intro hc5
              try simp only [decide_eq_true_eq, decide_eq_false_iff_not, Bool.not_eq_true', Bool.not_eq_false', Bool.not_eq_true, Bool.not_eq_false, Bool.and_eq_true, Bool.or_eq_true, Bool.and_eq_false_iff, Bool.or_eq_false_iff, Bool.not_not, ne_eq, Int.not_lt, Int.not_le, Decidable.not_not, beq_iff_eq, bne_iff_ne] at hc5
              have hk9 : ¬ k < (dpV ds u).length := by omega
              refine wp_skip ?_
              refine then_normal ?_
              refine c_seq ?_
              refine c_region ?_
              refine wl (wl_val hl rfl trivial (r_move hl rfl) ?_)
              clear hl a; intro a hl
              refine wl (wl_val hl rfl trivial (r_move hl rfl) ?_)
              clear hl a; intro a hl
              refine wl (wl_val hl rfl trivial (r_lenS hl rfl slc176) ?_)
              clear hl a; intro a hl
              first | refine wl (wl_val hl rfl trivial (r_sub hl rfl rfl (by simp only [Fits]; omega)) ?_) | refine wl (wl_val hl rfl trivial (r_subW hl rfl rfl) ?_)
              clear hl a; intro a hl
              rw [show (v.c.Q.length : Int) - 1 = (Q0.length : Int) by omega] at hl
              refine wl (wl_val hl rfl trivial (r_sliceS01 (by intro q e; first | (cases e; rfl) | (cases e; done)) hl rfl rfl slc176 (by first | trivial | (simp; done) | (simp; omega) | omega) (by first | (simp only [Int.reduceToNat]; rfl) | exact toNat_add1 _ | exact toNat_add2 _ _ | exact toNat_emod _ _ | exact Int.toNat_natCast _ | rfl)) ?_)
              clear hl a; intro a hl
              have hQp : Row (.slice (some ⟨b1, 0, none⟩) Q0.length v.qc) Q0.length (fl qc2 Q0) 2 178 [(b1, C (fl qc2 v.c.Q ++ j1) 178)] := by rw [hQe] at hjl1 hjc1 ⊢; exact row_init qc2_len hjl1 hjc1 rfl
              refine wl (wl_val hl rfl trivial (r_assign hl rfl) ?_)
              clear hl a; intro a hl
              refine w_nil ?_
              have hl2 := hl.add (t := 0) (hl.add (t := 2) (hl.add (t := 3) (hl.add (t := 5) (hl.add (t := 6) (hl.add (t := 8) (hl.add (t := 9) (hl.add (t := 10) (hl.add (t := 11) (hl.add (t := 14) (hl.add (t := 39) (hl.add (t := 40) (hl.nil) rfl) rfl) rfl) rfl) rfl) rfl) rfl) rfl) rfl) rfl) rfl) rfl; clear hl; have hl := hl2; clear hl2
              refine then_normal ?_
              refine c_seq ?_
              refine c_seq ?_
              refine c_region ?_
              refine wl (wl_val hl rfl trivial (r_move hl rfl) ?_)
              clear hl a; intro a hl
              refine wl (wl_val hl rfl trivial (r_lenS hl rfl slc176) ?_)
              clear hl a; intro a hl
              refine wl (wl_val hl rfl trivial (r_gtr hl rfl rfl) ?_)
              clear hl a; intro a hl
              refine w_nil ?_
              have hl2 := hl.add (t := 0) (hl.add (t := 2) (hl.add (t := 3) (hl.add (t := 5) (hl.add (t := 6) (hl.add (t := 8) (hl.add (t := 9) (hl.add (t := 10) (hl.add (t := 11) (hl.add (t := 14) (hl.add (t := 39) (hl.add (t := 40) (hl.add (t := 146) (hl.nil) rfl) rfl) rfl) rfl) rfl) rfl) rfl) rfl) rfl) rfl) rfl) rfl) rfl; clear hl; have hl := hl2; clear hl2
              refine then_normal ?_
              refine c_cond hl rfl ?_ ?_
              · intro hc8
                try simp only [decide_eq_true_eq, decide_eq_false_iff_not, Bool.not_eq_true', Bool.not_eq_false', Bool.not_eq_true, Bool.not_eq_false, Bool.and_eq_true, Bool.or_eq_true, Bool.and_eq_false_iff, Bool.or_eq_false_iff, Bool.not_not, ne_eq, Int.not_lt, Int.not_le, Decidable.not_not, beq_iff_eq, bne_iff_ne] at hc8
                obtain ⟨Q1, ⟨p, kp⟩, hQ0⟩ := snoc_of (l := Q0) (by omega)
                have hQ1 : Q0.length = Q1.length + 1 := by rw [hQ0]; simp
                have hQpt : v.c.Q[Q1.length]? = some (p, kp) := at_mid (l1 := [(u, k)]) (by rw [hQe, hQ0]; simp)
                have hpn : p < ds.length := (hA.t.on p (hA.t.sub p (by unfold TC.nd; rw [hQe, hQ0]; simp))).1
                refine c_seq ?_
                refine c_region ?_
                refine wl (wl_val hl rfl trivial (r_move hl rfl) ?_)
                clear hl a; intro a hl
                refine wl (wl_val hl rfl trivial (r_move hl rfl) ?_)
                clear hl a; intro a hl
                refine wl (wl_val hl rfl trivial (r_lenS hl rfl slc176) ?_)
                clear hl a; intro a hl
                first | refine wl (wl_val hl rfl trivial (r_sub hl rfl rfl (by simp only [Fits]; omega)) ?_) | refine wl (wl_val hl rfl trivial (r_subW hl rfl rfl) ?_)
                clear hl a; intro a hl
                rw [show (Q0.length : Int) - 1 = (Q1.length : Int) by omega] at hl
                refine wl (wl_val hl rfl trivial (r_indexS hl rfl rfl slc176 (by omega) (by omega) (by first | (simp only [Int.reduceToNat]; rfl) | exact toNat_add1 _ | exact toNat_add2 _ _ | exact toNat_emod _ _ | exact Int.toNat_natCast _ | rfl)) ?_)
                clear hl a; intro a hl
                refine wl (wl_val hl rfl trivial (r_field hl rfl fld178_0) ?_)
                clear hl a; intro a hl
                first | refine wl (w_load hl hh rfl trivial one3 rfl (by repeat (first | exact find_head | apply find_tail | apply find_skip)) (by first | exact fc0 (fnI_get (by omega)) | exact fl_cell qc2_len hQat rfl j1 | exact fl_cell qc2_len hQpt rfl j1 | exact fcN hOx j3 | rfl) ?_) | refine wl (w_loadR hl hh rfl trivial one3 rfl (hpre _ _ hdp.blk) (by simp) (ev_at hdu) ?_) | refine wl (w_loadR hl hh rfl trivial one3 rfl (hpre _ _ hm2) (by simp) (fl_cell edc_len hke rfl j2) ?_)
                clear hl a; intro a hl
                try dsimp only at hl
                refine wl (wl_val hl rfl trivial (r_assign hl rfl) ?_)
                clear hl a; intro a hl
                refine w_nil ?_
                have hl2 := hl.add (t := 0) (hl.add (t := 2) (hl.add (t := 3) (hl.add (t := 5) (hl.add (t := 6) (hl.add (t := 8) (hl.add (t := 9) (hl.add (t := 10) (hl.add (t := 11) (hl.add (t := 14) (hl.add (t := 16) (hl.add (t := 39) (hl.add (t := 40) (hl.nil) rfl) rfl) rfl) rfl) rfl) rfl) rfl) rfl) rfl) rfl) rfl) rfl) rfl; clear hl; have hl := hl2; clear hl2
                refine then_normal ?_
                refine c_draw [(k25, C (fl iI v.c.lw) 3)] [11, 12] mixed hh ?_
                clear hh w; intro w hh
                have hM : Mem [(k25, C (fl iI v.c.lw) 3)] w := (memK hh (by repeat (first | exact keeps_nil | apply keeps_cons (by repeat (first | exact find_head | apply find_tail | apply find_skip)) (by first  | rfl) | exact keeps_self | exact keeps_left | apply keeps_app | apply keeps_mv | apply keeps_skip)))
                refine d_take (i := 0) hl rfl (by kernel_rfl) (by kernel_rfl) (by kernel_rfl) (by kernel_rfl) (by kernel_rfl) rfl trivial (fun _ _ _ h => h) hM (fun w hC => r_move hl rfl) rfl ?_
                clear hl a; intro a hl
                refine d_take (i := 1) hl rfl (by kernel_rfl) (by kernel_rfl) (by kernel_rfl) (by kernel_rfl) (by kernel_rfl) rfl trivial (fun _ _ _ h => h) hM (fun w hC => r_move hl rfl) rfl ?_
                clear hl a; intro a hl
                refine d_take (i := 2) hl rfl (by kernel_rfl) (by kernel_rfl) (by kernel_rfl) (by kernel_rfl) (by kernel_rfl) rfl trivial (fun _ _ _ h => h) hM (fun w hC => r_move hl rfl) rfl ?_
                clear hl a; intro a hl
                refine d_take (i := 3) hl rfl (by kernel_rfl) (by kernel_rfl) (by kernel_rfl) (by kernel_rfl) (by kernel_rfl) rfl trivial (fun _ _ _ h => h) hM (fun w hC => r_move hl rfl) rfl ?_
                clear hl a; intro a hl
                refine d_take (i := 4) hl rfl (by kernel_rfl) (by kernel_rfl) (by kernel_rfl) (by kernel_rfl) (by kernel_rfl) rfl trivial (fun _ _ _ h => h) hM (fun w hC => r_indexS hl rfl rfl slc58 (by omega) (by omega) (by first | (simp only [Int.reduceToNat]; rfl) | exact toNat_add1 _ | exact toNat_add2 _ _ | exact toNat_emod _ _ | exact Int.toNat_natCast _ | rfl)) rfl ?_
                clear hl a; intro a hl
                refine d_take (i := 5) hl rfl (by kernel_rfl) (by kernel_rfl) (by kernel_rfl) (by kernel_rfl) (by kernel_rfl) rfl trivial (fun _ _ _ h => h) hM (fun w hC => r_loadC hl rfl one3 hC (by repeat (first | exact find_head | apply find_tail | apply find_skip)) (by first | exact fc0 (fnI_get (by omega)) | exact fl_cell qc2_len hQat rfl j1 | exact fl_cell qc2_len hQpt rfl j1 | exact fcN hOx j3 | rfl)) rfl ?_
                clear hl a; intro a hl
                refine d_take (i := 6) hl rfl (by kernel_rfl) (by kernel_rfl) (by kernel_rfl) (by kernel_rfl) (by kernel_rfl) rfl trivial (fun _ _ _ h => h) hM (fun w hC => r_move hl rfl) rfl ?_
                clear hl a; intro a hl
                refine d_take (i := 7) hl rfl (by kernel_rfl) (by kernel_rfl) (by kernel_rfl) (by kernel_rfl) (by kernel_rfl) rfl trivial (fun _ _ _ h => h) hM (fun w hC => r_move hl rfl) rfl ?_
                clear hl a; intro a hl
                refine d_take (i := 8) hl rfl (by kernel_rfl) (by kernel_rfl) (by kernel_rfl) (by kernel_rfl) (by kernel_rfl) rfl trivial (fun _ _ _ h => h) hM (fun w hC => r_indexS hl rfl rfl slc58 (by omega) (by omega) (by first | (simp only [Int.reduceToNat]; rfl) | exact toNat_add1 _ | exact toNat_add2 _ _ | exact toNat_emod _ _ | exact Int.toNat_natCast _ | rfl)) rfl ?_
                clear hl a; intro a hl
                refine d_take (i := 9) hl rfl (by kernel_rfl) (by kernel_rfl) (by kernel_rfl) (by kernel_rfl) (by kernel_rfl) rfl trivial (fun _ _ _ h => h) hM (fun w hC => r_loadC hl rfl one3 hC (by repeat (first | exact find_head | apply find_tail | apply find_skip)) (by first | exact fc0 (fnI_get (by omega)) | exact fl_cell qc2_len hQat rfl j1 | exact fl_cell qc2_len hQpt rfl j1 | exact fcN hOx j3 | rfl)) rfl ?_
                clear hl a; intro a hl
                refine d_take (i := 10) hl rfl (by kernel_rfl) (by kernel_rfl) (by kernel_rfl) (by kernel_rfl) (by kernel_rfl) rfl trivial (fun _ _ _ h => h) hM (fun w hC => r_min hl rfl rfl) rfl ?_
                clear hl a; intro a hl
                rw [min_ite] at hl
                refine d_takeL (i := 11) hl rfl (by kernel_rfl) (by kernel_rfl) (by kernel_rfl) (by kernel_rfl) (by kernel_rfl) rfl trivial (fun _ _ _ h => h) (fun w => r_indexS hl rfl rfl slc58 (by omega) (by omega) (by first | (simp only [Int.reduceToNat]; rfl) | exact toNat_add1 _ | exact toNat_add2 _ _ | exact toNat_emod _ _ | exact Int.toNat_natCast _ | rfl)) rfl ?_
                clear hl a; intro a hl
                refine d_one (i := 12) (by kernel_rfl) rfl ?_
                try clear hM
                refine id (w_store hl hh trivial one3 rfl rfl (by repeat (first | exact find_head | apply find_tail | apply find_skip)) (by first | (simp; done) | (simp; omega) | exact fm0 (by first | omega | (rw [nm_len (by omega)]; omega)) | exact qc2_lt (by omega)) (by first | rfl | assumption | (apply Row.one; assumption)) (by first | exact nm_set (by omega) | exact fs0 (by omega) | exact qc2_put hQat | (simp only [setL, List.getElem?_cons_zero, List.getElem?_cons_succ, Value.cells, List.take_zero, List.take_succ_cons, List.take_nil, List.drop_zero, List.drop_succ_cons, List.drop_nil, List.length_cons, List.length_nil, List.cons_append, List.nil_append, List.append_nil, Nat.zero_add, Nat.add_zero, Nat.reduceAdd, Nat.reduceBEq, Nat.reduceEqDiff, Nat.ble, BEq.rfl, Bool.and_true, Bool.and_self, cond_true, beq_self_eq_true]; rfl)) ?_)
                clear hh w; intro w hh
                refine d_step (fun h => absurd h (by decide)) ?_
                refine d_done (by kernel_rfl) ?_
                try clear hM
                have hl2 := hl.add (t := 0) (hl.add (t := 2) (hl.add (t := 3) (hl.add (t := 5) (hl.add (t := 6) (hl.add (t := 8) (hl.add (t := 9) (hl.add (t := 10) (hl.add (t := 11) (hl.add (t := 14) (hl.add (t := 39) (hl.add (t := 40) (hl.nil) rfl) rfl) rfl) rfl) rfl) rfl) rfl) rfl) rfl) rfl) rfl) rfl; clear hl; have hl := hl2; clear hl2
                obtain ⟨lw9, hlw9, hPL⟩ : ∃ l, v.c.lw.set p (min (fnI v.c.lw p) (fnI v.c.lw u)) = l ∧ PopL ds.length (dpV ds) (2 * rem (dpV ds) (fun _ => 0) ds.length + 1) z.i v.c Q0 u l := ⟨_, rfl, hA.pop1 hk9 hQ0⟩
                rw [hlw9] at hh
                have hl9 := hPL.len
                refine then_normal ?_
                refine c_seq ?_
                refine c_seq ?_
                refine c_draw [(k25, C (fl iI lw9) 3), (k23, C (fl iI v.c.sn) 3)] [8] mixed hh ?_
                clear hh w; intro w hh
                have hM : Mem [(k25, C (fl iI lw9) 3), (k23, C (fl iI v.c.sn) 3)] w := (memK hh (by repeat (first | exact keeps_nil | apply keeps_cons (by repeat (first | exact find_head | apply find_tail | apply find_skip)) (by first  | rfl) | exact keeps_self | exact keeps_left | apply keeps_app | apply keeps_mv | apply keeps_skip)))
                refine d_take (i := 0) hl rfl (by kernel_rfl) (by kernel_rfl) (by kernel_rfl) (by kernel_rfl) (by kernel_rfl) rfl trivial (fun _ _ _ h => h) hM (fun w hC => r_move hl rfl) rfl ?_
                clear hl a; intro a hl
                refine d_take (i := 1) hl rfl (by kernel_rfl) (by kernel_rfl) (by kernel_rfl) (by kernel_rfl) (by kernel_rfl) rfl trivial (fun _ _ _ h => h) hM (fun w hC => r_move hl rfl) rfl ?_
                clear hl a; intro a hl
                refine d_take (i := 2) hl rfl (by kernel_rfl) (by kernel_rfl) (by kernel_rfl) (by kernel_rfl) (by kernel_rfl) rfl trivial (fun _ _ _ h => h) hM (fun w hC => r_indexS hl rfl rfl slc58 (by omega) (by omega) (by first | (simp only [Int.reduceToNat]; rfl) | exact toNat_add1 _ | exact toNat_add2 _ _ | exact toNat_emod _ _ | exact Int.toNat_natCast _ | rfl)) rfl ?_
                clear hl a; intro a hl
                refine d_take (i := 3) hl rfl (by kernel_rfl) (by kernel_rfl) (by kernel_rfl) (by kernel_rfl) (by kernel_rfl) rfl trivial (fun _ _ _ h => h) hM (fun w hC => r_loadC hl rfl one3 hC (by repeat (first | exact find_head | apply find_tail | apply find_skip)) (by first | exact fc0 (fnI_get (by omega)) | exact fl_cell qc2_len hQat rfl j1 | exact fl_cell qc2_len hQpt rfl j1 | exact fcN hOx j3 | rfl)) rfl ?_
                clear hl a; intro a hl
                refine d_take (i := 4) hl rfl (by kernel_rfl) (by kernel_rfl) (by kernel_rfl) (by kernel_rfl) (by kernel_rfl) rfl trivial (fun _ _ _ h => h) hM (fun w hC => r_move hl rfl) rfl ?_
                clear hl a; intro a hl
                refine d_take (i := 5) hl rfl (by kernel_rfl) (by kernel_rfl) (by kernel_rfl) (by kernel_rfl) (by kernel_rfl) rfl trivial (fun _ _ _ h => h) hM (fun w hC => r_move hl rfl) rfl ?_
                clear hl a; intro a hl
                refine d_take (i := 6) hl rfl (by kernel_rfl) (by kernel_rfl) (by kernel_rfl) (by kernel_rfl) (by kernel_rfl) rfl trivial (fun _ _ _ h => h) hM (fun w hC => r_indexS hl rfl rfl slc58 (by omega) (by omega) (by first | (simp only [Int.reduceToNat]; rfl) | exact toNat_add1 _ | exact toNat_add2 _ _ | exact toNat_emod _ _ | exact Int.toNat_natCast _ | rfl)) rfl ?_
                clear hl a; intro a hl
                refine d_take (i := 7) hl rfl (by kernel_rfl) (by kernel_rfl) (by kernel_rfl) (by kernel_rfl) (by kernel_rfl) rfl trivial (fun _ _ _ h => h) hM (fun w hC => r_loadC hl rfl one3 hC (by repeat (first | exact find_head | apply find_tail | apply find_skip)) (by first | exact fc0 (fnI_get (by omega)) | exact fl_cell qc2_len hQat rfl j1 | exact fl_cell qc2_len hQpt rfl j1 | exact fcN hOx j3 | rfl)) rfl ?_
                clear hl a; intro a hl
                refine d_takeL (i := 8) hl rfl (by kernel_rfl) (by kernel_rfl) (by kernel_rfl) (by kernel_rfl) (by kernel_rfl) rfl trivial (fun _ _ _ h => h) (fun w => r_neq hl rfl rfl) rfl ?_
                clear hl a; intro a hl
                refine d_done (by kernel_rfl) ?_
                try clear hM
                have hl2 := hl.add (t := 0) (hl.add (t := 2) (hl.add (t := 3) (hl.add (t := 5) (hl.add (t := 6) (hl.add (t := 8) (hl.add (t := 9) (hl.add (t := 10) (hl.add (t := 11) (hl.add (t := 14) (hl.add (t := 39) (hl.add (t := 40) (hl.add (t := 174) (hl.nil) rfl) rfl) rfl) rfl) rfl) rfl) rfl) rfl) rfl) rfl) rfl) rfl) rfl; clear hl; have hl := hl2; clear hl2
                refine then_normal ?_
                refine c_cond hl rfl ?_ ?_
                · intro hc9
                  try simp only [decide_eq_true_eq, decide_eq_false_iff_not, Bool.not_eq_true', Bool.not_eq_false', Bool.not_eq_true, Bool.not_eq_false, Bool.and_eq_true, Bool.or_eq_true, Bool.and_eq_false_iff, Bool.or_eq_false_iff, Bool.not_not, ne_eq, Int.not_lt, Int.not_le, Decidable.not_not, beq_iff_eq, bne_iff_ne] at hc9
                  rw [hPL.eq] at hc9
                  have hNW : TWr (⟨⟨v.c.sn, lw9, v.c.cp, v.c.O, v.c.od, Q0, v.c.nx, v.c.clk, v.c.cnt⟩, v.oa, v.oc, v.oE, some ⟨b1, 0, none⟩, v.qc, [(b1, C (fl qc2 v.c.Q ++ j1) 178)], v.da, v.dc, v.dE⟩ : TW) := ⟨hV.o, hQp, hV.d⟩
                  refine wp_exit ?_
                  refine then_exit ?_
                  refine blk_exit ?_
                  refine then_normal ?_
                  refine ⟨⟨⟨v.c.sn, lw9, v.c.cp, v.c.O, v.c.od, Q0, v.c.nx, v.c.clk, v.c.cnt⟩, v.oa, v.oc, v.oE, some ⟨b1, 0, none⟩, v.qc, [(b1, C (fl qc2 v.c.Q ++ j1) 178)], v.da, v.dc, v.dE⟩, (Nat.lt_of_lt_of_eq hPL.mz hmv), ⟨hPL.ne hc9, hNW⟩, hl.addE (t := 8) (hl.addE (t := 9) (hl.addE (t := 10) (hl.addE (t := 11) (hl.addE (t := 3) (hl.addE (t := 0) (hl.addE (t := 2) (hl.addE (t := 5) (hl.addE (t := 6) (hl.addE (t := 39) (hl.addE (t := 40) (hl.nil) rfl (by first | rfl | exact congrArg (Value.int .i64) (show (v.c.cnt : Int) + 1 = ((v.c.cnt + 1 : Nat) : Int) by omega) | (rw [hse]) | (simp [List.length_append]; done))) rfl (by first | rfl | exact congrArg (Value.int .i64) (show (v.c.cnt : Int) + 1 = ((v.c.cnt + 1 : Nat) : Int) by omega) | (rw [hse]) | (simp [List.length_append]; done))) rfl (by first | rfl | exact congrArg (Value.int .i64) (show (v.c.cnt : Int) + 1 = ((v.c.cnt + 1 : Nat) : Int) by omega) | (rw [hse]) | (simp [List.length_append]; done))) rfl (by first | rfl | exact congrArg (Value.int .i64) (show (v.c.cnt : Int) + 1 = ((v.c.cnt + 1 : Nat) : Int) by omega) | (rw [hse]) | (simp [List.length_append]; done))) rfl (by first | rfl | exact congrArg (Value.int .i64) (show (v.c.cnt : Int) + 1 = ((v.c.cnt + 1 : Nat) : Int) by omega) | (rw [hse]) | (simp [List.length_append]; done))) rfl (by first | rfl | exact congrArg (Value.int .i64) (show (v.c.cnt : Int) + 1 = ((v.c.cnt + 1 : Nat) : Int) by omega) | (rw [hse]) | (simp [List.length_append]; done))) rfl (by first | rfl | exact congrArg (Value.int .i64) (show (v.c.cnt : Int) + 1 = ((v.c.cnt + 1 : Nat) : Int) by omega) | (rw [hse]) | (simp [List.length_append]; done))) rfl (by first | rfl | exact congrArg (Value.int .i64) (show (v.c.cnt : Int) + 1 = ((v.c.cnt + 1 : Nat) : Int) by omega) | (rw [hse]) | (simp [List.length_append]; done))) rfl (by first | rfl | exact congrArg (Value.int .i64) (show (v.c.cnt : Int) + 1 = ((v.c.cnt + 1 : Nat) : Int) by omega) | (rw [hse]) | (simp [List.length_append]; done))) rfl (by first | rfl | exact congrArg (Value.int .i64) (show (v.c.cnt : Int) + 1 = ((v.c.cnt + 1 : Nat) : Int) by omega) | (rw [hse]) | (simp [List.length_append]; done))) rfl (by first | rfl | exact congrArg (Value.int .i64) (show (v.c.cnt : Int) + 1 = ((v.c.cnt + 1 : Nat) : Int) by omega) | (rw [hse]) | (simp [List.length_append]; done)), hh.keep (by repeat (first | exact keeps_nil | apply keeps_cons (by repeat (first | exact find_head | apply find_tail | apply find_skip)) (by first  | rfl) | exact keeps_self | exact keeps_left | apply keeps_app | apply keeps_mv | apply keeps_skip))⟩
                · intro hc9
                  try simp only [decide_eq_true_eq, decide_eq_false_iff_not, Bool.not_eq_true', Bool.not_eq_false', Bool.not_eq_true, Bool.not_eq_false, Bool.and_eq_true, Bool.or_eq_true, Bool.and_eq_false_iff, Bool.or_eq_false_iff, Bool.not_not, ne_eq, Int.not_lt, Int.not_le, Decidable.not_not, beq_iff_eq, bne_iff_ne] at hc9
                  rw [hPL.eq] at hc9
                  rw [hPL.rt hc9] at hh
                  obtain ⟨O1, X, hO, huX⟩ := hA.split
                  have hOl : v.c.O.length = O1.length + (X.length + 1) := by rw [hO]; simp
                  obtain ⟨b3, j3, hq3, hjl3, hjc3, hE3⟩ := row_pos hV.o (by omega)
                  rw [hq3] at hl
                  rw [hE3] at hh
                  refine wp_skip ?_
                  refine then_normal ?_
                  refine c_seq ?_
                  refine c_seq ?_
                  refine c_region ?_
                  refine wl (wl_val hl rfl trivial (r_assign hl rfl) ?_)
                  clear hl a; intro a hl
                  refine w_nil ?_
                  have hl2 := hl.add (t := 0) (hl.add (t := 2) (hl.add (t := 3) (hl.add (t := 5) (hl.add (t := 6) (hl.add (t := 8) (hl.add (t := 9) (hl.add (t := 10) (hl.add (t := 11) (hl.add (t := 14) (hl.add (t := 17) (hl.add (t := 39) (hl.add (t := 40) (hl.nil) rfl) rfl) rfl) rfl) rfl) rfl) rfl) rfl) rfl) rfl) rfl) rfl) rfl; clear hl; have hl := hl2; clear hl2
                  refine then_normal ?_
                  refine wp_block ?_
                  obtain ⟨KS3, hKS3, hk⟩ := (hl.add (t := 0) (hl.add (t := 2) (hl.add (t := 5) (hl.add (t := 6) (hl.add (t := 8) (hl.add (t := 10) (hl.add (t := 11) (hl.add (t := 14) (hl.add (t := 39) (hl.add (t := 40) (hl.nil) rfl) rfl) rfl) rfl) rfl) rfl) rfl) rfl) rfl) rfl).name
                  obtain ⟨HS3, hHS3, hh2⟩ := hh.nameT (A := [(k21, C (fl iI v.c.cp) 3)]) (U := v.dE) (keeps_cons (b := k21) (o' := C (fl iI v.c.cp) 3) (by repeat (first | exact find_head | apply find_tail | apply find_skip)) (by first | rfl) ((by repeat (first | exact keeps_nil | exact keeps_self | exact keeps_left | apply keeps_app | apply keeps_mv | apply keeps_skip))))
                  refine c_loop (α := CLo) (fun s => s.A.length) (fun s a w => (CLI v.c u X s) ∧ Sl 202 ([(9, .slice (some ⟨b3, 0, none⟩) (O1.length + s.A.length) v.oc), (17, .int .i64 s.cl), (3, .slice s.da s.od.length s.dc)] ++ KS3) a ∧ Has _ w0 ([(k21, C (fl iI s.cp) 3)] ++ (HS3 ++ s.dE)) w) ⟨u :: X, [], v.c.od, v.c.cp, -1, v.da, v.dc, v.dE⟩ ⟨⟨by simp, by simp, rfl, hV.d, (fun h => by cases h), (fun _ h => by simp only at h; omega)⟩, hl.addE (t := 9) (hl.addE (t := 17) (hl.addE (t := 3) (hk) rfl (by first | (rw [hO, List.length_append]) | rfl)) rfl (by first | (rw [hO, List.length_append]) | rfl)) rfl (by first | (rw [hO, List.length_append]) | rfl), hh2⟩ ?_
                  clear hk hh2 hl hh a w
                  intro s a w hI
                  obtain ⟨hS, hl, hh⟩ := hI
                  subst hKS3; subst hHS3
                  simp only [List.cons_append, List.nil_append, List.append_nil, List.append_assoc] at hl hh
                  refine c_seq ?_
                  refine c_seq ?_
                  refine c_region ?_
                  refine wl (wl_val hl rfl trivial (r_move hl rfl) ?_)
                  clear hl a; intro a hl
                  refine wl (wl_val hl rfl trivial (r_move hl rfl) ?_)
                  clear hl a; intro a hl
                  refine wl (wl_val hl rfl trivial (r_neq hl rfl rfl) ?_)
                  clear hl a; intro a hl
                  refine w_nil ?_
                  have hl2 := hl.add (t := 0) (hl.add (t := 2) (hl.add (t := 3) (hl.add (t := 5) (hl.add (t := 6) (hl.add (t := 8) (hl.add (t := 9) (hl.add (t := 10) (hl.add (t := 11) (hl.add (t := 14) (hl.add (t := 39) (hl.add (t := 40) (hl.add (t := 177) (hl.nil) rfl) rfl) rfl) rfl) rfl) rfl) rfl) rfl) rfl) rfl) rfl) rfl) rfl; clear hl; have hl := hl2; clear hl2
                  refine then_normal ?_
                  refine c_cond hl rfl ?_ ?_
                  · intro hc10
                    try simp only [decide_eq_true_eq, decide_eq_false_iff_not, Bool.not_eq_true', Bool.not_eq_false', Bool.not_eq_true, Bool.not_eq_false, Bool.and_eq_true, Bool.or_eq_true, Bool.and_eq_false_iff, Bool.or_eq_false_iff, Bool.not_not, ne_eq, Int.not_lt, Int.not_le, Decidable.not_not, beq_iff_eq, bne_iff_ne] at hc10
                    have hA0 : s.A ≠ [] := fun h => hc10 (hS.c0 h)
                    obtain ⟨A9, x, hA9⟩ := snoc_of (l := s.A) (List.length_pos_iff.2 hA0)
                    have hAl : s.A.length = A9.length + 1 := by rw [hA9]; simp
                    have hOx : v.c.O[O1.length + A9.length]? = some x := by
                      have h9 := at_mid (l := v.c.O) (l0 := O1 ++ A9) (x := x) (l1 := s.B) (by rw [hO, hS.ab, hA9]; simp)
                      rw [List.length_append] at h9; exact h9
                    have hxO := List.mem_of_getElem? hOx
                    have hxn := (hA.t.on x hxO).1
                    have hxc : x < s.cp.length := by rw [hS.cp, cpSet_len, hl3]; exact hxn
                    have hab9 := congrArg List.length hS.ab
                    rw [List.length_append, List.length_cons] at hab9
                    have hod9 := congrArg List.length hS.od
                    rw [List.length_append, List.length_reverse] at hod9
                    refine wp_skip ?_
                    refine then_normal ?_
                    refine wp_block ?_
                    refine c_seq ?_
                    refine c_region ?_
                    refine wl (wl_val hl rfl trivial (r_move hl rfl) ?_)
                    clear hl a; intro a hl
                    refine wl (wl_val hl rfl trivial (r_move hl rfl) ?_)
                    clear hl a; intro a hl
                    refine wl (wl_val hl rfl trivial (r_lenS hl rfl slc58) ?_)
                    clear hl a; intro a hl
                    first | refine wl (wl_val hl rfl trivial (r_sub hl rfl rfl (by simp only [Fits]; omega)) ?_) | refine wl (wl_val hl rfl trivial (r_subW hl rfl rfl) ?_)
                    clear hl a; intro a hl
                    rw [show ((O1.length + s.A.length : Nat) : Int) - 1 = ((O1.length + A9.length : Nat) : Int) by omega] at hl
                    refine wl (wl_val hl rfl trivial (r_indexS hl rfl rfl slc58 (by omega) (by omega) (by first | (simp only [Int.reduceToNat]; rfl) | exact toNat_add1 _ | exact toNat_add2 _ _ | exact toNat_emod _ _ | exact Int.toNat_natCast _ | rfl)) ?_)
                    clear hl a; intro a hl
                    first | refine wl (w_load hl hh rfl trivial one3 rfl (by repeat (first | exact find_head | apply find_tail | apply find_skip)) (by first | exact fc0 (fnI_get (by omega)) | exact fl_cell qc2_len hQat rfl j1 | exact fl_cell qc2_len hQpt rfl j1 | exact fcN hOx j3 | rfl) ?_) | refine wl (w_loadR hl hh rfl trivial one3 rfl (hpre _ _ hdp.blk) (by simp) (ev_at hdu) ?_) | refine wl (w_loadR hl hh rfl trivial one3 rfl (hpre _ _ hm2) (by simp) (fl_cell edc_len hke rfl j2) ?_)
                    clear hl a; intro a hl
                    refine wl (wl_val hl rfl trivial (r_assign hl rfl) ?_)
                    clear hl a; intro a hl
                    refine w_nil ?_
                    have hl2 := hl.add (t := 0) (hl.add (t := 2) (hl.add (t := 3) (hl.add (t := 5) (hl.add (t := 6) (hl.add (t := 8) (hl.add (t := 9) (hl.add (t := 10) (hl.add (t := 11) (hl.add (t := 14) (hl.add (t := 17) (hl.add (t := 39) (hl.add (t := 40) (hl.nil) rfl) rfl) rfl) rfl) rfl) rfl) rfl) rfl) rfl) rfl) rfl) rfl) rfl; clear hl; have hl := hl2; clear hl2
                    refine then_normal ?_
                    refine c_seq ?_
                    refine c_region ?_
                    refine wl (wl_val hl rfl trivial (r_move hl rfl) ?_)
                    clear hl a; intro a hl
                    refine wl (wl_val hl rfl trivial (r_move hl rfl) ?_)
                    clear hl a; intro a hl
                    refine wl (wl_val hl rfl trivial (r_lenS hl rfl slc58) ?_)
                    clear hl a; intro a hl
                    first | refine wl (wl_val hl rfl trivial (r_sub hl rfl rfl (by simp only [Fits]; omega)) ?_) | refine wl (wl_val hl rfl trivial (r_subW hl rfl rfl) ?_)
                    clear hl a; intro a hl
                    rw [show ((O1.length + s.A.length : Nat) : Int) - 1 = ((O1.length + A9.length : Nat) : Int) by omega] at hl
                    refine wl (wl_val hl rfl trivial (r_sliceS01 (by intro q e; first | (cases e; rfl) | (cases e; done)) hl rfl rfl slc58 (by first | trivial | (simp; done) | (simp; omega) | omega) (by first | (simp only [Int.reduceToNat]; rfl) | exact toNat_add1 _ | exact toNat_add2 _ _ | exact toNat_emod _ _ | exact Int.toNat_natCast _ | rfl)) ?_)
                    clear hl a; intro a hl
                    refine wl (wl_val hl rfl trivial (r_assign hl rfl) ?_)
                    clear hl a; intro a hl
                    refine w_nil ?_
                    have hl2 := hl.add (t := 0) (hl.add (t := 2) (hl.add (t := 3) (hl.add (t := 5) (hl.add (t := 6) (hl.add (t := 8) (hl.add (t := 9) (hl.add (t := 10) (hl.add (t := 11) (hl.add (t := 14) (hl.add (t := 17) (hl.add (t := 39) (hl.add (t := 40) (hl.nil) rfl) rfl) rfl) rfl) rfl) rfl) rfl) rfl) rfl) rfl) rfl) rfl) rfl; clear hl; have hl := hl2; clear hl2
                    refine then_normal ?_
                    refine c_seq ?_
                    refine c_region ?_
                    refine wl (wl_val hl rfl trivial (r_move hl rfl) ?_)
                    clear hl a; intro a hl
                    refine wl (wl_val hl rfl trivial (r_move hl rfl) ?_)
                    clear hl a; intro a hl
                    refine wl (wl_val hl rfl trivial (r_move hl rfl) ?_)
                    clear hl a; intro a hl
                    refine wl (wl_val hl rfl trivial (r_indexS hl rfl rfl slc58 (by omega) (by omega) (by first | (simp only [Int.reduceToNat]; rfl) | exact toNat_add1 _ | exact toNat_add2 _ _ | exact toNat_emod _ _ | exact Int.toNat_natCast _ | rfl)) ?_)
                    clear hl a; intro a hl
                    refine wl (w_store hl hh trivial one3 rfl rfl (by repeat (first | exact find_head | apply find_tail | apply find_skip)) (by first | (simp; done) | (simp; omega) | exact fm0 (by first | omega | (rw [nm_len (by omega)]; omega)) | exact qc2_lt (by omega)) (by first | rfl | assumption | (apply Row.one; assumption)) (by first | exact nm_set (by omega) | exact fs0 (by omega) | exact qc2_put hQat | (simp only [setL, List.getElem?_cons_zero, List.getElem?_cons_succ, Value.cells, List.take_zero, List.take_succ_cons, List.take_nil, List.drop_zero, List.drop_succ_cons, List.drop_nil, List.length_cons, List.length_nil, List.cons_append, List.nil_append, List.append_nil, Nat.zero_add, Nat.add_zero, Nat.reduceAdd, Nat.reduceBEq, Nat.reduceEqDiff, Nat.ble, BEq.rfl, Bool.and_true, Bool.and_self, cond_true, beq_self_eq_true]; rfl)) ?_)
                    clear hh w; intro w hh
                    refine w_nil ?_
                    have hl2 := hl.add (t := 0) (hl.add (t := 2) (hl.add (t := 3) (hl.add (t := 5) (hl.add (t := 6) (hl.add (t := 8) (hl.add (t := 9) (hl.add (t := 10) (hl.add (t := 11) (hl.add (t := 14) (hl.add (t := 17) (hl.add (t := 39) (hl.add (t := 40) (hl.nil) rfl) rfl) rfl) rfl) rfl) rfl) rfl) rfl) rfl) rfl) rfl) rfl) rfl; clear hl; have hl := hl2; clear hl2
                    refine then_normal ?_
                    refine c_region ?_
                    refine wl (wl_val hl rfl trivial (r_move hl rfl) ?_)
                    clear hl a; intro a hl
                    refine wl (wl_val hl rfl trivial (r_move hl rfl) ?_)
                    clear hl a; intro a hl
                    refine wl (w_buildSlice hl hh rfl trivial app58 zero3 rfl rfl rfl rfl rfl (by simp only [fillL, arrPl, List.range_succ, List.range_zero, List.map_cons, List.map_nil, List.map_append, List.nil_append, List.replicate_succ, List.replicate_zero, List.flatten_cons, List.flatten_nil, Nat.zero_mul, Nat.mul_one, Nat.one_mul, Nat.reduceMul, setL, List.getElem?_cons_zero, List.getElem?_cons_succ, Value.cells, List.take_zero, List.take_succ_cons, List.take_nil, List.drop_zero, List.drop_succ_cons, List.drop_nil, List.length_cons, List.length_nil, List.cons_append, List.nil_append, List.append_nil, Nat.zero_add, Nat.add_zero, Nat.reduceAdd, Nat.reduceBEq, Nat.reduceEqDiff, Nat.ble, BEq.rfl, Bool.and_true, Bool.and_self, cond_true, beq_self_eq_true]; rfl) ?_)
                    clear hl hh a w; intro k195 a w hl hh
                    refine wl (w_append (news := [.int .i64 (x : Int)]) hl hh rfl trivial app58 rfl rfl rfl hS.row (by repeat (first | exact keeps_nil | apply keeps_cons (by repeat (first | exact find_head | apply find_tail | apply find_skip)) (by first  | rfl) | exact keeps_self | exact keeps_left | apply keeps_app | apply keeps_mv | apply keeps_skip)) (hh.mem _ _ (Find.mem (by repeat (first | exact find_head | apply find_tail | apply find_skip)))) rfl rfl rfl (by omega) (by omega) (by omega) (by decide) ?_)
                    clear hl hh a w; intro rv2 E2 a w hR2 hl hh
                    have hh3 := hh.comm; clear hh; have hh := hh3; clear hh3
                    try simp only [List.cons_append, List.nil_append, List.append_assoc, List.append_nil] at hh
                    refine wl (wl_val hl rfl trivial (r_assign hl rfl) ?_)
                    clear hl a; intro a hl
                    refine w_nil ?_
                    have hl2 := hl.add (t := 0) (hl.add (t := 2) (hl.add (t := 3) (hl.add (t := 5) (hl.add (t := 6) (hl.add (t := 8) (hl.add (t := 9) (hl.add (t := 10) (hl.add (t := 11) (hl.add (t := 14) (hl.add (t := 17) (hl.add (t := 39) (hl.add (t := 40) (hl.nil) rfl) rfl) rfl) rfl) rfl) rfl) rfl) rfl) rfl) rfl) rfl) rfl) rfl; clear hl; have hl := hl2; clear hl2
                    obtain ⟨p7, c7, hv7⟩ := row_val hR2
                    subst hv7
                    generalize E2 = E7 at hh hR2
                    refine blk_normal ?_
                    refine then_normal ?_
                    refine ⟨⟨A9, x :: s.B, s.od ++ [x], s.cp.set x (v.c.cnt : Int), (x : Int), p7, c7, E7⟩, (by rw [hA9]; simp), hS.next hA9 huX hR2, hl.addE (t := 9) (hl.addE (t := 17) (hl.addE (t := 3) (hl.addE (t := 0) (hl.addE (t := 2) (hl.addE (t := 5) (hl.addE (t := 6) (hl.addE (t := 8) (hl.addE (t := 10) (hl.addE (t := 11) (hl.addE (t := 14) (hl.addE (t := 39) (hl.addE (t := 40) (hl.nil) rfl (by first | rfl | (rw [List.length_append]; rfl))) rfl (by first | rfl | (rw [List.length_append]; rfl))) rfl (by first | rfl | (rw [List.length_append]; rfl))) rfl (by first | rfl | (rw [List.length_append]; rfl))) rfl (by first | rfl | (rw [List.length_append]; rfl))) rfl (by first | rfl | (rw [List.length_append]; rfl))) rfl (by first | rfl | (rw [List.length_append]; rfl))) rfl (by first | rfl | (rw [List.length_append]; rfl))) rfl (by first | rfl | (rw [List.length_append]; rfl))) rfl (by first | rfl | (rw [List.length_append]; rfl))) rfl (by first | rfl | (rw [List.length_append]; rfl))) rfl (by first | rfl | (rw [List.length_append]; rfl))) rfl (by first | rfl | (rw [List.length_append]; rfl)), hh.keep (by repeat (first | exact keeps_nil | apply keeps_cons (by repeat (first | exact find_head | apply find_tail | apply find_skip)) (by first  | rfl) | exact keeps_self | exact keeps_left | apply keeps_app | apply keeps_mv | apply keeps_skip))⟩
                  · intro hc10
                    try simp only [decide_eq_true_eq, decide_eq_false_iff_not, Bool.not_eq_true', Bool.not_eq_false', Bool.not_eq_true, Bool.not_eq_false, Bool.and_eq_true, Bool.or_eq_true, Bool.and_eq_false_iff, Bool.or_eq_false_iff, Bool.not_not, ne_eq, Int.not_lt, Int.not_le, Decidable.not_not, beq_iff_eq, bne_iff_ne] at hc10
                    have hA0 : s.A = [] := Classical.byContradiction fun h => hS.c1 h hc10
                    have hB : s.B = u :: X := by rw [hS.ab, hA0]; rfl
                    have hse : O1.length + s.A.length = O1.length := by rw [hA0]; rfl
                    have hN : TI ds.length (dpV ds) (2 * rem (dpV ds) (fun _ => 0) ds.length + 1) z.i (⟨v.c.sn, v.c.lw, s.cp, O1, s.od, Q0, v.c.nx, v.c.clk, v.c.cnt + 1⟩ : TC) := by
                      rw [hS.cp, hS.od, hB]
                      exact hA.clos hk9 hc9 hO
                    have hNW : TWr (⟨⟨v.c.sn, v.c.lw, s.cp, O1, s.od, Q0, v.c.nx, v.c.clk, v.c.cnt + 1⟩, some ⟨b3, 0, none⟩, v.oc, [(b3, C (fl iN v.c.O ++ j3) 3)], some ⟨b1, 0, none⟩, v.qc, [(b1, C (fl qc2 v.c.Q ++ j1) 178)], s.da, s.dc, s.dE⟩ : TW) := ⟨by rw [hO] at hjl3 hjc3 ⊢; exact row_init iN_len hjl3 hjc3 rfl, hQp, hS.row⟩
                    have hmz := hPL.mz
                    refine wp_exit ?_
                    refine then_exit ?_
                    refine then_exit ?_
                    refine blk_exit ?_
                    refine then_normal ?_
                    refine c_region ?_
                    refine wl (wl_val hl rfl trivial (r_move hl rfl) ?_)
                    clear hl a; intro a hl
                    first | refine wl (wl_val hl rfl trivial (r_add hl rfl rfl (by simp only [Fits]; omega)) ?_) | refine wl (wl_val hl rfl trivial (r_addW hl rfl rfl) ?_)
                    clear hl a; intro a hl
                    refine wl (wl_val hl rfl trivial (r_assign hl rfl) ?_)
                    clear hl a; intro a hl
                    refine w_nil ?_
                    have hl2 := hl.add (t := 0) (hl.add (t := 2) (hl.add (t := 3) (hl.add (t := 5) (hl.add (t := 6) (hl.add (t := 8) (hl.add (t := 9) (hl.add (t := 10) (hl.add (t := 11) (hl.add (t := 39) (hl.add (t := 40) (hl.nil) rfl) rfl) rfl) rfl) rfl) rfl) rfl) rfl) rfl) rfl) rfl; clear hl; have hl := hl2; clear hl2
                    refine blk_normal ?_
                    refine then_normal ?_
                    refine ⟨⟨⟨v.c.sn, v.c.lw, s.cp, O1, s.od, Q0, v.c.nx, v.c.clk, v.c.cnt + 1⟩, some ⟨b3, 0, none⟩, v.oc, [(b3, C (fl iN v.c.O ++ j3) 3)], some ⟨b1, 0, none⟩, v.qc, [(b1, C (fl qc2 v.c.Q ++ j1) 178)], s.da, s.dc, s.dE⟩, (Nat.lt_of_lt_of_eq hmz hmv), ⟨hN, hNW⟩, hl.addE (t := 8) (hl.addE (t := 9) (hl.addE (t := 10) (hl.addE (t := 11) (hl.addE (t := 3) (hl.addE (t := 0) (hl.addE (t := 2) (hl.addE (t := 5) (hl.addE (t := 6) (hl.addE (t := 39) (hl.addE (t := 40) (hl.nil) rfl (by first | rfl | exact congrArg (Value.int .i64) (show (v.c.cnt : Int) + 1 = ((v.c.cnt + 1 : Nat) : Int) by omega) | (rw [hse]) | (simp [List.length_append]; done))) rfl (by first | rfl | exact congrArg (Value.int .i64) (show (v.c.cnt : Int) + 1 = ((v.c.cnt + 1 : Nat) : Int) by omega) | (rw [hse]) | (simp [List.length_append]; done))) rfl (by first | rfl | exact congrArg (Value.int .i64) (show (v.c.cnt : Int) + 1 = ((v.c.cnt + 1 : Nat) : Int) by omega) | (rw [hse]) | (simp [List.length_append]; done))) rfl (by first | rfl | exact congrArg (Value.int .i64) (show (v.c.cnt : Int) + 1 = ((v.c.cnt + 1 : Nat) : Int) by omega) | (rw [hse]) | (simp [List.length_append]; done))) rfl (by first | rfl | exact congrArg (Value.int .i64) (show (v.c.cnt : Int) + 1 = ((v.c.cnt + 1 : Nat) : Int) by omega) | (rw [hse]) | (simp [List.length_append]; done))) rfl (by first | rfl | exact congrArg (Value.int .i64) (show (v.c.cnt : Int) + 1 = ((v.c.cnt + 1 : Nat) : Int) by omega) | (rw [hse]) | (simp [List.length_append]; done))) rfl (by first | rfl | exact congrArg (Value.int .i64) (show (v.c.cnt : Int) + 1 = ((v.c.cnt + 1 : Nat) : Int) by omega) | (rw [hse]) | (simp [List.length_append]; done))) rfl (by first | rfl | exact congrArg (Value.int .i64) (show (v.c.cnt : Int) + 1 = ((v.c.cnt + 1 : Nat) : Int) by omega) | (rw [hse]) | (simp [List.length_append]; done))) rfl (by first | rfl | exact congrArg (Value.int .i64) (show (v.c.cnt : Int) + 1 = ((v.c.cnt + 1 : Nat) : Int) by omega) | (rw [hse]) | (simp [List.length_append]; done))) rfl (by first | rfl | exact congrArg (Value.int .i64) (show (v.c.cnt : Int) + 1 = ((v.c.cnt + 1 : Nat) : Int) by omega) | (rw [hse]) | (simp [List.length_append]; done))) rfl (by first | rfl | exact congrArg (Value.int .i64) (show (v.c.cnt : Int) + 1 = ((v.c.cnt + 1 : Nat) : Int) by omega) | (rw [hse]) | (simp [List.length_append]; done)), hh.keep (by repeat (first | exact keeps_nil | apply keeps_cons (by repeat (first | exact find_head | apply find_tail | apply find_skip)) (by first  | rfl) | exact keeps_self | exact keeps_left | apply keeps_app | apply keeps_mv | apply keeps_skip))⟩
              · intro hc8
                try simp only [decide_eq_true_eq, decide_eq_false_iff_not, Bool.not_eq_true', Bool.not_eq_false', Bool.not_eq_true, Bool.not_eq_false, Bool.and_eq_true, Bool.or_eq_true, Bool.and_eq_false_iff, Bool.or_eq_false_iff, Bool.not_not, ne_eq, Int.not_lt, Int.not_le, Decidable.not_not, beq_iff_eq, bne_iff_ne] at hc8
                obtain ⟨lw9, hlw9, hPL⟩ : ∃ l, v.c.lw = l ∧ PopL ds.length (dpV ds) (2 * rem (dpV ds) (fun _ => 0) ds.length + 1) z.i v.c Q0 u l := ⟨_, rfl, hA.pop0 hk9 (List.eq_nil_of_length_eq_zero (by omega))⟩
                rw [hlw9] at hh
                have hl9 := hPL.len
                refine wp_skip ?_
                refine then_normal ?_
                refine c_seq ?_
                refine c_seq ?_
                refine c_draw [(k25, C (fl iI lw9) 3), (k23, C (fl iI v.c.sn) 3)] [8] mixed hh ?_
                clear hh w; intro w hh
                have hM : Mem [(k25, C (fl iI lw9) 3), (k23, C (fl iI v.c.sn) 3)] w := (memK hh (by repeat (first | exact keeps_nil | apply keeps_cons (by repeat (first | exact find_head | apply find_tail | apply find_skip)) (by first  | rfl) | exact keeps_self | exact keeps_left | apply keeps_app | apply keeps_mv | apply keeps_skip)))
                refine d_take (i := 0) hl rfl (by kernel_rfl) (by kernel_rfl) (by kernel_rfl) (by kernel_rfl) (by kernel_rfl) rfl trivial (fun _ _ _ h => h) hM (fun w hC => r_move hl rfl) rfl ?_
                clear hl a; intro a hl
                refine d_take (i := 1) hl rfl (by kernel_rfl) (by kernel_rfl) (by kernel_rfl) (by kernel_rfl) (by kernel_rfl) rfl trivial (fun _ _ _ h => h) hM (fun w hC => r_move hl rfl) rfl ?_
                clear hl a; intro a hl
                refine d_take (i := 2) hl rfl (by kernel_rfl) (by kernel_rfl) (by kernel_rfl) (by kernel_rfl) (by kernel_rfl) rfl trivial (fun _ _ _ h => h) hM (fun w hC => r_indexS hl rfl rfl slc58 (by omega) (by omega) (by first | (simp only [Int.reduceToNat]; rfl) | exact toNat_add1 _ | exact toNat_add2 _ _ | exact toNat_emod _ _ | exact Int.toNat_natCast _ | rfl)) rfl ?_
                clear hl a; intro a hl
                refine d_take (i := 3) hl rfl (by kernel_rfl) (by kernel_rfl) (by kernel_rfl) (by kernel_rfl) (by kernel_rfl) rfl trivial (fun _ _ _ h => h) hM (fun w hC => r_loadC hl rfl one3 hC (by repeat (first | exact find_head | apply find_tail | apply find_skip)) (by first | exact fc0 (fnI_get (by omega)) | exact fl_cell qc2_len hQat rfl j1 | exact fl_cell qc2_len hQpt rfl j1 | exact fcN hOx j3 | rfl)) rfl ?_
                clear hl a; intro a hl
                refine d_take (i := 4) hl rfl (by kernel_rfl) (by kernel_rfl) (by kernel_rfl) (by kernel_rfl) (by kernel_rfl) rfl trivial (fun _ _ _ h => h) hM (fun w hC => r_move hl rfl) rfl ?_
                clear hl a; intro a hl
                refine d_take (i := 5) hl rfl (by kernel_rfl) (by kernel_rfl) (by kernel_rfl) (by kernel_rfl) (by kernel_rfl) rfl trivial (fun _ _ _ h => h) hM (fun w hC => r_move hl rfl) rfl ?_
                clear hl a; intro a hl
                refine d_take (i := 6) hl rfl (by kernel_rfl) (by kernel_rfl) (by kernel_rfl) (by kernel_rfl) (by kernel_rfl) rfl trivial (fun _ _ _ h => h) hM (fun w hC => r_indexS hl rfl rfl slc58 (by omega) (by omega) (by first | (simp only [Int.reduceToNat]; rfl) | exact toNat_add1 _ | exact toNat_add2 _ _ | exact toNat_emod _ _ | exact Int.toNat_natCast _ | rfl)) rfl ?_
                clear hl a; intro a hl
                refine d_take (i := 7) hl rfl (by kernel_rfl) (by kernel_rfl) (by kernel_rfl) (by kernel_rfl) (by kernel_rfl) rfl trivial (fun _ _ _ h => h) hM (fun w hC => r_loadC hl rfl one3 hC (by repeat (first | exact find_head | apply find_tail | apply find_skip)) (by first | exact fc0 (fnI_get (by omega)) | exact fl_cell qc2_len hQat rfl j1 | exact fl_cell qc2_len hQpt rfl j1 | exact fcN hOx j3 | rfl)) rfl ?_
                clear hl a; intro a hl
                refine d_takeL (i := 8) hl rfl (by kernel_rfl) (by kernel_rfl) (by kernel_rfl) (by kernel_rfl) (by kernel_rfl) rfl trivial (fun _ _ _ h => h) (fun w => r_neq hl rfl rfl) rfl ?_
                clear hl a; intro a hl
                refine d_done (by kernel_rfl) ?_
                try clear hM
                have hl2 := hl.add (t := 0) (hl.add (t := 2) (hl.add (t := 3) (hl.add (t := 5) (hl.add (t := 6) (hl.add (t := 8) (hl.add (t := 9) (hl.add (t := 10) (hl.add (t := 11) (hl.add (t := 14) (hl.add (t := 39) (hl.add (t := 40) (hl.add (t := 174) (hl.nil) rfl) rfl) rfl) rfl) rfl) rfl) rfl) rfl) rfl) rfl) rfl) rfl) rfl; clear hl; have hl := hl2; clear hl2
                refine then_normal ?_
                refine c_cond hl rfl ?_ ?_
                · intro hc9
                  try simp only [decide_eq_true_eq, decide_eq_false_iff_not, Bool.not_eq_true', Bool.not_eq_false', Bool.not_eq_true, Bool.not_eq_false, Bool.and_eq_true, Bool.or_eq_true, Bool.and_eq_false_iff, Bool.or_eq_false_iff, Bool.not_not, ne_eq, Int.not_lt, Int.not_le, Decidable.not_not, beq_iff_eq, bne_iff_ne] at hc9
                  rw [hPL.eq] at hc9
                  have hNW : TWr (⟨⟨v.c.sn, lw9, v.c.cp, v.c.O, v.c.od, Q0, v.c.nx, v.c.clk, v.c.cnt⟩, v.oa, v.oc, v.oE, some ⟨b1, 0, none⟩, v.qc, [(b1, C (fl qc2 v.c.Q ++ j1) 178)], v.da, v.dc, v.dE⟩ : TW) := ⟨hV.o, hQp, hV.d⟩
                  refine wp_exit ?_
                  refine then_exit ?_
                  refine blk_exit ?_
                  refine then_normal ?_
                  refine ⟨⟨⟨v.c.sn, lw9, v.c.cp, v.c.O, v.c.od, Q0, v.c.nx, v.c.clk, v.c.cnt⟩, v.oa, v.oc, v.oE, some ⟨b1, 0, none⟩, v.qc, [(b1, C (fl qc2 v.c.Q ++ j1) 178)], v.da, v.dc, v.dE⟩, (Nat.lt_of_lt_of_eq hPL.mz hmv), ⟨hPL.ne hc9, hNW⟩, hl.addE (t := 8) (hl.addE (t := 9) (hl.addE (t := 10) (hl.addE (t := 11) (hl.addE (t := 3) (hl.addE (t := 0) (hl.addE (t := 2) (hl.addE (t := 5) (hl.addE (t := 6) (hl.addE (t := 39) (hl.addE (t := 40) (hl.nil) rfl (by first | rfl | exact congrArg (Value.int .i64) (show (v.c.cnt : Int) + 1 = ((v.c.cnt + 1 : Nat) : Int) by omega) | (rw [hse]) | (simp [List.length_append]; done))) rfl (by first | rfl | exact congrArg (Value.int .i64) (show (v.c.cnt : Int) + 1 = ((v.c.cnt + 1 : Nat) : Int) by omega) | (rw [hse]) | (simp [List.length_append]; done))) rfl (by first | rfl | exact congrArg (Value.int .i64) (show (v.c.cnt : Int) + 1 = ((v.c.cnt + 1 : Nat) : Int) by omega) | (rw [hse]) | (simp [List.length_append]; done))) rfl (by first | rfl | exact congrArg (Value.int .i64) (show (v.c.cnt : Int) + 1 = ((v.c.cnt + 1 : Nat) : Int) by omega) | (rw [hse]) | (simp [List.length_append]; done))) rfl (by first | rfl | exact congrArg (Value.int .i64) (show (v.c.cnt : Int) + 1 = ((v.c.cnt + 1 : Nat) : Int) by omega) | (rw [hse]) | (simp [List.length_append]; done))) rfl (by first | rfl | exact congrArg (Value.int .i64) (show (v.c.cnt : Int) + 1 = ((v.c.cnt + 1 : Nat) : Int) by omega) | (rw [hse]) | (simp [List.length_append]; done))) rfl (by first | rfl | exact congrArg (Value.int .i64) (show (v.c.cnt : Int) + 1 = ((v.c.cnt + 1 : Nat) : Int) by omega) | (rw [hse]) | (simp [List.length_append]; done))) rfl (by first | rfl | exact congrArg (Value.int .i64) (show (v.c.cnt : Int) + 1 = ((v.c.cnt + 1 : Nat) : Int) by omega) | (rw [hse]) | (simp [List.length_append]; done))) rfl (by first | rfl | exact congrArg (Value.int .i64) (show (v.c.cnt : Int) + 1 = ((v.c.cnt + 1 : Nat) : Int) by omega) | (rw [hse]) | (simp [List.length_append]; done))) rfl (by first | rfl | exact congrArg (Value.int .i64) (show (v.c.cnt : Int) + 1 = ((v.c.cnt + 1 : Nat) : Int) by omega) | (rw [hse]) | (simp [List.length_append]; done))) rfl (by first | rfl | exact congrArg (Value.int .i64) (show (v.c.cnt : Int) + 1 = ((v.c.cnt + 1 : Nat) : Int) by omega) | (rw [hse]) | (simp [List.length_append]; done)), hh.keep (by repeat (first | exact keeps_nil | apply keeps_cons (by repeat (first | exact find_head | apply find_tail | apply find_skip)) (by first  | rfl) | exact keeps_self | exact keeps_left | apply keeps_app | apply keeps_mv | apply keeps_skip))⟩
                · intro hc9
                  try simp only [decide_eq_true_eq, decide_eq_false_iff_not, Bool.not_eq_true', Bool.not_eq_false', Bool.not_eq_true, Bool.not_eq_false, Bool.and_eq_true, Bool.or_eq_true, Bool.and_eq_false_iff, Bool.or_eq_false_iff, Bool.not_not, ne_eq, Int.not_lt, Int.not_le, Decidable.not_not, beq_iff_eq, bne_iff_ne] at hc9
                  rw [hPL.eq] at hc9
                  rw [hPL.rt hc9] at hh
                  obtain ⟨O1, X, hO, huX⟩ := hA.split
                  have hOl : v.c.O.length = O1.length + (X.length + 1) := by rw [hO]; simp
                  obtain ⟨b3, j3, hq3, hjl3, hjc3, hE3⟩ := row_pos hV.o (by omega)
                  rw [hq3] at hl
                  rw [hE3] at hh
                  refine wp_skip ?_
                  refine then_normal ?_
                  refine c_seq ?_
                  refine c_seq ?_
                  refine c_region ?_
                  refine wl (wl_val hl rfl trivial (r_assign hl rfl) ?_)
                  clear hl a; intro a hl
                  refine w_nil ?_
                  have hl2 := hl.add (t := 0) (hl.add (t := 2) (hl.add (t := 3) (hl.add (t := 5) (hl.add (t := 6) (hl.add (t := 8) (hl.add (t := 9) (hl.add (t := 10) (hl.add (t := 11) (hl.add (t := 14) (hl.add (t := 17) (hl.add (t := 39) (hl.add (t := 40) (hl.nil) rfl) rfl) rfl) rfl) rfl) rfl) rfl) rfl) rfl) rfl) rfl) rfl) rfl; clear hl; have hl := hl2; clear hl2
                  refine then_normal ?_
                  refine wp_block ?_
                  obtain ⟨KS3, hKS3, hk⟩ := (hl.add (t := 0) (hl.add (t := 2) (hl.add (t := 5) (hl.add (t := 6) (hl.add (t := 8) (hl.add (t := 10) (hl.add (t := 11) (hl.add (t := 14) (hl.add (t := 39) (hl.add (t := 40) (hl.nil) rfl) rfl) rfl) rfl) rfl) rfl) rfl) rfl) rfl) rfl).name
                  obtain ⟨HS3, hHS3, hh2⟩ := hh.nameT (A := [(k21, C (fl iI v.c.cp) 3)]) (U := v.dE) (keeps_cons (b := k21) (o' := C (fl iI v.c.cp) 3) (by repeat (first | exact find_head | apply find_tail | apply find_skip)) (by first | rfl) ((by repeat (first | exact keeps_nil | exact keeps_self | exact keeps_left | apply keeps_app | apply keeps_mv | apply keeps_skip))))
                  refine c_loop (α := CLo) (fun s => s.A.length) (fun s a w => (CLI v.c u X s) ∧ Sl 202 ([(9, .slice (some ⟨b3, 0, none⟩) (O1.length + s.A.length) v.oc), (17, .int .i64 s.cl), (3, .slice s.da s.od.length s.dc)] ++ KS3) a ∧ Has _ w0 ([(k21, C (fl iI s.cp) 3)] ++ (HS3 ++ s.dE)) w) ⟨u :: X, [], v.c.od, v.c.cp, -1, v.da, v.dc, v.dE⟩ ⟨⟨by simp, by simp, rfl, hV.d, (fun h => by cases h), (fun _ h => by simp only at h; omega)⟩, hl.addE (t := 9) (hl.addE (t := 17) (hl.addE (t := 3) (hk) rfl (by first | (rw [hO, List.length_append]) | rfl)) rfl (by first | (rw [hO, List.length_append]) | rfl)) rfl (by first | (rw [hO, List.length_append]) | rfl), hh2⟩ ?_
                  clear hk hh2 hl hh a w
                  intro s a w hI
                  obtain ⟨hS, hl, hh⟩ := hI
                  subst hKS3; subst hHS3
                  simp only [List.cons_append, List.nil_append, List.append_nil, List.append_assoc] at hl hh
                  refine c_seq ?_
                  refine c_seq ?_
                  refine c_region ?_
                  refine wl (wl_val hl rfl trivial (r_move hl rfl) ?_)
                  clear hl a; intro a hl
                  refine wl (wl_val hl rfl trivial (r_move hl rfl) ?_)
                  clear hl a; intro a hl
                  refine wl (wl_val hl rfl trivial (r_neq hl rfl rfl) ?_)
                  clear hl a; intro a hl
                  refine w_nil ?_
                  have hl2 := hl.add (t := 0) (hl.add (t := 2) (hl.add (t := 3) (hl.add (t := 5) (hl.add (t := 6) (hl.add (t := 8) (hl.add (t := 9) (hl.add (t := 10) (hl.add (t := 11) (hl.add (t := 14) (hl.add (t := 39) (hl.add (t := 40) (hl.add (t := 177) (hl.nil) rfl) rfl) rfl) rfl) rfl) rfl) rfl) rfl) rfl) rfl) rfl) rfl) rfl; clear hl; have hl := hl2; clear hl2
                  refine then_normal ?_
                  refine c_cond hl rfl ?_ ?_
                  · intro hc10
                    try simp only [decide_eq_true_eq, decide_eq_false_iff_not, Bool.not_eq_true', Bool.not_eq_false', Bool.not_eq_true, Bool.not_eq_false, Bool.and_eq_true, Bool.or_eq_true, Bool.and_eq_false_iff, Bool.or_eq_false_iff, Bool.not_not, ne_eq, Int.not_lt, Int.not_le, Decidable.not_not, beq_iff_eq, bne_iff_ne] at hc10
                    have hA0 : s.A ≠ [] := fun h => hc10 (hS.c0 h)
                    obtain ⟨A9, x, hA9⟩ := snoc_of (l := s.A) (List.length_pos_iff.2 hA0)
                    have hAl : s.A.length = A9.length + 1 := by rw [hA9]; simp
                    have hOx : v.c.O[O1.length + A9.length]? = some x := by
                      have h9 := at_mid (l := v.c.O) (l0 := O1 ++ A9) (x := x) (l1 := s.B) (by rw [hO, hS.ab, hA9]; simp)
                      rw [List.length_append] at h9; exact h9
                    have hxO := List.mem_of_getElem? hOx
                    have hxn := (hA.t.on x hxO).1
                    have hxc : x < s.cp.length := by rw [hS.cp, cpSet_len, hl3]; exact hxn
                    have hab9 := congrArg List.length hS.ab
                    rw [List.length_append, List.length_cons] at hab9
                    have hod9 := congrArg List.length hS.od
                    rw [List.length_append, List.length_reverse] at hod9
                    refine wp_skip ?_
                    refine then_normal ?_
                    refine wp_block ?_
                    refine c_seq ?_
                    refine c_region ?_
                    refine wl (wl_val hl rfl trivial (r_move hl rfl) ?_)
                    clear hl a; intro a hl
                    refine wl (wl_val hl rfl trivial (r_move hl rfl) ?_)
                    clear hl a; intro a hl
                    refine wl (wl_val hl rfl trivial (r_lenS hl rfl slc58) ?_)
                    clear hl a; intro a hl
                    first | refine wl (wl_val hl rfl trivial (r_sub hl rfl rfl (by simp only [Fits]; omega)) ?_) | refine wl (wl_val hl rfl trivial (r_subW hl rfl rfl) ?_)
                    clear hl a; intro a hl
                    rw [show ((O1.length + s.A.length : Nat) : Int) - 1 = ((O1.length + A9.length : Nat) : Int) by omega] at hl
                    refine wl (wl_val hl rfl trivial (r_indexS hl rfl rfl slc58 (by omega) (by omega) (by first | (simp only [Int.reduceToNat]; rfl) | exact toNat_add1 _ | exact toNat_add2 _ _ | exact toNat_emod _ _ | exact Int.toNat_natCast _ | rfl)) ?_)
                    clear hl a; intro a hl
                    first | refine wl (w_load hl hh rfl trivial one3 rfl (by repeat (first | exact find_head | apply find_tail | apply find_skip)) (by first | exact fc0 (fnI_get (by omega)) | exact fl_cell qc2_len hQat rfl j1 | exact fl_cell qc2_len hQpt rfl j1 | exact fcN hOx j3 | rfl) ?_) | refine wl (w_loadR hl hh rfl trivial one3 rfl (hpre _ _ hdp.blk) (by simp) (ev_at hdu) ?_) | refine wl (w_loadR hl hh rfl trivial one3 rfl (hpre _ _ hm2) (by simp) (fl_cell edc_len hke rfl j2) ?_)
                    clear hl a; intro a hl
                    refine wl (wl_val hl rfl trivial (r_assign hl rfl) ?_)
                    clear hl a; intro a hl
                    refine w_nil ?_
                    have hl2 := hl.add (t := 0) (hl.add (t := 2) (hl.add (t := 3) (hl.add (t := 5) (hl.add (t := 6) (hl.add (t := 8) (hl.add (t := 9) (hl.add (t := 10) (hl.add (t := 11) (hl.add (t := 14) (hl.add (t := 17) (hl.add (t := 39) (hl.add (t := 40) (hl.nil) rfl) rfl) rfl) rfl) rfl) rfl) rfl) rfl) rfl) rfl) rfl) rfl) rfl; clear hl; have hl := hl2; clear hl2
                    refine then_normal ?_
                    refine c_seq ?_
                    refine c_region ?_
                    refine wl (wl_val hl rfl trivial (r_move hl rfl) ?_)
                    clear hl a; intro a hl
                    refine wl (wl_val hl rfl trivial (r_move hl rfl) ?_)
                    clear hl a; intro a hl
                    refine wl (wl_val hl rfl trivial (r_lenS hl rfl slc58) ?_)
                    clear hl a; intro a hl
                    first | refine wl (wl_val hl rfl trivial (r_sub hl rfl rfl (by simp only [Fits]; omega)) ?_) | refine wl (wl_val hl rfl trivial (r_subW hl rfl rfl) ?_)
                    clear hl a; intro a hl
                    rw [show ((O1.length + s.A.length : Nat) : Int) - 1 = ((O1.length + A9.length : Nat) : Int) by omega] at hl
                    refine wl (wl_val hl rfl trivial (r_sliceS01 (by intro q e; first | (cases e; rfl) | (cases e; done)) hl rfl rfl slc58 (by first | trivial | (simp; done) | (simp; omega) | omega) (by first | (simp only [Int.reduceToNat]; rfl) | exact toNat_add1 _ | exact toNat_add2 _ _ | exact toNat_emod _ _ | exact Int.toNat_natCast _ | rfl)) ?_)
                    clear hl a; intro a hl
                    refine wl (wl_val hl rfl trivial (r_assign hl rfl) ?_)
                    clear hl a; intro a hl
                    refine w_nil ?_
                    have hl2 := hl.add (t := 0) (hl.add (t := 2) (hl.add (t := 3) (hl.add (t := 5) (hl.add (t := 6) (hl.add (t := 8) (hl.add (t := 9) (hl.add (t := 10) (hl.add (t := 11) (hl.add (t := 14) (hl.add (t := 17) (hl.add (t := 39) (hl.add (t := 40) (hl.nil) rfl) rfl) rfl) rfl) rfl) rfl) rfl) rfl) rfl) rfl) rfl) rfl) rfl; clear hl; have hl := hl2; clear hl2
                    refine then_normal ?_
                    refine c_seq ?_
                    refine c_region ?_
                    refine wl (wl_val hl rfl trivial (r_move hl rfl) ?_)
                    clear hl a; intro a hl
                    refine wl (wl_val hl rfl trivial (r_move hl rfl) ?_)
                    clear hl a; intro a hl
                    refine wl (wl_val hl rfl trivial (r_move hl rfl) ?_)
                    clear hl a; intro a hl
                    refine wl (wl_val hl rfl trivial (r_indexS hl rfl rfl slc58 (by omega) (by omega) (by first | (simp only [Int.reduceToNat]; rfl) | exact toNat_add1 _ | exact toNat_add2 _ _ | exact toNat_emod _ _ | exact Int.toNat_natCast _ | rfl)) ?_)
                    clear hl a; intro a hl
                    refine wl (w_store hl hh trivial one3 rfl rfl (by repeat (first | exact find_head | apply find_tail | apply find_skip)) (by first | (simp; done) | (simp; omega) | exact fm0 (by first | omega | (rw [nm_len (by omega)]; omega)) | exact qc2_lt (by omega)) (by first | rfl | assumption | (apply Row.one; assumption)) (by first | exact nm_set (by omega) | exact fs0 (by omega) | exact qc2_put hQat | (simp only [setL, List.getElem?_cons_zero, List.getElem?_cons_succ, Value.cells, List.take_zero, List.take_succ_cons, List.take_nil, List.drop_zero, List.drop_succ_cons, List.drop_nil, List.length_cons, List.length_nil, List.cons_append, List.nil_append, List.append_nil, Nat.zero_add, Nat.add_zero, Nat.reduceAdd, Nat.reduceBEq, Nat.reduceEqDiff, Nat.ble, BEq.rfl, Bool.and_true, Bool.and_self, cond_true, beq_self_eq_true]; rfl)) ?_)
                    clear hh w; intro w hh
                    refine w_nil ?_
                    have hl2 := hl.add (t := 0) (hl.add (t := 2) (hl.add (t := 3) (hl.add (t := 5) (hl.add (t := 6) (hl.add (t := 8) (hl.add (t := 9) (hl.add (t := 10) (hl.add (t := 11) (hl.add (t := 14) (hl.add (t := 17) (hl.add (t := 39) (hl.add (t := 40) (hl.nil) rfl) rfl) rfl) rfl) rfl) rfl) rfl) rfl) rfl) rfl) rfl) rfl) rfl; clear hl; have hl := hl2; clear hl2
                    refine then_normal ?_
                    refine c_region ?_
                    refine wl (wl_val hl rfl trivial (r_move hl rfl) ?_)
                    clear hl a; intro a hl
                    refine wl (wl_val hl rfl trivial (r_move hl rfl) ?_)
                    clear hl a; intro a hl
                    refine wl (w_buildSlice hl hh rfl trivial app58 zero3 rfl rfl rfl rfl rfl (by simp only [fillL, arrPl, List.range_succ, List.range_zero, List.map_cons, List.map_nil, List.map_append, List.nil_append, List.replicate_succ, List.replicate_zero, List.flatten_cons, List.flatten_nil, Nat.zero_mul, Nat.mul_one, Nat.one_mul, Nat.reduceMul, setL, List.getElem?_cons_zero, List.getElem?_cons_succ, Value.cells, List.take_zero, List.take_succ_cons, List.take_nil, List.drop_zero, List.drop_succ_cons, List.drop_nil, List.length_cons, List.length_nil, List.cons_append, List.nil_append, List.append_nil, Nat.zero_add, Nat.add_zero, Nat.reduceAdd, Nat.reduceBEq, Nat.reduceEqDiff, Nat.ble, BEq.rfl, Bool.and_true, Bool.and_self, cond_true, beq_self_eq_true]; rfl) ?_)
                    clear hl hh a w; intro k195 a w hl hh
                    refine wl (w_append (news := [.int .i64 (x : Int)]) hl hh rfl trivial app58 rfl rfl rfl hS.row (by repeat (first | exact keeps_nil | apply keeps_cons (by repeat (first | exact find_head | apply find_tail | apply find_skip)) (by first  | rfl) | exact keeps_self | exact keeps_left | apply keeps_app | apply keeps_mv | apply keeps_skip)) (hh.mem _ _ (Find.mem (by repeat (first | exact find_head | apply find_tail | apply find_skip)))) rfl rfl rfl (by omega) (by omega) (by omega) (by decide) ?_)
                    clear hl hh a w; intro rv2 E2 a w hR2 hl hh
                    have hh3 := hh.comm; clear hh; have hh := hh3; clear hh3
                    try simp only [List.cons_append, List.nil_append, List.append_assoc, List.append_nil] at hh
                    refine wl (wl_val hl rfl trivial (r_assign hl rfl) ?_)
                    clear hl a; intro a hl
                    refine w_nil ?_
                    have hl2 := hl.add (t := 0) (hl.add (t := 2) (hl.add (t := 3) (hl.add (t := 5) (hl.add (t := 6) (hl.add (t := 8) (hl.add (t := 9) (hl.add (t := 10) (hl.add (t := 11) (hl.add (t := 14) (hl.add (t := 17) (hl.add (t := 39) (hl.add (t := 40) (hl.nil) rfl) rfl) rfl) rfl) rfl) rfl) rfl) rfl) rfl) rfl) rfl) rfl) rfl; clear hl; have hl := hl2; clear hl2
                    obtain ⟨p7, c7, hv7⟩ := row_val hR2
                    subst hv7
                    generalize E2 = E7 at hh hR2
                    refine blk_normal ?_
                    refine then_normal ?_
                    refine ⟨⟨A9, x :: s.B, s.od ++ [x], s.cp.set x (v.c.cnt : Int), (x : Int), p7, c7, E7⟩, (by rw [hA9]; simp), hS.next hA9 huX hR2, hl.addE (t := 9) (hl.addE (t := 17) (hl.addE (t := 3) (hl.addE (t := 0) (hl.addE (t := 2) (hl.addE (t := 5) (hl.addE (t := 6) (hl.addE (t := 8) (hl.addE (t := 10) (hl.addE (t := 11) (hl.addE (t := 14) (hl.addE (t := 39) (hl.addE (t := 40) (hl.nil) rfl (by first | rfl | (rw [List.length_append]; rfl))) rfl (by first | rfl | (rw [List.length_append]; rfl))) rfl (by first | rfl | (rw [List.length_append]; rfl))) rfl (by first | rfl | (rw [List.length_append]; rfl))) rfl (by first | rfl | (rw [List.length_append]; rfl))) rfl (by first | rfl | (rw [List.length_append]; rfl))) rfl (by first | rfl | (rw [List.length_append]; rfl))) rfl (by first | rfl | (rw [List.length_append]; rfl))) rfl (by first | rfl | (rw [List.length_append]; rfl))) rfl (by first | rfl | (rw [List.length_append]; rfl))) rfl (by first | rfl | (rw [List.length_append]; rfl))) rfl (by first | rfl | (rw [List.length_append]; rfl))) rfl (by first | rfl | (rw [List.length_append]; rfl)), hh.keep (by repeat (first | exact keeps_nil | apply keeps_cons (by repeat (first | exact find_head | apply find_tail | apply find_skip)) (by first  | rfl) | exact keeps_self | exact keeps_left | apply keeps_app | apply keeps_mv | apply keeps_skip))⟩
                  · intro hc10
                    try simp only [decide_eq_true_eq, decide_eq_false_iff_not, Bool.not_eq_true', Bool.not_eq_false', Bool.not_eq_true, Bool.not_eq_false, Bool.and_eq_true, Bool.or_eq_true, Bool.and_eq_false_iff, Bool.or_eq_false_iff, Bool.not_not, ne_eq, Int.not_lt, Int.not_le, Decidable.not_not, beq_iff_eq, bne_iff_ne] at hc10
                    have hA0 : s.A = [] := Classical.byContradiction fun h => hS.c1 h hc10
                    have hB : s.B = u :: X := by rw [hS.ab, hA0]; rfl
                    have hse : O1.length + s.A.length = O1.length := by rw [hA0]; rfl
                    have hN : TI ds.length (dpV ds) (2 * rem (dpV ds) (fun _ => 0) ds.length + 1) z.i (⟨v.c.sn, v.c.lw, s.cp, O1, s.od, Q0, v.c.nx, v.c.clk, v.c.cnt + 1⟩ : TC) := by
                      rw [hS.cp, hS.od, hB]
                      exact hA.clos hk9 hc9 hO
                    have hNW : TWr (⟨⟨v.c.sn, v.c.lw, s.cp, O1, s.od, Q0, v.c.nx, v.c.clk, v.c.cnt + 1⟩, some ⟨b3, 0, none⟩, v.oc, [(b3, C (fl iN v.c.O ++ j3) 3)], some ⟨b1, 0, none⟩, v.qc, [(b1, C (fl qc2 v.c.Q ++ j1) 178)], s.da, s.dc, s.dE⟩ : TW) := ⟨by rw [hO] at hjl3 hjc3 ⊢; exact row_init iN_len hjl3 hjc3 rfl, hQp, hS.row⟩
                    have hmz := hPL.mz
                    refine wp_exit ?_
                    refine then_exit ?_
                    refine then_exit ?_
                    refine blk_exit ?_
                    refine then_normal ?_
                    refine c_region ?_
                    refine wl (wl_val hl rfl trivial (r_move hl rfl) ?_)
                    clear hl a; intro a hl
                    first | refine wl (wl_val hl rfl trivial (r_add hl rfl rfl (by simp only [Fits]; omega)) ?_) | refine wl (wl_val hl rfl trivial (r_addW hl rfl rfl) ?_)
                    clear hl a; intro a hl
                    refine wl (wl_val hl rfl trivial (r_assign hl rfl) ?_)
                    clear hl a; intro a hl
                    refine w_nil ?_
                    have hl2 := hl.add (t := 0) (hl.add (t := 2) (hl.add (t := 3) (hl.add (t := 5) (hl.add (t := 6) (hl.add (t := 8) (hl.add (t := 9) (hl.add (t := 10) (hl.add (t := 11) (hl.add (t := 39) (hl.add (t := 40) (hl.nil) rfl) rfl) rfl) rfl) rfl) rfl) rfl) rfl) rfl) rfl) rfl; clear hl; have hl := hl2; clear hl2
                    refine blk_normal ?_
                    refine then_normal ?_
                    refine ⟨⟨⟨v.c.sn, v.c.lw, s.cp, O1, s.od, Q0, v.c.nx, v.c.clk, v.c.cnt + 1⟩, some ⟨b3, 0, none⟩, v.oc, [(b3, C (fl iN v.c.O ++ j3) 3)], some ⟨b1, 0, none⟩, v.qc, [(b1, C (fl qc2 v.c.Q ++ j1) 178)], s.da, s.dc, s.dE⟩, (Nat.lt_of_lt_of_eq hmz hmv), ⟨hN, hNW⟩, hl.addE (t := 8) (hl.addE (t := 9) (hl.addE (t := 10) (hl.addE (t := 11) (hl.addE (t := 3) (hl.addE (t := 0) (hl.addE (t := 2) (hl.addE (t := 5) (hl.addE (t := 6) (hl.addE (t := 39) (hl.addE (t := 40) (hl.nil) rfl (by first | rfl | exact congrArg (Value.int .i64) (show (v.c.cnt : Int) + 1 = ((v.c.cnt + 1 : Nat) : Int) by omega) | (rw [hse]) | (simp [List.length_append]; done))) rfl (by first | rfl | exact congrArg (Value.int .i64) (show (v.c.cnt : Int) + 1 = ((v.c.cnt + 1 : Nat) : Int) by omega) | (rw [hse]) | (simp [List.length_append]; done))) rfl (by first | rfl | exact congrArg (Value.int .i64) (show (v.c.cnt : Int) + 1 = ((v.c.cnt + 1 : Nat) : Int) by omega) | (rw [hse]) | (simp [List.length_append]; done))) rfl (by first | rfl | exact congrArg (Value.int .i64) (show (v.c.cnt : Int) + 1 = ((v.c.cnt + 1 : Nat) : Int) by omega) | (rw [hse]) | (simp [List.length_append]; done))) rfl (by first | rfl | exact congrArg (Value.int .i64) (show (v.c.cnt : Int) + 1 = ((v.c.cnt + 1 : Nat) : Int) by omega) | (rw [hse]) | (simp [List.length_append]; done))) rfl (by first | rfl | exact congrArg (Value.int .i64) (show (v.c.cnt : Int) + 1 = ((v.c.cnt + 1 : Nat) : Int) by omega) | (rw [hse]) | (simp [List.length_append]; done))) rfl (by first | rfl | exact congrArg (Value.int .i64) (show (v.c.cnt : Int) + 1 = ((v.c.cnt + 1 : Nat) : Int) by omega) | (rw [hse]) | (simp [List.length_append]; done))) rfl (by first | rfl | exact congrArg (Value.int .i64) (show (v.c.cnt : Int) + 1 = ((v.c.cnt + 1 : Nat) : Int) by omega) | (rw [hse]) | (simp [List.length_append]; done))) rfl (by first | rfl | exact congrArg (Value.int .i64) (show (v.c.cnt : Int) + 1 = ((v.c.cnt + 1 : Nat) : Int) by omega) | (rw [hse]) | (simp [List.length_append]; done))) rfl (by first | rfl | exact congrArg (Value.int .i64) (show (v.c.cnt : Int) + 1 = ((v.c.cnt + 1 : Nat) : Int) by omega) | (rw [hse]) | (simp [List.length_append]; done))) rfl (by first | rfl | exact congrArg (Value.int .i64) (show (v.c.cnt : Int) + 1 = ((v.c.cnt + 1 : Nat) : Int) by omega) | (rw [hse]) | (simp [List.length_append]; done)), hh.keep (by repeat (first | exact keeps_nil | apply keeps_cons (by repeat (first | exact find_head | apply find_tail | apply find_skip)) (by first  | rfl) | exact keeps_self | exact keeps_left | apply keeps_app | apply keeps_mv | apply keeps_skip))⟩
        · intro hc3
          try simp only [decide_eq_true_eq, decide_eq_false_iff_not, Bool.not_eq_true', Bool.not_eq_false', Bool.not_eq_true, Bool.not_eq_false, Bool.and_eq_true, Bool.or_eq_true, Bool.and_eq_false_iff, Bool.or_eq_false_iff, Bool.not_not, ne_eq, Int.not_lt, Int.not_le, Decidable.not_not, beq_iff_eq, bne_iff_ne] at hc3
          have hdone := hT.done (List.eq_nil_of_length_eq_zero (by omega))
          refine wp_exit ?_
          refine then_exit ?_
          refine then_exit ?_
          refine blk_exit ?_
          refine blk_normal ?_
          refine then_normal ?_
          refine c_region ?_
          first | refine wl (wl_val hl rfl trivial (r_add hl rfl rfl (by simp only [Fits]; omega)) ?_) | refine wl (wl_val hl rfl trivial (r_addW hl rfl rfl) ?_)
          clear hl a; intro a hl
          refine wl (wl_val hl rfl trivial (r_move hl rfl) ?_)
          clear hl a; intro a hl
          refine w_nil ?_
          have hl2 := hl.add (t := 0) (hl.add (t := 2) (hl.add (t := 3) (hl.add (t := 5) (hl.add (t := 6) (hl.add (t := 8) (hl.add (t := 9) (hl.add (t := 10) (hl.add (t := 11) (hl.add (t := 39) (hl.add (t := 40) (hl.nil) rfl) rfl) rfl) rfl) rfl) rfl) rfl) rfl) rfl) rfl) rfl; clear hl; have hl := hl2; clear hl2
          refine then_normal ?_
          first | refine ⟨⟨z.i + 1, y⟩, (by simp only; omega), ⟨by simp only; omega, hdone, hW⟩, hl.addE (t := 40) (hl.addE (t := 8) (hl.addE (t := 9) (hl.addE (t := 10) (hl.addE (t := 11) (hl.addE (t := 3) (hl.addE (t := 0) (hl.addE (t := 2) (hl.addE (t := 5) (hl.addE (t := 6) (hl.addE (t := 39) (hl.nil) rfl (by first | rfl | exact congrArg (Value.int .i64) (show (z.i : Int) + 1 = ((z.i + 1 : Nat) : Int) by omega))) rfl (by first | rfl | exact congrArg (Value.int .i64) (show (z.i : Int) + 1 = ((z.i + 1 : Nat) : Int) by omega))) rfl (by first | rfl | exact congrArg (Value.int .i64) (show (z.i : Int) + 1 = ((z.i + 1 : Nat) : Int) by omega))) rfl (by first | rfl | exact congrArg (Value.int .i64) (show (z.i : Int) + 1 = ((z.i + 1 : Nat) : Int) by omega))) rfl (by first | rfl | exact congrArg (Value.int .i64) (show (z.i : Int) + 1 = ((z.i + 1 : Nat) : Int) by omega))) rfl (by first | rfl | exact congrArg (Value.int .i64) (show (z.i : Int) + 1 = ((z.i + 1 : Nat) : Int) by omega))) rfl (by first | rfl | exact congrArg (Value.int .i64) (show (z.i : Int) + 1 = ((z.i + 1 : Nat) : Int) by omega))) rfl (by first | rfl | exact congrArg (Value.int .i64) (show (z.i : Int) + 1 = ((z.i + 1 : Nat) : Int) by omega))) rfl (by first | rfl | exact congrArg (Value.int .i64) (show (z.i : Int) + 1 = ((z.i + 1 : Nat) : Int) by omega))) rfl (by first | rfl | exact congrArg (Value.int .i64) (show (z.i : Int) + 1 = ((z.i + 1 : Nat) : Int) by omega))) rfl (by first | rfl | exact congrArg (Value.int .i64) (show (z.i : Int) + 1 = ((z.i + 1 : Nat) : Int) by omega)), hh.keep (by repeat (first | exact keeps_nil | apply keeps_cons (by repeat (first | exact find_head | apply find_tail | apply find_skip)) (by first  | rfl) | exact keeps_self | exact keeps_left | apply keeps_app | apply keeps_mv | apply keeps_skip))⟩ | refine ⟨⟨z.i + 1, z.t⟩, (by simp only; omega), ⟨by simp only; omega, hR.next hc2, hW⟩, hl.addE (t := 40) (hl.addE (t := 8) (hl.addE (t := 9) (hl.addE (t := 10) (hl.addE (t := 11) (hl.addE (t := 3) (hl.addE (t := 0) (hl.addE (t := 2) (hl.addE (t := 5) (hl.addE (t := 6) (hl.addE (t := 39) (hl.nil) rfl (by first | rfl | exact congrArg (Value.int .i64) (show (z.i : Int) + 1 = ((z.i + 1 : Nat) : Int) by omega))) rfl (by first | rfl | exact congrArg (Value.int .i64) (show (z.i : Int) + 1 = ((z.i + 1 : Nat) : Int) by omega))) rfl (by first | rfl | exact congrArg (Value.int .i64) (show (z.i : Int) + 1 = ((z.i + 1 : Nat) : Int) by omega))) rfl (by first | rfl | exact congrArg (Value.int .i64) (show (z.i : Int) + 1 = ((z.i + 1 : Nat) : Int) by omega))) rfl (by first | rfl | exact congrArg (Value.int .i64) (show (z.i : Int) + 1 = ((z.i + 1 : Nat) : Int) by omega))) rfl (by first | rfl | exact congrArg (Value.int .i64) (show (z.i : Int) + 1 = ((z.i + 1 : Nat) : Int) by omega))) rfl (by first | rfl | exact congrArg (Value.int .i64) (show (z.i : Int) + 1 = ((z.i + 1 : Nat) : Int) by omega))) rfl (by first | rfl | exact congrArg (Value.int .i64) (show (z.i : Int) + 1 = ((z.i + 1 : Nat) : Int) by omega))) rfl (by first | rfl | exact congrArg (Value.int .i64) (show (z.i : Int) + 1 = ((z.i + 1 : Nat) : Int) by omega))) rfl (by first | rfl | exact congrArg (Value.int .i64) (show (z.i : Int) + 1 = ((z.i + 1 : Nat) : Int) by omega))) rfl (by first | rfl | exact congrArg (Value.int .i64) (show (z.i : Int) + 1 = ((z.i + 1 : Nat) : Int) by omega)), hh.keep (by repeat (first | exact keeps_nil | apply keeps_cons (by repeat (first | exact find_head | apply find_tail | apply find_skip)) (by first  | rfl) | exact keeps_self | exact keeps_left | apply keeps_app | apply keeps_mv | apply keeps_skip))⟩
    · intro hc1
      try simp only [decide_eq_true_eq, decide_eq_false_iff_not, Bool.not_eq_true', Bool.not_eq_false', Bool.not_eq_true, Bool.not_eq_false, Bool.and_eq_true, Bool.or_eq_true, Bool.and_eq_false_iff, Bool.or_eq_false_iff, Bool.not_not, ne_eq, Int.not_lt, Int.not_le, Decidable.not_not, beq_iff_eq, bne_iff_ne] at hc1
      have hze : z.i = ds.length := by omega
      have hfin := hR
      rw [hze] at hfin
      refine wp_exit ?_
      refine then_exit ?_
      refine then_exit ?_
      refine blk_exit ?_
      refine then_normal ?_
      refine c_seq ?_
      refine c_region ?_
      refine wl (wl_val hl rfl trivial (r_move hl rfl) ?_)
      clear hl a; intro a hl
      refine wl (wl_val hl rfl trivial (r_move hl rfl) ?_)
      clear hl a; intro a hl
      refine wl (wl_val hl rfl trivial (r_assign hl rfl) ?_)
      clear hl a; intro a hl
      refine wl (wl_val hl rfl trivial (r_assign hl rfl) ?_)
      clear hl a; intro a hl
      refine w_nil ?_
      have hl2 := hl.add (t := 2) (hl.add (t := 3) (hl.nil) rfl) rfl; clear hl; have hl := hl2; clear hl2
      refine then_normal ?_
      refine wp_ret ?_
      refine f_ret2 (F' := (k21, C (fl iI z.t.c.cp) 3) :: z.t.dE) hl hh rfl rfl rfl (by repeat (first | exact keeps_nil | apply keeps_cons (by repeat (first | exact find_head | apply find_tail | apply find_skip)) (by first  | rfl) | exact keeps_self | exact keeps_left | apply keeps_app | apply keeps_mv | apply keeps_skip)) ?_
      exact ⟨k21, z.t.c.cp, z.t.c.od, z.t.da, z.t.dc, z.t.dE, hfin.fin, rfl, hW.d, rfl⟩
end Go.Proofs.Qxb6500915aGreatDoor

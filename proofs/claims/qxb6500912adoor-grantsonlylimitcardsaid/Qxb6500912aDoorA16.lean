import Derived.Test.Qxb6500912aDoorA15
namespace Go.Proofs.Qxb6500912aDoor
open Go.Eng
set_option linter.unusedVariables false
set_option linter.unusedSimpArgs false
theorem cal25 : callable Tryd.prog 25 = true := by kernel_rfl
theorem fld41_0 : fieldOk Tryd.prog 41 0 0 = true := by kernel_rfl
theorem fld38_0 : fieldOk Tryd.prog 38 0 0 = true := by kernel_rfl
theorem one30 : oneOk Tryd.prog 30 = true := by kernel_rfl
theorem fld38_1 : fieldOk Tryd.prog 38 1 1 = true := by kernel_rfl
theorem cal31 : callable Tryd.prog 31 = true := by kernel_rfl
theorem fld41_1 : fieldOk Tryd.prog 41 1 1 = true := by kernel_rfl
theorem fld38_2 : fieldOk Tryd.prog 38 2 11 = true := by kernel_rfl
theorem fld38_3 : fieldOk Tryd.prog 38 3 12 = true := by kernel_rfl
theorem cal15 : callable Tryd.prog 15 = true := by kernel_rfl
theorem cal32 : callable Tryd.prog 32 = true := by kernel_rfl
theorem fld38_5 : fieldOk Tryd.prog 38 5 14 = true := by kernel_rfl
theorem cal16 : callable Tryd.prog 16 = true := by kernel_rfl
theorem fld38_4 : fieldOk Tryd.prog 38 4 13 = true := by kernel_rfl
theorem fld38_6 : fieldOk Tryd.prog 38 6 15 = true := by kernel_rfl
theorem cal34 : callable Tryd.prog 34 = true := by kernel_rfl
theorem cal33 : callable Tryd.prog 33 = true := by kernel_rfl
theorem cal35 : callable Tryd.prog 35 = true := by kernel_rfl
theorem cal36 : callable Tryd.prog 36 = true := by kernel_rfl
set_option maxHeartbeats 8000000 in
theorem do_spec (o : DO) (ho : o.ok) (hN : o.dat.length ≤ 65536) (t : St) (hi : SI t) (bp cp : Nat) (Zc : List (Nat × Obj)) (hcm : CM Zc cp t) (asked : Value) (hA : AskOk asked) (ka kb : Nat) (gT : TypeId) (gv : Value) (GT : TypeId) (gf : Nat × Nat) (hdis : ∀ x, x ∈ ((ka, C [asked] 52) :: (kb, C [.pointer (some ⟨bp, 0, none⟩)] 25) :: (1, .cells ⟨[.iface gT gv]⟩ GT gf) :: o.Sc) → x.1 ∉ List.map Prod.fst ((bp, C (.pointer (some ⟨cp, 0, none⟩) :: cfL t.cfg) 41) :: Zc)) : SpK Tryd.prog 26 #[.pointer (some ⟨bp, 0, none⟩), .agg ⟨o.vals⟩, .func (.func 25) #[] #[.pointer (some ⟨ka, 0, none⟩), .pointer (some ⟨kb, 0, none⟩)]] (Mem ((ka, C [asked] 52) :: (kb, C [.pointer (some ⟨bp, 0, none⟩)] 25) :: (1, .cells ⟨[.iface gT gv]⟩ GT gf) :: o.Sc)) ((bp, C (.pointer (some ⟨cp, 0, none⟩) :: cfL t.cfg) 41) :: Zc) (fun v F' => v = .bool true ∧ ∃ t', StepR o t t' ∧ SI t' ∧ WB F' bp t') := by
  refine f_enter (args := [.pointer (some ⟨bp, 0, none⟩), .agg ⟨o.vals⟩, .func (.func 25) #[] #[.pointer (some ⟨ka, 0, none⟩), .pointer (some ⟨kb, 0, none⟩)]]) Tryd.func26 rfl Tryd.ntmps26 rfl ?_
  intro w0 w a hpre hl hh
  simp only [DO.vals] at hl
  have hkd := ho.kd; have hoA := ho.A; have hoB := ho.B; have hou := hi.ok.una
  simp only [slotsFrom, Nat.reduceAdd] at hl
  refine c_seq ?_
  refine c_region ?_
  refine wl (w_box hl hh rfl trivial rfl rfl ?_)
  clear hl hh a w; intro k4 a w hl hh
  refine wl (wl_val hl rfl trivial (r_assign hl rfl) ?_)
  clear hl a; intro a hl
  refine w_nil ?_
  have hl2 := hl.add (t := 0) (hl.add (t := 2) (hl.add (t := 4) (hl.nil) rfl) rfl) rfl; clear hl; have hl := hl2; clear hl2
  refine then_normal ?_
  refine c_seq ?_
  refine c_region ?_
  refine wl (wl_val hl rfl trivial (r_move hl rfl) ?_)
  clear hl a; intro a hl
  refine wl (wl_val hl rfl trivial (r_nilCheck hl rfl) ?_)
  clear hl a; intro a hl
  refine wl (wl_val hl rfl trivial (r_field hl rfl fld41_0) ?_)
  clear hl a; intro a hl
  refine wl (w_load hl hh rfl trivial one39 rfl (by repeat (first | exact find_head | apply find_tail)) (by first | rfl) ?_)
  clear hl a; intro a hl
  refine wl (wl_val hl rfl trivial (r_assign hl rfl) ?_)
  clear hl a; intro a hl
  refine w_nil ?_
  have hl2 := hl.add (t := 0) (hl.add (t := 2) (hl.add (t := 4) (hl.add (t := 7) (hl.nil) rfl) rfl) rfl) rfl; clear hl; have hl := hl2; clear hl2
  refine then_normal ?_
  refine c_seq ?_
  refine c_seq ?_
  refine c_region ?_
  refine wl (wl_val hl rfl trivial (r_field hl rfl fld38_0) ?_)
  clear hl a; intro a hl
  refine wl (w_load hl hh rfl trivial one30 rfl (by repeat (first | exact find_head | apply find_tail)) (by first | rfl) ?_)
  clear hl a; intro a hl
  refine w_nil ?_
  have hl2 := hl.add (t := 0) (hl.add (t := 2) (hl.add (t := 4) (hl.add (t := 7) (hl.add (t := 18) (hl.nil) rfl) rfl) rfl) rfl) rfl; clear hl; have hl := hl2; clear hl2
  refine then_normal ?_
  refine wp_block ?_
  refine c_seq ?_
  refine c_region ?_
  refine wl (wl_val hl rfl trivial (r_eql hl rfl rfl) ?_)
  clear hl a; intro a hl
  refine wl (wl_val hl rfl trivial (r_assign hl rfl) ?_)
  clear hl a; intro a hl
  refine w_nil ?_
  have hl2 := hl.add (t := 0) (hl.add (t := 2) (hl.add (t := 4) (hl.add (t := 7) (hl.add (t := 18) (hl.add (t := 19) (hl.nil) rfl) rfl) rfl) rfl) rfl) rfl; clear hl; have hl := hl2; clear hl2
  refine then_normal ?_
  refine c_cond hl rfl ?_ ?_
  · intro hc0
    try simp only [decide_eq_true_eq, decide_eq_false_iff_not, Bool.not_eq_true', Bool.not_eq_false', Bool.not_eq_true, Bool.not_eq_false, Bool.and_eq_true, Bool.or_eq_true, Bool.and_eq_false_iff, Bool.or_eq_false_iff, Bool.not_not, ne_eq, Int.not_lt, Int.not_le, Decidable.not_not, beq_iff_eq, bne_iff_ne] at hc0
    refine c_seq ?_
    refine c_region ?_
    refine wl (wl_val hl rfl trivial (r_field hl rfl fld38_1) ?_)
    clear hl a; intro a hl
    refine wl (w_loadA hl hh rfl trivial agg34 rfl (by repeat (first | exact find_head | apply find_tail)) (by first | (simp only [List.getElem?_cons_zero, List.getElem?_cons_succ, Value.cells, List.take_zero, List.take_succ_cons, List.take_nil, List.drop_zero, List.drop_succ_cons, List.drop_nil, List.length_cons, List.length_nil, List.cons_append, List.nil_append, List.append_nil, Nat.zero_add, Nat.add_zero, Nat.reduceAdd, Nat.reduceBEq, Nat.reduceEqDiff, Nat.ble, BEq.rfl, Bool.and_true, Bool.and_self, cond_true, beq_self_eq_true]; rfl)) (by first | rfl | (simp; done)) ?_)
    clear hl a; intro a hl
    refine wl (w_call hl hh rfl trivial rfl cal31 rfl (new_cm o.cf ho.cf gT gv GT gf) (by repeat (first | exact keeps_nil | apply keeps_cons (by repeat (first | exact find_head | apply find_tail)) (by first  | rfl) | exact keeps_self | exact keeps_left | exact keeps_right | exact keeps_swap | apply keeps_mv)) ((mem_keepD hh hpre hdis) _ _ (by simp)) ?_)
    clear hl hh a w; intro vc Fc a w hR hl hh
    rcases hR with ⟨hcv, rfl, rfl⟩ | ⟨hcv, cp2, rfl, hcm2⟩
    ·
      try simp only [List.cons_append, List.nil_append, List.append_nil] at hh
      refine wl (wl_val hl rfl trivial (r_move hl rfl) ?_)
      clear hl a; intro a hl
      refine wl (wl_val hl rfl trivial (r_extract hl rfl (by simp only [List.getElem?_toArray, List.getElem?_cons_zero, List.getElem?_cons_succ]; rfl)) ?_)
      clear hl a; intro a hl
      refine wl (wl_val hl rfl trivial (r_extract hl rfl (by simp only [List.getElem?_toArray, List.getElem?_cons_zero, List.getElem?_cons_succ]; rfl)) ?_)
      clear hl a; intro a hl
      refine wl (wl_val hl rfl trivial (r_assign hl rfl) ?_)
      clear hl a; intro a hl
      refine wl (wl_val hl rfl trivial (r_assign hl rfl) ?_)
      clear hl a; intro a hl
      refine w_nil ?_
      have hl2 := hl.add (t := 0) (hl.add (t := 4) (hl.add (t := 8) (hl.add (t := 9) (hl.nil) rfl) rfl) rfl) rfl; clear hl; have hl := hl2; clear hl2
      refine then_normal ?_
      refine c_seq ?_
      refine c_region ?_
      refine wl (wl_val hl rfl trivial (r_move hl rfl) ?_)
      clear hl a; intro a hl
      first | refine wl (wl_val hl rfl trivial (r_eql_ifcN hl rfl ifc61) ?_) | refine wl (wl_val hl rfl trivial (r_eql_ifcS hl rfl ifc61) ?_)
      clear hl a; intro a hl
      refine w_nil ?_
      have hl2 := hl.add (t := 0) (hl.add (t := 4) (hl.add (t := 8) (hl.add (t := 28) (hl.nil) rfl) rfl) rfl) rfl; clear hl; have hl := hl2; clear hl2
      refine then_normal ?_
      refine c_condF hl rfl ?_
      replace hh := hh.keep (F' := (bp, C (.pointer (some ⟨cp, 0, none⟩) :: cfL t.cfg) 41) :: Zc) (by repeat (first | exact keeps_nil | apply keeps_cons (by repeat (first | exact find_head | apply find_tail)) (by first  | rfl) | exact keeps_self | exact keeps_left | exact keeps_right | exact keeps_swap | apply keeps_mv))
      have hfin : ∃ t', StepR o t t' ∧ SI t' ∧ WB ((bp, C (.pointer (some ⟨cp, 0, none⟩) :: cfL t.cfg) 41) :: Zc) bp t' := ⟨t, .inr (.inl ⟨hc0, hcv, rfl⟩), hi, cp, Zc, hcm, rfl⟩
      refine wp_skip ?_
      refine blk_normal ?_
      refine then_normal ?_
      refine c_seq ?_
      refine c_region ?_
      refine wl (wl_val hl rfl trivial (r_assign hl rfl) ?_)
      clear hl a; intro a hl
      refine w_nil ?_
      have hl2 := hl.add (t := 6) (hl.nil) rfl; clear hl; have hl := hl2; clear hl2
      refine then_normal ?_
      refine wp_ret ?_
      refine f_ret1 hl hh rfl rfl keeps_self ?_
      exact ⟨rfl, hfin⟩
    ·
      try simp only [List.cons_append, List.nil_append, List.append_nil] at hh
      replace hh := hh.comm
      simp only [List.cons_append, List.nil_append] at hh
      refine wl (wl_val hl rfl trivial (r_move hl rfl) ?_)
      clear hl a; intro a hl
      refine wl (wl_val hl rfl trivial (r_extract hl rfl (by simp only [List.getElem?_toArray, List.getElem?_cons_zero, List.getElem?_cons_succ]; rfl)) ?_)
      clear hl a; intro a hl
      refine wl (wl_val hl rfl trivial (r_extract hl rfl (by simp only [List.getElem?_toArray, List.getElem?_cons_zero, List.getElem?_cons_succ]; rfl)) ?_)
      clear hl a; intro a hl
      refine wl (wl_val hl rfl trivial (r_assign hl rfl) ?_)
      clear hl a; intro a hl
      refine wl (wl_val hl rfl trivial (r_assign hl rfl) ?_)
      clear hl a; intro a hl
      refine w_nil ?_
      have hl2 := hl.add (t := 0) (hl.add (t := 4) (hl.add (t := 8) (hl.add (t := 9) (hl.nil) rfl) rfl) rfl) rfl; clear hl; have hl := hl2; clear hl2
      refine then_normal ?_
      refine c_seq ?_
      refine c_region ?_
      refine wl (wl_val hl rfl trivial (r_move hl rfl) ?_)
      clear hl a; intro a hl
      first | refine wl (wl_val hl rfl trivial (r_eql_ifcN hl rfl ifc61) ?_) | refine wl (wl_val hl rfl trivial (r_eql_ifcS hl rfl ifc61) ?_)
      clear hl a; intro a hl
      refine w_nil ?_
      have hl2 := hl.add (t := 0) (hl.add (t := 4) (hl.add (t := 8) (hl.add (t := 28) (hl.nil) rfl) rfl) rfl) rfl; clear hl; have hl := hl2; clear hl2
      refine then_normal ?_
      refine c_condT hl rfl ?_
      refine c_draw [(k4, C [.int .u8 o.kd, .int .u32 o.cf.init, .int .u32 o.cf.maxc, .int .u32 o.cf.bn, .int .u32 o.cf.bd, .int .u32 o.cf.abc, .int .u32 o.cf.dupt, .bool o.cf.idle, .int .u32 o.cf.mss, .int .u32 o.cf.start, .bool o.cf.sack, .int .u32 o.A, .int .u32 o.B, .bool o.dup, .int .u8 o.gr, .slice o.p o.dat.length o.cap] 38)] [8, 9, 10] mixed hh ?_
      clear hh w; intro w hh
      have hM : Mem [(k4, C [.int .u8 o.kd, .int .u32 o.cf.init, .int .u32 o.cf.maxc, .int .u32 o.cf.bn, .int .u32 o.cf.bd, .int .u32 o.cf.abc, .int .u32 o.cf.dupt, .bool o.cf.idle, .int .u32 o.cf.mss, .int .u32 o.cf.start, .bool o.cf.sack, .int .u32 o.A, .int .u32 o.B, .bool o.dup, .int .u8 o.gr, .slice o.p o.dat.length o.cap] 38)] w := (by (repeat (first | exact Mem.nil | refine Mem.cons hh.mem (by (repeat (first | exact find_head | apply find_tail)); done) ?_ | refine Mem.consR hh (by assumption) (by simp) ?_ | fail)); done)
      refine d_take (i := 0) hl rfl (by kernel_rfl) (by kernel_rfl) (by kernel_rfl) (by kernel_rfl) (by kernel_rfl) rfl trivial (fun _ _ _ h => h) hM (fun w hC => r_move hl rfl) rfl ?_
      clear hl a; intro a hl
      refine d_take (i := 1) hl rfl (by kernel_rfl) (by kernel_rfl) (by kernel_rfl) (by kernel_rfl) (by kernel_rfl) rfl trivial (fun _ _ _ h => h) hM (fun w hC => r_move hl rfl) rfl ?_
      clear hl a; intro a hl
      refine d_take (i := 2) hl rfl (by kernel_rfl) (by kernel_rfl) (by kernel_rfl) (by kernel_rfl) (by kernel_rfl) rfl trivial (fun _ _ _ h => h) hM (fun w hC => r_move hl rfl) rfl ?_
      clear hl a; intro a hl
      refine d_take (i := 3) hl rfl (by kernel_rfl) (by kernel_rfl) (by kernel_rfl) (by kernel_rfl) (by kernel_rfl) rfl trivial (fun _ _ _ h => h) hM (fun w hC => r_field hl rfl fld38_1) rfl ?_
      clear hl a; intro a hl
      refine d_take (i := 4) hl rfl (by kernel_rfl) (by kernel_rfl) (by kernel_rfl) (by kernel_rfl) (by kernel_rfl) rfl trivial (fun _ _ _ h => h) hM (fun w hC => r_loadCA hl rfl agg34 hC (by repeat (first | exact find_head | apply find_tail)) (by first | (simp only [List.getElem?_cons_zero, List.getElem?_cons_succ, Value.cells, List.take_zero, List.take_succ_cons, List.take_nil, List.drop_zero, List.drop_succ_cons, List.drop_nil, List.length_cons, List.length_nil, List.cons_append, List.nil_append, List.append_nil, Nat.zero_add, Nat.add_zero, Nat.reduceAdd, Nat.reduceBEq, Nat.reduceEqDiff, Nat.ble, BEq.rfl, Bool.and_true, Bool.and_self, cond_true, beq_self_eq_true]; rfl)) (by first | rfl | (simp; done))) rfl ?_
      clear hl a; intro a hl
      refine d_take (i := 5) hl rfl (by kernel_rfl) (by kernel_rfl) (by kernel_rfl) (by kernel_rfl) (by kernel_rfl) rfl trivial (fun _ _ _ h => h) hM (fun w hC => r_nilCheck hl rfl) rfl ?_
      clear hl a; intro a hl
      refine d_take (i := 6) hl rfl (by kernel_rfl) (by kernel_rfl) (by kernel_rfl) (by kernel_rfl) (by kernel_rfl) rfl trivial (fun _ _ _ h => h) hM (fun w hC => r_field hl rfl fld41_0) rfl ?_
      clear hl a; intro a hl
      refine d_one (i := 7) (by kernel_rfl) rfl ?_
      try clear hM
      refine id (w_store hl hh trivial one39 rfl rfl (by repeat (first | exact find_head | apply find_tail)) (by first | (simp; done) | (simp; omega) | (simp [cfL]; done)) (by first | rfl | assumption | (apply Row.one; assumption)) (by first | (simp only [setL, cfL, List.getElem?_cons_zero, List.getElem?_cons_succ, Value.cells, List.take_zero, List.take_succ_cons, List.take_nil, List.drop_zero, List.drop_succ_cons, List.drop_nil, List.length_cons, List.length_nil, List.cons_append, List.nil_append, List.append_nil, Nat.zero_add, Nat.add_zero, Nat.reduceAdd, Nat.reduceBEq, Nat.reduceEqDiff, Nat.ble, BEq.rfl, Bool.and_true, Bool.and_self, cond_true, beq_self_eq_true]; rfl) | (simp only [setL, List.getElem?_cons_zero, List.getElem?_cons_succ, Value.cells, List.take_zero, List.take_succ_cons, List.take_nil, List.drop_zero, List.drop_succ_cons, List.drop_nil, List.length_cons, List.length_nil, List.cons_append, List.nil_append, List.append_nil, Nat.zero_add, Nat.add_zero, Nat.reduceAdd, Nat.reduceBEq, Nat.reduceEqDiff, Nat.ble, BEq.rfl, Bool.and_true, Bool.and_self, cond_true, beq_self_eq_true]; rfl) | (simp only [setL, List.getElem?_cons_zero, List.getElem?_cons_succ, Value.cells, List.take_zero, List.take_succ_cons, List.take_nil, List.drop_zero, List.drop_succ_cons, List.drop_nil, List.length_cons, List.length_nil, List.cons_append, List.nil_append, List.append_nil, Nat.zero_add, Nat.add_zero, Nat.reduceAdd, Nat.reduceBEq, Nat.reduceEqDiff, Nat.ble, BEq.rfl, Bool.and_true, Bool.and_self, cond_true, beq_self_eq_true]; rfl)) ?_)
      clear hh w; intro w hh
      have hM : Mem [(k4, C [.int .u8 o.kd, .int .u32 o.cf.init, .int .u32 o.cf.maxc, .int .u32 o.cf.bn, .int .u32 o.cf.bd, .int .u32 o.cf.abc, .int .u32 o.cf.dupt, .bool o.cf.idle, .int .u32 o.cf.mss, .int .u32 o.cf.start, .bool o.cf.sack, .int .u32 o.A, .int .u32 o.B, .bool o.dup, .int .u8 o.gr, .slice o.p o.dat.length o.cap] 38)] w := (by (repeat (first | exact Mem.nil | refine Mem.cons hh.mem (by (repeat (first | exact find_head | apply find_tail)); done) ?_ | refine Mem.consR hh (by assumption) (by simp) ?_ | fail)); done)
      refine d_step (fun _ => hM) ?_
      refine d_takeL (i := 8) hl rfl (by kernel_rfl) (by kernel_rfl) (by kernel_rfl) (by kernel_rfl) (by kernel_rfl) rfl trivial (fun _ _ _ h => h) (fun w => r_nilCheck hl rfl) rfl ?_
      clear hl a; intro a hl
      refine d_takeL (i := 9) hl rfl (by kernel_rfl) (by kernel_rfl) (by kernel_rfl) (by kernel_rfl) (by kernel_rfl) rfl trivial (fun _ _ _ h => h) (fun w => r_field hl rfl fld41_1) rfl ?_
      clear hl a; intro a hl
      refine d_one (i := 10) (by kernel_rfl) rfl ?_
      try clear hM
      refine id (w_storeA hl hh trivial agg34 rfl rfl (by repeat (first | exact find_head | apply find_tail)) (by first | rfl | (simp; done)) (by first | (simp; done) | (simp; omega) | (simp [cfL]; done)) (by first | rfl | (simp; done) | rfl) (by first | (simp only [setL, cfL, List.getElem?_cons_zero, List.getElem?_cons_succ, Value.cells, List.take_zero, List.take_succ_cons, List.take_nil, List.drop_zero, List.drop_succ_cons, List.drop_nil, List.length_cons, List.length_nil, List.cons_append, List.nil_append, List.append_nil, Nat.zero_add, Nat.add_zero, Nat.reduceAdd, Nat.reduceBEq, Nat.reduceEqDiff, Nat.ble, BEq.rfl, Bool.and_true, Bool.and_self, cond_true, beq_self_eq_true]; rfl) | (simp only [setL, List.getElem?_cons_zero, List.getElem?_cons_succ, Value.cells, List.take_zero, List.take_succ_cons, List.take_nil, List.drop_zero, List.drop_succ_cons, List.drop_nil, List.length_cons, List.length_nil, List.cons_append, List.nil_append, List.append_nil, Nat.zero_add, Nat.add_zero, Nat.reduceAdd, Nat.reduceBEq, Nat.reduceEqDiff, Nat.ble, BEq.rfl, Bool.and_true, Bool.and_self, cond_true, beq_self_eq_true]; rfl) | (simp only [setL, List.getElem?_cons_zero, List.getElem?_cons_succ, Value.cells, List.take_zero, List.take_succ_cons, List.take_nil, List.drop_zero, List.drop_succ_cons, List.drop_nil, List.length_cons, List.length_nil, List.cons_append, List.nil_append, List.append_nil, Nat.zero_add, Nat.add_zero, Nat.reduceAdd, Nat.reduceBEq, Nat.reduceEqDiff, Nat.ble, BEq.rfl, Bool.and_true, Bool.and_self, cond_true, beq_self_eq_true]; rfl)) ?_)
      clear hh w; intro w hh
      refine d_step (fun h => absurd h (by decide)) ?_
      refine d_done (by kernel_rfl) ?_
      try clear hM
      have hl2 := hl.nil; clear hl; have hl := hl2; clear hl2
      replace hh := hh.keep (F' := (bp, C (.pointer (some ⟨cp2, 0, none⟩) :: cfL o.cf) 41) :: Fc) (by repeat (first | exact keeps_nil | apply keeps_cons (by repeat (first | exact find_head | apply find_tail)) (by first  | rfl) | exact keeps_self | exact keeps_left | exact keeps_right | exact keeps_swap | apply keeps_mv))
      have hfin : ∃ t', StepR o t t' ∧ SI t' ∧ WB ((bp, C (.pointer (some ⟨cp2, 0, none⟩) :: cfL o.cf) 41) :: Fc) bp t' := ⟨⟨o.cf, newP o.cf, []⟩, .inl ⟨hc0, hcv, rfl⟩, si_new ho.cf hcv, cp2, Fc, hcm2, rfl⟩
      refine blk_normal ?_
      refine then_normal ?_
      refine c_seq ?_
      refine c_region ?_
      refine wl (wl_val hl rfl trivial (r_assign hl rfl) ?_)
      clear hl a; intro a hl
      refine w_nil ?_
      have hl2 := hl.add (t := 6) (hl.nil) rfl; clear hl; have hl := hl2; clear hl2
      refine then_normal ?_
      refine wp_ret ?_
      refine f_ret1 hl hh rfl rfl keeps_self ?_
      exact ⟨rfl, hfin⟩
  · intro hc0
    try simp only [decide_eq_true_eq, decide_eq_false_iff_not, Bool.not_eq_true', Bool.not_eq_false', Bool.not_eq_true, Bool.not_eq_false, Bool.and_eq_true, Bool.or_eq_true, Bool.and_eq_false_iff, Bool.or_eq_false_iff, Bool.not_not, ne_eq, Int.not_lt, Int.not_le, Decidable.not_not, beq_iff_eq, bne_iff_ne] at hc0
    refine c_seq ?_
    refine c_region ?_
    refine wl (wl_val hl rfl trivial (r_eql hl rfl rfl) ?_)
    clear hl a; intro a hl
    refine wl (wl_val hl rfl trivial (r_assign hl rfl) ?_)
    clear hl a; intro a hl
    refine w_nil ?_
    have hl2 := hl.add (t := 2) (hl.add (t := 4) (hl.add (t := 7) (hl.add (t := 18) (hl.add (t := 38) (hl.nil) rfl) rfl) rfl) rfl) rfl; clear hl; have hl := hl2; clear hl2
    refine then_normal ?_
    refine c_cond hl rfl ?_ ?_
    · intro hc2
      try simp only [decide_eq_true_eq, decide_eq_false_iff_not, Bool.not_eq_true', Bool.not_eq_false', Bool.not_eq_true, Bool.not_eq_false, Bool.and_eq_true, Bool.or_eq_true, Bool.and_eq_false_iff, Bool.or_eq_false_iff, Bool.not_not, ne_eq, Int.not_lt, Int.not_le, Decidable.not_not, beq_iff_eq, bne_iff_ne] at hc2
      refine c_seq ?_
      refine c_region ?_
      refine wl (wl_val hl rfl trivial (r_field hl rfl fld38_2) ?_)
      clear hl a; intro a hl
      refine wl (w_load hl hh rfl trivial one26 rfl (by repeat (first | exact find_head | apply find_tail)) (by first | rfl) ?_)
      clear hl a; intro a hl
      refine wl (wl_val hl rfl trivial (r_assign hl rfl) ?_)
      clear hl a; intro a hl
      refine w_nil ?_
      have hl2 := hl.add (t := 2) (hl.add (t := 4) (hl.add (t := 7) (hl.add (t := 10) (hl.nil) rfl) rfl) rfl) rfl; clear hl; have hl := hl2; clear hl2
      refine then_normal ?_
      refine c_seq ?_
      refine c_region ?_
      refine wl (wl_val hl rfl trivial (r_assign hl rfl) ?_)
      clear hl a; intro a hl
      refine w_nil ?_
      have hl2 := hl.add (t := 2) (hl.add (t := 4) (hl.add (t := 7) (hl.add (t := 10) (hl.add (t := 11) (hl.nil) rfl) rfl) rfl) rfl) rfl; clear hl; have hl := hl2; clear hl2
      refine then_normal ?_
      refine wp_block ?_
      obtain ⟨KS0, hKS0, hk⟩ := (hl.add (t := 2) (hl.add (t := 4) (hl.add (t := 7) (hl.nil) rfl) rfl) rfl).name
      obtain ⟨HS0, hHS0, hh2⟩ := hh.nameT (A := []) (U := Zc) ((by repeat (first | exact keeps_nil | exact keeps_self | exact keeps_swap | apply keeps_mv)))
      refine c_loop (α := PS) (fun z => 64 - z.i) (fun z a w => (((SI z.t ∧ CM z.Z cp z.t) ∧ (z.t = { t with s := z.t.s } ∧ SentC t.s z.t.s)) ∧ U z.f) ∧ Sl 108 ([(10, .int .u32 z.f), (11, .int .u32 (z.i : Int))] ++ KS0) a ∧ Has _ w0 ([] ++ (HS0 ++ z.Z)) w) ⟨Zc, t, o.A, 0⟩ ⟨⟨⟨⟨hi, hcm⟩, rfl, .refl⟩, hoA⟩, hl.addE (t := 10) (hl.addE (t := 11) (hk) rfl (by first | rfl)) rfl (by first | rfl), hh2⟩ ?_
      clear hk hh2 hl hh a w
      intro z a w hI
      obtain ⟨⟨⟨⟨hiz, hcz⟩, heq, hsc⟩, hfz⟩, hl, hh⟩ := hI
      subst hKS0; subst hHS0
      simp only [List.cons_append, List.nil_append, List.append_nil] at hl hh
      have e1 : z.t.cfg = t.cfg := by rw [heq]
      have e2 : z.t.os = t.os := by rw [heq]
      have hWz : WB ((bp, C (.pointer (some ⟨cp, 0, none⟩) :: cfL t.cfg) 41) :: z.Z) bp z.t := ⟨cp, z.Z, hcz, by rw [e1]⟩
      refine c_seq ?_
      refine c_seq ?_
      refine c_region ?_
      refine wl (wl_val hl rfl trivial (r_move hl rfl) ?_)
      clear hl a; intro a hl
      refine wl (wl_val hl rfl trivial (r_field hl rfl fld38_3) ?_)
      clear hl a; intro a hl
      refine wl (w_load hl hh rfl trivial one26 rfl (by repeat (first | exact find_head | apply find_tail)) (by first | rfl) ?_)
      clear hl a; intro a hl
      first | refine wl (wl_val hl rfl trivial (r_rem hl rfl rfl (by omega) (by omega)) ?_) | refine wl (wl_val hl rfl trivial (r_remT hl rfl rfl (by omega)) ?_)
      clear hl a; intro a hl
      refine wl (wl_val hl rfl trivial (r_lss hl rfl rfl) ?_)
      clear hl a; intro a hl
      refine w_nil ?_
      have hl2 := hl.add (t := 2) (hl.add (t := 4) (hl.add (t := 7) (hl.add (t := 10) (hl.add (t := 11) (hl.add (t := 46) (hl.nil) rfl) rfl) rfl) rfl) rfl) rfl; clear hl; have hl := hl2; clear hl2
      refine then_normal ?_
      refine c_cond hl rfl ?_ ?_
      · intro hc3
        try simp only [decide_eq_true_eq, decide_eq_false_iff_not, Bool.not_eq_true', Bool.not_eq_false', Bool.not_eq_true, Bool.not_eq_false, Bool.and_eq_true, Bool.or_eq_true, Bool.and_eq_false_iff, Bool.or_eq_false_iff, Bool.not_not, ne_eq, Int.not_lt, Int.not_le, Decidable.not_not, beq_iff_eq, bne_iff_ne] at hc3
        refine wp_skip ?_
        refine then_normal ?_
        refine c_seq ?_
        refine wp_block ?_
        refine c_seq ?_
        refine c_region ?_
        refine wl (wl_val hl rfl trivial (r_move hl rfl) ?_)
        clear hl a; intro a hl
        refine wl (wl_val hl rfl trivial (r_move hl rfl) ?_)
        clear hl a; intro a hl
        refine wl (w_call hl hh rfl trivial rfl cal15 rfl (next_cm hcz hiz z.f hfz) (by repeat (first | exact keeps_nil | apply keeps_cons (by repeat (first | exact find_head | apply find_tail)) (by first  | rfl) | exact keeps_self | exact keeps_left | exact keeps_right | exact keeps_swap | apply keeps_mv)) (fun b o m => hh.mem b o (by (repeat (first | exact m | apply List.mem_cons_of_mem)); done)) ?_)
        clear hl hh a w; intro vc Fc a w hR hl hh
        obtain ⟨rfl, rfl⟩ := hR
        try simp only [List.cons_append, List.nil_append] at hh
        obtain ⟨g, hg⟩ : ∃ g, g = nextP z.t.s z.t.ns z.t.bl z.f := ⟨_, rfl⟩
        have hr9 := nextP_rng hiz.ok z.t.ns (bl_U z.t) hfz hiz.fl
        have hask9 := ask_spec hA ka kb bp hiz hfz hWz
        rw [← hg] at hl hr9 hask9
        simp only [grc] at hl
        refine wl (w_alloc hl hh rfl trivial zero46 rfl ?_)
        clear hl hh a w; intro k12 a w hl hh
        refine wl (w_storeA hl hh trivial agg46 rfl rfl (by repeat (first | exact find_head | apply find_tail)) (by first | rfl | (simp; done)) (by first | (simp; done) | (simp; omega) | (simp [cfL]; done)) (by first | rfl | (simp; done) | rfl) (by first | (simp only [setL, cfL, List.getElem?_cons_zero, List.getElem?_cons_succ, Value.cells, List.take_zero, List.take_succ_cons, List.take_nil, List.drop_zero, List.drop_succ_cons, List.drop_nil, List.length_cons, List.length_nil, List.cons_append, List.nil_append, List.append_nil, Nat.zero_add, Nat.add_zero, Nat.reduceAdd, Nat.reduceBEq, Nat.reduceEqDiff, Nat.ble, BEq.rfl, Bool.and_true, Bool.and_self, cond_true, beq_self_eq_true]; rfl) | (simp only [setL, List.getElem?_cons_zero, List.getElem?_cons_succ, Value.cells, List.take_zero, List.take_succ_cons, List.take_nil, List.drop_zero, List.drop_succ_cons, List.drop_nil, List.length_cons, List.length_nil, List.cons_append, List.nil_append, List.append_nil, Nat.zero_add, Nat.add_zero, Nat.reduceAdd, Nat.reduceBEq, Nat.reduceEqDiff, Nat.ble, BEq.rfl, Bool.and_true, Bool.and_self, cond_true, beq_self_eq_true]; rfl) | (simp only [setL, List.getElem?_cons_zero, List.getElem?_cons_succ, Value.cells, List.take_zero, List.take_succ_cons, List.take_nil, List.drop_zero, List.drop_succ_cons, List.drop_nil, List.length_cons, List.length_nil, List.cons_append, List.nil_append, List.append_nil, Nat.zero_add, Nat.add_zero, Nat.reduceAdd, Nat.reduceBEq, Nat.reduceEqDiff, Nat.ble, BEq.rfl, Bool.and_true, Bool.and_self, cond_true, beq_self_eq_true]; rfl)) ?_)
        clear hh w; intro w hh
        refine w_nil ?_
        have hl2 := hl.add (t := 2) (hl.add (t := 4) (hl.add (t := 7) (hl.add (t := 10) (hl.add (t := 11) (hl.add (t := 12) (hl.nil) rfl) rfl) rfl) rfl) rfl) rfl; clear hl; have hl := hl2; clear hl2
        refine then_normal ?_
        refine c_seq ?_
        refine c_seq ?_
        refine c_region ?_
        refine wl (wl_val hl rfl trivial (r_move hl rfl) ?_)
        clear hl a; intro a hl
        refine wl (wl_val hl rfl trivial (r_move hl rfl) ?_)
        clear hl a; intro a hl
        refine wl (w_loadA hl hh rfl trivial agg46 rfl (by repeat (first | exact find_head | apply find_tail)) (by first | (simp only [List.getElem?_cons_zero, List.getElem?_cons_succ, Value.cells, List.take_zero, List.take_succ_cons, List.take_nil, List.drop_zero, List.drop_succ_cons, List.drop_nil, List.length_cons, List.length_nil, List.cons_append, List.nil_append, List.append_nil, Nat.zero_add, Nat.add_zero, Nat.reduceAdd, Nat.reduceBEq, Nat.reduceEqDiff, Nat.ble, BEq.rfl, Bool.and_true, Bool.and_self, cond_true, beq_self_eq_true]; rfl)) (by first | rfl | (simp; done)) ?_)
        clear hl a; intro a hl
        refine wl (w_call hl hh rfl trivial rfl cal25 rfl (hask9) (by repeat (first | exact keeps_nil | apply keeps_cons (by repeat (first | exact find_head | apply find_tail)) (by first  | rfl) | exact keeps_self | exact keeps_left | exact keeps_right | exact keeps_swap | apply keeps_mv)) (mem_ask (mem_keepD hh hpre hdis) (fun b o m => hh.mem b o (by (repeat (first | exact m | apply List.mem_cons_of_mem)); done))) ?_)
        clear hl hh a w; intro vc Fc a w hR hl hh
        obtain ⟨rfl, rfl⟩ := hR
        try simp only [List.cons_append, List.nil_append] at hh
        refine wl (wl_val hl rfl trivial (r_not hl rfl) ?_)
        clear hl a; intro a hl
        refine w_nil ?_
        have hl2 := hl.add (t := 2) (hl.add (t := 4) (hl.add (t := 7) (hl.add (t := 10) (hl.add (t := 11) (hl.add (t := 12) (hl.add (t := 56) (hl.nil) rfl) rfl) rfl) rfl) rfl) rfl) rfl; clear hl; have hl := hl2; clear hl2
        refine then_normal ?_
        refine c_cond hl rfl ?_ ?_
        · intro hc4
          try simp only [decide_eq_true_eq, decide_eq_false_iff_not, Bool.not_eq_true', Bool.not_eq_false', Bool.not_eq_true, Bool.not_eq_false, Bool.and_eq_true, Bool.or_eq_true, Bool.and_eq_false_iff, Bool.or_eq_false_iff, Bool.not_not, ne_eq, Int.not_lt, Int.not_le, Decidable.not_not, beq_iff_eq, bne_iff_ne] at hc4
          exfalso; first | exact Bool.noConfusion (show false = true by assumption) | exact Bool.noConfusion (show true = false by assumption) | contradiction | omega | (simp at *; done)
        · intro hc4
          try simp only [decide_eq_true_eq, decide_eq_false_iff_not, Bool.not_eq_true', Bool.not_eq_false', Bool.not_eq_true, Bool.not_eq_false, Bool.and_eq_true, Bool.or_eq_true, Bool.and_eq_false_iff, Bool.or_eq_false_iff, Bool.not_not, ne_eq, Int.not_lt, Int.not_le, Decidable.not_not, beq_iff_eq, bne_iff_ne] at hc4
          refine wp_skip ?_
          refine then_normal ?_
          refine c_seq ?_
          refine c_seq ?_
          refine c_region ?_
          refine wl (wl_val hl rfl trivial (r_field hl rfl fld46_0) ?_)
          clear hl a; intro a hl
          refine wl (w_load hl hh rfl trivial one35 rfl (by repeat (first | exact find_head | apply find_tail)) (by first | rfl) ?_)
          clear hl a; intro a hl
          refine wl (wl_val hl rfl trivial (r_eql hl rfl rfl) ?_)
          clear hl a; intro a hl
          refine w_nil ?_
          have hl2 := hl.add (t := 2) (hl.add (t := 4) (hl.add (t := 7) (hl.add (t := 10) (hl.add (t := 11) (hl.add (t := 12) (hl.add (t := 59) (hl.nil) rfl) rfl) rfl) rfl) rfl) rfl) rfl; clear hl; have hl := hl2; clear hl2
          refine then_normal ?_
          refine c_cond hl rfl ?_ ?_
          · intro hc5
            try simp only [decide_eq_true_eq, decide_eq_false_iff_not, Bool.not_eq_true', Bool.not_eq_false', Bool.not_eq_true, Bool.not_eq_false, Bool.and_eq_true, Bool.or_eq_true, Bool.and_eq_false_iff, Bool.or_eq_false_iff, Bool.not_not, ne_eq, Int.not_lt, Int.not_le, Decidable.not_not, beq_iff_eq, bne_iff_ne] at hc5
            replace hh := hh.keep (F' := (bp, C (.pointer (some ⟨cp, 0, none⟩) :: cfL t.cfg) 41) :: z.Z) (by repeat (first | exact keeps_nil | apply keeps_cons (by repeat (first | exact find_head | apply find_tail)) (by first  | rfl) | exact keeps_self | exact keeps_left | exact keeps_right | exact keeps_swap | apply keeps_mv))
            have hfin : ∃ t', StepR o t t' ∧ SI t' ∧ WB ((bp, C (.pointer (some ⟨cp, 0, none⟩) :: cfL t.cfg) 41) :: z.Z) bp t' := ⟨z.t, .inr (.inr (.inl ⟨.inl hc2, z.t.s, hsc, heq⟩)), hiz, cp, z.Z, hcz, (by rw [e1])⟩
            refine wp_exit ?_
            refine then_exit ?_
            refine blk_exit_ne rfl ?_
            refine then_exit ?_
            refine then_exit ?_
            refine blk_exit ?_
            refine blk_normal ?_
            refine then_normal ?_
            refine c_seq ?_
            refine c_region ?_
            refine wl (wl_val hl rfl trivial (r_assign hl rfl) ?_)
            clear hl a; intro a hl
            refine w_nil ?_
            have hl2 := hl.add (t := 6) (hl.nil) rfl; clear hl; have hl := hl2; clear hl2
            refine then_normal ?_
            refine wp_ret ?_
            refine f_ret1 hl hh rfl rfl keeps_self ?_
            exact ⟨rfl, hfin⟩
          · intro hc5
            try simp only [decide_eq_true_eq, decide_eq_false_iff_not, Bool.not_eq_true', Bool.not_eq_false', Bool.not_eq_true, Bool.not_eq_false, Bool.and_eq_true, Bool.or_eq_true, Bool.and_eq_false_iff, Bool.or_eq_false_iff, Bool.not_not, ne_eq, Int.not_lt, Int.not_le, Decidable.not_not, beq_iff_eq, bne_iff_ne] at hc5
            refine wp_skip ?_
            refine then_normal ?_
            refine c_seq ?_
            refine c_region ?_
            refine wl (wl_val hl rfl trivial (r_move hl rfl) ?_)
            clear hl a; intro a hl
            refine wl (w_loadA hl hh rfl trivial agg46 rfl (by repeat (first | exact find_head | apply find_tail)) (by first | (simp only [List.getElem?_cons_zero, List.getElem?_cons_succ, Value.cells, List.take_zero, List.take_succ_cons, List.take_nil, List.drop_zero, List.drop_succ_cons, List.drop_nil, List.length_cons, List.length_nil, List.cons_append, List.nil_append, List.append_nil, Nat.zero_add, Nat.add_zero, Nat.reduceAdd, Nat.reduceBEq, Nat.reduceEqDiff, Nat.ble, BEq.rfl, Bool.and_true, Bool.and_self, cond_true, beq_self_eq_true]; rfl)) (by first | rfl | (simp; done)) ?_)
            clear hl a; intro a hl
            refine wl (w_call hl hh rfl trivial rfl cal32 rfl (sent_cm hcz hiz g.k g.q g.n hr9.2.1 hr9.2.2) (by repeat (first | exact keeps_nil | apply keeps_cons (by repeat (first | exact find_head | apply find_tail)) (by first  | rfl) | exact keeps_self | exact keeps_left | exact keeps_right | exact keeps_swap | apply keeps_mv)) trivial ?_)
            clear hl hh a w; intro vc Fc a w hR hl hh
            obtain ⟨rfl, hcm9⟩ := hR
            try simp only [List.cons_append, List.nil_append] at hh
            replace hh := hh.comm
            simp only [List.cons_append, List.nil_append] at hh
            refine w_nil ?_
            have hl2 := hl.add (t := 2) (hl.add (t := 4) (hl.add (t := 7) (hl.add (t := 10) (hl.add (t := 11) (hl.add (t := 12) (hl.nil) rfl) rfl) rfl) rfl) rfl) rfl; clear hl; have hl := hl2; clear hl2
            refine then_normal ?_
            refine c_seq ?_
            refine c_region ?_
            refine wl (wl_val hl rfl trivial (r_field hl rfl fld46_0) ?_)
            clear hl a; intro a hl
            refine wl (w_load hl hh rfl trivial one35 rfl (by repeat (first | exact find_head | apply find_tail)) (by first | rfl) ?_)
            clear hl a; intro a hl
            refine wl (wl_val hl rfl trivial (r_eql hl rfl rfl) ?_)
            clear hl a; intro a hl
            refine w_nil ?_
            have hl2 := hl.add (t := 2) (hl.add (t := 4) (hl.add (t := 7) (hl.add (t := 10) (hl.add (t := 11) (hl.add (t := 12) (hl.add (t := 65) (hl.nil) rfl) rfl) rfl) rfl) rfl) rfl) rfl; clear hl; have hl := hl2; clear hl2
            refine then_normal ?_
            refine c_cond hl rfl ?_ ?_
            · intro hc6
              try simp only [decide_eq_true_eq, decide_eq_false_iff_not, Bool.not_eq_true', Bool.not_eq_false', Bool.not_eq_true, Bool.not_eq_false, Bool.and_eq_true, Bool.or_eq_true, Bool.and_eq_false_iff, Bool.or_eq_false_iff, Bool.not_not, ne_eq, Int.not_lt, Int.not_le, Decidable.not_not, beq_iff_eq, bne_iff_ne] at hc6
              refine c_region ?_
              refine wl (wl_val hl rfl trivial (r_move hl rfl) ?_)
              clear hl a; intro a hl
              refine wl (wl_val hl rfl trivial (r_field hl rfl fld46_2) ?_)
              clear hl a; intro a hl
              refine wl (w_load hl hh rfl trivial one26 rfl (by repeat (first | exact find_head | apply find_tail)) (by first | rfl) ?_)
              clear hl a; intro a hl
              refine wl (wl_val hl rfl trivial (r_subM wm_u32 hl rfl rfl) ?_)
              clear hl a; intro a hl
              refine wl (wl_val hl rfl trivial (r_assign hl rfl) ?_)
              clear hl a; intro a hl
              refine w_nil ?_
              have hl2 := hl.add (t := 2) (hl.add (t := 4) (hl.add (t := 7) (hl.add (t := 10) (hl.add (t := 11) (hl.nil) rfl) rfl) rfl) rfl) rfl; clear hl; have hl := hl2; clear hl2
              refine blk_normal ?_
              refine then_normal ?_
              refine c_region ?_
              refine wl (wl_val hl rfl trivial (r_move hl rfl) ?_)
              clear hl a; intro a hl
              first | refine wl (wl_val hl rfl trivial (r_add hl rfl rfl (by simp only [Fits]; omega)) ?_) | refine wl (wl_val hl rfl trivial (r_addM wm_u32 hl rfl rfl) ?_)
              clear hl a; intro a hl
              refine wl (wl_val hl rfl trivial (r_assign hl rfl) ?_)
              clear hl a; intro a hl
              refine w_nil ?_
              have hl2 := hl.add (t := 2) (hl.add (t := 4) (hl.add (t := 7) (hl.add (t := 10) (hl.add (t := 11) (hl.nil) rfl) rfl) rfl) rfl) rfl; clear hl; have hl := hl2; clear hl2
              refine then_normal ?_
              first | refine ⟨⟨Fc, { z.t with s := sentP z.t.s g.k g.q g.n }, (z.f - g.n) % 4294967296, z.i + 1⟩, (by simp only; omega), ⟨⟨⟨si_sent hiz _ _ _ hr9.2.2, hcm9⟩, by simp only [e1, e2], .step _ _ _ hsc⟩, by first | exact hfz | exact ⟨by simp only; omega, by simp only; omega⟩⟩, hl.addE (t := 10) (hl.addE (t := 11) (hl.addE (t := 2) (hl.addE (t := 4) (hl.addE (t := 7) (hl.nil) rfl (by first | rfl | exact congrArg (Value.int .u32) (i_succ z.i))) rfl (by first | rfl | exact congrArg (Value.int .u32) (i_succ z.i))) rfl (by first | rfl | exact congrArg (Value.int .u32) (i_succ z.i))) rfl (by first | rfl | exact congrArg (Value.int .u32) (i_succ z.i))) rfl (by first | rfl | exact congrArg (Value.int .u32) (i_succ z.i)), hh.keep (by repeat (first | exact keeps_nil | apply keeps_cons (by repeat (first | exact find_head | apply find_tail)) (by first  | rfl) | exact keeps_self | exact keeps_left | exact keeps_right | exact keeps_swap | apply keeps_mv))⟩ | refine ⟨⟨Fc, { z.t with s := sentP z.t.s g.k g.q g.n }, z.f, z.i + 1⟩, (by simp only; omega), ⟨⟨⟨si_sent hiz _ _ _ hr9.2.2, hcm9⟩, by simp only [e1, e2], .step _ _ _ hsc⟩, by first | exact hfz | exact ⟨by simp only; omega, by simp only; omega⟩⟩, hl.addE (t := 10) (hl.addE (t := 11) (hl.addE (t := 2) (hl.addE (t := 4) (hl.addE (t := 7) (hl.nil) rfl (by first | rfl | exact congrArg (Value.int .u32) (i_succ z.i))) rfl (by first | rfl | exact congrArg (Value.int .u32) (i_succ z.i))) rfl (by first | rfl | exact congrArg (Value.int .u32) (i_succ z.i))) rfl (by first | rfl | exact congrArg (Value.int .u32) (i_succ z.i))) rfl (by first | rfl | exact congrArg (Value.int .u32) (i_succ z.i)), hh.keep (by repeat (first | exact keeps_nil | apply keeps_cons (by repeat (first | exact find_head | apply find_tail)) (by first  | rfl) | exact keeps_self | exact keeps_left | exact keeps_right | exact keeps_swap | apply keeps_mv))⟩
            · intro hc6
              try simp only [decide_eq_true_eq, decide_eq_false_iff_not, Bool.not_eq_true', Bool.not_eq_false', Bool.not_eq_true, Bool.not_eq_false, Bool.and_eq_true, Bool.or_eq_true, Bool.and_eq_false_iff, Bool.or_eq_false_iff, Bool.not_not, ne_eq, Int.not_lt, Int.not_le, Decidable.not_not, beq_iff_eq, bne_iff_ne] at hc6
              refine wp_skip ?_
              refine blk_normal ?_
              refine then_normal ?_
              refine c_region ?_
              refine wl (wl_val hl rfl trivial (r_move hl rfl) ?_)
              clear hl a; intro a hl
              first | refine wl (wl_val hl rfl trivial (r_add hl rfl rfl (by simp only [Fits]; omega)) ?_) | refine wl (wl_val hl rfl trivial (r_addM wm_u32 hl rfl rfl) ?_)
              clear hl a; intro a hl
              refine wl (wl_val hl rfl trivial (r_assign hl rfl) ?_)
              clear hl a; intro a hl
              refine w_nil ?_
              have hl2 := hl.add (t := 2) (hl.add (t := 4) (hl.add (t := 7) (hl.add (t := 10) (hl.add (t := 11) (hl.nil) rfl) rfl) rfl) rfl) rfl; clear hl; have hl := hl2; clear hl2
              refine then_normal ?_
              first | refine ⟨⟨Fc, { z.t with s := sentP z.t.s g.k g.q g.n }, (z.f - g.n) % 4294967296, z.i + 1⟩, (by simp only; omega), ⟨⟨⟨si_sent hiz _ _ _ hr9.2.2, hcm9⟩, by simp only [e1, e2], .step _ _ _ hsc⟩, by first | exact hfz | exact ⟨by simp only; omega, by simp only; omega⟩⟩, hl.addE (t := 10) (hl.addE (t := 11) (hl.addE (t := 2) (hl.addE (t := 4) (hl.addE (t := 7) (hl.nil) rfl (by first | rfl | exact congrArg (Value.int .u32) (i_succ z.i))) rfl (by first | rfl | exact congrArg (Value.int .u32) (i_succ z.i))) rfl (by first | rfl | exact congrArg (Value.int .u32) (i_succ z.i))) rfl (by first | rfl | exact congrArg (Value.int .u32) (i_succ z.i))) rfl (by first | rfl | exact congrArg (Value.int .u32) (i_succ z.i)), hh.keep (by repeat (first | exact keeps_nil | apply keeps_cons (by repeat (first | exact find_head | apply find_tail)) (by first  | rfl) | exact keeps_self | exact keeps_left | exact keeps_right | exact keeps_swap | apply keeps_mv))⟩ | refine ⟨⟨Fc, { z.t with s := sentP z.t.s g.k g.q g.n }, z.f, z.i + 1⟩, (by simp only; omega), ⟨⟨⟨si_sent hiz _ _ _ hr9.2.2, hcm9⟩, by simp only [e1, e2], .step _ _ _ hsc⟩, by first | exact hfz | exact ⟨by simp only; omega, by simp only; omega⟩⟩, hl.addE (t := 10) (hl.addE (t := 11) (hl.addE (t := 2) (hl.addE (t := 4) (hl.addE (t := 7) (hl.nil) rfl (by first | rfl | exact congrArg (Value.int .u32) (i_succ z.i))) rfl (by first | rfl | exact congrArg (Value.int .u32) (i_succ z.i))) rfl (by first | rfl | exact congrArg (Value.int .u32) (i_succ z.i))) rfl (by first | rfl | exact congrArg (Value.int .u32) (i_succ z.i))) rfl (by first | rfl | exact congrArg (Value.int .u32) (i_succ z.i)), hh.keep (by repeat (first | exact keeps_nil | apply keeps_cons (by repeat (first | exact find_head | apply find_tail)) (by first  | rfl) | exact keeps_self | exact keeps_left | exact keeps_right | exact keeps_swap | apply keeps_mv))⟩
      · intro hc3
        try simp only [decide_eq_true_eq, decide_eq_false_iff_not, Bool.not_eq_true', Bool.not_eq_false', Bool.not_eq_true, Bool.not_eq_false, Bool.and_eq_true, Bool.or_eq_true, Bool.and_eq_false_iff, Bool.or_eq_false_iff, Bool.not_not, ne_eq, Int.not_lt, Int.not_le, Decidable.not_not, beq_iff_eq, bne_iff_ne] at hc3
        replace hh := hh.keep (F' := (bp, C (.pointer (some ⟨cp, 0, none⟩) :: cfL t.cfg) 41) :: z.Z) (by repeat (first | exact keeps_nil | apply keeps_cons (by repeat (first | exact find_head | apply find_tail)) (by first  | rfl) | exact keeps_self | exact keeps_left | exact keeps_right | exact keeps_swap | apply keeps_mv))
        have hfin : ∃ t', StepR o t t' ∧ SI t' ∧ WB ((bp, C (.pointer (some ⟨cp, 0, none⟩) :: cfL t.cfg) 41) :: z.Z) bp t' := ⟨z.t, .inr (.inr (.inl ⟨.inl hc2, z.t.s, hsc, heq⟩)), hiz, cp, z.Z, hcz, (by rw [e1])⟩
        refine wp_exit ?_
        refine then_exit ?_
        refine then_exit ?_
        refine blk_exit ?_
        refine blk_normal ?_
        refine then_normal ?_
        refine c_seq ?_
        refine c_region ?_
        refine wl (wl_val hl rfl trivial (r_assign hl rfl) ?_)
        clear hl a; intro a hl
        refine w_nil ?_
        have hl2 := hl.add (t := 6) (hl.nil) rfl; clear hl; have hl := hl2; clear hl2
        refine then_normal ?_
        refine wp_ret ?_
        refine f_ret1 hl hh rfl rfl keeps_self ?_
        exact ⟨rfl, hfin⟩
    · intro hc2
      try simp only [decide_eq_true_eq, decide_eq_false_iff_not, Bool.not_eq_true', Bool.not_eq_false', Bool.not_eq_true, Bool.not_eq_false, Bool.and_eq_true, Bool.or_eq_true, Bool.and_eq_false_iff, Bool.or_eq_false_iff, Bool.not_not, ne_eq, Int.not_lt, Int.not_le, Decidable.not_not, beq_iff_eq, bne_iff_ne] at hc2
      refine c_seq ?_
      refine c_region ?_
      refine wl (wl_val hl rfl trivial (r_eql hl rfl rfl) ?_)
      clear hl a; intro a hl
      refine wl (wl_val hl rfl trivial (r_assign hl rfl) ?_)
      clear hl a; intro a hl
      refine w_nil ?_
      have hl2 := hl.add (t := 4) (hl.add (t := 7) (hl.add (t := 18) (hl.add (t := 70) (hl.nil) rfl) rfl) rfl) rfl; clear hl; have hl := hl2; clear hl2
      refine then_normal ?_
      refine c_cond hl rfl ?_ ?_
      · intro hc7
        try simp only [decide_eq_true_eq, decide_eq_false_iff_not, Bool.not_eq_true', Bool.not_eq_false', Bool.not_eq_true, Bool.not_eq_false, Bool.and_eq_true, Bool.or_eq_true, Bool.and_eq_false_iff, Bool.or_eq_false_iff, Bool.not_not, ne_eq, Int.not_lt, Int.not_le, Decidable.not_not, beq_iff_eq, bne_iff_ne] at hc7
        refine c_draw [(k4, C [.int .u8 o.kd, .int .u32 o.cf.init, .int .u32 o.cf.maxc, .int .u32 o.cf.bn, .int .u32 o.cf.bd, .int .u32 o.cf.abc, .int .u32 o.cf.dupt, .bool o.cf.idle, .int .u32 o.cf.mss, .int .u32 o.cf.start, .bool o.cf.sack, .int .u32 o.A, .int .u32 o.B, .bool o.dup, .int .u8 o.gr, .slice o.p o.dat.length o.cap] 38)] [11] mixed hh ?_
        clear hh w; intro w hh
        have hM : Mem [(k4, C [.int .u8 o.kd, .int .u32 o.cf.init, .int .u32 o.cf.maxc, .int .u32 o.cf.bn, .int .u32 o.cf.bd, .int .u32 o.cf.abc, .int .u32 o.cf.dupt, .bool o.cf.idle, .int .u32 o.cf.mss, .int .u32 o.cf.start, .bool o.cf.sack, .int .u32 o.A, .int .u32 o.B, .bool o.dup, .int .u8 o.gr, .slice o.p o.dat.length o.cap] 38)] w := (by (repeat (first | exact Mem.nil | refine Mem.cons hh.mem (by (repeat (first | exact find_head | apply find_tail)); done) ?_ | refine Mem.consR hh (by assumption) (by simp) ?_ | fail)); done)
        refine d_take (i := 0) hl rfl (by kernel_rfl) (by kernel_rfl) (by kernel_rfl) (by kernel_rfl) (by kernel_rfl) rfl trivial (fun _ _ _ h => h) hM (fun w hC => r_move hl rfl) rfl ?_
        clear hl a; intro a hl
        refine d_take (i := 1) hl rfl (by kernel_rfl) (by kernel_rfl) (by kernel_rfl) (by kernel_rfl) (by kernel_rfl) rfl trivial (fun _ _ _ h => h) hM (fun w hC => r_field hl rfl fld38_5) rfl ?_
        clear hl a; intro a hl
        refine d_take (i := 2) hl rfl (by kernel_rfl) (by kernel_rfl) (by kernel_rfl) (by kernel_rfl) (by kernel_rfl) rfl trivial (fun _ _ _ h => h) hM (fun w hC => r_loadC hl rfl one35 hC (by repeat (first | exact find_head | apply find_tail)) (by first | rfl)) rfl ?_
        clear hl a; intro a hl
        refine d_take (i := 3) hl rfl (by kernel_rfl) (by kernel_rfl) (by kernel_rfl) (by kernel_rfl) (by kernel_rfl) rfl trivial (fun _ _ _ h => h) hM (fun w hC => r_move hl rfl) rfl ?_
        clear hl a; intro a hl
        refine d_take (i := 5) hl rfl (by kernel_rfl) (by kernel_rfl) (by kernel_rfl) (by kernel_rfl) (by kernel_rfl) rfl trivial (fun _ _ _ h => h) hM (fun w hC => r_field hl rfl fld38_2) rfl ?_
        clear hl a; intro a hl
        refine d_take (i := 6) hl rfl (by kernel_rfl) (by kernel_rfl) (by kernel_rfl) (by kernel_rfl) (by kernel_rfl) rfl trivial (fun _ _ _ h => h) hM (fun w hC => r_loadC hl rfl one26 hC (by repeat (first | exact find_head | apply find_tail)) (by first | rfl)) rfl ?_
        clear hl a; intro a hl
        refine d_take (i := 8) hl rfl (by kernel_rfl) (by kernel_rfl) (by kernel_rfl) (by kernel_rfl) (by kernel_rfl) rfl trivial (fun _ _ _ h => h) hM (fun w hC => r_field hl rfl fld38_3) rfl ?_
        clear hl a; intro a hl
        refine d_take (i := 9) hl rfl (by kernel_rfl) (by kernel_rfl) (by kernel_rfl) (by kernel_rfl) (by kernel_rfl) rfl trivial (fun _ _ _ h => h) hM (fun w hC => r_loadC hl rfl one26 hC (by repeat (first | exact find_head | apply find_tail)) (by first | rfl)) rfl ?_
        clear hl a; intro a hl
        refine d_one (i := 4) (by kernel_rfl) rfl ?_
        try clear hM
        refine id (w_call hl hh rfl trivial rfl cal16 rfl (una_cm hcm) (by repeat (first | exact keeps_nil | apply keeps_cons (by repeat (first | exact find_head | apply find_tail)) (by first  | rfl) | exact keeps_self | exact keeps_left | exact keeps_right | exact keeps_swap | apply keeps_mv)) (fun b o m => hh.mem b o (by (repeat (first | exact m | apply List.mem_cons_of_mem)); done)) ?_)
        clear hl hh a w; intro vc Fc a w hR hl hh
        obtain ⟨rfl, rfl⟩ := hR
        try simp only [List.cons_append, List.nil_append] at hh
        have hM : Mem [(k4, C [.int .u8 o.kd, .int .u32 o.cf.init, .int .u32 o.cf.maxc, .int .u32 o.cf.bn, .int .u32 o.cf.bd, .int .u32 o.cf.abc, .int .u32 o.cf.dupt, .bool o.cf.idle, .int .u32 o.cf.mss, .int .u32 o.cf.start, .bool o.cf.sack, .int .u32 o.A, .int .u32 o.B, .bool o.dup, .int .u8 o.gr, .slice o.p o.dat.length o.cap] 38)] w := (by (repeat (first | exact Mem.nil | refine Mem.cons hh.mem (by (repeat (first | exact find_head | apply find_tail)); done) ?_ | refine Mem.consR hh (by assumption) (by simp) ?_ | fail)); done)
        refine d_step (fun _ => hM) ?_
        refine d_take (i := 7) hl rfl (by kernel_rfl) (by kernel_rfl) (by kernel_rfl) (by kernel_rfl) (by kernel_rfl) rfl trivial (fun _ _ _ h => h) hM (fun w hC => r_addM wm_u32 hl rfl rfl) rfl ?_
        clear hl a; intro a hl
        refine d_take (i := 10) hl rfl (by kernel_rfl) (by kernel_rfl) (by kernel_rfl) (by kernel_rfl) (by kernel_rfl) rfl trivial (fun _ _ _ h => h) hM (fun w hC => r_build hl rfl zero46 bld46 (by simp only [fillL, setL, List.getElem?_cons_zero, List.getElem?_cons_succ, Value.cells, List.take_zero, List.take_succ_cons, List.take_nil, List.drop_zero, List.drop_succ_cons, List.drop_nil, List.length_cons, List.length_nil, List.cons_append, List.nil_append, List.append_nil, Nat.zero_add, Nat.add_zero, Nat.reduceAdd, Nat.reduceBEq, Nat.reduceEqDiff, Nat.ble, BEq.rfl, Bool.and_true, Bool.and_self, cond_true, beq_self_eq_true]; rfl)) rfl ?_
        clear hl a; intro a hl
        refine d_one (i := 11) (by kernel_rfl) rfl ?_
        try clear hM
        refine id (w_call hl hh rfl trivial rfl cal32 rfl (sent_cm hcm hi o.gr ((t.s.una + o.A) % 4294967296) o.B ⟨by omega, by omega⟩ hoB) (by repeat (first | exact keeps_nil | apply keeps_cons (by repeat (first | exact find_head | apply find_tail)) (by first  | rfl) | exact keeps_self | exact keeps_left | exact keeps_right | exact keeps_swap | apply keeps_mv)) trivial ?_)
        clear hl hh a w; intro vc Fc a w hR hl hh
        obtain ⟨rfl, hcm9⟩ := hR
        try simp only [List.cons_append, List.nil_append] at hh
        refine d_step (fun h => absurd h (by decide)) ?_
        refine d_done (by kernel_rfl) ?_
        try clear hM
        have hl2 := hl.nil; clear hl; have hl := hl2; clear hl2
        replace hh := hh.comm
        simp only [List.cons_append, List.nil_append] at hh
        replace hh := hh.keep (F' := (bp, C (.pointer (some ⟨cp, 0, none⟩) :: cfL t.cfg) 41) :: Fc) (by repeat (first | exact keeps_nil | apply keeps_cons (by repeat (first | exact find_head | apply find_tail)) (by first  | rfl) | exact keeps_self | exact keeps_left | exact keeps_right | exact keeps_swap | apply keeps_mv))
        have hfin : ∃ t', StepR o t t' ∧ SI t' ∧ WB ((bp, C (.pointer (some ⟨cp, 0, none⟩) :: cfL t.cfg) 41) :: Fc) bp t' := ⟨{ t with s := _ }, .inr (.inr (.inl ⟨.inr hc7, _, .step _ _ _ .refl, rfl⟩)), si_sent hi _ _ _ hoB, cp, Fc, hcm9, rfl⟩
        refine blk_normal ?_
        refine then_normal ?_
        refine c_seq ?_
        refine c_region ?_
        refine wl (wl_val hl rfl trivial (r_assign hl rfl) ?_)
        clear hl a; intro a hl
        refine w_nil ?_
        have hl2 := hl.add (t := 6) (hl.nil) rfl; clear hl; have hl := hl2; clear hl2
        refine then_normal ?_
        refine wp_ret ?_
        refine f_ret1 hl hh rfl rfl keeps_self ?_
        exact ⟨rfl, hfin⟩
      · intro hc7
        try simp only [decide_eq_true_eq, decide_eq_false_iff_not, Bool.not_eq_true', Bool.not_eq_false', Bool.not_eq_true, Bool.not_eq_false, Bool.and_eq_true, Bool.or_eq_true, Bool.and_eq_false_iff, Bool.or_eq_false_iff, Bool.not_not, ne_eq, Int.not_lt, Int.not_le, Decidable.not_not, beq_iff_eq, bne_iff_ne] at hc7
        refine c_seq ?_
        refine c_region ?_
        refine wl (wl_val hl rfl trivial (r_eql hl rfl rfl) ?_)
        clear hl a; intro a hl
        refine wl (wl_val hl rfl trivial (r_assign hl rfl) ?_)
        clear hl a; intro a hl
        refine w_nil ?_
        have hl2 := hl.add (t := 4) (hl.add (t := 7) (hl.add (t := 18) (hl.add (t := 84) (hl.nil) rfl) rfl) rfl) rfl; clear hl; have hl := hl2; clear hl2
        refine then_normal ?_
        refine c_cond hl rfl ?_ ?_
        · intro hc8
          try simp only [decide_eq_true_eq, decide_eq_false_iff_not, Bool.not_eq_true', Bool.not_eq_false', Bool.not_eq_true, Bool.not_eq_false, Bool.and_eq_true, Bool.or_eq_true, Bool.and_eq_false_iff, Bool.or_eq_false_iff, Bool.not_not, ne_eq, Int.not_lt, Int.not_le, Decidable.not_not, beq_iff_eq, bne_iff_ne] at hc8
          refine c_draw [(k4, C [.int .u8 o.kd, .int .u32 o.cf.init, .int .u32 o.cf.maxc, .int .u32 o.cf.bn, .int .u32 o.cf.bd, .int .u32 o.cf.abc, .int .u32 o.cf.dupt, .bool o.cf.idle, .int .u32 o.cf.mss, .int .u32 o.cf.start, .bool o.cf.sack, .int .u32 o.A, .int .u32 o.B, .bool o.dup, .int .u8 o.gr, .slice o.p o.dat.length o.cap] 38)] [13] mixed hh ?_
          clear hh w; intro w hh
          have hM : Mem [(k4, C [.int .u8 o.kd, .int .u32 o.cf.init, .int .u32 o.cf.maxc, .int .u32 o.cf.bn, .int .u32 o.cf.bd, .int .u32 o.cf.abc, .int .u32 o.cf.dupt, .bool o.cf.idle, .int .u32 o.cf.mss, .int .u32 o.cf.start, .bool o.cf.sack, .int .u32 o.A, .int .u32 o.B, .bool o.dup, .int .u8 o.gr, .slice o.p o.dat.length o.cap] 38)] w := (by (repeat (first | exact Mem.nil | refine Mem.cons hh.mem (by (repeat (first | exact find_head | apply find_tail)); done) ?_ | refine Mem.consR hh (by assumption) (by simp) ?_ | fail)); done)
          refine d_take (i := 0) hl rfl (by kernel_rfl) (by kernel_rfl) (by kernel_rfl) (by kernel_rfl) (by kernel_rfl) rfl trivial (fun _ _ _ h => h) hM (fun w hC => r_move hl rfl) rfl ?_
          clear hl a; intro a hl
          refine d_take (i := 1) hl rfl (by kernel_rfl) (by kernel_rfl) (by kernel_rfl) (by kernel_rfl) (by kernel_rfl) rfl trivial (fun _ _ _ h => h) hM (fun w hC => r_move hl rfl) rfl ?_
          clear hl a; intro a hl
          refine d_take (i := 3) hl rfl (by kernel_rfl) (by kernel_rfl) (by kernel_rfl) (by kernel_rfl) (by kernel_rfl) rfl trivial (fun _ _ _ h => h) hM (fun w hC => r_field hl rfl fld38_2) rfl ?_
          clear hl a; intro a hl
          refine d_take (i := 4) hl rfl (by kernel_rfl) (by kernel_rfl) (by kernel_rfl) (by kernel_rfl) (by kernel_rfl) rfl trivial (fun _ _ _ h => h) hM (fun w hC => r_loadC hl rfl one26 hC (by repeat (first | exact find_head | apply find_tail)) (by first | rfl)) rfl ?_
          clear hl a; intro a hl
          refine d_take (i := 6) hl rfl (by kernel_rfl) (by kernel_rfl) (by kernel_rfl) (by kernel_rfl) (by kernel_rfl) rfl trivial (fun _ _ _ h => h) hM (fun w hC => r_field hl rfl fld38_4) rfl ?_
          clear hl a; intro a hl
          refine d_take (i := 7) hl rfl (by kernel_rfl) (by kernel_rfl) (by kernel_rfl) (by kernel_rfl) (by kernel_rfl) rfl trivial (fun _ _ _ h => h) hM (fun w hC => r_loadC hl rfl one4 hC (by repeat (first | exact find_head | apply find_tail)) (by first | rfl)) rfl ?_
          clear hl a; intro a hl
          refine d_take (i := 8) hl rfl (by kernel_rfl) (by kernel_rfl) (by kernel_rfl) (by kernel_rfl) (by kernel_rfl) rfl trivial (fun _ _ _ h => h) hM (fun w hC => r_field hl rfl fld38_6) rfl ?_
          clear hl a; intro a hl
          refine d_take (i := 9) hl rfl (by kernel_rfl) (by kernel_rfl) (by kernel_rfl) (by kernel_rfl) (by kernel_rfl) rfl trivial (fun _ _ _ h => h) hM (fun w hC => r_loadC hl rfl one36 hC (by repeat (first | exact find_head | apply find_tail)) (by first | rfl)) rfl ?_
          clear hl a; intro a hl
          refine d_take (i := 10) hl rfl (by kernel_rfl) (by kernel_rfl) (by kernel_rfl) (by kernel_rfl) (by kernel_rfl) rfl trivial (fun _ _ _ h => h) hM (fun w hC => r_move hl rfl) rfl ?_
          clear hl a; intro a hl
          refine d_one (i := 2) (by kernel_rfl) rfl ?_
          try clear hM
          refine id (w_call hl hh rfl trivial rfl cal16 rfl (una_cm hcm) (by repeat (first | exact keeps_nil | apply keeps_cons (by repeat (first | exact find_head | apply find_tail)) (by first  | rfl) | exact keeps_self | exact keeps_left | exact keeps_right | exact keeps_swap | apply keeps_mv)) (fun b o m => hh.mem b o (by (repeat (first | exact m | apply List.mem_cons_of_mem)); done)) ?_)
          clear hl hh a w; intro vc Fc a w hR hl hh
          obtain ⟨rfl, rfl⟩ := hR
          try simp only [List.cons_append, List.nil_append] at hh
          have hM : Mem [(k4, C [.int .u8 o.kd, .int .u32 o.cf.init, .int .u32 o.cf.maxc, .int .u32 o.cf.bn, .int .u32 o.cf.bd, .int .u32 o.cf.abc, .int .u32 o.cf.dupt, .bool o.cf.idle, .int .u32 o.cf.mss, .int .u32 o.cf.start, .bool o.cf.sack, .int .u32 o.A, .int .u32 o.B, .bool o.dup, .int .u8 o.gr, .slice o.p o.dat.length o.cap] 38)] w := (by (repeat (first | exact Mem.nil | refine Mem.cons hh.mem (by (repeat (first | exact find_head | apply find_tail)); done) ?_ | refine Mem.consR hh (by assumption) (by simp) ?_ | fail)); done)
          refine d_step (fun _ => hM) ?_
          refine d_take (i := 5) hl rfl (by kernel_rfl) (by kernel_rfl) (by kernel_rfl) (by kernel_rfl) (by kernel_rfl) rfl trivial (fun _ _ _ h => h) hM (fun w hC => r_addM wm_u32 hl rfl rfl) rfl ?_
          clear hl a; intro a hl
          refine d_one (i := 11) (by kernel_rfl) rfl ?_
          try clear hM
          refine id (w_call hl hh rfl trivial rfl cal16 rfl (una_cm hcm) (by repeat (first | exact keeps_nil | apply keeps_cons (by repeat (first | exact find_head | apply find_tail)) (by first  | rfl) | exact keeps_self | exact keeps_left | exact keeps_right | exact keeps_swap | apply keeps_mv)) (fun b o m => hh.mem b o (by (repeat (first | exact m | apply List.mem_cons_of_mem)); done)) ?_)
          clear hl hh a w; intro vc Fc a w hR hl hh
          obtain ⟨rfl, rfl⟩ := hR
          try simp only [List.cons_append, List.nil_append] at hh
          have hM : Mem [(k4, C [.int .u8 o.kd, .int .u32 o.cf.init, .int .u32 o.cf.maxc, .int .u32 o.cf.bn, .int .u32 o.cf.bd, .int .u32 o.cf.abc, .int .u32 o.cf.dupt, .bool o.cf.idle, .int .u32 o.cf.mss, .int .u32 o.cf.start, .bool o.cf.sack, .int .u32 o.A, .int .u32 o.B, .bool o.dup, .int .u8 o.gr, .slice o.p o.dat.length o.cap] 38)] w := (by (repeat (first | exact Mem.nil | refine Mem.cons hh.mem (by (repeat (first | exact find_head | apply find_tail)); done) ?_ | refine Mem.consR hh (by assumption) (by simp) ?_ | fail)); done)
          refine d_step (fun _ => hM) ?_
          refine d_one (i := 12) (by kernel_rfl) rfl ?_
          try clear hM
          refine id (w_call hl hh rfl trivial rfl cal34 rfl (absolute2_spec o ho hN t.s.una) (by repeat (first | exact keeps_nil | apply keeps_cons (by repeat (first | exact find_head | apply find_tail)) (by first  | rfl) | exact keeps_self | exact keeps_left | exact keeps_right | exact keeps_swap | apply keeps_mv)) (fun b o m => (mem_keepD hh hpre hdis) b o (List.mem_cons_of_mem _ (List.mem_cons_of_mem _ (List.mem_cons_of_mem _ m)))) ?_)
          clear hl hh a w; intro vc Fc a w hR hl hh
          try simp only [List.cons_append, List.nil_append] at hh
          have hRa := hR; clear hR
          obtain ⟨pA, cA, hvA⟩ := row_val hRa
          subst hvA
          replace hh := hh.comm
          simp only [List.cons_append, List.nil_append] at hh
          have hdA := apart_of hh
          have hM : Mem [(k4, C [.int .u8 o.kd, .int .u32 o.cf.init, .int .u32 o.cf.maxc, .int .u32 o.cf.bn, .int .u32 o.cf.bd, .int .u32 o.cf.abc, .int .u32 o.cf.dupt, .bool o.cf.idle, .int .u32 o.cf.mss, .int .u32 o.cf.start, .bool o.cf.sack, .int .u32 o.A, .int .u32 o.B, .bool o.dup, .int .u8 o.gr, .slice o.p o.dat.length o.cap] 38)] w := (by (repeat (first | exact Mem.nil | refine Mem.cons hh.mem (by (repeat (first | exact find_head | apply find_tail)); done) ?_ | refine Mem.consR hh (by assumption) (by simp) ?_ | fail)); done)
          refine d_step (fun _ => hM) ?_
          refine d_one (i := 13) (by kernel_rfl) rfl ?_
          try clear hM
          refine id (w_call hl hh rfl trivial rfl cal33 rfl (ack_cm hcm hi ((t.s.una + o.A) % 4294967296) ⟨by omega, by omega⟩ o.dup (o.dat.map (absb t.s.una)) (by rw [List.length_map]; omega) pA cA Fc hRa hdA) (by repeat (first | exact keeps_nil | apply keeps_cons (by repeat (first | exact find_head | apply find_tail)) (by first  | rfl) | exact keeps_self | exact keeps_left | exact keeps_right | exact keeps_swap | apply keeps_mv)) (fun b o m => hh.mem b o (List.mem_cons_of_mem _ (List.mem_cons_of_mem _ (List.mem_append_right _ m)))) ?_)
          clear hl hh a w; intro vc Fc a w hR hl hh
          obtain ⟨rfl, t9, hat9, hcm9⟩ := hR
          try simp only [List.cons_append, List.nil_append] at hh
          refine d_step (fun h => absurd h (by decide)) ?_
          refine d_done (by kernel_rfl) ?_
          try clear hM
          have hl2 := hl.nil; clear hl; have hl := hl2; clear hl2
          replace hh := hh.comm
          simp only [List.cons_append, List.nil_append] at hh
          replace hh := hh.keep (F' := (bp, C (.pointer (some ⟨cp, 0, none⟩) :: cfL t.cfg) 41) :: Fc) (by repeat (first | exact keeps_nil | apply keeps_cons (by repeat (first | exact find_head | apply find_tail)) (by first  | rfl) | exact keeps_self | exact keeps_left | exact keeps_right | exact keeps_swap | apply keeps_mv))
          have hfin : ∃ t', StepR o t t' ∧ SI t' ∧ WB ((bp, C (.pointer (some ⟨cp, 0, none⟩) :: cfL t.cfg) 41) :: Fc) bp t' := ⟨t9, .inr (.inr (.inr (.inl ⟨hc8, hat9⟩))), ackT_si hat9 ⟨by omega, by omega⟩ hi, cp, Fc, hcm9, (by rw [ackT_cfg hat9])⟩
          refine blk_normal ?_
          refine then_normal ?_
          refine c_seq ?_
          refine c_region ?_
          refine wl (wl_val hl rfl trivial (r_assign hl rfl) ?_)
          clear hl a; intro a hl
          refine w_nil ?_
          have hl2 := hl.add (t := 6) (hl.nil) rfl; clear hl; have hl := hl2; clear hl2
          refine then_normal ?_
          refine wp_ret ?_
          refine f_ret1 hl hh rfl rfl keeps_self ?_
          exact ⟨rfl, hfin⟩
        · intro hc8
          try simp only [decide_eq_true_eq, decide_eq_false_iff_not, Bool.not_eq_true', Bool.not_eq_false', Bool.not_eq_true, Bool.not_eq_false, Bool.and_eq_true, Bool.or_eq_true, Bool.and_eq_false_iff, Bool.or_eq_false_iff, Bool.not_not, ne_eq, Int.not_lt, Int.not_le, Decidable.not_not, beq_iff_eq, bne_iff_ne] at hc8
          refine c_seq ?_
          refine c_region ?_
          refine wl (wl_val hl rfl trivial (r_eql hl rfl rfl) ?_)
          clear hl a; intro a hl
          refine wl (wl_val hl rfl trivial (r_assign hl rfl) ?_)
          clear hl a; intro a hl
          refine w_nil ?_
          have hl2 := hl.add (t := 7) (hl.add (t := 18) (hl.add (t := 100) (hl.nil) rfl) rfl) rfl; clear hl; have hl := hl2; clear hl2
          refine then_normal ?_
          refine c_cond hl rfl ?_ ?_
          · intro hc9
            try simp only [decide_eq_true_eq, decide_eq_false_iff_not, Bool.not_eq_true', Bool.not_eq_false', Bool.not_eq_true, Bool.not_eq_false, Bool.and_eq_true, Bool.or_eq_true, Bool.and_eq_false_iff, Bool.or_eq_false_iff, Bool.not_not, ne_eq, Int.not_lt, Int.not_le, Decidable.not_not, beq_iff_eq, bne_iff_ne] at hc9
            refine c_region ?_
            refine wl (wl_val hl rfl trivial (r_move hl rfl) ?_)
            clear hl a; intro a hl
            refine wl (w_call hl hh rfl trivial rfl cal35 rfl (rto_cm hcm hi) (by repeat (first | exact keeps_nil | apply keeps_cons (by repeat (first | exact find_head | apply find_tail)) (by first  | rfl) | exact keeps_self | exact keeps_left | exact keeps_right | exact keeps_swap | apply keeps_mv)) trivial ?_)
            clear hl hh a w; intro vc Fc a w hR hl hh
            obtain ⟨rfl, hcm9⟩ := hR
            try simp only [List.cons_append, List.nil_append] at hh
            refine w_nil ?_
            have hl2 := hl.nil; clear hl; have hl := hl2; clear hl2
            replace hh := hh.comm
            simp only [List.cons_append, List.nil_append] at hh
            replace hh := hh.keep (F' := (bp, C (.pointer (some ⟨cp, 0, none⟩) :: cfL t.cfg) 41) :: Fc) (by repeat (first | exact keeps_nil | apply keeps_cons (by repeat (first | exact find_head | apply find_tail)) (by first  | rfl) | exact keeps_self | exact keeps_left | exact keeps_right | exact keeps_swap | apply keeps_mv))
            have hfin : ∃ t', StepR o t t' ∧ SI t' ∧ WB ((bp, C (.pointer (some ⟨cp, 0, none⟩) :: cfL t.cfg) 41) :: Fc) bp t' := ⟨{ t with s := rtoP t.s }, .inr (.inr (.inr (.inr (.inl ⟨hc9, rfl⟩)))), si_rto hi, cp, Fc, hcm9, rfl⟩
            refine blk_normal ?_
            refine then_normal ?_
            refine c_seq ?_
            refine c_region ?_
            refine wl (wl_val hl rfl trivial (r_assign hl rfl) ?_)
            clear hl a; intro a hl
            refine w_nil ?_
            have hl2 := hl.add (t := 6) (hl.nil) rfl; clear hl; have hl := hl2; clear hl2
            refine then_normal ?_
            refine wp_ret ?_
            refine f_ret1 hl hh rfl rfl keeps_self ?_
            exact ⟨rfl, hfin⟩
          · intro hc9
            try simp only [decide_eq_true_eq, decide_eq_false_iff_not, Bool.not_eq_true', Bool.not_eq_false', Bool.not_eq_true, Bool.not_eq_false, Bool.and_eq_true, Bool.or_eq_true, Bool.and_eq_false_iff, Bool.or_eq_false_iff, Bool.not_not, ne_eq, Int.not_lt, Int.not_le, Decidable.not_not, beq_iff_eq, bne_iff_ne] at hc9
            refine c_seq ?_
            refine c_region ?_
            refine wl (wl_val hl rfl trivial (r_eql hl rfl rfl) ?_)
            clear hl a; intro a hl
            refine wl (wl_val hl rfl trivial (r_assign hl rfl) ?_)
            clear hl a; intro a hl
            refine w_nil ?_
            have hl2 := hl.add (t := 7) (hl.add (t := 104) (hl.nil) rfl) rfl; clear hl; have hl := hl2; clear hl2
            refine then_normal ?_
            refine c_cond hl rfl ?_ ?_
            · intro hc10
              try simp only [decide_eq_true_eq, decide_eq_false_iff_not, Bool.not_eq_true', Bool.not_eq_false', Bool.not_eq_true, Bool.not_eq_false, Bool.and_eq_true, Bool.or_eq_true, Bool.and_eq_false_iff, Bool.or_eq_false_iff, Bool.not_not, ne_eq, Int.not_lt, Int.not_le, Decidable.not_not, beq_iff_eq, bne_iff_ne] at hc10
              refine c_region ?_
              refine wl (wl_val hl rfl trivial (r_move hl rfl) ?_)
              clear hl a; intro a hl
              refine wl (w_call hl hh rfl trivial rfl cal36 rfl (idle_cm hcm hi) (by repeat (first | exact keeps_nil | apply keeps_cons (by repeat (first | exact find_head | apply find_tail)) (by first  | rfl) | exact keeps_self | exact keeps_left | exact keeps_right | exact keeps_swap | apply keeps_mv)) trivial ?_)
              clear hl hh a w; intro vc Fc a w hR hl hh
              obtain ⟨rfl, hcm9⟩ := hR
              try simp only [List.cons_append, List.nil_append] at hh
              refine w_nil ?_
              have hl2 := hl.nil; clear hl; have hl := hl2; clear hl2
              replace hh := hh.comm
              simp only [List.cons_append, List.nil_append] at hh
              replace hh := hh.keep (F' := (bp, C (.pointer (some ⟨cp, 0, none⟩) :: cfL t.cfg) 41) :: Fc) (by repeat (first | exact keeps_nil | apply keeps_cons (by repeat (first | exact find_head | apply find_tail)) (by first  | rfl) | exact keeps_self | exact keeps_left | exact keeps_right | exact keeps_swap | apply keeps_mv))
              have hfin : ∃ t', StepR o t t' ∧ SI t' ∧ WB ((bp, C (.pointer (some ⟨cp, 0, none⟩) :: cfL t.cfg) 41) :: Fc) bp t' := ⟨{ t with s := idleP t.s }, .inr (.inr (.inr (.inr (.inr (.inl ⟨hc10, rfl⟩))))), si_idle hi, cp, Fc, hcm9, rfl⟩
              refine blk_normal ?_
              refine then_normal ?_
              refine c_seq ?_
              refine c_region ?_
              refine wl (wl_val hl rfl trivial (r_assign hl rfl) ?_)
              clear hl a; intro a hl
              refine w_nil ?_
              have hl2 := hl.add (t := 6) (hl.nil) rfl; clear hl; have hl := hl2; clear hl2
              refine then_normal ?_
              refine wp_ret ?_
              refine f_ret1 hl hh rfl rfl keeps_self ?_
              exact ⟨rfl, hfin⟩
            · intro hc10
              try simp only [decide_eq_true_eq, decide_eq_false_iff_not, Bool.not_eq_true', Bool.not_eq_false', Bool.not_eq_true, Bool.not_eq_false, Bool.and_eq_true, Bool.or_eq_true, Bool.and_eq_false_iff, Bool.or_eq_false_iff, Bool.not_not, ne_eq, Int.not_lt, Int.not_le, Decidable.not_not, beq_iff_eq, bne_iff_ne] at hc10
              replace hh := hh.keep (F' := (bp, C (.pointer (some ⟨cp, 0, none⟩) :: cfL t.cfg) 41) :: Zc) (by repeat (first | exact keeps_nil | apply keeps_cons (by repeat (first | exact find_head | apply find_tail)) (by first  | rfl) | exact keeps_self | exact keeps_left | exact keeps_right | exact keeps_swap | apply keeps_mv))
              have hfin : ∃ t', StepR o t t' ∧ SI t' ∧ WB ((bp, C (.pointer (some ⟨cp, 0, none⟩) :: cfL t.cfg) 41) :: Zc) bp t' := ⟨t, .inr (.inr (.inr (.inr (.inr (.inr ⟨by omega, rfl⟩))))), hi, cp, Zc, hcm, rfl⟩
              refine wp_skip ?_
              refine blk_normal ?_
              refine then_normal ?_
              refine c_seq ?_
              refine c_region ?_
              refine wl (wl_val hl rfl trivial (r_assign hl rfl) ?_)
              clear hl a; intro a hl
              refine w_nil ?_
              have hl2 := hl.add (t := 6) (hl.nil) rfl; clear hl; have hl := hl2; clear hl2
              refine then_normal ?_
              refine wp_ret ?_
              refine f_ret1 hl hh rfl rfl keeps_self ?_
              exact ⟨rfl, hfin⟩
end Go.Proofs.Qxb6500912aDoor

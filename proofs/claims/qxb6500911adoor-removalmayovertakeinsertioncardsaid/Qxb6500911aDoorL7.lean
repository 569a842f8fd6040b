import Derived.Test.Qxb6500911aDoorA26
namespace Go.Proofs.Qxb6500911aDoor
open Go.Eng
set_option linter.unusedVariables false
set_option linter.unusedSimpArgs false
theorem cal11 : callable Tryd.prog 11 = true := by kernel_rfl
theorem cal12 : callable Tryd.prog 12 = true := by kernel_rfl
theorem fldT28_0 : fieldTOk Tryd.prog 28 0 0 24 = true := by kernel_rfl
theorem agg32 : aggOk Tryd.prog 32 4 = true := by kernel_rfl
theorem zero32 : zeroOk Tryd.prog 32 (.agg #[(.int .u8 0), (.int .i64 0), (.int .i64 0), (.int .i64 0)]) := by unfold zeroOk; kernel_rfl
theorem cal13 : callable Tryd.prog 13 = true := by kernel_rfl
theorem cal20 : callable Tryd.prog 20 = true := by kernel_rfl
theorem cal31 : callable Tryd.prog 31 = true := by kernel_rfl
theorem cal32 : callable Tryd.prog 32 = true := by kernel_rfl
theorem zero24 : zeroOk Tryd.prog 24 (.pointer none) := by unfold zeroOk; kernel_rfl
theorem zero58 : zeroOk Tryd.prog 58 (.int .i64 0) := by unfold zeroOk; kernel_rfl
theorem zero48 : zeroOk Tryd.prog 48 (.int .u64 0) := by unfold zeroOk; kernel_rfl
theorem zero85 : zeroOk Tryd.prog 85 (.agg #[(.int .i64 0), (.int .i64 0), (.int .u32 0), (.int .u64 0), (.int .u64 0), (.int .u64 0), (.int .u64 0), (.int .i64 0), (.int .i64 0), (.int .u32 0), (.int .u64 0), (.int .u64 0), (.int .u64 0), (.int .u64 0), (.int .i64 0), (.int .i64 0), (.int .u32 0), (.int .u64 0), (.int .u64 0), (.int .u64 0), (.int .u64 0)]) := by unfold zeroOk; kernel_rfl
theorem bld85 : buildOk Tryd.prog 85 [(0, 7), (7, 7), (14, 7)] = true := by kernel_rfl
theorem agg85 : aggOk Tryd.prog 85 21 = true := by kernel_rfl
theorem app86 : appOk Tryd.prog 86 3 1 8 = true := by kernel_rfl
theorem zero3 : zeroOk Tryd.prog 3 (.int .i64 0) := by unfold zeroOk; kernel_rfl
theorem app91 : appOk Tryd.prog 91 86 1 24 = true := by kernel_rfl
theorem zero86 : zeroOk Tryd.prog 86 (.slice none 0 0) := by unfold zeroOk; kernel_rfl
theorem slc91 : slcOk Tryd.prog 91 1 = true := by kernel_rfl
theorem one86 : oneOk Tryd.prog 86 = true := by kernel_rfl
attribute [local irreducible] sysL

theorem set9 (x y : Int) : setL [Value.int .u64 x] 0 [Value.int .u64 y] = [.int .u64 y] := rfl
theorem sl_mask {dfs : List Deferred} {n t : Nat} {L : List (Nat × Value)} {a : Act} {X : Int} (h : SlD dfs n ((t, .int .u16 X) :: L) a) (hX : 0 ≤ X ∧ X ≤ 65535) : ∃ s : BitVec 16, SlD dfs n ((t, .int .u16 (mi s)) :: L) a := by
  obtain ⟨s, rfl⟩ := mi_of hX
  exact ⟨s, h⟩
theorem mem1 {k : Nat} {o : Obj} {w : World} (h : Mem [(k, o)] w) : w.heap[k]? = some o := h _ _ (.head _)
theorem cut_bit (s0 : BitVec 16) (w : Nat) (hw : w < 16) : (s0 &&& ~~~ bitB w).getLsbD w = false := by
  unfold bitB
  rw [BitVec.getLsbD_and, BitVec.getLsbD_not, BitVec.getLsbD_twoPow]
  simp
structure L7Z where
  g : Gs
  M : Mm
  i : Nat


set_option maxHeartbeats 16000000 in
theorem law7 (sb : Nat) (c : List Value) (T : TypeId) (fr : Nat × Nat) (p : Option Addr) (n cap : Nat) (ops : List DO) (hn : n = ops.length) (hlen : n ≤ 9223372036854775807) (h : Ops sb c p cap ops) (tT : TypeId) (tf : Nat × Nat) : SpK Tryd.prog 7 #[.slice p n cap] (fun w => OpsIn sb c T fr ops w ∧ w.heap[0]? = some (.cells ⟨tabL⟩ tT tf)) [] (fun v F' => v = .bool true ∧ F' = []) := by
  refine f_enter (args := [.slice p n cap]) Tryd.func7 rfl Tryd.ntmps7 rfl ?_
  intro w0 w a hpre hl hh
  simp only [slotsFrom, Nat.reduceAdd] at hl
  refine c_seq ?_
  refine c_region ?_
  refine wl (wl_val hl rfl trivial (r_assign hl rfl) ?_)
  clear hl a; intro a hl
  refine w_nil ?_
  have hl2 := hl.add (t := 0) (hl.nil) rfl; clear hl; have hl := hl2; clear hl2
  refine then_normal ?_
  refine c_seq ?_
  refine c_seq ?_
  refine c_region ?_
  refine wl (wl_val hl rfl trivial (r_move hl rfl) ?_)
  clear hl a; intro a hl
  refine wl (w_call hl hh rfl trivial rfl cal11 rfl (small_spec p n cap hlen) (by repeat (first | exact keeps_nil | apply keeps_cons (by repeat (first | exact find_head | apply find_tail | apply find_skip)) (by first  | rfl) | exact keeps_self | exact keeps_left | apply keeps_app | apply keeps_mv | apply keeps_skip)) trivial ?_)
  clear hl hh a w; intro vc Fc a w hR hl hh
  obtain ⟨rfl, rfl⟩ := hR
  try simp only [List.cons_append, List.nil_append, List.append_assoc, List.append_nil] at hh
  refine wl (wl_val hl rfl trivial (r_not hl rfl) ?_)
  clear hl a; intro a hl
  refine w_nil ?_
  have hl2 := hl.add (t := 0) (hl.add (t := 22) (hl.nil) rfl) rfl; clear hl; have hl := hl2; clear hl2
  refine then_normal ?_
  refine c_cond hl rfl ?_ ?_
  · intro hc0
    try simp only [decide_eq_true_eq, decide_eq_false_iff_not, Bool.not_eq_true', Bool.not_eq_false', Bool.not_eq_true, Bool.not_eq_false, Bool.and_eq_true, Bool.or_eq_true, Bool.and_eq_false_iff, Bool.or_eq_false_iff, Bool.not_not, ne_eq, Int.not_lt, Int.not_le, Decidable.not_not, beq_iff_eq, bne_iff_ne] at hc0
    refine c_seq ?_
    refine c_region ?_
    refine wl (wl_val hl rfl trivial (r_assign hl rfl) ?_)
    clear hl a; intro a hl
    refine w_nil ?_
    have hl2 := hl.add (t := 2) (hl.nil) rfl; clear hl; have hl := hl2; clear hl2
    refine then_normal ?_
    refine wp_ret ?_
    refine then_ret ?_
    refine f_ret1 (F' := []) hl hh rfl rfl (by repeat (first | exact keeps_nil | apply keeps_cons (by repeat (first | exact find_head | apply find_tail | apply find_skip)) (by first  | rfl) | exact keeps_self | exact keeps_left | apply keeps_app | apply keeps_mv | apply keeps_skip)) ?_
    exact ⟨rfl, rfl⟩
  · intro hc0
    try simp only [decide_eq_true_eq, decide_eq_false_iff_not, Bool.not_eq_true', Bool.not_eq_false', Bool.not_eq_true, Bool.not_eq_false, Bool.and_eq_true, Bool.or_eq_true, Bool.and_eq_false_iff, Bool.or_eq_false_iff, Bool.not_not, ne_eq, Int.not_lt, Int.not_le, Decidable.not_not, beq_iff_eq, bne_iff_ne] at hc0
    have hn6 : n ≤ 65536 := by simpa using hc0
    refine wp_skip ?_
    refine then_normal ?_
    refine c_seq ?_
    refine c_region ?_
    refine wl (w_call hl hh rfl trivial rfl cal12 rfl (fresh_spec) (by repeat (first | exact keeps_nil | apply keeps_cons (by repeat (first | exact find_head | apply find_tail | apply find_skip)) (by first  | rfl) | exact keeps_self | exact keeps_left | apply keeps_app | apply keeps_mv | apply keeps_skip)) trivial ?_)
    clear hl hh a w; intro vc Fc a w hR hl hh
    obtain ⟨bg, bm, bt, rfl, hF0⟩ := hR
    try simp only [List.cons_append, List.nil_append, List.append_assoc, List.append_nil] at hh
    subst hF0
    refine wl (wl_val hl rfl trivial (r_fieldV hl rfl fldT28_0 one24 rfl) ?_)
    clear hl a; intro a hl
    refine wl (w_alloc hl hh rfl trivial zero24 rfl ?_)
    clear hl hh a w; intro k3 a w hl hh
    refine wl (w_store hl hh trivial one24 rfl rfl (by repeat (first | exact find_head | apply find_tail | apply find_skip)) (by first | (simp; done) | (simp; omega) | (rw [arrL_length]; omega)) (by first | rfl | assumption | (apply Row.one; assumption)) (by first | exact setL_whole (arrL_length _ _) | (simp only [setL, List.getElem?_cons_zero, List.getElem?_cons_succ, Value.cells, List.take_zero, List.take_succ_cons, List.take_nil, List.drop_zero, List.drop_succ_cons, List.drop_nil, List.length_cons, List.length_nil, List.cons_append, List.nil_append, List.append_nil, Nat.zero_add, Nat.add_zero, Nat.reduceAdd, Nat.reduceBEq, Nat.reduceEqDiff, Nat.ble, BEq.rfl, Bool.and_true, Bool.and_self, cond_true, beq_self_eq_true]; rfl)) ?_)
    clear hh w; intro w hh
    refine w_nil ?_
    have hl2 := hl.add (t := 0) (hl.add (t := 3) (hl.nil) rfl) rfl; clear hl; have hl := hl2; clear hl2
    refine then_normal ?_
    refine c_seq ?_
    refine c_seq ?_
    refine c_region ?_
    refine wl (wl_val hl rfl trivial (r_move hl rfl) ?_)
    clear hl a; intro a hl
    refine wl (wl_val hl rfl trivial (r_lenS hl rfl slc22) ?_)
    clear hl a; intro a hl
    refine wl (wl_val hl rfl trivial (r_move hl rfl) ?_)
    clear hl a; intro a hl
    refine w_nil ?_
    have hl2 := hl.add (t := 3) (hl.add (t := 25) (hl.add (t := 26) (hl.add (t := 27) (hl.nil) rfl) rfl) rfl) rfl; clear hl; have hl := hl2; clear hl2
    refine then_normal ?_
    refine wp_block ?_
    obtain ⟨KS0, hKS0, hk⟩ := (hl.add (t := 3) (hl.add (t := 25) (hl.add (t := 26) (hl.nil) rfl) rfl) rfl).name
    obtain ⟨HS0, hHS0, hh2⟩ := hh.nameT (A := []) (U := (sysL bg (M00 bm bt))) ((by repeat (first | exact keeps_nil | exact keeps_self | exact keeps_left | apply keeps_app | apply keeps_mv | apply keeps_skip)))
    refine c_loop (α := L7Z) (fun z => ops.length - z.i) (fun z a w => (z.i ≤ ops.length ∧ SysF z.g z.M ∧ GI (40 * z.i) (400 * z.i) z.g) ∧ Sl 109 ([(27, .int .i64 (z.i : Int))] ++ KS0) a ∧ Has _ w0 ([] ++ (HS0 ++ (sysL bg z.M))) w) ⟨g00, M00 bm bt, 0⟩ ⟨⟨Nat.zero_le _, sys00 bm bt, by simpa using GI00⟩, hl.addE (t := 27) (hk) rfl (by first | rfl), hh2⟩ ?_
    clear hk hh2 hl hh a w
    intro z a w hI
    obtain ⟨⟨hzi, hS, hG⟩, hl, hh⟩ := hI
    subst hKS0; subst hHS0
    simp only [List.cons_append, List.nil_append, List.append_nil, List.append_assoc] at hl hh
    refine c_seq ?_
    refine c_region ?_
    refine wl (wl_val hl rfl trivial (r_lss hl rfl rfl) ?_)
    clear hl a; intro a hl
    refine w_nil ?_
    have hl2 := hl.add (t := 3) (hl.add (t := 25) (hl.add (t := 26) (hl.add (t := 27) (hl.add (t := 28) (hl.nil) rfl) rfl) rfl) rfl) rfl; clear hl; have hl := hl2; clear hl2
    refine then_normal ?_
    refine c_seq ?_
    refine c_cond hl rfl ?_ ?_
    · intro hc1
      try simp only [decide_eq_true_eq, decide_eq_false_iff_not, Bool.not_eq_true', Bool.not_eq_false', Bool.not_eq_true, Bool.not_eq_false, Bool.and_eq_true, Bool.or_eq_true, Bool.and_eq_false_iff, Bool.or_eq_false_iff, Bool.not_not, ne_eq, Int.not_lt, Int.not_le, Decidable.not_not, beq_iff_eq, bne_iff_ne] at hc1
      obtain ⟨so, hso, hat⟩ := h.at_ (by omega)
      subst hso
      obtain ⟨o, hoi⟩ : ∃ o, ops[z.i]? = some o := ⟨_, List.getElem?_eq_getElem (by omega)⟩
      have hopv := hat _ o hoi
      have hok := h.ok o (List.mem_of_getElem? hoi)
      have hin := hpre.1 (by omega)
      have hoa := hok.a; have hob := hok.b; have hoc := hok.c; have hokk := hok.k
      have hzn : z.i < n := by omega
      refine wp_skip ?_
      refine then_normal ?_
      refine c_seq ?_
      refine wp_block ?_
      refine c_seq ?_
      refine c_region ?_
      refine wl (wl_val hl rfl trivial (r_indexS hl rfl rfl slc22 (by omega) (by omega) (by first | (simp only [Int.reduceToNat]; rfl) | exact toNat_add1 _ | exact toNat_add2 _ _ | exact toNat_emod _ _ | exact Int.toNat_natCast _ | rfl)) ?_)
      clear hl a; intro a hl
      first | refine wl (w_loadA hl hh rfl trivial agg32 rfl (by repeat (first | exact find_head | apply find_tail | apply find_skip)) (by first | rfl | exact arrL_length _ _ | (simp only [List.getElem?_cons_zero, List.getElem?_cons_succ, Value.cells, List.take_zero, List.take_succ_cons, List.take_nil, List.drop_zero, List.drop_succ_cons, List.drop_nil, List.length_cons, List.length_nil, List.cons_append, List.nil_append, List.append_nil, Nat.zero_add, Nat.add_zero, Nat.reduceAdd, Nat.reduceBEq, Nat.reduceEqDiff, Nat.ble, BEq.rfl, Bool.and_true, Bool.and_self, cond_true, beq_self_eq_true]; rfl)) (by first | rfl | (simp; done)) ?_) | refine wl (w_loadRA hl hh rfl trivial agg32 rfl hin (by simp) hopv rfl ?_)
      clear hl a; intro a hl
      refine wl (w_alloc hl hh rfl trivial zero32 rfl ?_)
      clear hl hh a w; intro k5 a w hl hh
      refine wl (w_storeA hl hh trivial agg32 rfl rfl (by repeat (first | exact find_head | apply find_tail | apply find_skip)) (by first | rfl | (simp; done) | rfl | exact arrL_length _ _) (by first | (simp; done) | (simp; omega) | (rw [arrL_length]; omega)) (by first | rfl | (simp; done) | rfl | exact arrL_all (fun j => ite_one hR0.one rfl) | exact arrL_all (fun j => ite_one hR1.one rfl) | exact arrL_all (fun j => ite_one hR2.one rfl) | exact arrL_all (fun j => ite_one hR3.one rfl) | exact arrL_all (fun j => ite_one hR4.one rfl)) (by first | exact setL_whole (arrL_length _ _) | (simp only [setL, List.getElem?_cons_zero, List.getElem?_cons_succ, Value.cells, List.take_zero, List.take_succ_cons, List.take_nil, List.drop_zero, List.drop_succ_cons, List.drop_nil, List.length_cons, List.length_nil, List.cons_append, List.nil_append, List.append_nil, Nat.zero_add, Nat.add_zero, Nat.reduceAdd, Nat.reduceBEq, Nat.reduceEqDiff, Nat.ble, BEq.rfl, Bool.and_true, Bool.and_self, cond_true, beq_self_eq_true]; rfl)) ?_)
      clear hh w; intro w hh
      refine w_nil ?_
      have hl2 := hl.add (t := 3) (hl.add (t := 5) (hl.add (t := 25) (hl.add (t := 26) (hl.add (t := 27) (hl.nil) rfl) rfl) rfl) rfl) rfl; clear hl; have hl := hl2; clear hl2
      refine then_normal ?_
      refine c_seq ?_
      refine c_region ?_
      refine wl (w_load hl hh rfl trivial one24 rfl (by repeat (first | exact find_head | apply find_tail | apply find_skip)) (by first | exact hcell | rfl | rfl) ?_)
      clear hl a; intro a hl
      first | refine wl (w_loadA hl hh rfl trivial agg32 rfl (by repeat (first | exact find_head | apply find_tail | apply find_skip)) (by first | rfl | exact arrL_length _ _ | (simp only [List.getElem?_cons_zero, List.getElem?_cons_succ, Value.cells, List.take_zero, List.take_succ_cons, List.take_nil, List.drop_zero, List.drop_succ_cons, List.drop_nil, List.length_cons, List.length_nil, List.cons_append, List.nil_append, List.append_nil, Nat.zero_add, Nat.add_zero, Nat.reduceAdd, Nat.reduceBEq, Nat.reduceEqDiff, Nat.ble, BEq.rfl, Bool.and_true, Bool.and_self, cond_true, beq_self_eq_true]; rfl)) (by first | rfl | (simp; done)) ?_) | refine wl (w_loadRA hl hh rfl trivial agg32 rfl hin (by simp) hopv rfl ?_)
      clear hl a; intro a hl
      refine wl (w_call hl hh rfl trivial rfl cal13 rfl (step_spec hS bg tT tf (40 * z.i) (400 * z.i) ⟨by omega, by omega⟩ (by omega) (by omega) hG o.k o.a o.b o.c hoa) (by repeat (first | exact keeps_nil | apply keeps_cons (by repeat (first | exact find_head | apply find_tail | apply find_skip)) (by first  | rfl) | exact keeps_self | exact keeps_left | apply keeps_app | apply keeps_mv | apply keeps_skip)) (pt_law hh hpre.2 (by repeat (first | exact keeps_nil | apply keeps_cons (by repeat (first | exact find_head | apply find_tail | apply find_skip)) (by first  | rfl) | exact keeps_self | exact keeps_left | apply keeps_app | apply keeps_mv | apply keeps_skip))) ?_)
      clear hl hh a w; intro vc Fc a w hR hl hh
      obtain ⟨rfl, M2, hF2, hS2, hG2, hbm2, hbt2⟩ := hR
      try simp only [List.cons_append, List.nil_append, List.append_assoc, List.append_nil] at hh
      subst hF2
      obtain ⟨g2, hg2⟩ : ∃ z_, z_ = (stepG z.g ⟨o.k, o.a, o.b, o.c⟩).1 := ⟨_, rfl⟩
      obtain ⟨cd, hcd⟩ : ∃ z_, z_ = (stepG z.g ⟨o.k, o.a, o.b, o.c⟩).2.1 := ⟨_, rfl⟩
      obtain ⟨wk, hwk⟩ : ∃ z_, z_ = (stepG z.g ⟨o.k, o.a, o.b, o.c⟩).2.2 := ⟨_, rfl⟩
      rw [← hg2] at hS2 hG2
      rw [← hcd, ← hwk] at hl
      have hG3 : GI (40 * ((z.i + 1 : Nat) : Int)) (400 * ((z.i + 1 : Nat) : Int)) g2 := by
        rw [show 40 * ((z.i + 1 : Nat) : Int) = 40 * (z.i : Int) + 40 by omega, show 400 * ((z.i + 1 : Nat) : Int) = 400 * (z.i : Int) + 400 by omega]; exact hG2
      refine w_nil ?_
      have hl2 := hl.add (t := 3) (hl.add (t := 5) (hl.add (t := 25) (hl.add (t := 26) (hl.add (t := 27) (hl.nil) rfl) rfl) rfl) rfl) rfl; clear hl; have hl := hl2; clear hl2
      have hG4 : GI (40 * ((z.i + 1 : Nat) : Int)) (400 * ((z.i + 1 : Nat) : Int) + 4) g2 := hG3.mono (Int.le_refl _) (by omega)
      refine then_normal ?_
      refine c_seq ?_
      refine c_region ?_
      refine wl (wl_val hl rfl trivial (r_field hl rfl fld32_1) ?_)
      clear hl a; intro a hl
      refine wl (w_load hl hh rfl trivial one2 rfl (by repeat (first | exact find_head | apply find_tail | apply find_skip)) (by first | exact hcell | rfl | rfl) ?_)
      clear hl a; intro a hl
      refine wl (w_call hl hh rfl trivial rfl cal30 rfl (low16_spec o.a) (by repeat (first | exact keeps_nil | apply keeps_cons (by repeat (first | exact find_head | apply find_tail | apply find_skip)) (by first  | rfl) | exact keeps_self | exact keeps_left | apply keeps_app | apply keeps_mv | apply keeps_skip)) trivial ?_)
      clear hl hh a w; intro vc Fc a w hR hl hh
      obtain ⟨rfl, rfl⟩ := hR
      try simp only [List.cons_append, List.nil_append, List.append_assoc, List.append_nil] at hh
      obtain ⟨wn, hwn⟩ : ∃ m : Nat, o.a % 16 = m := ⟨(o.a % 16).toNat, by omega⟩
      rw [hwn] at hl
      have hwn16 : wn < 16 := by omega
      refine wl (w_alloc hl hh rfl trivial zero52 rfl ?_)
      clear hl hh a w; intro k6 a w hl hh
      refine wl (w_store hl hh trivial one52 rfl rfl (by repeat (first | exact find_head | apply find_tail | apply find_skip)) (by first | (simp; done) | (simp; omega) | (rw [arrL_length]; omega)) (by first | rfl | assumption | (apply Row.one; assumption)) (by first | exact setL_whole (arrL_length _ _) | (simp only [setL, List.getElem?_cons_zero, List.getElem?_cons_succ, Value.cells, List.take_zero, List.take_succ_cons, List.take_nil, List.drop_zero, List.drop_succ_cons, List.drop_nil, List.length_cons, List.length_nil, List.cons_append, List.nil_append, List.append_nil, Nat.zero_add, Nat.add_zero, Nat.reduceAdd, Nat.reduceBEq, Nat.reduceEqDiff, Nat.ble, BEq.rfl, Bool.and_true, Bool.and_self, cond_true, beq_self_eq_true]; rfl)) ?_)
      clear hh w; intro w hh
      refine w_nil ?_
      have hl2 := hl.add (t := 3) (hl.add (t := 5) (hl.add (t := 6) (hl.add (t := 25) (hl.add (t := 26) (hl.add (t := 27) (hl.nil) rfl) rfl) rfl) rfl) rfl) rfl; clear hl; have hl := hl2; clear hl2
      refine then_normal ?_
      refine c_seq ?_
      refine c_draw [(k5, C (opc o) 32), (k6, C [.int .i64 (wn : Int)] 52)] [8, 9] mixed hh ?_
      clear hh w; intro w hh
      have hM : Mem [(k5, C (opc o) 32), (k6, C [.int .i64 (wn : Int)] 52)] w := (memK hh (by repeat (first | exact keeps_nil | apply keeps_cons (by repeat (first | exact find_head | apply find_tail | apply find_skip)) (by first  | rfl) | exact keeps_self | exact keeps_left | apply keeps_app | apply keeps_mv | apply keeps_skip)))
      refine d_take (i := 0) hl rfl (by kernel_rfl) (by kernel_rfl) (by kernel_rfl) (by kernel_rfl) (by kernel_rfl) rfl trivial (fun _ _ _ h => h) hM (fun w hC => r_field hl rfl fld32_2) rfl ?_
      clear hl a; intro a hl
      refine d_take (i := 1) hl rfl (by kernel_rfl) (by kernel_rfl) (by kernel_rfl) (by kernel_rfl) (by kernel_rfl) rfl trivial (fun _ _ _ h => h) hM (fun w hC => r_loadC hl rfl one2 hC (by repeat (first | exact find_head | apply find_tail | apply find_skip)) (by first | exact hcell | rfl | rfl)) rfl ?_
      clear hl a; intro a hl
      refine d_take (i := 2) hl rfl (by kernel_rfl) (by kernel_rfl) (by kernel_rfl) (by kernel_rfl) (by kernel_rfl) rfl trivial (fun _ _ _ h => h) hM (fun w hC => r_field hl rfl fld32_3) rfl ?_
      clear hl a; intro a hl
      refine d_take (i := 3) hl rfl (by kernel_rfl) (by kernel_rfl) (by kernel_rfl) (by kernel_rfl) (by kernel_rfl) rfl trivial (fun _ _ _ h => h) hM (fun w hC => r_loadC hl rfl one2 hC (by repeat (first | exact find_head | apply find_tail | apply find_skip)) (by first | exact hcell | rfl | rfl)) rfl ?_
      clear hl a; intro a hl
      first | refine d_take (i := 4) hl rfl (by kernel_rfl) (by kernel_rfl) (by kernel_rfl) (by kernel_rfl) (by kernel_rfl) rfl trivial (fun _ _ _ h => h) hM (fun w hC => r_add hl rfl rfl (by simp only [Fits]; omega)) rfl ?_ | refine d_take (i := 4) hl rfl (by kernel_rfl) (by kernel_rfl) (by kernel_rfl) (by kernel_rfl) (by kernel_rfl) rfl trivial (fun _ _ _ h => h) hM (fun w hC => r_addW hl rfl rfl) rfl ?_
      clear hl a; intro a hl
      first | refine d_take (i := 5) hl rfl (by kernel_rfl) (by kernel_rfl) (by kernel_rfl) (by kernel_rfl) (by kernel_rfl) rfl trivial (fun _ _ _ h => h) hM (fun w hC => r_conv hl rfl Tryd.underlying2 Tryd.underlying35 (by simp only [Fits]; omega)) rfl ?_ | refine d_take (i := 5) hl rfl (by kernel_rfl) (by kernel_rfl) (by kernel_rfl) (by kernel_rfl) (by kernel_rfl) rfl trivial (fun _ _ _ h => h) hM (fun w hC => r_convM wm_u16 hl rfl Tryd.underlying2 Tryd.underlying35) rfl ?_
      clear hl a; intro a hl
      obtain ⟨s0, hl9⟩ := sl_mask hl (by omega)
      clear hl
      have hl := hl9
      clear hl9
      refine d_take (i := 6) hl rfl (by kernel_rfl) (by kernel_rfl) (by kernel_rfl) (by kernel_rfl) (by kernel_rfl) rfl trivial (fun _ _ _ h => h) hM (fun w hC => r_loadC hl rfl one52 hC (by repeat (first | exact find_head | apply find_tail | apply find_skip)) (by first | exact hcell | rfl | rfl)) rfl ?_
      clear hl a; intro a hl
      refine d_one (i := 7) (by kernel_rfl) rfl ?_
      try clear hM
      refine id (w_call hl hh rfl trivial rfl cal27 rfl (bit_spec wn hwn16) (by repeat (first | exact keeps_nil | apply keeps_cons (by repeat (first | exact find_head | apply find_tail | apply find_skip)) (by first  | rfl) | exact keeps_self | exact keeps_left | apply keeps_app | apply keeps_mv | apply keeps_skip)) trivial ?_)
      clear hl hh a w; intro vc Fc a w hR hl hh
      obtain ⟨rfl, rfl⟩ := hR
      try simp only [List.cons_append, List.nil_append, List.append_assoc, List.append_nil] at hh
      have hM : Mem [(k5, C (opc o) 32), (k6, C [.int .i64 (wn : Int)] 52)] w := (memK hh (by repeat (first | exact keeps_nil | apply keeps_cons (by repeat (first | exact find_head | apply find_tail | apply find_skip)) (by first  | rfl) | exact keeps_self | exact keeps_left | apply keeps_app | apply keeps_mv | apply keeps_skip)))
      refine d_step (fun _ => hM) ?_
      refine d_takeL (i := 8) hl rfl (by kernel_rfl) (by kernel_rfl) (by kernel_rfl) (by kernel_rfl) (by kernel_rfl) rfl trivial (fun _ _ _ h => h) (fun w => r_andNot hl rfl rfl) rfl ?_
      clear hl a; intro a hl
      rw [andNot_mi] at hl
      obtain ⟨s, hs⟩ : ∃ z_, z_ = s0 &&& ~~~ bitB wn := ⟨_, rfl⟩
      rw [← hs] at hl
      have hsb : s.getLsbD wn = false := by rw [hs]; exact cut_bit s0 wn hwn16
      refine d_takeL (i := 9) hl rfl (by kernel_rfl) (by kernel_rfl) (by kernel_rfl) (by kernel_rfl) (by kernel_rfl) rfl trivial (fun _ _ _ h => h) (fun w => r_assign hl rfl) rfl ?_
      clear hl a; intro a hl
      refine d_done (by kernel_rfl) ?_
      try clear hM
      have hl2 := hl.add (t := 3) (hl.add (t := 5) (hl.add (t := 6) (hl.add (t := 7) (hl.add (t := 25) (hl.add (t := 26) (hl.add (t := 27) (hl.nil) rfl) rfl) rfl) rfl) rfl) rfl) rfl; clear hl; have hl := hl2; clear hl2
      refine then_normal ?_
      refine c_seq ?_
      refine c_seq ?_
      refine c_region ?_
      refine wl (wl_val hl rfl trivial (r_move hl rfl) ?_)
      clear hl a; intro a hl
      refine wl (wl_val hl rfl trivial (r_eql hl rfl rfl) ?_)
      clear hl a; intro a hl
      refine w_nil ?_
      have hl2 := hl.add (t := 3) (hl.add (t := 5) (hl.add (t := 6) (hl.add (t := 7) (hl.add (t := 25) (hl.add (t := 26) (hl.add (t := 27) (hl.add (t := 47) (hl.nil) rfl) rfl) rfl) rfl) rfl) rfl) rfl) rfl; clear hl; have hl := hl2; clear hl2
      refine then_normal ?_
      refine c_cond hl rfl ?_ ?_
      · intro hc2
        try simp only [decide_eq_true_eq, decide_eq_false_iff_not, Bool.not_eq_true', Bool.not_eq_false', Bool.not_eq_true, Bool.not_eq_false, Bool.and_eq_true, Bool.or_eq_true, Bool.and_eq_false_iff, Bool.or_eq_false_iff, Bool.not_not, ne_eq, Int.not_lt, Int.not_le, Decidable.not_not, beq_iff_eq, bne_iff_ne] at hc2
        refine wp_exit ?_
        refine then_exit ?_
        refine blk_exit ?_
        refine then_normal ?_
        refine c_region ?_
        first | refine wl (wl_val hl rfl trivial (r_add hl rfl rfl (by simp only [Fits]; omega)) ?_) | refine wl (wl_val hl rfl trivial (r_addW hl rfl rfl) ?_)
        clear hl a; intro a hl
        refine wl (wl_val hl rfl trivial (r_move hl rfl) ?_)
        clear hl a; intro a hl
        refine w_nil ?_
        have hl2 := hl.add (t := 3) (hl.add (t := 25) (hl.add (t := 26) (hl.add (t := 27) (hl.nil) rfl) rfl) rfl) rfl; clear hl; have hl := hl2; clear hl2
        refine then_normal ?_
        refine ⟨⟨g2, M2, z.i + 1⟩, (by simp only; omega), ⟨by simp only; omega, hS2, hG3⟩, hl.addE (t := 27) (hl.addE (t := 3) (hl.addE (t := 25) (hl.addE (t := 26) (hl.nil) rfl (by first | rfl | (congr 1; omega))) rfl (by first | rfl | (congr 1; omega))) rfl (by first | rfl | (congr 1; omega))) rfl (by first | rfl | (congr 1; omega)), hh.keep (by repeat (first | exact keeps_nil | apply keeps_cons (by repeat (first | exact find_head | apply find_tail | apply find_skip)) (by first  | rfl) | exact keeps_self | exact keeps_left | apply keeps_app | apply keeps_mv | apply keeps_skip))⟩
      · intro hc2
        try simp only [decide_eq_true_eq, decide_eq_false_iff_not, Bool.not_eq_true', Bool.not_eq_false', Bool.not_eq_true, Bool.not_eq_false, Bool.and_eq_true, Bool.or_eq_true, Bool.and_eq_false_iff, Bool.or_eq_false_iff, Bool.not_not, ne_eq, Int.not_lt, Int.not_le, Decidable.not_not, beq_iff_eq, bne_iff_ne] at hc2
        have hsz : s ≠ 0#16 := fun h => by rw [h] at hc2; exact hc2 rfl
        refine wp_skip ?_
        refine then_normal ?_
        refine c_seq ?_
        refine c_region ?_
        refine wl (w_load hl hh rfl trivial one52 rfl (by repeat (first | exact find_head | apply find_tail | apply find_skip)) (by first | exact hcell | rfl | rfl) ?_)
        clear hl a; intro a hl
        refine wl (w_call hl hh rfl trivial rfl cal23 rfl (home_spec wn hwn16) (by repeat (first | exact keeps_nil | apply keeps_cons (by repeat (first | exact find_head | apply find_tail | apply find_skip)) (by first  | rfl) | exact keeps_self | exact keeps_left | apply keeps_app | apply keeps_mv | apply keeps_skip)) trivial ?_)
        clear hl hh a w; intro vc Fc a w hR hl hh
        obtain ⟨rfl, rfl⟩ := hR
        try simp only [List.cons_append, List.nil_append, List.append_assoc, List.append_nil] at hh
        refine wl (w_alloc hl hh rfl trivial zero58 rfl ?_)
        clear hl hh a w; intro k8 a w hl hh
        refine wl (w_store hl hh trivial one58 rfl rfl (by repeat (first | exact find_head | apply find_tail | apply find_skip)) (by first | (simp; done) | (simp; omega) | (rw [arrL_length]; omega)) (by first | rfl | assumption | (apply Row.one; assumption)) (by first | exact setL_whole (arrL_length _ _) | (simp only [setL, List.getElem?_cons_zero, List.getElem?_cons_succ, Value.cells, List.take_zero, List.take_succ_cons, List.take_nil, List.drop_zero, List.drop_succ_cons, List.drop_nil, List.length_cons, List.length_nil, List.cons_append, List.nil_append, List.append_nil, Nat.zero_add, Nat.add_zero, Nat.reduceAdd, Nat.reduceBEq, Nat.reduceEqDiff, Nat.ble, BEq.rfl, Bool.and_true, Bool.and_self, cond_true, beq_self_eq_true]; rfl)) ?_)
        clear hh w; intro w hh
        refine w_nil ?_
        have hl2 := hl.add (t := 3) (hl.add (t := 5) (hl.add (t := 6) (hl.add (t := 7) (hl.add (t := 8) (hl.add (t := 25) (hl.add (t := 26) (hl.add (t := 27) (hl.nil) rfl) rfl) rfl) rfl) rfl) rfl) rfl) rfl; clear hl; have hl := hl2; clear hl2
        have hok7 := hG3.ok wn hwn16
        have hep9 := hG3.ep.bd wn hwn16
        refine then_normal ?_
        refine c_seq ?_
        refine c_draw [(k3, C [.pointer (some ⟨bg, 0, none⟩)] 24), (k5, C (opc o) 32), (k6, C [.int .i64 (wn : Int)] 52)] [9] mixed hh ?_
        clear hh w; intro w hh
        have hM : Mem [(k3, C [.pointer (some ⟨bg, 0, none⟩)] 24), (k5, C (opc o) 32), (k6, C [.int .i64 (wn : Int)] 52)] w := (memK hh (by repeat (first | exact keeps_nil | apply keeps_cons (by repeat (first | exact find_head | apply find_tail | apply find_skip)) (by first  | rfl) | exact keeps_self | exact keeps_left | apply keeps_app | apply keeps_mv | apply keeps_skip)))
        refine d_take (i := 0) hl rfl (by kernel_rfl) (by kernel_rfl) (by kernel_rfl) (by kernel_rfl) (by kernel_rfl) rfl trivial (fun _ _ _ h => h) hM (fun w hC => r_loadC hl rfl one24 hC (by repeat (first | exact find_head | apply find_tail | apply find_skip)) (by first | exact hcell | rfl | rfl)) rfl ?_
        clear hl a; intro a hl
        refine d_take (i := 1) hl rfl (by kernel_rfl) (by kernel_rfl) (by kernel_rfl) (by kernel_rfl) (by kernel_rfl) rfl trivial (fun _ _ _ h => h) hM (fun w hC => r_loadC hl rfl one52 hC (by repeat (first | exact find_head | apply find_tail | apply find_skip)) (by first | exact hcell | rfl | rfl)) rfl ?_
        clear hl a; intro a hl
        refine d_take (i := 3) hl rfl (by kernel_rfl) (by kernel_rfl) (by kernel_rfl) (by kernel_rfl) (by kernel_rfl) rfl trivial (fun _ _ _ h => h) hM (fun w hC => r_field hl rfl fld32_3) rfl ?_
        clear hl a; intro a hl
        refine d_take (i := 4) hl rfl (by kernel_rfl) (by kernel_rfl) (by kernel_rfl) (by kernel_rfl) (by kernel_rfl) rfl trivial (fun _ _ _ h => h) hM (fun w hC => r_loadC hl rfl one2 hC (by repeat (first | exact find_head | apply find_tail | apply find_skip)) (by first | exact hcell | rfl | rfl)) rfl ?_
        clear hl a; intro a hl
        refine d_two (i := 2) (j := 8) (by kernel_rfl) rfl rfl ?_ ?_
        ·
          try clear hM
          refine id (w_call hl hh rfl trivial rfl cal20 rfl (epoch_spec hS2 bg wn hwn16) (by repeat (first | exact keeps_nil | apply keeps_cons (by repeat (first | exact find_head | apply find_tail | apply find_skip)) (by first  | rfl) | exact keeps_self | exact keeps_left | apply keeps_app | apply keeps_mv | apply keeps_skip)) (memK (E := sysL bg M2) hh (by repeat (first | exact keeps_nil | apply keeps_cons (by repeat (first | exact find_head | apply find_tail | apply find_skip)) (by first  | rfl) | exact keeps_self | exact keeps_left | apply keeps_app | apply keeps_mv | apply keeps_skip))) ?_)
          clear hl hh a w; intro vc Fc a w hR hl hh
          obtain ⟨rfl, rfl⟩ := hR
          try simp only [List.cons_append, List.nil_append, List.append_assoc, List.append_nil] at hh
          have hM : Mem [(k3, C [.pointer (some ⟨bg, 0, none⟩)] 24), (k5, C (opc o) 32), (k6, C [.int .i64 (wn : Int)] 52)] w := (memK hh (by repeat (first | exact keeps_nil | apply keeps_cons (by repeat (first | exact find_head | apply find_tail | apply find_skip)) (by first  | rfl) | exact keeps_self | exact keeps_left | apply keeps_app | apply keeps_mv | apply keeps_skip)))
          refine d_step (fun _ => hM) ?_
          refine d_two (i := 5) (j := 8) (by kernel_rfl) rfl rfl ?_ ?_
          ·
            try clear hM
            refine id (w_call hl hh rfl trivial rfl cal30 rfl (low4_spec o.c) (by repeat (first | exact keeps_nil | apply keeps_cons (by repeat (first | exact find_head | apply find_tail | apply find_skip)) (by first  | rfl) | exact keeps_self | exact keeps_left | apply keeps_app | apply keeps_mv | apply keeps_skip)) trivial ?_)
            clear hl hh a w; intro vc Fc a w hR hl hh
            obtain ⟨rfl, rfl⟩ := hR
            try simp only [List.cons_append, List.nil_append, List.append_assoc, List.append_nil] at hh
            have hM : Mem [(k3, C [.pointer (some ⟨bg, 0, none⟩)] 24), (k5, C (opc o) 32), (k6, C [.int .i64 (wn : Int)] 52)] w := (memK hh (by repeat (first | exact keeps_nil | apply keeps_cons (by repeat (first | exact find_head | apply find_tail | apply find_skip)) (by first  | rfl) | exact keeps_self | exact keeps_left | apply keeps_app | apply keeps_mv | apply keeps_skip)))
            refine d_step (fun _ => hM) ?_
            first | refine d_take (i := 6) hl rfl (by kernel_rfl) (by kernel_rfl) (by kernel_rfl) (by kernel_rfl) (by kernel_rfl) rfl trivial (fun _ _ _ h => h) hM (fun w hC => r_conv hl rfl Tryd.underlying2 Tryd.underlying48 (by simp only [Fits]; omega)) rfl ?_ | refine d_take (i := 6) hl rfl (by kernel_rfl) (by kernel_rfl) (by kernel_rfl) (by kernel_rfl) (by kernel_rfl) rfl trivial (fun _ _ _ h => h) hM (fun w hC => r_convM wm_u64 hl rfl Tryd.underlying2 Tryd.underlying48) rfl ?_
            clear hl a; intro a hl
            first | refine d_take (i := 7) hl rfl (by kernel_rfl) (by kernel_rfl) (by kernel_rfl) (by kernel_rfl) (by kernel_rfl) rfl trivial (fun _ _ _ h => h) hM (fun w hC => r_add hl rfl rfl (by simp only [Fits]; omega)) rfl ?_ | refine d_take (i := 7) hl rfl (by kernel_rfl) (by kernel_rfl) (by kernel_rfl) (by kernel_rfl) (by kernel_rfl) rfl trivial (fun _ _ _ h => h) hM (fun w hC => r_addM wm_u64 hl rfl rfl) rfl ?_
            clear hl a; intro a hl
            refine d_one (i := 8) (by kernel_rfl) rfl ?_
            try clear hM
            refine id (w_alloc hl hh rfl trivial zero48 rfl ?_)
            clear hl hh a w; intro k9 a w hl hh
            have hM : Mem [(k3, C [.pointer (some ⟨bg, 0, none⟩)] 24), (k5, C (opc o) 32), (k6, C [.int .i64 (wn : Int)] 52)] w := (memK hh (by repeat (first | exact keeps_nil | apply keeps_cons (by repeat (first | exact find_head | apply find_tail | apply find_skip)) (by first  | rfl) | exact keeps_self | exact keeps_left | apply keeps_app | apply keeps_mv | apply keeps_skip)))
            refine d_step (fun _ => hM) ?_
            refine d_one (i := 9) (by kernel_rfl) rfl ?_
            try clear hM
            refine id (w_store hl hh trivial one48 rfl rfl (by repeat (first | exact find_head | apply find_tail | apply find_skip)) (by first | (simp; done) | (simp; omega) | (rw [arrL_length]; omega)) (by first | rfl | assumption | (apply Row.one; assumption)) (by first | exact setL_whole (arrL_length _ _) | (simp only [setL, List.getElem?_cons_zero, List.getElem?_cons_succ, Value.cells, List.take_zero, List.take_succ_cons, List.take_nil, List.drop_zero, List.drop_succ_cons, List.drop_nil, List.length_cons, List.length_nil, List.cons_append, List.nil_append, List.append_nil, Nat.zero_add, Nat.add_zero, Nat.reduceAdd, Nat.reduceBEq, Nat.reduceEqDiff, Nat.ble, BEq.rfl, Bool.and_true, Bool.and_self, cond_true, beq_self_eq_true]; rfl)) ?_)
            clear hh w; intro w hh
            refine d_step (fun h => absurd h (by decide)) ?_
            refine d_done (by kernel_rfl) ?_
            try clear hM
            have hl2 := hl.add (t := 3) (hl.add (t := 5) (hl.add (t := 6) (hl.add (t := 7) (hl.add (t := 8) (hl.add (t := 9) (hl.add (t := 25) (hl.add (t := 26) (hl.add (t := 27) (hl.nil) rfl) rfl) rfl) rfl) rfl) rfl) rfl) rfl) rfl; clear hl; have hl := hl2; clear hl2
            try rw [set9] at hh
            refine then_normal ?_
            refine c_seq ?_
            refine c_seq ?_
            refine c_region ?_
            refine wl (w_load hl hh rfl trivial one48 rfl (by repeat (first | exact find_head | apply find_tail | apply find_skip)) (by first | exact hcell | rfl | rfl) ?_)
            clear hl a; intro a hl
            refine wl (wl_val hl rfl trivial (r_gtr hl rfl rfl) ?_)
            clear hl a; intro a hl
            refine w_nil ?_
            have hl2 := hl.add (t := 3) (hl.add (t := 5) (hl.add (t := 6) (hl.add (t := 7) (hl.add (t := 8) (hl.add (t := 9) (hl.add (t := 25) (hl.add (t := 26) (hl.add (t := 27) (hl.add (t := 59) (hl.nil) rfl) rfl) rfl) rfl) rfl) rfl) rfl) rfl) rfl) rfl; clear hl; have hl := hl2; clear hl2
            refine then_normal ?_
            refine c_cond hl rfl ?_ ?_
            · intro hc3
              try simp only [decide_eq_true_eq, decide_eq_false_iff_not, Bool.not_eq_true', Bool.not_eq_false', Bool.not_eq_true, Bool.not_eq_false, Bool.and_eq_true, Bool.or_eq_true, Bool.and_eq_false_iff, Bool.or_eq_false_iff, Bool.not_not, ne_eq, Int.not_lt, Int.not_le, Decidable.not_not, beq_iff_eq, bne_iff_ne] at hc3
              refine c_region ?_
              refine wl (w_load hl hh rfl trivial one48 rfl (by repeat (first | exact find_head | apply find_tail | apply find_skip)) (by first | exact hcell | rfl | rfl) ?_)
              clear hl a; intro a hl
              first | refine wl (wl_val hl rfl trivial (r_sub hl rfl rfl (by simp only [Fits]; omega)) ?_) | refine wl (wl_val hl rfl trivial (r_subM wm_u64 hl rfl rfl) ?_)
              clear hl a; intro a hl
              refine wl (w_store hl hh trivial one48 rfl rfl (by repeat (first | exact find_head | apply find_tail | apply find_skip)) (by first | (simp; done) | (simp; omega) | (rw [arrL_length]; omega)) (by first | rfl | assumption | (apply Row.one; assumption)) (by first | exact setL_whole (arrL_length _ _) | (simp only [setL, List.getElem?_cons_zero, List.getElem?_cons_succ, Value.cells, List.take_zero, List.take_succ_cons, List.take_nil, List.drop_zero, List.drop_succ_cons, List.drop_nil, List.length_cons, List.length_nil, List.cons_append, List.nil_append, List.append_nil, Nat.zero_add, Nat.add_zero, Nat.reduceAdd, Nat.reduceBEq, Nat.reduceEqDiff, Nat.ble, BEq.rfl, Bool.and_true, Bool.and_self, cond_true, beq_self_eq_true]; rfl)) ?_)
              clear hh w; intro w hh
              refine w_nil ?_
              have hl2 := hl.add (t := 3) (hl.add (t := 5) (hl.add (t := 6) (hl.add (t := 7) (hl.add (t := 8) (hl.add (t := 9) (hl.add (t := 25) (hl.add (t := 26) (hl.add (t := 27) (hl.nil) rfl) rfl) rfl) rfl) rfl) rfl) rfl) rfl) rfl; clear hl; have hl := hl2; clear hl2
              try rw [set9] at hh
              obtain ⟨e, he⟩ : ∃ e, e = g2.ep wn + o.c % 4 - 1 := ⟨_, rfl⟩
              have her : 0 ≤ e ∧ e ≤ 400 * ((z.i + 1 : Nat) : Int) + 4 := by omega
              rw [← he] at hh
              clear he
              have hGe : GI (40 * ((z.i + 1 : Nat) : Int) + 1) (400 * ((z.i + 1 : Nat) : Int) + 4) (ends g2 wn e) := hG4.apply (u := ⟨3, wn, e, 0#16⟩) ⟨by omega, by omega⟩ hwn16 her
              refine then_normal ?_
              refine c_seq ?_
              refine c_region ?_
              refine wl (wl_val hl rfl trivial (r_makeFunc hl rfl) ?_)
              clear hl a; intro a hl
              refine wl (wl_val hl rfl trivial (r_assign hl rfl) ?_)
              clear hl a; intro a hl
              refine w_nil ?_
              have hl2 := hl.add (t := 3) (hl.add (t := 7) (hl.add (t := 8) (hl.add (t := 10) (hl.add (t := 25) (hl.add (t := 26) (hl.add (t := 27) (hl.nil) rfl) rfl) rfl) rfl) rfl) rfl) rfl; clear hl; have hl := hl2; clear hl2
              refine then_normal ?_
              refine c_seq ?_
              refine c_region ?_
              refine wl (wl_val hl rfl trivial (r_move hl rfl) ?_)
              clear hl a; intro a hl
              refine wl (wl_val hl rfl trivial (r_move hl rfl) ?_)
              clear hl a; intro a hl
              refine wl (w_call hl hh rfl trivial rfl cal31 rfl (msg_spec 1 (mi s) ((wn % 4 : Nat) : Int) e (mi_rng s) wn hwn16 o k5 k8 k6 k9) (by repeat (first | exact keeps_nil | apply keeps_cons (by repeat (first | exact find_head | apply find_tail | apply find_skip)) (by first  | rfl) | exact keeps_self | exact keeps_left | apply keeps_app | apply keeps_mv | apply keeps_skip)) (memK (E := [(k5, C (opc o) 32), (k8, C [.int .i64 ((wn % 4 : Nat) : Int)] 58), (k6, C [.int .i64 (wn : Int)] 52), (k9, C [.int .u64 e] 48)]) hh (by repeat (first | exact keeps_nil | apply keeps_cons (by repeat (first | exact find_head | apply find_tail | apply find_skip)) (by first  | rfl) | exact keeps_self | exact keeps_left | apply keeps_app | apply keeps_mv | apply keeps_skip))) ?_)
              clear hl hh a w; intro vc Fc a w hR hl hh
              obtain ⟨rfl, rfl⟩ := hR
              try simp only [List.cons_append, List.nil_append, List.append_assoc, List.append_nil] at hh
              refine wl (wl_val hl rfl trivial (r_move hl rfl) ?_)
              clear hl a; intro a hl
              refine wl (wl_val hl rfl trivial (r_move hl rfl) ?_)
              clear hl a; intro a hl
              refine wl (w_call hl hh rfl trivial rfl cal31 rfl (msg_spec 2 (mi s) ((wn % 4 : Nat) : Int) e (mi_rng s) wn hwn16 o k5 k8 k6 k9) (by repeat (first | exact keeps_nil | apply keeps_cons (by repeat (first | exact find_head | apply find_tail | apply find_skip)) (by first  | rfl) | exact keeps_self | exact keeps_left | apply keeps_app | apply keeps_mv | apply keeps_skip)) (memK (E := [(k5, C (opc o) 32), (k8, C [.int .i64 ((wn % 4 : Nat) : Int)] 58), (k6, C [.int .i64 (wn : Int)] 52), (k9, C [.int .u64 e] 48)]) hh (by repeat (first | exact keeps_nil | apply keeps_cons (by repeat (first | exact find_head | apply find_tail | apply find_skip)) (by first  | rfl) | exact keeps_self | exact keeps_left | apply keeps_app | apply keeps_mv | apply keeps_skip))) ?_)
              clear hl hh a w; intro vc Fc a w hR hl hh
              obtain ⟨rfl, rfl⟩ := hR
              try simp only [List.cons_append, List.nil_append, List.append_assoc, List.append_nil] at hh
              refine wl (wl_val hl rfl trivial (r_move hl rfl) ?_)
              clear hl a; intro a hl
              refine wl (w_call hl hh rfl trivial rfl cal31 rfl (msg_spec 3 0 ((wn % 4 : Nat) : Int) e ⟨by omega, by omega⟩ wn hwn16 o k5 k8 k6 k9) (by repeat (first | exact keeps_nil | apply keeps_cons (by repeat (first | exact find_head | apply find_tail | apply find_skip)) (by first  | rfl) | exact keeps_self | exact keeps_left | apply keeps_app | apply keeps_mv | apply keeps_skip)) (memK (E := [(k5, C (opc o) 32), (k8, C [.int .i64 ((wn % 4 : Nat) : Int)] 58), (k6, C [.int .i64 (wn : Int)] 52), (k9, C [.int .u64 e] 48)]) hh (by repeat (first | exact keeps_nil | apply keeps_cons (by repeat (first | exact find_head | apply find_tail | apply find_skip)) (by first  | rfl) | exact keeps_self | exact keeps_left | apply keeps_app | apply keeps_mv | apply keeps_skip))) ?_)
              clear hl hh a w; intro vc Fc a w hR hl hh
              obtain ⟨rfl, rfl⟩ := hR
              try simp only [List.cons_append, List.nil_append, List.append_assoc, List.append_nil] at hh
              refine wl (wl_val hl rfl trivial (r_build hl rfl zero85 bld85 (by simp only [fillL, setL, List.getElem?_cons_zero, List.getElem?_cons_succ, Value.cells, List.take_zero, List.take_succ_cons, List.take_nil, List.drop_zero, List.drop_succ_cons, List.drop_nil, List.length_cons, List.length_nil, List.cons_append, List.nil_append, List.append_nil, Nat.zero_add, Nat.add_zero, Nat.reduceAdd, Nat.reduceBEq, Nat.reduceEqDiff, Nat.ble, BEq.rfl, Bool.and_true, Bool.and_self, cond_true, beq_self_eq_true]; rfl)) ?_)
              clear hl a; intro a hl
              refine wl (w_alloc hl hh rfl trivial zero85 rfl ?_)
              clear hl hh a w; intro k11 a w hl hh
              refine wl (w_storeA hl hh trivial agg85 rfl rfl (by repeat (first | exact find_head | apply find_tail | apply find_skip)) (by first | rfl | (simp; done) | rfl | exact arrL_length _ _) (by first | (simp; done) | (simp; omega) | (rw [arrL_length]; omega)) (by first | rfl | (simp; done) | rfl | exact arrL_all (fun j => ite_one hR0.one rfl) | exact arrL_all (fun j => ite_one hR1.one rfl) | exact arrL_all (fun j => ite_one hR2.one rfl) | exact arrL_all (fun j => ite_one hR3.one rfl) | exact arrL_all (fun j => ite_one hR4.one rfl)) (by first | exact setL_whole (arrL_length _ _) | (simp only [setL, List.getElem?_cons_zero, List.getElem?_cons_succ, Value.cells, List.take_zero, List.take_succ_cons, List.take_nil, List.drop_zero, List.drop_succ_cons, List.drop_nil, List.length_cons, List.length_nil, List.cons_append, List.nil_append, List.append_nil, Nat.zero_add, Nat.add_zero, Nat.reduceAdd, Nat.reduceBEq, Nat.reduceEqDiff, Nat.ble, BEq.rfl, Bool.and_true, Bool.and_self, cond_true, beq_self_eq_true]; rfl)) ?_)
              clear hh w; intro w hh
              refine w_nil ?_
              have hl2 := hl.add (t := 3) (hl.add (t := 8) (hl.add (t := 11) (hl.add (t := 25) (hl.add (t := 26) (hl.add (t := 27) (hl.nil) rfl) rfl) rfl) rfl) rfl) rfl; clear hl; have hl := hl2; clear hl2
              refine then_normal ?_
              refine c_seq ?_
              refine c_region ?_
              refine wl (wl_val hl rfl trivial (r_makeFunc hl rfl) ?_)
              clear hl a; intro a hl
              refine wl (wl_val hl rfl trivial (r_assign hl rfl) ?_)
              clear hl a; intro a hl
              refine w_nil ?_
              have hl2 := hl.add (t := 3) (hl.add (t := 8) (hl.add (t := 12) (hl.add (t := 25) (hl.add (t := 26) (hl.add (t := 27) (hl.nil) rfl) rfl) rfl) rfl) rfl) rfl; clear hl; have hl := hl2; clear hl2
              refine then_normal ?_
              refine c_seq ?_
              refine c_region ?_
              refine wl (w_load hl hh rfl trivial one24 rfl (by repeat (first | exact find_head | apply find_tail | apply find_skip)) (by first | exact hcell | rfl | rfl) ?_)
              clear hl a; intro a hl
              refine wl (w_load hl hh rfl trivial one58 rfl (by repeat (first | exact find_head | apply find_tail | apply find_skip)) (by first | exact hcell | rfl | rfl) ?_)
              clear hl a; intro a hl
              refine wl (w_call hl hh rfl trivial rfl cal22 rfl (shard_spec hS2 bg (40 * ((z.i + 1 : Nat) : Int)) (400 * ((z.i + 1 : Nat) : Int) + 4) ⟨by omega, by omega⟩ hG4 (wn % 4) (by omega)) (by repeat (first | exact keeps_nil | apply keeps_cons (by repeat (first | exact find_head | apply find_tail | apply find_skip)) (by first  | rfl) | exact keeps_self | exact keeps_left | apply keeps_app | apply keeps_mv | apply keeps_skip)) (memK (E := sysL bg M2) hh (by repeat (first | exact keeps_nil | apply keeps_cons (by repeat (first | exact find_head | apply find_tail | apply find_skip)) (by first  | rfl) | exact keeps_self | exact keeps_left | apply keeps_app | apply keeps_mv | apply keeps_skip))) ?_)
              clear hl hh a w; intro vc Fc a w hR hl hh
              obtain ⟨ve0, rfl, hR0⟩ := hR
              try simp only [List.cons_append, List.nil_append, List.append_assoc, List.append_nil] at hh
              generalize Fc = Ee0 at hh hR0
              refine wl (wl_val hl rfl trivial (r_move hl rfl) ?_)
              clear hl a; intro a hl
              refine wl (w_buildSlice hl hh rfl trivial app86 zero3 rfl rfl rfl rfl rfl (by simp only [fillL, arrPl, List.range_succ, List.range_zero, List.map_cons, List.map_nil, List.map_append, List.nil_append, List.replicate_succ, List.replicate_zero, List.flatten_cons, List.flatten_nil, Nat.zero_mul, Nat.mul_one, Nat.one_mul, Nat.reduceMul, setL, List.getElem?_cons_zero, List.getElem?_cons_succ, Value.cells, List.take_zero, List.take_succ_cons, List.take_nil, List.drop_zero, List.drop_succ_cons, List.drop_nil, List.length_cons, List.length_nil, List.cons_append, List.nil_append, List.append_nil, Nat.zero_add, Nat.add_zero, Nat.reduceAdd, Nat.reduceBEq, Nat.reduceEqDiff, Nat.ble, BEq.rfl, Bool.and_true, Bool.and_self, cond_true, beq_self_eq_true]; rfl) ?_)
              clear hl hh a w; intro k77 a w hl hh
              refine wl (w_call hl hh rfl trivial rfl cal32 rfl (play_spec hS2 bg tT tf (40 * ((z.i + 1 : Nat) : Int)) (400 * ((z.i + 1 : Nat) : Int) + 4) ⟨by omega, by omega⟩ (by omega) (by omega) hG4 (wn % 4) (by omega) (ms7 (o.b % 4) wn e s) (us7 wn e s) (ms7_us hwn16 her (by omega) hsz hsb) rfl [0, 1] (by decide) (by decide) 2 k77 k3 k11 k8) (by repeat (first | exact keeps_nil | apply keeps_cons (by repeat (first | exact find_head | apply find_tail | apply find_skip)) (by first  | rfl) | exact keeps_self | exact keeps_left | apply keeps_app | apply keeps_mv | apply keeps_skip)) ⟨⟨memK (E := sysL bg M2) hh (by repeat (first | exact keeps_nil | apply keeps_cons (by repeat (first | exact find_head | apply find_tail | apply find_skip)) (by first  | rfl) | exact keeps_self | exact keeps_left | apply keeps_app | apply keeps_mv | apply keeps_skip)), (pt_law (Fn := []) hh hpre.2 (by repeat (first | exact keeps_nil | apply keeps_cons (by repeat (first | exact find_head | apply find_tail | apply find_skip)) (by first  | rfl) | exact keeps_self | exact keeps_left | apply keeps_app | apply keeps_mv | apply keeps_skip))).1⟩, (mem1 (memK (E := [(k3, C [.pointer (some ⟨bg, 0, none⟩)] 24)]) hh (by repeat (first | exact keeps_nil | apply keeps_cons (by repeat (first | exact find_head | apply find_tail | apply find_skip)) (by first  | rfl) | exact keeps_self | exact keeps_left | apply keeps_app | apply keeps_mv | apply keeps_skip)))), (mem1 (memK (E := [(k11, C (fl rmc (ms7 (o.b % 4) wn e s) ++ []) 85)]) hh (by repeat (first | exact keeps_nil | apply keeps_cons (by repeat (first | exact find_head | apply find_tail | apply find_skip)) (by first  | rfl) | exact keeps_self | exact keeps_left | apply keeps_app | apply keeps_mv | apply keeps_skip)))), (mem1 (memK (E := [(k8, C [.int .i64 ((wn % 4 : Nat) : Int)] 58)]) hh (by repeat (first | exact keeps_nil | apply keeps_cons (by repeat (first | exact find_head | apply find_tail | apply find_skip)) (by first  | rfl) | exact keeps_self | exact keeps_left | apply keeps_app | apply keeps_mv | apply keeps_skip)))), (mem1 (memK (E := [(k77, C (fl ivc [0, 1] ++ []) 3)]) hh (by repeat (first | exact keeps_nil | apply keeps_cons (by repeat (first | exact find_head | apply find_tail | apply find_skip)) (by first  | rfl) | exact keeps_self | exact keeps_left | apply keeps_app | apply keeps_mv | apply keeps_skip))))⟩ ?_)
              clear hl hh a w; intro vc Fc a w hR hl hh
              obtain ⟨ve1, rfl, hR1⟩ := hR
              try simp only [List.cons_append, List.nil_append, List.append_assoc, List.append_nil] at hh
              rw [pl01 hok7] at hl hR1
              generalize Fc = Ee1 at hh hR1
              refine wl (wl_val hl rfl trivial (r_move hl rfl) ?_)
              clear hl a; intro a hl
              refine wl (w_buildSlice hl hh rfl trivial app86 zero3 rfl rfl rfl rfl rfl (by simp only [fillL, arrPl, List.range_succ, List.range_zero, List.map_cons, List.map_nil, List.map_append, List.nil_append, List.replicate_succ, List.replicate_zero, List.flatten_cons, List.flatten_nil, Nat.zero_mul, Nat.mul_one, Nat.one_mul, Nat.reduceMul, setL, List.getElem?_cons_zero, List.getElem?_cons_succ, Value.cells, List.take_zero, List.take_succ_cons, List.take_nil, List.drop_zero, List.drop_succ_cons, List.drop_nil, List.length_cons, List.length_nil, List.cons_append, List.nil_append, List.append_nil, Nat.zero_add, Nat.add_zero, Nat.reduceAdd, Nat.reduceBEq, Nat.reduceEqDiff, Nat.ble, BEq.rfl, Bool.and_true, Bool.and_self, cond_true, beq_self_eq_true]; rfl) ?_)
              clear hl hh a w; intro k80 a w hl hh
              refine wl (w_call hl hh rfl trivial rfl cal32 rfl (play_spec hS2 bg tT tf (40 * ((z.i + 1 : Nat) : Int)) (400 * ((z.i + 1 : Nat) : Int) + 4) ⟨by omega, by omega⟩ (by omega) (by omega) hG4 (wn % 4) (by omega) (ms7 (o.b % 4) wn e s) (us7 wn e s) (ms7_us hwn16 her (by omega) hsz hsb) rfl [1, 0] (by decide) (by decide) 2 k80 k3 k11 k8) (by repeat (first | exact keeps_nil | apply keeps_cons (by repeat (first | exact find_head | apply find_tail | apply find_skip)) (by first  | rfl) | exact keeps_self | exact keeps_left | apply keeps_app | apply keeps_mv | apply keeps_skip)) ⟨⟨memK (E := sysL bg M2) hh (by repeat (first | exact keeps_nil | apply keeps_cons (by repeat (first | exact find_head | apply find_tail | apply find_skip)) (by first  | rfl) | exact keeps_self | exact keeps_left | apply keeps_app | apply keeps_mv | apply keeps_skip)), (pt_law (Fn := []) hh hpre.2 (by repeat (first | exact keeps_nil | apply keeps_cons (by repeat (first | exact find_head | apply find_tail | apply find_skip)) (by first  | rfl) | exact keeps_self | exact keeps_left | apply keeps_app | apply keeps_mv | apply keeps_skip))).1⟩, (mem1 (memK (E := [(k3, C [.pointer (some ⟨bg, 0, none⟩)] 24)]) hh (by repeat (first | exact keeps_nil | apply keeps_cons (by repeat (first | exact find_head | apply find_tail | apply find_skip)) (by first  | rfl) | exact keeps_self | exact keeps_left | apply keeps_app | apply keeps_mv | apply keeps_skip)))), (mem1 (memK (E := [(k11, C (fl rmc (ms7 (o.b % 4) wn e s) ++ []) 85)]) hh (by repeat (first | exact keeps_nil | apply keeps_cons (by repeat (first | exact find_head | apply find_tail | apply find_skip)) (by first  | rfl) | exact keeps_self | exact keeps_left | apply keeps_app | apply keeps_mv | apply keeps_skip)))), (mem1 (memK (E := [(k8, C [.int .i64 ((wn % 4 : Nat) : Int)] 58)]) hh (by repeat (first | exact keeps_nil | apply keeps_cons (by repeat (first | exact find_head | apply find_tail | apply find_skip)) (by first  | rfl) | exact keeps_self | exact keeps_left | apply keeps_app | apply keeps_mv | apply keeps_skip)))), (mem1 (memK (E := [(k80, C (fl ivc [1, 0] ++ []) 3)]) hh (by repeat (first | exact keeps_nil | apply keeps_cons (by repeat (first | exact find_head | apply find_tail | apply find_skip)) (by first  | rfl) | exact keeps_self | exact keeps_left | apply keeps_app | apply keeps_mv | apply keeps_skip))))⟩ ?_)
              clear hl hh a w; intro vc Fc a w hR hl hh
              obtain ⟨ve2, rfl, hR2⟩ := hR
              try simp only [List.cons_append, List.nil_append, List.append_assoc, List.append_nil] at hh
              rw [pl10 hok7] at hl hR2
              generalize Fc = Ee2 at hh hR2
              refine wl (w_alloc hl hh rfl trivial zero61 rfl ?_)
              clear hl hh a w; intro k13 a w hl hh
              refine wl (w_alloc hl hh rfl trivial zero61 rfl ?_)
              clear hl hh a w; intro k14 a w hl hh
              refine wl (w_alloc hl hh rfl trivial zero61 rfl ?_)
              clear hl hh a w; intro k15 a w hl hh
              refine wl (w_storeA hl hh trivial agg61 rfl rfl (by repeat (first | exact find_head | apply find_tail | apply find_skip)) (by first | rfl | (simp; done) | rfl | exact arrL_length _ _) (by first | (simp; done) | (simp; omega) | (rw [arrL_length]; omega)) (by first | rfl | (simp; done) | rfl | exact arrL_all (fun j => ite_one hR0.one rfl) | exact arrL_all (fun j => ite_one hR1.one rfl) | exact arrL_all (fun j => ite_one hR2.one rfl) | exact arrL_all (fun j => ite_one hR3.one rfl) | exact arrL_all (fun j => ite_one hR4.one rfl)) (by first | exact setL_whole (arrL_length _ _) | (simp only [setL, List.getElem?_cons_zero, List.getElem?_cons_succ, Value.cells, List.take_zero, List.take_succ_cons, List.take_nil, List.drop_zero, List.drop_succ_cons, List.drop_nil, List.length_cons, List.length_nil, List.cons_append, List.nil_append, List.append_nil, Nat.zero_add, Nat.add_zero, Nat.reduceAdd, Nat.reduceBEq, Nat.reduceEqDiff, Nat.ble, BEq.rfl, Bool.and_true, Bool.and_self, cond_true, beq_self_eq_true]; rfl)) ?_)
              clear hh w; intro w hh
              refine wl (w_storeA hl hh trivial agg61 rfl rfl (by repeat (first | exact find_head | apply find_tail | apply find_skip)) (by first | rfl | (simp; done) | rfl | exact arrL_length _ _) (by first | (simp; done) | (simp; omega) | (rw [arrL_length]; omega)) (by first | rfl | (simp; done) | rfl | exact arrL_all (fun j => ite_one hR0.one rfl) | exact arrL_all (fun j => ite_one hR1.one rfl) | exact arrL_all (fun j => ite_one hR2.one rfl) | exact arrL_all (fun j => ite_one hR3.one rfl) | exact arrL_all (fun j => ite_one hR4.one rfl)) (by first | exact setL_whole (arrL_length _ _) | (simp only [setL, List.getElem?_cons_zero, List.getElem?_cons_succ, Value.cells, List.take_zero, List.take_succ_cons, List.take_nil, List.drop_zero, List.drop_succ_cons, List.drop_nil, List.length_cons, List.length_nil, List.cons_append, List.nil_append, List.append_nil, Nat.zero_add, Nat.add_zero, Nat.reduceAdd, Nat.reduceBEq, Nat.reduceEqDiff, Nat.ble, BEq.rfl, Bool.and_true, Bool.and_self, cond_true, beq_self_eq_true]; rfl)) ?_)
              clear hh w; intro w hh
              refine wl (w_storeA hl hh trivial agg61 rfl rfl (by repeat (first | exact find_head | apply find_tail | apply find_skip)) (by first | rfl | (simp; done) | rfl | exact arrL_length _ _) (by first | (simp; done) | (simp; omega) | (rw [arrL_length]; omega)) (by first | rfl | (simp; done) | rfl | exact arrL_all (fun j => ite_one hR0.one rfl) | exact arrL_all (fun j => ite_one hR1.one rfl) | exact arrL_all (fun j => ite_one hR2.one rfl) | exact arrL_all (fun j => ite_one hR3.one rfl) | exact arrL_all (fun j => ite_one hR4.one rfl)) (by first | exact setL_whole (arrL_length _ _) | (simp only [setL, List.getElem?_cons_zero, List.getElem?_cons_succ, Value.cells, List.take_zero, List.take_succ_cons, List.take_nil, List.drop_zero, List.drop_succ_cons, List.drop_nil, List.length_cons, List.length_nil, List.cons_append, List.nil_append, List.append_nil, Nat.zero_add, Nat.add_zero, Nat.reduceAdd, Nat.reduceBEq, Nat.reduceEqDiff, Nat.ble, BEq.rfl, Bool.and_true, Bool.and_self, cond_true, beq_self_eq_true]; rfl)) ?_)
              clear hh w; intro w hh
              refine w_nil ?_
              have hl2 := hl.add (t := 3) (hl.add (t := 12) (hl.add (t := 13) (hl.add (t := 14) (hl.add (t := 15) (hl.add (t := 25) (hl.add (t := 26) (hl.add (t := 27) (hl.nil) rfl) rfl) rfl) rfl) rfl) rfl) rfl) rfl; clear hl; have hl := hl2; clear hl2
              refine then_normal ?_
              refine c_seq ?_
              refine c_seq ?_
              refine c_region ?_
              refine wl (w_call hl hh rfl trivial rfl cal34 rfl (eqS2_spec (flK g2.flr (wn % 4)) (flK_rng (B := 40 * ((z.i + 1 : Nat) : Int)) (Q := 400 * ((z.i + 1 : Nat) : Int) + 4) hG4 ⟨by omega, by omega⟩ (wn % 4)) (edN (wsK g2.ws (wn % 4)) 16) (edK_len (B := 40 * ((z.i + 1 : Nat) : Int)) (Q := 400 * ((z.i + 1 : Nat) : Int) + 4) hG4 ⟨by omega, by omega⟩ (wn % 4)) (eg_ok (B := 40 * ((z.i + 1 : Nat) : Int)) (Q := 400 * ((z.i + 1 : Nat) : Int) + 4) hG4 ⟨by omega, by omega⟩) k14 k13 ve1 ve0 Ee1 Ee0 hR1 hR0) (by repeat (first | exact keeps_nil | apply keeps_cons (by repeat (first | exact find_head | apply find_tail | apply find_skip)) (by first  | rfl) | exact keeps_self | exact keeps_left | apply keeps_app | apply keeps_mv | apply keeps_skip)) ⟨memK (E := (k14, C (arrL 17 (shV (flK g2.flr (wn % 4)) ve1)) 61) :: Ee1) hh (by repeat (first | exact keeps_nil | apply keeps_cons (by repeat (first | exact find_head | apply find_tail | apply find_skip)) (by first  | rfl) | exact keeps_self | exact keeps_left | apply keeps_app | apply keeps_mv | apply keeps_skip)), memK (E := (k13, C (arrL 17 (shV (flK g2.flr (wn % 4)) ve0)) 61) :: Ee0) hh (by repeat (first | exact keeps_nil | apply keeps_cons (by repeat (first | exact find_head | apply find_tail | apply find_skip)) (by first  | rfl) | exact keeps_self | exact keeps_left | apply keeps_app | apply keeps_mv | apply keeps_skip))⟩ ?_)
              clear hl hh a w; intro vc Fc a w hR hl hh
              obtain ⟨rfl, rfl⟩ := hR
              try simp only [List.cons_append, List.nil_append, List.append_assoc, List.append_nil] at hh
              refine wl (wl_val hl rfl trivial (r_not hl rfl) ?_)
              clear hl a; intro a hl
              refine wl (wl_val hl rfl trivial (r_move hl rfl) ?_)
              clear hl a; intro a hl
              refine wl (w_call hl hh rfl ⟨_, _, rfl, rfl, rfl⟩ rfl cal34 rfl (eqS2_spec (flK g2.flr (wn % 4)) (flK_rng (B := 40 * ((z.i + 1 : Nat) : Int)) (Q := 400 * ((z.i + 1 : Nat) : Int) + 4) hG4 ⟨by omega, by omega⟩ (wn % 4)) (edN (wsK g2.ws (wn % 4)) 16) (edK_len (B := 40 * ((z.i + 1 : Nat) : Int)) (Q := 400 * ((z.i + 1 : Nat) : Int) + 4) hG4 ⟨by omega, by omega⟩ (wn % 4)) (eg_ok (B := 40 * ((z.i + 1 : Nat) : Int)) (Q := 400 * ((z.i + 1 : Nat) : Int) + 4) hG4 ⟨by omega, by omega⟩) k15 k13 ve2 ve0 Ee2 Ee0 hR2 hR0) (by repeat (first | exact keeps_nil | apply keeps_cons (by repeat (first | exact find_head | apply find_tail | apply find_skip)) (by first  | rfl) | exact keeps_self | exact keeps_left | apply keeps_app | apply keeps_mv | apply keeps_skip)) ⟨memK (E := (k15, C (arrL 17 (shV (flK g2.flr (wn % 4)) ve2)) 61) :: Ee2) hh (by repeat (first | exact keeps_nil | apply keeps_cons (by repeat (first | exact find_head | apply find_tail | apply find_skip)) (by first  | rfl) | exact keeps_self | exact keeps_left | apply keeps_app | apply keeps_mv | apply keeps_skip)), memK (E := (k13, C (arrL 17 (shV (flK g2.flr (wn % 4)) ve0)) 61) :: Ee0) hh (by repeat (first | exact keeps_nil | apply keeps_cons (by repeat (first | exact find_head | apply find_tail | apply find_skip)) (by first  | rfl) | exact keeps_self | exact keeps_left | apply keeps_app | apply keeps_mv | apply keeps_skip))⟩ ?_)
              clear hl hh a w; intro vc Fc a w hR hl hh
              obtain ⟨rfl, rfl⟩ := hR
              try simp only [List.cons_append, List.nil_append, List.append_assoc, List.append_nil] at hh
              refine wl (wl_val hl rfl ⟨_, _, rfl, rfl, rfl⟩ (r_not hl rfl) ?_)
              clear hl a; intro a hl
              refine wl (wl_val hl rfl trivial (r_pickF hl rfl rfl) ?_)
              clear hl a; intro a hl
              refine w_nil ?_
              have hl2 := hl.add (t := 3) (hl.add (t := 12) (hl.add (t := 25) (hl.add (t := 26) (hl.add (t := 27) (hl.add (t := 87) (hl.nil) rfl) rfl) rfl) rfl) rfl) rfl; clear hl; have hl := hl2; clear hl2
              refine then_normal ?_
              refine c_condF hl rfl ?_
              refine wp_skip ?_
              refine then_normal ?_
              refine c_seq ?_
              refine c_region ?_
              refine wl (wl_val hl rfl trivial (r_move hl rfl) ?_)
              clear hl a; intro a hl
              refine wl (w_buildSlice hl hh rfl trivial app86 zero3 rfl rfl rfl rfl rfl (by simp only [fillL, arrPl, List.range_succ, List.range_zero, List.map_cons, List.map_nil, List.map_append, List.nil_append, List.replicate_succ, List.replicate_zero, List.flatten_cons, List.flatten_nil, Nat.zero_mul, Nat.mul_one, Nat.one_mul, Nat.reduceMul, setL, List.getElem?_cons_zero, List.getElem?_cons_succ, Value.cells, List.take_zero, List.take_succ_cons, List.take_nil, List.drop_zero, List.drop_succ_cons, List.drop_nil, List.length_cons, List.length_nil, List.cons_append, List.nil_append, List.append_nil, Nat.zero_add, Nat.add_zero, Nat.reduceAdd, Nat.reduceBEq, Nat.reduceEqDiff, Nat.ble, BEq.rfl, Bool.and_true, Bool.and_self, cond_true, beq_self_eq_true]; rfl) ?_)
              clear hl hh a w; intro k89 a w hl hh
              refine wl (w_call hl hh rfl trivial rfl cal32 rfl (play_spec hS2 bg tT tf (40 * ((z.i + 1 : Nat) : Int)) (400 * ((z.i + 1 : Nat) : Int) + 4) ⟨by omega, by omega⟩ (by omega) (by omega) hG4 (wn % 4) (by omega) (ms7 (o.b % 4) wn e s) (us7 wn e s) (ms7_us hwn16 her (by omega) hsz hsb) rfl [0, 1, 2] (by decide) (by decide) 3 k89 k3 k11 k8) (by repeat (first | exact keeps_nil | apply keeps_cons (by repeat (first | exact find_head | apply find_tail | apply find_skip)) (by first  | rfl) | exact keeps_self | exact keeps_left | apply keeps_app | apply keeps_mv | apply keeps_skip)) ⟨⟨memK (E := sysL bg M2) hh (by repeat (first | exact keeps_nil | apply keeps_cons (by repeat (first | exact find_head | apply find_tail | apply find_skip)) (by first  | rfl) | exact keeps_self | exact keeps_left | apply keeps_app | apply keeps_mv | apply keeps_skip)), (pt_law (Fn := []) hh hpre.2 (by repeat (first | exact keeps_nil | apply keeps_cons (by repeat (first | exact find_head | apply find_tail | apply find_skip)) (by first  | rfl) | exact keeps_self | exact keeps_left | apply keeps_app | apply keeps_mv | apply keeps_skip))).1⟩, (mem1 (memK (E := [(k3, C [.pointer (some ⟨bg, 0, none⟩)] 24)]) hh (by repeat (first | exact keeps_nil | apply keeps_cons (by repeat (first | exact find_head | apply find_tail | apply find_skip)) (by first  | rfl) | exact keeps_self | exact keeps_left | apply keeps_app | apply keeps_mv | apply keeps_skip)))), (mem1 (memK (E := [(k11, C (fl rmc (ms7 (o.b % 4) wn e s) ++ []) 85)]) hh (by repeat (first | exact keeps_nil | apply keeps_cons (by repeat (first | exact find_head | apply find_tail | apply find_skip)) (by first  | rfl) | exact keeps_self | exact keeps_left | apply keeps_app | apply keeps_mv | apply keeps_skip)))), (mem1 (memK (E := [(k8, C [.int .i64 ((wn % 4 : Nat) : Int)] 58)]) hh (by repeat (first | exact keeps_nil | apply keeps_cons (by repeat (first | exact find_head | apply find_tail | apply find_skip)) (by first  | rfl) | exact keeps_self | exact keeps_left | apply keeps_app | apply keeps_mv | apply keeps_skip)))), (mem1 (memK (E := [(k89, C (fl ivc [0, 1, 2] ++ []) 3)]) hh (by repeat (first | exact keeps_nil | apply keeps_cons (by repeat (first | exact find_head | apply find_tail | apply find_skip)) (by first  | rfl) | exact keeps_self | exact keeps_left | apply keeps_app | apply keeps_mv | apply keeps_skip))))⟩ ?_)
              clear hl hh a w; intro vc Fc a w hR hl hh
              obtain ⟨ve3, rfl, hR3⟩ := hR
              try simp only [List.cons_append, List.nil_append, List.append_assoc, List.append_nil] at hh
              rw [pl3 hok7 [0, 1, 2] (.inl rfl)] at hl hR3
              generalize Fc = Ee3 at hh hR3
              refine wl (w_alloc hl hh rfl trivial zero61 rfl ?_)
              clear hl hh a w; intro k16 a w hl hh
              refine wl (w_storeA hl hh trivial agg61 rfl rfl (by repeat (first | exact find_head | apply find_tail | apply find_skip)) (by first | rfl | (simp; done) | rfl | exact arrL_length _ _) (by first | (simp; done) | (simp; omega) | (rw [arrL_length]; omega)) (by first | rfl | (simp; done) | rfl | exact arrL_all (fun j => ite_one hR0.one rfl) | exact arrL_all (fun j => ite_one hR1.one rfl) | exact arrL_all (fun j => ite_one hR2.one rfl) | exact arrL_all (fun j => ite_one hR3.one rfl) | exact arrL_all (fun j => ite_one hR4.one rfl)) (by first | exact setL_whole (arrL_length _ _) | (simp only [setL, List.getElem?_cons_zero, List.getElem?_cons_succ, Value.cells, List.take_zero, List.take_succ_cons, List.take_nil, List.drop_zero, List.drop_succ_cons, List.drop_nil, List.length_cons, List.length_nil, List.cons_append, List.nil_append, List.append_nil, Nat.zero_add, Nat.add_zero, Nat.reduceAdd, Nat.reduceBEq, Nat.reduceEqDiff, Nat.ble, BEq.rfl, Bool.and_true, Bool.and_self, cond_true, beq_self_eq_true]; rfl)) ?_)
              clear hh w; intro w hh
              refine w_nil ?_
              have hl2 := hl.add (t := 3) (hl.add (t := 12) (hl.add (t := 16) (hl.add (t := 25) (hl.add (t := 26) (hl.add (t := 27) (hl.nil) rfl) rfl) rfl) rfl) rfl) rfl; clear hl; have hl := hl2; clear hl2
              refine then_normal ?_
              refine c_seq ?_
              refine c_region ?_
              refine wl (w_buildSlice hl hh rfl trivial app86 zero3 rfl rfl rfl rfl rfl (by simp only [fillL, arrPl, List.range_succ, List.range_zero, List.map_cons, List.map_nil, List.map_append, List.nil_append, List.replicate_succ, List.replicate_zero, List.flatten_cons, List.flatten_nil, Nat.zero_mul, Nat.mul_one, Nat.one_mul, Nat.reduceMul, setL, List.getElem?_cons_zero, List.getElem?_cons_succ, Value.cells, List.take_zero, List.take_succ_cons, List.take_nil, List.drop_zero, List.drop_succ_cons, List.drop_nil, List.length_cons, List.length_nil, List.cons_append, List.nil_append, List.append_nil, Nat.zero_add, Nat.add_zero, Nat.reduceAdd, Nat.reduceBEq, Nat.reduceEqDiff, Nat.ble, BEq.rfl, Bool.and_true, Bool.and_self, cond_true, beq_self_eq_true]; rfl) ?_)
              clear hl hh a w; intro k91 a w hl hh
              refine wl (w_buildSlice hl hh rfl trivial app86 zero3 rfl rfl rfl rfl rfl (by simp only [fillL, arrPl, List.range_succ, List.range_zero, List.map_cons, List.map_nil, List.map_append, List.nil_append, List.replicate_succ, List.replicate_zero, List.flatten_cons, List.flatten_nil, Nat.zero_mul, Nat.mul_one, Nat.one_mul, Nat.reduceMul, setL, List.getElem?_cons_zero, List.getElem?_cons_succ, Value.cells, List.take_zero, List.take_succ_cons, List.take_nil, List.drop_zero, List.drop_succ_cons, List.drop_nil, List.length_cons, List.length_nil, List.cons_append, List.nil_append, List.append_nil, Nat.zero_add, Nat.add_zero, Nat.reduceAdd, Nat.reduceBEq, Nat.reduceEqDiff, Nat.ble, BEq.rfl, Bool.and_true, Bool.and_self, cond_true, beq_self_eq_true]; rfl) ?_)
              clear hl hh a w; intro k92 a w hl hh
              refine wl (w_buildSlice hl hh rfl trivial app86 zero3 rfl rfl rfl rfl rfl (by simp only [fillL, arrPl, List.range_succ, List.range_zero, List.map_cons, List.map_nil, List.map_append, List.nil_append, List.replicate_succ, List.replicate_zero, List.flatten_cons, List.flatten_nil, Nat.zero_mul, Nat.mul_one, Nat.one_mul, Nat.reduceMul, setL, List.getElem?_cons_zero, List.getElem?_cons_succ, Value.cells, List.take_zero, List.take_succ_cons, List.take_nil, List.drop_zero, List.drop_succ_cons, List.drop_nil, List.length_cons, List.length_nil, List.cons_append, List.nil_append, List.append_nil, Nat.zero_add, Nat.add_zero, Nat.reduceAdd, Nat.reduceBEq, Nat.reduceEqDiff, Nat.ble, BEq.rfl, Bool.and_true, Bool.and_self, cond_true, beq_self_eq_true]; rfl) ?_)
              clear hl hh a w; intro k93 a w hl hh
              refine wl (w_buildSlice hl hh rfl trivial app86 zero3 rfl rfl rfl rfl rfl (by simp only [fillL, arrPl, List.range_succ, List.range_zero, List.map_cons, List.map_nil, List.map_append, List.nil_append, List.replicate_succ, List.replicate_zero, List.flatten_cons, List.flatten_nil, Nat.zero_mul, Nat.mul_one, Nat.one_mul, Nat.reduceMul, setL, List.getElem?_cons_zero, List.getElem?_cons_succ, Value.cells, List.take_zero, List.take_succ_cons, List.take_nil, List.drop_zero, List.drop_succ_cons, List.drop_nil, List.length_cons, List.length_nil, List.cons_append, List.nil_append, List.append_nil, Nat.zero_add, Nat.add_zero, Nat.reduceAdd, Nat.reduceBEq, Nat.reduceEqDiff, Nat.ble, BEq.rfl, Bool.and_true, Bool.and_self, cond_true, beq_self_eq_true]; rfl) ?_)
              clear hl hh a w; intro k94 a w hl hh
              refine wl (w_buildSlice hl hh rfl trivial app86 zero3 rfl rfl rfl rfl rfl (by simp only [fillL, arrPl, List.range_succ, List.range_zero, List.map_cons, List.map_nil, List.map_append, List.nil_append, List.replicate_succ, List.replicate_zero, List.flatten_cons, List.flatten_nil, Nat.zero_mul, Nat.mul_one, Nat.one_mul, Nat.reduceMul, setL, List.getElem?_cons_zero, List.getElem?_cons_succ, Value.cells, List.take_zero, List.take_succ_cons, List.take_nil, List.drop_zero, List.drop_succ_cons, List.drop_nil, List.length_cons, List.length_nil, List.cons_append, List.nil_append, List.append_nil, Nat.zero_add, Nat.add_zero, Nat.reduceAdd, Nat.reduceBEq, Nat.reduceEqDiff, Nat.ble, BEq.rfl, Bool.and_true, Bool.and_self, cond_true, beq_self_eq_true]; rfl) ?_)
              clear hl hh a w; intro k95 a w hl hh
              refine wl (w_buildSlice hl hh rfl trivial app91 zero86 rfl rfl rfl rfl rfl (by simp only [fillL, arrPl, List.range_succ, List.range_zero, List.map_cons, List.map_nil, List.map_append, List.nil_append, List.replicate_succ, List.replicate_zero, List.flatten_cons, List.flatten_nil, Nat.zero_mul, Nat.mul_one, Nat.one_mul, Nat.reduceMul, setL, List.getElem?_cons_zero, List.getElem?_cons_succ, Value.cells, List.take_zero, List.take_succ_cons, List.take_nil, List.drop_zero, List.drop_succ_cons, List.drop_nil, List.length_cons, List.length_nil, List.cons_append, List.nil_append, List.append_nil, Nat.zero_add, Nat.add_zero, Nat.reduceAdd, Nat.reduceBEq, Nat.reduceEqDiff, Nat.ble, BEq.rfl, Bool.and_true, Bool.and_self, cond_true, beq_self_eq_true]; rfl) ?_)
              clear hl hh a w; intro k96 a w hl hh
              refine wl (wl_val hl rfl trivial (r_lenS hl rfl slc91) ?_)
              clear hl a; intro a hl
              refine wl (wl_val hl rfl trivial (r_move hl rfl) ?_)
              clear hl a; intro a hl
              refine w_nil ?_
              have hl2 := hl.add (t := 3) (hl.add (t := 12) (hl.add (t := 16) (hl.add (t := 25) (hl.add (t := 26) (hl.add (t := 27) (hl.add (t := 96) (hl.add (t := 97) (hl.add (t := 98) (hl.nil) rfl) rfl) rfl) rfl) rfl) rfl) rfl) rfl) rfl; clear hl; have hl := hl2; clear hl2
              refine then_normal ?_
              refine wp_block ?_
              obtain ⟨KS1, hKS1, hk⟩ := (hl.add (t := 3) (hl.add (t := 12) (hl.add (t := 16) (hl.add (t := 25) (hl.add (t := 26) (hl.add (t := 27) (hl.add (t := 96) (hl.add (t := 97) (hl.nil) rfl) rfl) rfl) rfl) rfl) rfl) rfl) rfl).name
              obtain ⟨HS1, hHS1, hh2⟩ := hh.name (keeps_nil)
              refine c_loop (α := Nat) (fun y => 5 - y) (fun y a w => (y ≤ 5) ∧ Sl 109 ([(98, .int .i64 (y : Int))] ++ KS1) a ∧ Has _ w0 ([] ++ HS1) w) 0 ⟨(by omega), hl.addE (t := 98) (hk) rfl (by first | rfl), hh2⟩ ?_
              clear hk hh2 hl hh a w
              intro y a w hI
              obtain ⟨hy5, hl, hh⟩ := hI
              subst hKS1; subst hHS1
              simp only [List.cons_append, List.nil_append, List.append_nil, List.append_assoc] at hl hh
              refine c_seq ?_
              refine c_region ?_
              refine wl (wl_val hl rfl trivial (r_lss hl rfl rfl) ?_)
              clear hl a; intro a hl
              refine w_nil ?_
              have hl2 := hl.add (t := 3) (hl.add (t := 12) (hl.add (t := 16) (hl.add (t := 25) (hl.add (t := 26) (hl.add (t := 27) (hl.add (t := 96) (hl.add (t := 97) (hl.add (t := 98) (hl.add (t := 99) (hl.nil) rfl) rfl) rfl) rfl) rfl) rfl) rfl) rfl) rfl) rfl; clear hl; have hl := hl2; clear hl2
              refine then_normal ?_
              refine c_seq ?_
              refine c_cond hl rfl ?_ ?_
              · intro hc5
                try simp only [decide_eq_true_eq, decide_eq_false_iff_not, Bool.not_eq_true', Bool.not_eq_false', Bool.not_eq_true, Bool.not_eq_false, Bool.and_eq_true, Bool.or_eq_true, Bool.and_eq_false_iff, Bool.or_eq_false_iff, Bool.not_not, ne_eq, Int.not_lt, Int.not_le, Decidable.not_not, beq_iff_eq, bne_iff_ne] at hc5
                obtain ⟨ko, od, hcell, hmo, hol, hod⟩ : ∃ ko od, ([.slice (some ⟨k91, 0, none⟩) 3 3, .slice (some ⟨k92, 0, none⟩) 3 3, .slice (some ⟨k93, 0, none⟩) 3 3, .slice (some ⟨k94, 0, none⟩) 3 3, .slice (some ⟨k95, 0, none⟩) 3 3] : List Value)[0 + y * 1]? = some (.slice (some ⟨ko, 0, none⟩) od.length 3) ∧ (∀ w9, Mem [(k91, C (fl ivc [0, 2, 1] ++ []) 3), (k92, C (fl ivc [1, 0, 2] ++ []) 3), (k93, C (fl ivc [1, 2, 0] ++ []) 3), (k94, C (fl ivc [2, 0, 1] ++ []) 3), (k95, C (fl ivc [2, 1, 0] ++ []) 3)] w9 → w9.heap[ko]? = some (C (fl ivc od ++ []) 3)) ∧ od.length = 3 ∧ (od = [0, 1, 2] ∨ od = [0, 2, 1] ∨ od = [1, 0, 2] ∨ od = [1, 2, 0] ∨ od = [2, 0, 1] ∨ od = [2, 1, 0]) := by
                  have hy9 : y = 0 ∨ y = 1 ∨ y = 2 ∨ y = 3 ∨ y = 4 := by omega
                  rcases hy9 with rfl | rfl | rfl | rfl | rfl
                  · exact ⟨k91, [0, 2, 1], rfl, fun w9 h9 => h9 _ _ (.head _), rfl, .inr (.inl rfl)⟩
                  · exact ⟨k92, [1, 0, 2], rfl, fun w9 h9 => h9 _ _ (.tail _ (.head _)), rfl, .inr (.inr (.inl rfl))⟩
                  · exact ⟨k93, [1, 2, 0], rfl, fun w9 h9 => h9 _ _ (.tail _ (.tail _ (.head _))), rfl, .inr (.inr (.inr (.inl rfl)))⟩
                  · exact ⟨k94, [2, 0, 1], rfl, fun w9 h9 => h9 _ _ (.tail _ (.tail _ (.tail _ (.head _)))), rfl, .inr (.inr (.inr (.inr (.inl rfl))))⟩
                  · exact ⟨k95, [2, 1, 0], rfl, fun w9 h9 => h9 _ _ (.tail _ (.tail _ (.tail _ (.tail _ (.head _))))), rfl, .inr (.inr (.inr (.inr (.inr (rfl)))))⟩
                have hod3 : ∀ j, j ∈ od → j < 3 := by rcases hod with rfl | rfl | rfl | rfl | rfl | rfl <;> decide
                refine wp_skip ?_
                refine then_normal ?_
                refine c_seq ?_
                refine wp_block ?_
                refine c_seq ?_
                refine c_region ?_
                refine wl (wl_val hl rfl trivial (r_indexS hl rfl rfl slc91 (by omega) (by omega) (by first | (simp only [Int.reduceToNat]; rfl) | exact toNat_add1 _ | exact toNat_add2 _ _ | exact toNat_emod _ _ | exact Int.toNat_natCast _ | rfl)) ?_)
                clear hl a; intro a hl
                refine wl (w_load hl hh rfl trivial one86 rfl (by repeat (first | exact find_head | apply find_tail | apply find_skip)) (by first | exact hcell | rfl | rfl) ?_)
                clear hl a; intro a hl
                refine wl (wl_val hl rfl trivial (r_assign hl rfl) ?_)
                clear hl a; intro a hl
                refine w_nil ?_
                have hl2 := hl.add (t := 3) (hl.add (t := 12) (hl.add (t := 16) (hl.add (t := 18) (hl.add (t := 25) (hl.add (t := 26) (hl.add (t := 27) (hl.add (t := 96) (hl.add (t := 97) (hl.add (t := 98) (hl.nil) rfl) rfl) rfl) rfl) rfl) rfl) rfl) rfl) rfl) rfl; clear hl; have hl := hl2; clear hl2
                refine then_normal ?_
                refine c_seq ?_
                refine c_region ?_
                refine wl (wl_val hl rfl trivial (r_move hl rfl) ?_)
                clear hl a; intro a hl
                refine wl (wl_val hl rfl trivial (r_move hl rfl) ?_)
                clear hl a; intro a hl
                refine wl (w_call hl hh rfl trivial rfl cal32 rfl (play_spec hS2 bg tT tf (40 * ((z.i + 1 : Nat) : Int)) (400 * ((z.i + 1 : Nat) : Int) + 4) ⟨by omega, by omega⟩ (by omega) (by omega) hG4 (wn % 4) (by omega) (ms7 (o.b % 4) wn e s) (us7 wn e s) (ms7_us hwn16 her (by omega) hsz hsb) rfl od hod3 (by omega) 3 ko k3 k11 k8) (by repeat (first | exact keeps_nil | apply keeps_cons (by repeat (first | exact find_head | apply find_tail | apply find_skip)) (by first  | rfl) | exact keeps_self | exact keeps_left | apply keeps_app | apply keeps_mv | apply keeps_skip)) ⟨⟨memK (E := sysL bg M2) hh (by repeat (first | exact keeps_nil | apply keeps_cons (by repeat (first | exact find_head | apply find_tail | apply find_skip)) (by first  | rfl) | exact keeps_self | exact keeps_left | apply keeps_app | apply keeps_mv | apply keeps_skip)), (pt_law (Fn := []) hh hpre.2 (by repeat (first | exact keeps_nil | apply keeps_cons (by repeat (first | exact find_head | apply find_tail | apply find_skip)) (by first  | rfl) | exact keeps_self | exact keeps_left | apply keeps_app | apply keeps_mv | apply keeps_skip))).1⟩, (mem1 (memK (E := [(k3, C [.pointer (some ⟨bg, 0, none⟩)] 24)]) hh (by repeat (first | exact keeps_nil | apply keeps_cons (by repeat (first | exact find_head | apply find_tail | apply find_skip)) (by first  | rfl) | exact keeps_self | exact keeps_left | apply keeps_app | apply keeps_mv | apply keeps_skip)))), (mem1 (memK (E := [(k11, C (fl rmc (ms7 (o.b % 4) wn e s) ++ []) 85)]) hh (by repeat (first | exact keeps_nil | apply keeps_cons (by repeat (first | exact find_head | apply find_tail | apply find_skip)) (by first  | rfl) | exact keeps_self | exact keeps_left | apply keeps_app | apply keeps_mv | apply keeps_skip)))), (mem1 (memK (E := [(k8, C [.int .i64 ((wn % 4 : Nat) : Int)] 58)]) hh (by repeat (first | exact keeps_nil | apply keeps_cons (by repeat (first | exact find_head | apply find_tail | apply find_skip)) (by first  | rfl) | exact keeps_self | exact keeps_left | apply keeps_app | apply keeps_mv | apply keeps_skip)))), (hmo w (memK (E := [(k91, C (fl ivc [0, 2, 1] ++ []) 3), (k92, C (fl ivc [1, 0, 2] ++ []) 3), (k93, C (fl ivc [1, 2, 0] ++ []) 3), (k94, C (fl ivc [2, 0, 1] ++ []) 3), (k95, C (fl ivc [2, 1, 0] ++ []) 3)]) hh (by repeat (first | exact keeps_nil | apply keeps_cons (by repeat (first | exact find_head | apply find_tail | apply find_skip)) (by first  | rfl) | exact keeps_self | exact keeps_left | apply keeps_app | apply keeps_mv | apply keeps_skip))))⟩ ?_)
                clear hl hh a w; intro vc Fc a w hR hl hh
                obtain ⟨ve4, rfl, hR4⟩ := hR
                try simp only [List.cons_append, List.nil_append, List.append_assoc, List.append_nil] at hh
                rw [pl3 hok7 od hod] at hl hR4
                generalize Fc = Ee4 at hh hR4
                refine wl (w_alloc hl hh rfl trivial zero61 rfl ?_)
                clear hl hh a w; intro k19 a w hl hh
                refine wl (w_storeA hl hh trivial agg61 rfl rfl (by repeat (first | exact find_head | apply find_tail | apply find_skip)) (by first | rfl | (simp; done) | rfl | exact arrL_length _ _) (by first | (simp; done) | (simp; omega) | (rw [arrL_length]; omega)) (by first | rfl | (simp; done) | rfl | exact arrL_all (fun j => ite_one hR0.one rfl) | exact arrL_all (fun j => ite_one hR1.one rfl) | exact arrL_all (fun j => ite_one hR2.one rfl) | exact arrL_all (fun j => ite_one hR3.one rfl) | exact arrL_all (fun j => ite_one hR4.one rfl)) (by first | exact setL_whole (arrL_length _ _) | (simp only [setL, List.getElem?_cons_zero, List.getElem?_cons_succ, Value.cells, List.take_zero, List.take_succ_cons, List.take_nil, List.drop_zero, List.drop_succ_cons, List.drop_nil, List.length_cons, List.length_nil, List.cons_append, List.nil_append, List.append_nil, Nat.zero_add, Nat.add_zero, Nat.reduceAdd, Nat.reduceBEq, Nat.reduceEqDiff, Nat.ble, BEq.rfl, Bool.and_true, Bool.and_self, cond_true, beq_self_eq_true]; rfl)) ?_)
                clear hh w; intro w hh
                refine w_nil ?_
                have hl2 := hl.add (t := 3) (hl.add (t := 12) (hl.add (t := 16) (hl.add (t := 19) (hl.add (t := 25) (hl.add (t := 26) (hl.add (t := 27) (hl.add (t := 96) (hl.add (t := 97) (hl.add (t := 98) (hl.nil) rfl) rfl) rfl) rfl) rfl) rfl) rfl) rfl) rfl) rfl; clear hl; have hl := hl2; clear hl2
                refine then_normal ?_
                refine c_seq ?_
                refine c_region ?_
                refine wl (w_call hl hh rfl trivial rfl cal34 rfl (eqS2_spec (flK (ends g2 wn e).flr (wn % 4)) (flK_rng (B := 40 * ((z.i + 1 : Nat) : Int) + 1) (Q := 400 * ((z.i + 1 : Nat) : Int) + 4) hGe ⟨by omega, by omega⟩ (wn % 4)) (edN (wsK (ends g2 wn e).ws (wn % 4)) 16) (edK_len (B := 40 * ((z.i + 1 : Nat) : Int) + 1) (Q := 400 * ((z.i + 1 : Nat) : Int) + 4) hGe ⟨by omega, by omega⟩ (wn % 4)) (eg_ok (B := 40 * ((z.i + 1 : Nat) : Int) + 1) (Q := 400 * ((z.i + 1 : Nat) : Int) + 4) hGe ⟨by omega, by omega⟩) k19 k16 ve4 ve3 Ee4 Ee3 hR4 hR3) (by repeat (first | exact keeps_nil | apply keeps_cons (by repeat (first | exact find_head | apply find_tail | apply find_skip)) (by first  | rfl) | exact keeps_self | exact keeps_left | apply keeps_app | apply keeps_mv | apply keeps_skip)) ⟨memK (E := (k19, C (arrL 17 (shV (flK (ends g2 wn e).flr (wn % 4)) ve4)) 61) :: Ee4) hh (by repeat (first | exact keeps_nil | apply keeps_cons (by repeat (first | exact find_head | apply find_tail | apply find_skip)) (by first  | rfl) | exact keeps_self | exact keeps_left | apply keeps_app | apply keeps_mv | apply keeps_skip)), memK (E := (k16, C (arrL 17 (shV (flK (ends g2 wn e).flr (wn % 4)) ve3)) 61) :: Ee3) hh (by repeat (first | exact keeps_nil | apply keeps_cons (by repeat (first | exact find_head | apply find_tail | apply find_skip)) (by first  | rfl) | exact keeps_self | exact keeps_left | apply keeps_app | apply keeps_mv | apply keeps_skip))⟩ ?_)
                clear hl hh a w; intro vc Fc a w hR hl hh
                obtain ⟨rfl, rfl⟩ := hR
                try simp only [List.cons_append, List.nil_append, List.append_assoc, List.append_nil] at hh
                refine wl (wl_val hl rfl trivial (r_not hl rfl) ?_)
                clear hl a; intro a hl
                refine w_nil ?_
                have hl2 := hl.add (t := 3) (hl.add (t := 12) (hl.add (t := 16) (hl.add (t := 25) (hl.add (t := 26) (hl.add (t := 27) (hl.add (t := 96) (hl.add (t := 97) (hl.add (t := 98) (hl.add (t := 106) (hl.nil) rfl) rfl) rfl) rfl) rfl) rfl) rfl) rfl) rfl) rfl; clear hl; have hl := hl2; clear hl2
                refine then_normal ?_
                refine c_condF hl rfl ?_
                refine wp_skip ?_
                refine blk_normal ?_
                refine then_normal ?_
                refine c_region ?_
                first | refine wl (wl_val hl rfl trivial (r_add hl rfl rfl (by simp only [Fits]; omega)) ?_) | refine wl (wl_val hl rfl trivial (r_addW hl rfl rfl) ?_)
                clear hl a; intro a hl
                refine wl (wl_val hl rfl trivial (r_move hl rfl) ?_)
                clear hl a; intro a hl
                refine w_nil ?_
                have hl2 := hl.add (t := 3) (hl.add (t := 12) (hl.add (t := 16) (hl.add (t := 25) (hl.add (t := 26) (hl.add (t := 27) (hl.add (t := 96) (hl.add (t := 97) (hl.add (t := 98) (hl.nil) rfl) rfl) rfl) rfl) rfl) rfl) rfl) rfl) rfl; clear hl; have hl := hl2; clear hl2
                refine then_normal ?_
                refine ⟨(y + 1), (by omega), (by omega), hl.addE (t := 98) (hl.addE (t := 3) (hl.addE (t := 12) (hl.addE (t := 16) (hl.addE (t := 25) (hl.addE (t := 26) (hl.addE (t := 27) (hl.addE (t := 96) (hl.addE (t := 97) (hl.nil) rfl (by first | rfl | (congr 1; omega))) rfl (by first | rfl | (congr 1; omega))) rfl (by first | rfl | (congr 1; omega))) rfl (by first | rfl | (congr 1; omega))) rfl (by first | rfl | (congr 1; omega))) rfl (by first | rfl | (congr 1; omega))) rfl (by first | rfl | (congr 1; omega))) rfl (by first | rfl | (congr 1; omega))) rfl (by first | rfl | (congr 1; omega)), hh.keep (by repeat (first | exact keeps_nil | apply keeps_cons (by repeat (first | exact find_head | apply find_tail | apply find_skip)) (by first  | rfl) | exact keeps_self | exact keeps_left | apply keeps_app | apply keeps_mv | apply keeps_skip))⟩
              · intro hc5
                try simp only [decide_eq_true_eq, decide_eq_false_iff_not, Bool.not_eq_true', Bool.not_eq_false', Bool.not_eq_true, Bool.not_eq_false, Bool.and_eq_true, Bool.or_eq_true, Bool.and_eq_false_iff, Bool.or_eq_false_iff, Bool.not_not, ne_eq, Int.not_lt, Int.not_le, Decidable.not_not, beq_iff_eq, bne_iff_ne] at hc5
                refine wp_exit ?_
                refine then_exit ?_
                refine then_exit ?_
                refine blk_exit ?_
                refine blk_normal ?_
                refine then_normal ?_
                refine c_region ?_
                first | refine wl (wl_val hl rfl trivial (r_add hl rfl rfl (by simp only [Fits]; omega)) ?_) | refine wl (wl_val hl rfl trivial (r_addW hl rfl rfl) ?_)
                clear hl a; intro a hl
                refine wl (wl_val hl rfl trivial (r_move hl rfl) ?_)
                clear hl a; intro a hl
                refine w_nil ?_
                have hl2 := hl.add (t := 3) (hl.add (t := 25) (hl.add (t := 26) (hl.add (t := 27) (hl.nil) rfl) rfl) rfl) rfl; clear hl; have hl := hl2; clear hl2
                refine then_normal ?_
                refine ⟨⟨g2, M2, z.i + 1⟩, (by simp only; omega), ⟨by simp only; omega, hS2, hG3⟩, hl.addE (t := 27) (hl.addE (t := 3) (hl.addE (t := 25) (hl.addE (t := 26) (hl.nil) rfl (by first | rfl | (congr 1; omega))) rfl (by first | rfl | (congr 1; omega))) rfl (by first | rfl | (congr 1; omega))) rfl (by first | rfl | (congr 1; omega)), hh.keep (by repeat (first | exact keeps_nil | apply keeps_cons (by repeat (first | exact find_head | apply find_tail | apply find_skip)) (by first  | rfl) | exact keeps_self | exact keeps_left | apply keeps_app | apply keeps_mv | apply keeps_skip))⟩
            · intro hc3
              try simp only [decide_eq_true_eq, decide_eq_false_iff_not, Bool.not_eq_true', Bool.not_eq_false', Bool.not_eq_true, Bool.not_eq_false, Bool.and_eq_true, Bool.or_eq_true, Bool.and_eq_false_iff, Bool.or_eq_false_iff, Bool.not_not, ne_eq, Int.not_lt, Int.not_le, Decidable.not_not, beq_iff_eq, bne_iff_ne] at hc3
              obtain ⟨e, he⟩ : ∃ e, e = g2.ep wn + o.c % 4 := ⟨_, rfl⟩
              have her : 0 ≤ e ∧ e ≤ 400 * ((z.i + 1 : Nat) : Int) + 4 := by omega
              rw [← he] at hh
              clear he
              have hGe : GI (40 * ((z.i + 1 : Nat) : Int) + 1) (400 * ((z.i + 1 : Nat) : Int) + 4) (ends g2 wn e) := hG4.apply (u := ⟨3, wn, e, 0#16⟩) ⟨by omega, by omega⟩ hwn16 her
              refine wp_skip ?_
              refine then_normal ?_
              refine c_seq ?_
              refine c_region ?_
              refine wl (wl_val hl rfl trivial (r_makeFunc hl rfl) ?_)
              clear hl a; intro a hl
              refine wl (wl_val hl rfl trivial (r_assign hl rfl) ?_)
              clear hl a; intro a hl
              refine w_nil ?_
              have hl2 := hl.add (t := 3) (hl.add (t := 7) (hl.add (t := 8) (hl.add (t := 10) (hl.add (t := 25) (hl.add (t := 26) (hl.add (t := 27) (hl.nil) rfl) rfl) rfl) rfl) rfl) rfl) rfl; clear hl; have hl := hl2; clear hl2
              refine then_normal ?_
              refine c_seq ?_
              refine c_region ?_
              refine wl (wl_val hl rfl trivial (r_move hl rfl) ?_)
              clear hl a; intro a hl
              refine wl (wl_val hl rfl trivial (r_move hl rfl) ?_)
              clear hl a; intro a hl
              refine wl (w_call hl hh rfl trivial rfl cal31 rfl (msg_spec 1 (mi s) ((wn % 4 : Nat) : Int) e (mi_rng s) wn hwn16 o k5 k8 k6 k9) (by repeat (first | exact keeps_nil | apply keeps_cons (by repeat (first | exact find_head | apply find_tail | apply find_skip)) (by first  | rfl) | exact keeps_self | exact keeps_left | apply keeps_app | apply keeps_mv | apply keeps_skip)) (memK (E := [(k5, C (opc o) 32), (k8, C [.int .i64 ((wn % 4 : Nat) : Int)] 58), (k6, C [.int .i64 (wn : Int)] 52), (k9, C [.int .u64 e] 48)]) hh (by repeat (first | exact keeps_nil | apply keeps_cons (by repeat (first | exact find_head | apply find_tail | apply find_skip)) (by first  | rfl) | exact keeps_self | exact keeps_left | apply keeps_app | apply keeps_mv | apply keeps_skip))) ?_)
              clear hl hh a w; intro vc Fc a w hR hl hh
              obtain ⟨rfl, rfl⟩ := hR
              try simp only [List.cons_append, List.nil_append, List.append_assoc, List.append_nil] at hh
              refine wl (wl_val hl rfl trivial (r_move hl rfl) ?_)
              clear hl a; intro a hl
              refine wl (wl_val hl rfl trivial (r_move hl rfl) ?_)
              clear hl a; intro a hl
              refine wl (w_call hl hh rfl trivial rfl cal31 rfl (msg_spec 2 (mi s) ((wn % 4 : Nat) : Int) e (mi_rng s) wn hwn16 o k5 k8 k6 k9) (by repeat (first | exact keeps_nil | apply keeps_cons (by repeat (first | exact find_head | apply find_tail | apply find_skip)) (by first  | rfl) | exact keeps_self | exact keeps_left | apply keeps_app | apply keeps_mv | apply keeps_skip)) (memK (E := [(k5, C (opc o) 32), (k8, C [.int .i64 ((wn % 4 : Nat) : Int)] 58), (k6, C [.int .i64 (wn : Int)] 52), (k9, C [.int .u64 e] 48)]) hh (by repeat (first | exact keeps_nil | apply keeps_cons (by repeat (first | exact find_head | apply find_tail | apply find_skip)) (by first  | rfl) | exact keeps_self | exact keeps_left | apply keeps_app | apply keeps_mv | apply keeps_skip))) ?_)
              clear hl hh a w; intro vc Fc a w hR hl hh
              obtain ⟨rfl, rfl⟩ := hR
              try simp only [List.cons_append, List.nil_append, List.append_assoc, List.append_nil] at hh
              refine wl (wl_val hl rfl trivial (r_move hl rfl) ?_)
              clear hl a; intro a hl
              refine wl (w_call hl hh rfl trivial rfl cal31 rfl (msg_spec 3 0 ((wn % 4 : Nat) : Int) e ⟨by omega, by omega⟩ wn hwn16 o k5 k8 k6 k9) (by repeat (first | exact keeps_nil | apply keeps_cons (by repeat (first | exact find_head | apply find_tail | apply find_skip)) (by first  | rfl) | exact keeps_self | exact keeps_left | apply keeps_app | apply keeps_mv | apply keeps_skip)) (memK (E := [(k5, C (opc o) 32), (k8, C [.int .i64 ((wn % 4 : Nat) : Int)] 58), (k6, C [.int .i64 (wn : Int)] 52), (k9, C [.int .u64 e] 48)]) hh (by repeat (first | exact keeps_nil | apply keeps_cons (by repeat (first | exact find_head | apply find_tail | apply find_skip)) (by first  | rfl) | exact keeps_self | exact keeps_left | apply keeps_app | apply keeps_mv | apply keeps_skip))) ?_)
              clear hl hh a w; intro vc Fc a w hR hl hh
              obtain ⟨rfl, rfl⟩ := hR
              try simp only [List.cons_append, List.nil_append, List.append_assoc, List.append_nil] at hh
              refine wl (wl_val hl rfl trivial (r_build hl rfl zero85 bld85 (by simp only [fillL, setL, List.getElem?_cons_zero, List.getElem?_cons_succ, Value.cells, List.take_zero, List.take_succ_cons, List.take_nil, List.drop_zero, List.drop_succ_cons, List.drop_nil, List.length_cons, List.length_nil, List.cons_append, List.nil_append, List.append_nil, Nat.zero_add, Nat.add_zero, Nat.reduceAdd, Nat.reduceBEq, Nat.reduceEqDiff, Nat.ble, BEq.rfl, Bool.and_true, Bool.and_self, cond_true, beq_self_eq_true]; rfl)) ?_)
              clear hl a; intro a hl
              refine wl (w_alloc hl hh rfl trivial zero85 rfl ?_)
              clear hl hh a w; intro k11 a w hl hh
              refine wl (w_storeA hl hh trivial agg85 rfl rfl (by repeat (first | exact find_head | apply find_tail | apply find_skip)) (by first | rfl | (simp; done) | rfl | exact arrL_length _ _) (by first | (simp; done) | (simp; omega) | (rw [arrL_length]; omega)) (by first | rfl | (simp; done) | rfl | exact arrL_all (fun j => ite_one hR0.one rfl) | exact arrL_all (fun j => ite_one hR1.one rfl) | exact arrL_all (fun j => ite_one hR2.one rfl) | exact arrL_all (fun j => ite_one hR3.one rfl) | exact arrL_all (fun j => ite_one hR4.one rfl)) (by first | exact setL_whole (arrL_length _ _) | (simp only [setL, List.getElem?_cons_zero, List.getElem?_cons_succ, Value.cells, List.take_zero, List.take_succ_cons, List.take_nil, List.drop_zero, List.drop_succ_cons, List.drop_nil, List.length_cons, List.length_nil, List.cons_append, List.nil_append, List.append_nil, Nat.zero_add, Nat.add_zero, Nat.reduceAdd, Nat.reduceBEq, Nat.reduceEqDiff, Nat.ble, BEq.rfl, Bool.and_true, Bool.and_self, cond_true, beq_self_eq_true]; rfl)) ?_)
              clear hh w; intro w hh
              refine w_nil ?_
              have hl2 := hl.add (t := 3) (hl.add (t := 8) (hl.add (t := 11) (hl.add (t := 25) (hl.add (t := 26) (hl.add (t := 27) (hl.nil) rfl) rfl) rfl) rfl) rfl) rfl; clear hl; have hl := hl2; clear hl2
              refine then_normal ?_
              refine c_seq ?_
              refine c_region ?_
              refine wl (wl_val hl rfl trivial (r_makeFunc hl rfl) ?_)
              clear hl a; intro a hl
              refine wl (wl_val hl rfl trivial (r_assign hl rfl) ?_)
              clear hl a; intro a hl
              refine w_nil ?_
              have hl2 := hl.add (t := 3) (hl.add (t := 8) (hl.add (t := 12) (hl.add (t := 25) (hl.add (t := 26) (hl.add (t := 27) (hl.nil) rfl) rfl) rfl) rfl) rfl) rfl; clear hl; have hl := hl2; clear hl2
              refine then_normal ?_
              refine c_seq ?_
              refine c_region ?_
              refine wl (w_load hl hh rfl trivial one24 rfl (by repeat (first | exact find_head | apply find_tail | apply find_skip)) (by first | exact hcell | rfl | rfl) ?_)
              clear hl a; intro a hl
              refine wl (w_load hl hh rfl trivial one58 rfl (by repeat (first | exact find_head | apply find_tail | apply find_skip)) (by first | exact hcell | rfl | rfl) ?_)
              clear hl a; intro a hl
              refine wl (w_call hl hh rfl trivial rfl cal22 rfl (shard_spec hS2 bg (40 * ((z.i + 1 : Nat) : Int)) (400 * ((z.i + 1 : Nat) : Int) + 4) ⟨by omega, by omega⟩ hG4 (wn % 4) (by omega)) (by repeat (first | exact keeps_nil | apply keeps_cons (by repeat (first | exact find_head | apply find_tail | apply find_skip)) (by first  | rfl) | exact keeps_self | exact keeps_left | apply keeps_app | apply keeps_mv | apply keeps_skip)) (memK (E := sysL bg M2) hh (by repeat (first | exact keeps_nil | apply keeps_cons (by repeat (first | exact find_head | apply find_tail | apply find_skip)) (by first  | rfl) | exact keeps_self | exact keeps_left | apply keeps_app | apply keeps_mv | apply keeps_skip))) ?_)
              clear hl hh a w; intro vc Fc a w hR hl hh
              obtain ⟨ve0, rfl, hR0⟩ := hR
              try simp only [List.cons_append, List.nil_append, List.append_assoc, List.append_nil] at hh
              generalize Fc = Ee0 at hh hR0
              refine wl (wl_val hl rfl trivial (r_move hl rfl) ?_)
              clear hl a; intro a hl
              refine wl (w_buildSlice hl hh rfl trivial app86 zero3 rfl rfl rfl rfl rfl (by simp only [fillL, arrPl, List.range_succ, List.range_zero, List.map_cons, List.map_nil, List.map_append, List.nil_append, List.replicate_succ, List.replicate_zero, List.flatten_cons, List.flatten_nil, Nat.zero_mul, Nat.mul_one, Nat.one_mul, Nat.reduceMul, setL, List.getElem?_cons_zero, List.getElem?_cons_succ, Value.cells, List.take_zero, List.take_succ_cons, List.take_nil, List.drop_zero, List.drop_succ_cons, List.drop_nil, List.length_cons, List.length_nil, List.cons_append, List.nil_append, List.append_nil, Nat.zero_add, Nat.add_zero, Nat.reduceAdd, Nat.reduceBEq, Nat.reduceEqDiff, Nat.ble, BEq.rfl, Bool.and_true, Bool.and_self, cond_true, beq_self_eq_true]; rfl) ?_)
              clear hl hh a w; intro k77 a w hl hh
              refine wl (w_call hl hh rfl trivial rfl cal32 rfl (play_spec hS2 bg tT tf (40 * ((z.i + 1 : Nat) : Int)) (400 * ((z.i + 1 : Nat) : Int) + 4) ⟨by omega, by omega⟩ (by omega) (by omega) hG4 (wn % 4) (by omega) (ms7 (o.b % 4) wn e s) (us7 wn e s) (ms7_us hwn16 her (by omega) hsz hsb) rfl [0, 1] (by decide) (by decide) 2 k77 k3 k11 k8) (by repeat (first | exact keeps_nil | apply keeps_cons (by repeat (first | exact find_head | apply find_tail | apply find_skip)) (by first  | rfl) | exact keeps_self | exact keeps_left | apply keeps_app | apply keeps_mv | apply keeps_skip)) ⟨⟨memK (E := sysL bg M2) hh (by repeat (first | exact keeps_nil | apply keeps_cons (by repeat (first | exact find_head | apply find_tail | apply find_skip)) (by first  | rfl) | exact keeps_self | exact keeps_left | apply keeps_app | apply keeps_mv | apply keeps_skip)), (pt_law (Fn := []) hh hpre.2 (by repeat (first | exact keeps_nil | apply keeps_cons (by repeat (first | exact find_head | apply find_tail | apply find_skip)) (by first  | rfl) | exact keeps_self | exact keeps_left | apply keeps_app | apply keeps_mv | apply keeps_skip))).1⟩, (mem1 (memK (E := [(k3, C [.pointer (some ⟨bg, 0, none⟩)] 24)]) hh (by repeat (first | exact keeps_nil | apply keeps_cons (by repeat (first | exact find_head | apply find_tail | apply find_skip)) (by first  | rfl) | exact keeps_self | exact keeps_left | apply keeps_app | apply keeps_mv | apply keeps_skip)))), (mem1 (memK (E := [(k11, C (fl rmc (ms7 (o.b % 4) wn e s) ++ []) 85)]) hh (by repeat (first | exact keeps_nil | apply keeps_cons (by repeat (first | exact find_head | apply find_tail | apply find_skip)) (by first  | rfl) | exact keeps_self | exact keeps_left | apply keeps_app | apply keeps_mv | apply keeps_skip)))), (mem1 (memK (E := [(k8, C [.int .i64 ((wn % 4 : Nat) : Int)] 58)]) hh (by repeat (first | exact keeps_nil | apply keeps_cons (by repeat (first | exact find_head | apply find_tail | apply find_skip)) (by first  | rfl) | exact keeps_self | exact keeps_left | apply keeps_app | apply keeps_mv | apply keeps_skip)))), (mem1 (memK (E := [(k77, C (fl ivc [0, 1] ++ []) 3)]) hh (by repeat (first | exact keeps_nil | apply keeps_cons (by repeat (first | exact find_head | apply find_tail | apply find_skip)) (by first  | rfl) | exact keeps_self | exact keeps_left | apply keeps_app | apply keeps_mv | apply keeps_skip))))⟩ ?_)
              clear hl hh a w; intro vc Fc a w hR hl hh
              obtain ⟨ve1, rfl, hR1⟩ := hR
              try simp only [List.cons_append, List.nil_append, List.append_assoc, List.append_nil] at hh
              rw [pl01 hok7] at hl hR1
              generalize Fc = Ee1 at hh hR1
              refine wl (wl_val hl rfl trivial (r_move hl rfl) ?_)
              clear hl a; intro a hl
              refine wl (w_buildSlice hl hh rfl trivial app86 zero3 rfl rfl rfl rfl rfl (by simp only [fillL, arrPl, List.range_succ, List.range_zero, List.map_cons, List.map_nil, List.map_append, List.nil_append, List.replicate_succ, List.replicate_zero, List.flatten_cons, List.flatten_nil, Nat.zero_mul, Nat.mul_one, Nat.one_mul, Nat.reduceMul, setL, List.getElem?_cons_zero, List.getElem?_cons_succ, Value.cells, List.take_zero, List.take_succ_cons, List.take_nil, List.drop_zero, List.drop_succ_cons, List.drop_nil, List.length_cons, List.length_nil, List.cons_append, List.nil_append, List.append_nil, Nat.zero_add, Nat.add_zero, Nat.reduceAdd, Nat.reduceBEq, Nat.reduceEqDiff, Nat.ble, BEq.rfl, Bool.and_true, Bool.and_self, cond_true, beq_self_eq_true]; rfl) ?_)
              clear hl hh a w; intro k80 a w hl hh
              refine wl (w_call hl hh rfl trivial rfl cal32 rfl (play_spec hS2 bg tT tf (40 * ((z.i + 1 : Nat) : Int)) (400 * ((z.i + 1 : Nat) : Int) + 4) ⟨by omega, by omega⟩ (by omega) (by omega) hG4 (wn % 4) (by omega) (ms7 (o.b % 4) wn e s) (us7 wn e s) (ms7_us hwn16 her (by omega) hsz hsb) rfl [1, 0] (by decide) (by decide) 2 k80 k3 k11 k8) (by repeat (first | exact keeps_nil | apply keeps_cons (by repeat (first | exact find_head | apply find_tail | apply find_skip)) (by first  | rfl) | exact keeps_self | exact keeps_left | apply keeps_app | apply keeps_mv | apply keeps_skip)) ⟨⟨memK (E := sysL bg M2) hh (by repeat (first | exact keeps_nil | apply keeps_cons (by repeat (first | exact find_head | apply find_tail | apply find_skip)) (by first  | rfl) | exact keeps_self | exact keeps_left | apply keeps_app | apply keeps_mv | apply keeps_skip)), (pt_law (Fn := []) hh hpre.2 (by repeat (first | exact keeps_nil | apply keeps_cons (by repeat (first | exact find_head | apply find_tail | apply find_skip)) (by first  | rfl) | exact keeps_self | exact keeps_left | apply keeps_app | apply keeps_mv | apply keeps_skip))).1⟩, (mem1 (memK (E := [(k3, C [.pointer (some ⟨bg, 0, none⟩)] 24)]) hh (by repeat (first | exact keeps_nil | apply keeps_cons (by repeat (first | exact find_head | apply find_tail | apply find_skip)) (by first  | rfl) | exact keeps_self | exact keeps_left | apply keeps_app | apply keeps_mv | apply keeps_skip)))), (mem1 (memK (E := [(k11, C (fl rmc (ms7 (o.b % 4) wn e s) ++ []) 85)]) hh (by repeat (first | exact keeps_nil | apply keeps_cons (by repeat (first | exact find_head | apply find_tail | apply find_skip)) (by first  | rfl) | exact keeps_self | exact keeps_left | apply keeps_app | apply keeps_mv | apply keeps_skip)))), (mem1 (memK (E := [(k8, C [.int .i64 ((wn % 4 : Nat) : Int)] 58)]) hh (by repeat (first | exact keeps_nil | apply keeps_cons (by repeat (first | exact find_head | apply find_tail | apply find_skip)) (by first  | rfl) | exact keeps_self | exact keeps_left | apply keeps_app | apply keeps_mv | apply keeps_skip)))), (mem1 (memK (E := [(k80, C (fl ivc [1, 0] ++ []) 3)]) hh (by repeat (first | exact keeps_nil | apply keeps_cons (by repeat (first | exact find_head | apply find_tail | apply find_skip)) (by first  | rfl) | exact keeps_self | exact keeps_left | apply keeps_app | apply keeps_mv | apply keeps_skip))))⟩ ?_)
              clear hl hh a w; intro vc Fc a w hR hl hh
              obtain ⟨ve2, rfl, hR2⟩ := hR
              try simp only [List.cons_append, List.nil_append, List.append_assoc, List.append_nil] at hh
              rw [pl10 hok7] at hl hR2
              generalize Fc = Ee2 at hh hR2
              refine wl (w_alloc hl hh rfl trivial zero61 rfl ?_)
              clear hl hh a w; intro k13 a w hl hh
              refine wl (w_alloc hl hh rfl trivial zero61 rfl ?_)
              clear hl hh a w; intro k14 a w hl hh
              refine wl (w_alloc hl hh rfl trivial zero61 rfl ?_)
              clear hl hh a w; intro k15 a w hl hh
              refine wl (w_storeA hl hh trivial agg61 rfl rfl (by repeat (first | exact find_head | apply find_tail | apply find_skip)) (by first | rfl | (simp; done) | rfl | exact arrL_length _ _) (by first | (simp; done) | (simp; omega) | (rw [arrL_length]; omega)) (by first | rfl | (simp; done) | rfl | exact arrL_all (fun j => ite_one hR0.one rfl) | exact arrL_all (fun j => ite_one hR1.one rfl) | exact arrL_all (fun j => ite_one hR2.one rfl) | exact arrL_all (fun j => ite_one hR3.one rfl) | exact arrL_all (fun j => ite_one hR4.one rfl)) (by first | exact setL_whole (arrL_length _ _) | (simp only [setL, List.getElem?_cons_zero, List.getElem?_cons_succ, Value.cells, List.take_zero, List.take_succ_cons, List.take_nil, List.drop_zero, List.drop_succ_cons, List.drop_nil, List.length_cons, List.length_nil, List.cons_append, List.nil_append, List.append_nil, Nat.zero_add, Nat.add_zero, Nat.reduceAdd, Nat.reduceBEq, Nat.reduceEqDiff, Nat.ble, BEq.rfl, Bool.and_true, Bool.and_self, cond_true, beq_self_eq_true]; rfl)) ?_)
              clear hh w; intro w hh
              refine wl (w_storeA hl hh trivial agg61 rfl rfl (by repeat (first | exact find_head | apply find_tail | apply find_skip)) (by first | rfl | (simp; done) | rfl | exact arrL_length _ _) (by first | (simp; done) | (simp; omega) | (rw [arrL_length]; omega)) (by first | rfl | (simp; done) | rfl | exact arrL_all (fun j => ite_one hR0.one rfl) | exact arrL_all (fun j => ite_one hR1.one rfl) | exact arrL_all (fun j => ite_one hR2.one rfl) | exact arrL_all (fun j => ite_one hR3.one rfl) | exact arrL_all (fun j => ite_one hR4.one rfl)) (by first | exact setL_whole (arrL_length _ _) | (simp only [setL, List.getElem?_cons_zero, List.getElem?_cons_succ, Value.cells, List.take_zero, List.take_succ_cons, List.take_nil, List.drop_zero, List.drop_succ_cons, List.drop_nil, List.length_cons, List.length_nil, List.cons_append, List.nil_append, List.append_nil, Nat.zero_add, Nat.add_zero, Nat.reduceAdd, Nat.reduceBEq, Nat.reduceEqDiff, Nat.ble, BEq.rfl, Bool.and_true, Bool.and_self, cond_true, beq_self_eq_true]; rfl)) ?_)
              clear hh w; intro w hh
              refine wl (w_storeA hl hh trivial agg61 rfl rfl (by repeat (first | exact find_head | apply find_tail | apply find_skip)) (by first | rfl | (simp; done) | rfl | exact arrL_length _ _) (by first | (simp; done) | (simp; omega) | (rw [arrL_length]; omega)) (by first | rfl | (simp; done) | rfl | exact arrL_all (fun j => ite_one hR0.one rfl) | exact arrL_all (fun j => ite_one hR1.one rfl) | exact arrL_all (fun j => ite_one hR2.one rfl) | exact arrL_all (fun j => ite_one hR3.one rfl) | exact arrL_all (fun j => ite_one hR4.one rfl)) (by first | exact setL_whole (arrL_length _ _) | (simp only [setL, List.getElem?_cons_zero, List.getElem?_cons_succ, Value.cells, List.take_zero, List.take_succ_cons, List.take_nil, List.drop_zero, List.drop_succ_cons, List.drop_nil, List.length_cons, List.length_nil, List.cons_append, List.nil_append, List.append_nil, Nat.zero_add, Nat.add_zero, Nat.reduceAdd, Nat.reduceBEq, Nat.reduceEqDiff, Nat.ble, BEq.rfl, Bool.and_true, Bool.and_self, cond_true, beq_self_eq_true]; rfl)) ?_)
              clear hh w; intro w hh
              refine w_nil ?_
              have hl2 := hl.add (t := 3) (hl.add (t := 12) (hl.add (t := 13) (hl.add (t := 14) (hl.add (t := 15) (hl.add (t := 25) (hl.add (t := 26) (hl.add (t := 27) (hl.nil) rfl) rfl) rfl) rfl) rfl) rfl) rfl) rfl; clear hl; have hl := hl2; clear hl2
              refine then_normal ?_
              refine c_seq ?_
              refine c_seq ?_
              refine c_region ?_
              refine wl (w_call hl hh rfl trivial rfl cal34 rfl (eqS2_spec (flK g2.flr (wn % 4)) (flK_rng (B := 40 * ((z.i + 1 : Nat) : Int)) (Q := 400 * ((z.i + 1 : Nat) : Int) + 4) hG4 ⟨by omega, by omega⟩ (wn % 4)) (edN (wsK g2.ws (wn % 4)) 16) (edK_len (B := 40 * ((z.i + 1 : Nat) : Int)) (Q := 400 * ((z.i + 1 : Nat) : Int) + 4) hG4 ⟨by omega, by omega⟩ (wn % 4)) (eg_ok (B := 40 * ((z.i + 1 : Nat) : Int)) (Q := 400 * ((z.i + 1 : Nat) : Int) + 4) hG4 ⟨by omega, by omega⟩) k14 k13 ve1 ve0 Ee1 Ee0 hR1 hR0) (by repeat (first | exact keeps_nil | apply keeps_cons (by repeat (first | exact find_head | apply find_tail | apply find_skip)) (by first  | rfl) | exact keeps_self | exact keeps_left | apply keeps_app | apply keeps_mv | apply keeps_skip)) ⟨memK (E := (k14, C (arrL 17 (shV (flK g2.flr (wn % 4)) ve1)) 61) :: Ee1) hh (by repeat (first | exact keeps_nil | apply keeps_cons (by repeat (first | exact find_head | apply find_tail | apply find_skip)) (by first  | rfl) | exact keeps_self | exact keeps_left | apply keeps_app | apply keeps_mv | apply keeps_skip)), memK (E := (k13, C (arrL 17 (shV (flK g2.flr (wn % 4)) ve0)) 61) :: Ee0) hh (by repeat (first | exact keeps_nil | apply keeps_cons (by repeat (first | exact find_head | apply find_tail | apply find_skip)) (by first  | rfl) | exact keeps_self | exact keeps_left | apply keeps_app | apply keeps_mv | apply keeps_skip))⟩ ?_)
              clear hl hh a w; intro vc Fc a w hR hl hh
              obtain ⟨rfl, rfl⟩ := hR
              try simp only [List.cons_append, List.nil_append, List.append_assoc, List.append_nil] at hh
              refine wl (wl_val hl rfl trivial (r_not hl rfl) ?_)
              clear hl a; intro a hl
              refine wl (wl_val hl rfl trivial (r_move hl rfl) ?_)
              clear hl a; intro a hl
              refine wl (w_call hl hh rfl ⟨_, _, rfl, rfl, rfl⟩ rfl cal34 rfl (eqS2_spec (flK g2.flr (wn % 4)) (flK_rng (B := 40 * ((z.i + 1 : Nat) : Int)) (Q := 400 * ((z.i + 1 : Nat) : Int) + 4) hG4 ⟨by omega, by omega⟩ (wn % 4)) (edN (wsK g2.ws (wn % 4)) 16) (edK_len (B := 40 * ((z.i + 1 : Nat) : Int)) (Q := 400 * ((z.i + 1 : Nat) : Int) + 4) hG4 ⟨by omega, by omega⟩ (wn % 4)) (eg_ok (B := 40 * ((z.i + 1 : Nat) : Int)) (Q := 400 * ((z.i + 1 : Nat) : Int) + 4) hG4 ⟨by omega, by omega⟩) k15 k13 ve2 ve0 Ee2 Ee0 hR2 hR0) (by repeat (first | exact keeps_nil | apply keeps_cons (by repeat (first | exact find_head | apply find_tail | apply find_skip)) (by first  | rfl) | exact keeps_self | exact keeps_left | apply keeps_app | apply keeps_mv | apply keeps_skip)) ⟨memK (E := (k15, C (arrL 17 (shV (flK g2.flr (wn % 4)) ve2)) 61) :: Ee2) hh (by repeat (first | exact keeps_nil | apply keeps_cons (by repeat (first | exact find_head | apply find_tail | apply find_skip)) (by first  | rfl) | exact keeps_self | exact keeps_left | apply keeps_app | apply keeps_mv | apply keeps_skip)), memK (E := (k13, C (arrL 17 (shV (flK g2.flr (wn % 4)) ve0)) 61) :: Ee0) hh (by repeat (first | exact keeps_nil | apply keeps_cons (by repeat (first | exact find_head | apply find_tail | apply find_skip)) (by first  | rfl) | exact keeps_self | exact keeps_left | apply keeps_app | apply keeps_mv | apply keeps_skip))⟩ ?_)
              clear hl hh a w; intro vc Fc a w hR hl hh
              obtain ⟨rfl, rfl⟩ := hR
              try simp only [List.cons_append, List.nil_append, List.append_assoc, List.append_nil] at hh
              refine wl (wl_val hl rfl ⟨_, _, rfl, rfl, rfl⟩ (r_not hl rfl) ?_)
              clear hl a; intro a hl
              refine wl (wl_val hl rfl trivial (r_pickF hl rfl rfl) ?_)
              clear hl a; intro a hl
              refine w_nil ?_
              have hl2 := hl.add (t := 3) (hl.add (t := 12) (hl.add (t := 25) (hl.add (t := 26) (hl.add (t := 27) (hl.add (t := 87) (hl.nil) rfl) rfl) rfl) rfl) rfl) rfl; clear hl; have hl := hl2; clear hl2
              refine then_normal ?_
              refine c_condF hl rfl ?_
              refine wp_skip ?_
              refine then_normal ?_
              refine c_seq ?_
              refine c_region ?_
              refine wl (wl_val hl rfl trivial (r_move hl rfl) ?_)
              clear hl a; intro a hl
              refine wl (w_buildSlice hl hh rfl trivial app86 zero3 rfl rfl rfl rfl rfl (by simp only [fillL, arrPl, List.range_succ, List.range_zero, List.map_cons, List.map_nil, List.map_append, List.nil_append, List.replicate_succ, List.replicate_zero, List.flatten_cons, List.flatten_nil, Nat.zero_mul, Nat.mul_one, Nat.one_mul, Nat.reduceMul, setL, List.getElem?_cons_zero, List.getElem?_cons_succ, Value.cells, List.take_zero, List.take_succ_cons, List.take_nil, List.drop_zero, List.drop_succ_cons, List.drop_nil, List.length_cons, List.length_nil, List.cons_append, List.nil_append, List.append_nil, Nat.zero_add, Nat.add_zero, Nat.reduceAdd, Nat.reduceBEq, Nat.reduceEqDiff, Nat.ble, BEq.rfl, Bool.and_true, Bool.and_self, cond_true, beq_self_eq_true]; rfl) ?_)
              clear hl hh a w; intro k89 a w hl hh
              refine wl (w_call hl hh rfl trivial rfl cal32 rfl (play_spec hS2 bg tT tf (40 * ((z.i + 1 : Nat) : Int)) (400 * ((z.i + 1 : Nat) : Int) + 4) ⟨by omega, by omega⟩ (by omega) (by omega) hG4 (wn % 4) (by omega) (ms7 (o.b % 4) wn e s) (us7 wn e s) (ms7_us hwn16 her (by omega) hsz hsb) rfl [0, 1, 2] (by decide) (by decide) 3 k89 k3 k11 k8) (by repeat (first | exact keeps_nil | apply keeps_cons (by repeat (first | exact find_head | apply find_tail | apply find_skip)) (by first  | rfl) | exact keeps_self | exact keeps_left | apply keeps_app | apply keeps_mv | apply keeps_skip)) ⟨⟨memK (E := sysL bg M2) hh (by repeat (first | exact keeps_nil | apply keeps_cons (by repeat (first | exact find_head | apply find_tail | apply find_skip)) (by first  | rfl) | exact keeps_self | exact keeps_left | apply keeps_app | apply keeps_mv | apply keeps_skip)), (pt_law (Fn := []) hh hpre.2 (by repeat (first | exact keeps_nil | apply keeps_cons (by repeat (first | exact find_head | apply find_tail | apply find_skip)) (by first  | rfl) | exact keeps_self | exact keeps_left | apply keeps_app | apply keeps_mv | apply keeps_skip))).1⟩, (mem1 (memK (E := [(k3, C [.pointer (some ⟨bg, 0, none⟩)] 24)]) hh (by repeat (first | exact keeps_nil | apply keeps_cons (by repeat (first | exact find_head | apply find_tail | apply find_skip)) (by first  | rfl) | exact keeps_self | exact keeps_left | apply keeps_app | apply keeps_mv | apply keeps_skip)))), (mem1 (memK (E := [(k11, C (fl rmc (ms7 (o.b % 4) wn e s) ++ []) 85)]) hh (by repeat (first | exact keeps_nil | apply keeps_cons (by repeat (first | exact find_head | apply find_tail | apply find_skip)) (by first  | rfl) | exact keeps_self | exact keeps_left | apply keeps_app | apply keeps_mv | apply keeps_skip)))), (mem1 (memK (E := [(k8, C [.int .i64 ((wn % 4 : Nat) : Int)] 58)]) hh (by repeat (first | exact keeps_nil | apply keeps_cons (by repeat (first | exact find_head | apply find_tail | apply find_skip)) (by first  | rfl) | exact keeps_self | exact keeps_left | apply keeps_app | apply keeps_mv | apply keeps_skip)))), (mem1 (memK (E := [(k89, C (fl ivc [0, 1, 2] ++ []) 3)]) hh (by repeat (first | exact keeps_nil | apply keeps_cons (by repeat (first | exact find_head | apply find_tail | apply find_skip)) (by first  | rfl) | exact keeps_self | exact keeps_left | apply keeps_app | apply keeps_mv | apply keeps_skip))))⟩ ?_)
              clear hl hh a w; intro vc Fc a w hR hl hh
              obtain ⟨ve3, rfl, hR3⟩ := hR
              try simp only [List.cons_append, List.nil_append, List.append_assoc, List.append_nil] at hh
              rw [pl3 hok7 [0, 1, 2] (.inl rfl)] at hl hR3
              generalize Fc = Ee3 at hh hR3
              refine wl (w_alloc hl hh rfl trivial zero61 rfl ?_)
              clear hl hh a w; intro k16 a w hl hh
              refine wl (w_storeA hl hh trivial agg61 rfl rfl (by repeat (first | exact find_head | apply find_tail | apply find_skip)) (by first | rfl | (simp; done) | rfl | exact arrL_length _ _) (by first | (simp; done) | (simp; omega) | (rw [arrL_length]; omega)) (by first | rfl | (simp; done) | rfl | exact arrL_all (fun j => ite_one hR0.one rfl) | exact arrL_all (fun j => ite_one hR1.one rfl) | exact arrL_all (fun j => ite_one hR2.one rfl) | exact arrL_all (fun j => ite_one hR3.one rfl) | exact arrL_all (fun j => ite_one hR4.one rfl)) (by first | exact setL_whole (arrL_length _ _) | (simp only [setL, List.getElem?_cons_zero, List.getElem?_cons_succ, Value.cells, List.take_zero, List.take_succ_cons, List.take_nil, List.drop_zero, List.drop_succ_cons, List.drop_nil, List.length_cons, List.length_nil, List.cons_append, List.nil_append, List.append_nil, Nat.zero_add, Nat.add_zero, Nat.reduceAdd, Nat.reduceBEq, Nat.reduceEqDiff, Nat.ble, BEq.rfl, Bool.and_true, Bool.and_self, cond_true, beq_self_eq_true]; rfl)) ?_)
              clear hh w; intro w hh
              refine w_nil ?_
              have hl2 := hl.add (t := 3) (hl.add (t := 12) (hl.add (t := 16) (hl.add (t := 25) (hl.add (t := 26) (hl.add (t := 27) (hl.nil) rfl) rfl) rfl) rfl) rfl) rfl; clear hl; have hl := hl2; clear hl2
              refine then_normal ?_
              refine c_seq ?_
              refine c_region ?_
              refine wl (w_buildSlice hl hh rfl trivial app86 zero3 rfl rfl rfl rfl rfl (by simp only [fillL, arrPl, List.range_succ, List.range_zero, List.map_cons, List.map_nil, List.map_append, List.nil_append, List.replicate_succ, List.replicate_zero, List.flatten_cons, List.flatten_nil, Nat.zero_mul, Nat.mul_one, Nat.one_mul, Nat.reduceMul, setL, List.getElem?_cons_zero, List.getElem?_cons_succ, Value.cells, List.take_zero, List.take_succ_cons, List.take_nil, List.drop_zero, List.drop_succ_cons, List.drop_nil, List.length_cons, List.length_nil, List.cons_append, List.nil_append, List.append_nil, Nat.zero_add, Nat.add_zero, Nat.reduceAdd, Nat.reduceBEq, Nat.reduceEqDiff, Nat.ble, BEq.rfl, Bool.and_true, Bool.and_self, cond_true, beq_self_eq_true]; rfl) ?_)
              clear hl hh a w; intro k91 a w hl hh
              refine wl (w_buildSlice hl hh rfl trivial app86 zero3 rfl rfl rfl rfl rfl (by simp only [fillL, arrPl, List.range_succ, List.range_zero, List.map_cons, List.map_nil, List.map_append, List.nil_append, List.replicate_succ, List.replicate_zero, List.flatten_cons, List.flatten_nil, Nat.zero_mul, Nat.mul_one, Nat.one_mul, Nat.reduceMul, setL, List.getElem?_cons_zero, List.getElem?_cons_succ, Value.cells, List.take_zero, List.take_succ_cons, List.take_nil, List.drop_zero, List.drop_succ_cons, List.drop_nil, List.length_cons, List.length_nil, List.cons_append, List.nil_append, List.append_nil, Nat.zero_add, Nat.add_zero, Nat.reduceAdd, Nat.reduceBEq, Nat.reduceEqDiff, Nat.ble, BEq.rfl, Bool.and_true, Bool.and_self, cond_true, beq_self_eq_true]; rfl) ?_)
              clear hl hh a w; intro k92 a w hl hh
              refine wl (w_buildSlice hl hh rfl trivial app86 zero3 rfl rfl rfl rfl rfl (by simp only [fillL, arrPl, List.range_succ, List.range_zero, List.map_cons, List.map_nil, List.map_append, List.nil_append, List.replicate_succ, List.replicate_zero, List.flatten_cons, List.flatten_nil, Nat.zero_mul, Nat.mul_one, Nat.one_mul, Nat.reduceMul, setL, List.getElem?_cons_zero, List.getElem?_cons_succ, Value.cells, List.take_zero, List.take_succ_cons, List.take_nil, List.drop_zero, List.drop_succ_cons, List.drop_nil, List.length_cons, List.length_nil, List.cons_append, List.nil_append, List.append_nil, Nat.zero_add, Nat.add_zero, Nat.reduceAdd, Nat.reduceBEq, Nat.reduceEqDiff, Nat.ble, BEq.rfl, Bool.and_true, Bool.and_self, cond_true, beq_self_eq_true]; rfl) ?_)
              clear hl hh a w; intro k93 a w hl hh
              refine wl (w_buildSlice hl hh rfl trivial app86 zero3 rfl rfl rfl rfl rfl (by simp only [fillL, arrPl, List.range_succ, List.range_zero, List.map_cons, List.map_nil, List.map_append, List.nil_append, List.replicate_succ, List.replicate_zero, List.flatten_cons, List.flatten_nil, Nat.zero_mul, Nat.mul_one, Nat.one_mul, Nat.reduceMul, setL, List.getElem?_cons_zero, List.getElem?_cons_succ, Value.cells, List.take_zero, List.take_succ_cons, List.take_nil, List.drop_zero, List.drop_succ_cons, List.drop_nil, List.length_cons, List.length_nil, List.cons_append, List.nil_append, List.append_nil, Nat.zero_add, Nat.add_zero, Nat.reduceAdd, Nat.reduceBEq, Nat.reduceEqDiff, Nat.ble, BEq.rfl, Bool.and_true, Bool.and_self, cond_true, beq_self_eq_true]; rfl) ?_)
              clear hl hh a w; intro k94 a w hl hh
              refine wl (w_buildSlice hl hh rfl trivial app86 zero3 rfl rfl rfl rfl rfl (by simp only [fillL, arrPl, List.range_succ, List.range_zero, List.map_cons, List.map_nil, List.map_append, List.nil_append, List.replicate_succ, List.replicate_zero, List.flatten_cons, List.flatten_nil, Nat.zero_mul, Nat.mul_one, Nat.one_mul, Nat.reduceMul, setL, List.getElem?_cons_zero, List.getElem?_cons_succ, Value.cells, List.take_zero, List.take_succ_cons, List.take_nil, List.drop_zero, List.drop_succ_cons, List.drop_nil, List.length_cons, List.length_nil, List.cons_append, List.nil_append, List.append_nil, Nat.zero_add, Nat.add_zero, Nat.reduceAdd, Nat.reduceBEq, Nat.reduceEqDiff, Nat.ble, BEq.rfl, Bool.and_true, Bool.and_self, cond_true, beq_self_eq_true]; rfl) ?_)
              clear hl hh a w; intro k95 a w hl hh
              refine wl (w_buildSlice hl hh rfl trivial app91 zero86 rfl rfl rfl rfl rfl (by simp only [fillL, arrPl, List.range_succ, List.range_zero, List.map_cons, List.map_nil, List.map_append, List.nil_append, List.replicate_succ, List.replicate_zero, List.flatten_cons, List.flatten_nil, Nat.zero_mul, Nat.mul_one, Nat.one_mul, Nat.reduceMul, setL, List.getElem?_cons_zero, List.getElem?_cons_succ, Value.cells, List.take_zero, List.take_succ_cons, List.take_nil, List.drop_zero, List.drop_succ_cons, List.drop_nil, List.length_cons, List.length_nil, List.cons_append, List.nil_append, List.append_nil, Nat.zero_add, Nat.add_zero, Nat.reduceAdd, Nat.reduceBEq, Nat.reduceEqDiff, Nat.ble, BEq.rfl, Bool.and_true, Bool.and_self, cond_true, beq_self_eq_true]; rfl) ?_)
              clear hl hh a w; intro k96 a w hl hh
              refine wl (wl_val hl rfl trivial (r_lenS hl rfl slc91) ?_)
              clear hl a; intro a hl
              refine wl (wl_val hl rfl trivial (r_move hl rfl) ?_)
              clear hl a; intro a hl
              refine w_nil ?_
              have hl2 := hl.add (t := 3) (hl.add (t := 12) (hl.add (t := 16) (hl.add (t := 25) (hl.add (t := 26) (hl.add (t := 27) (hl.add (t := 96) (hl.add (t := 97) (hl.add (t := 98) (hl.nil) rfl) rfl) rfl) rfl) rfl) rfl) rfl) rfl) rfl; clear hl; have hl := hl2; clear hl2
              refine then_normal ?_
              refine wp_block ?_
              obtain ⟨KS1, hKS1, hk⟩ := (hl.add (t := 3) (hl.add (t := 12) (hl.add (t := 16) (hl.add (t := 25) (hl.add (t := 26) (hl.add (t := 27) (hl.add (t := 96) (hl.add (t := 97) (hl.nil) rfl) rfl) rfl) rfl) rfl) rfl) rfl) rfl).name
              obtain ⟨HS1, hHS1, hh2⟩ := hh.name (keeps_nil)
              refine c_loop (α := Nat) (fun y => 5 - y) (fun y a w => (y ≤ 5) ∧ Sl 109 ([(98, .int .i64 (y : Int))] ++ KS1) a ∧ Has _ w0 ([] ++ HS1) w) 0 ⟨(by omega), hl.addE (t := 98) (hk) rfl (by first | rfl), hh2⟩ ?_
              clear hk hh2 hl hh a w
              intro y a w hI
              obtain ⟨hy5, hl, hh⟩ := hI
              subst hKS1; subst hHS1
              simp only [List.cons_append, List.nil_append, List.append_nil, List.append_assoc] at hl hh
              refine c_seq ?_
              refine c_region ?_
              refine wl (wl_val hl rfl trivial (r_lss hl rfl rfl) ?_)
              clear hl a; intro a hl
              refine w_nil ?_
              have hl2 := hl.add (t := 3) (hl.add (t := 12) (hl.add (t := 16) (hl.add (t := 25) (hl.add (t := 26) (hl.add (t := 27) (hl.add (t := 96) (hl.add (t := 97) (hl.add (t := 98) (hl.add (t := 99) (hl.nil) rfl) rfl) rfl) rfl) rfl) rfl) rfl) rfl) rfl) rfl; clear hl; have hl := hl2; clear hl2
              refine then_normal ?_
              refine c_seq ?_
              refine c_cond hl rfl ?_ ?_
              · intro hc5
                try simp only [decide_eq_true_eq, decide_eq_false_iff_not, Bool.not_eq_true', Bool.not_eq_false', Bool.not_eq_true, Bool.not_eq_false, Bool.and_eq_true, Bool.or_eq_true, Bool.and_eq_false_iff, Bool.or_eq_false_iff, Bool.not_not, ne_eq, Int.not_lt, Int.not_le, Decidable.not_not, beq_iff_eq, bne_iff_ne] at hc5
                obtain ⟨ko, od, hcell, hmo, hol, hod⟩ : ∃ ko od, ([.slice (some ⟨k91, 0, none⟩) 3 3, .slice (some ⟨k92, 0, none⟩) 3 3, .slice (some ⟨k93, 0, none⟩) 3 3, .slice (some ⟨k94, 0, none⟩) 3 3, .slice (some ⟨k95, 0, none⟩) 3 3] : List Value)[0 + y * 1]? = some (.slice (some ⟨ko, 0, none⟩) od.length 3) ∧ (∀ w9, Mem [(k91, C (fl ivc [0, 2, 1] ++ []) 3), (k92, C (fl ivc [1, 0, 2] ++ []) 3), (k93, C (fl ivc [1, 2, 0] ++ []) 3), (k94, C (fl ivc [2, 0, 1] ++ []) 3), (k95, C (fl ivc [2, 1, 0] ++ []) 3)] w9 → w9.heap[ko]? = some (C (fl ivc od ++ []) 3)) ∧ od.length = 3 ∧ (od = [0, 1, 2] ∨ od = [0, 2, 1] ∨ od = [1, 0, 2] ∨ od = [1, 2, 0] ∨ od = [2, 0, 1] ∨ od = [2, 1, 0]) := by
                  have hy9 : y = 0 ∨ y = 1 ∨ y = 2 ∨ y = 3 ∨ y = 4 := by omega
                  rcases hy9 with rfl | rfl | rfl | rfl | rfl
                  · exact ⟨k91, [0, 2, 1], rfl, fun w9 h9 => h9 _ _ (.head _), rfl, .inr (.inl rfl)⟩
                  · exact ⟨k92, [1, 0, 2], rfl, fun w9 h9 => h9 _ _ (.tail _ (.head _)), rfl, .inr (.inr (.inl rfl))⟩
                  · exact ⟨k93, [1, 2, 0], rfl, fun w9 h9 => h9 _ _ (.tail _ (.tail _ (.head _))), rfl, .inr (.inr (.inr (.inl rfl)))⟩
                  · exact ⟨k94, [2, 0, 1], rfl, fun w9 h9 => h9 _ _ (.tail _ (.tail _ (.tail _ (.head _)))), rfl, .inr (.inr (.inr (.inr (.inl rfl))))⟩
                  · exact ⟨k95, [2, 1, 0], rfl, fun w9 h9 => h9 _ _ (.tail _ (.tail _ (.tail _ (.tail _ (.head _))))), rfl, .inr (.inr (.inr (.inr (.inr (rfl)))))⟩
                have hod3 : ∀ j, j ∈ od → j < 3 := by rcases hod with rfl | rfl | rfl | rfl | rfl | rfl <;> decide
                refine wp_skip ?_
                refine then_normal ?_
                refine c_seq ?_
                refine wp_block ?_
                refine c_seq ?_
                refine c_region ?_
                refine wl (wl_val hl rfl trivial (r_indexS hl rfl rfl slc91 (by omega) (by omega) (by first | (simp only [Int.reduceToNat]; rfl) | exact toNat_add1 _ | exact toNat_add2 _ _ | exact toNat_emod _ _ | exact Int.toNat_natCast _ | rfl)) ?_)
                clear hl a; intro a hl
                refine wl (w_load hl hh rfl trivial one86 rfl (by repeat (first | exact find_head | apply find_tail | apply find_skip)) (by first | exact hcell | rfl | rfl) ?_)
                clear hl a; intro a hl
                refine wl (wl_val hl rfl trivial (r_assign hl rfl) ?_)
                clear hl a; intro a hl
                refine w_nil ?_
                have hl2 := hl.add (t := 3) (hl.add (t := 12) (hl.add (t := 16) (hl.add (t := 18) (hl.add (t := 25) (hl.add (t := 26) (hl.add (t := 27) (hl.add (t := 96) (hl.add (t := 97) (hl.add (t := 98) (hl.nil) rfl) rfl) rfl) rfl) rfl) rfl) rfl) rfl) rfl) rfl; clear hl; have hl := hl2; clear hl2
                refine then_normal ?_
                refine c_seq ?_
                refine c_region ?_
                refine wl (wl_val hl rfl trivial (r_move hl rfl) ?_)
                clear hl a; intro a hl
                refine wl (wl_val hl rfl trivial (r_move hl rfl) ?_)
                clear hl a; intro a hl
                refine wl (w_call hl hh rfl trivial rfl cal32 rfl (play_spec hS2 bg tT tf (40 * ((z.i + 1 : Nat) : Int)) (400 * ((z.i + 1 : Nat) : Int) + 4) ⟨by omega, by omega⟩ (by omega) (by omega) hG4 (wn % 4) (by omega) (ms7 (o.b % 4) wn e s) (us7 wn e s) (ms7_us hwn16 her (by omega) hsz hsb) rfl od hod3 (by omega) 3 ko k3 k11 k8) (by repeat (first | exact keeps_nil | apply keeps_cons (by repeat (first | exact find_head | apply find_tail | apply find_skip)) (by first  | rfl) | exact keeps_self | exact keeps_left | apply keeps_app | apply keeps_mv | apply keeps_skip)) ⟨⟨memK (E := sysL bg M2) hh (by repeat (first | exact keeps_nil | apply keeps_cons (by repeat (first | exact find_head | apply find_tail | apply find_skip)) (by first  | rfl) | exact keeps_self | exact keeps_left | apply keeps_app | apply keeps_mv | apply keeps_skip)), (pt_law (Fn := []) hh hpre.2 (by repeat (first | exact keeps_nil | apply keeps_cons (by repeat (first | exact find_head | apply find_tail | apply find_skip)) (by first  | rfl) | exact keeps_self | exact keeps_left | apply keeps_app | apply keeps_mv | apply keeps_skip))).1⟩, (mem1 (memK (E := [(k3, C [.pointer (some ⟨bg, 0, none⟩)] 24)]) hh (by repeat (first | exact keeps_nil | apply keeps_cons (by repeat (first | exact find_head | apply find_tail | apply find_skip)) (by first  | rfl) | exact keeps_self | exact keeps_left | apply keeps_app | apply keeps_mv | apply keeps_skip)))), (mem1 (memK (E := [(k11, C (fl rmc (ms7 (o.b % 4) wn e s) ++ []) 85)]) hh (by repeat (first | exact keeps_nil | apply keeps_cons (by repeat (first | exact find_head | apply find_tail | apply find_skip)) (by first  | rfl) | exact keeps_self | exact keeps_left | apply keeps_app | apply keeps_mv | apply keeps_skip)))), (mem1 (memK (E := [(k8, C [.int .i64 ((wn % 4 : Nat) : Int)] 58)]) hh (by repeat (first | exact keeps_nil | apply keeps_cons (by repeat (first | exact find_head | apply find_tail | apply find_skip)) (by first  | rfl) | exact keeps_self | exact keeps_left | apply keeps_app | apply keeps_mv | apply keeps_skip)))), (hmo w (memK (E := [(k91, C (fl ivc [0, 2, 1] ++ []) 3), (k92, C (fl ivc [1, 0, 2] ++ []) 3), (k93, C (fl ivc [1, 2, 0] ++ []) 3), (k94, C (fl ivc [2, 0, 1] ++ []) 3), (k95, C (fl ivc [2, 1, 0] ++ []) 3)]) hh (by repeat (first | exact keeps_nil | apply keeps_cons (by repeat (first | exact find_head | apply find_tail | apply find_skip)) (by first  | rfl) | exact keeps_self | exact keeps_left | apply keeps_app | apply keeps_mv | apply keeps_skip))))⟩ ?_)
                clear hl hh a w; intro vc Fc a w hR hl hh
                obtain ⟨ve4, rfl, hR4⟩ := hR
                try simp only [List.cons_append, List.nil_append, List.append_assoc, List.append_nil] at hh
                rw [pl3 hok7 od hod] at hl hR4
                generalize Fc = Ee4 at hh hR4
                refine wl (w_alloc hl hh rfl trivial zero61 rfl ?_)
                clear hl hh a w; intro k19 a w hl hh
                refine wl (w_storeA hl hh trivial agg61 rfl rfl (by repeat (first | exact find_head | apply find_tail | apply find_skip)) (by first | rfl | (simp; done) | rfl | exact arrL_length _ _) (by first | (simp; done) | (simp; omega) | (rw [arrL_length]; omega)) (by first | rfl | (simp; done) | rfl | exact arrL_all (fun j => ite_one hR0.one rfl) | exact arrL_all (fun j => ite_one hR1.one rfl) | exact arrL_all (fun j => ite_one hR2.one rfl) | exact arrL_all (fun j => ite_one hR3.one rfl) | exact arrL_all (fun j => ite_one hR4.one rfl)) (by first | exact setL_whole (arrL_length _ _) | (simp only [setL, List.getElem?_cons_zero, List.getElem?_cons_succ, Value.cells, List.take_zero, List.take_succ_cons, List.take_nil, List.drop_zero, List.drop_succ_cons, List.drop_nil, List.length_cons, List.length_nil, List.cons_append, List.nil_append, List.append_nil, Nat.zero_add, Nat.add_zero, Nat.reduceAdd, Nat.reduceBEq, Nat.reduceEqDiff, Nat.ble, BEq.rfl, Bool.and_true, Bool.and_self, cond_true, beq_self_eq_true]; rfl)) ?_)
                clear hh w; intro w hh
                refine w_nil ?_
                have hl2 := hl.add (t := 3) (hl.add (t := 12) (hl.add (t := 16) (hl.add (t := 19) (hl.add (t := 25) (hl.add (t := 26) (hl.add (t := 27) (hl.add (t := 96) (hl.add (t := 97) (hl.add (t := 98) (hl.nil) rfl) rfl) rfl) rfl) rfl) rfl) rfl) rfl) rfl) rfl; clear hl; have hl := hl2; clear hl2
                refine then_normal ?_
                refine c_seq ?_
                refine c_region ?_
                refine wl (w_call hl hh rfl trivial rfl cal34 rfl (eqS2_spec (flK (ends g2 wn e).flr (wn % 4)) (flK_rng (B := 40 * ((z.i + 1 : Nat) : Int) + 1) (Q := 400 * ((z.i + 1 : Nat) : Int) + 4) hGe ⟨by omega, by omega⟩ (wn % 4)) (edN (wsK (ends g2 wn e).ws (wn % 4)) 16) (edK_len (B := 40 * ((z.i + 1 : Nat) : Int) + 1) (Q := 400 * ((z.i + 1 : Nat) : Int) + 4) hGe ⟨by omega, by omega⟩ (wn % 4)) (eg_ok (B := 40 * ((z.i + 1 : Nat) : Int) + 1) (Q := 400 * ((z.i + 1 : Nat) : Int) + 4) hGe ⟨by omega, by omega⟩) k19 k16 ve4 ve3 Ee4 Ee3 hR4 hR3) (by repeat (first | exact keeps_nil | apply keeps_cons (by repeat (first | exact find_head | apply find_tail | apply find_skip)) (by first  | rfl) | exact keeps_self | exact keeps_left | apply keeps_app | apply keeps_mv | apply keeps_skip)) ⟨memK (E := (k19, C (arrL 17 (shV (flK (ends g2 wn e).flr (wn % 4)) ve4)) 61) :: Ee4) hh (by repeat (first | exact keeps_nil | apply keeps_cons (by repeat (first | exact find_head | apply find_tail | apply find_skip)) (by first  | rfl) | exact keeps_self | exact keeps_left | apply keeps_app | apply keeps_mv | apply keeps_skip)), memK (E := (k16, C (arrL 17 (shV (flK (ends g2 wn e).flr (wn % 4)) ve3)) 61) :: Ee3) hh (by repeat (first | exact keeps_nil | apply keeps_cons (by repeat (first | exact find_head | apply find_tail | apply find_skip)) (by first  | rfl) | exact keeps_self | exact keeps_left | apply keeps_app | apply keeps_mv | apply keeps_skip))⟩ ?_)
                clear hl hh a w; intro vc Fc a w hR hl hh
                obtain ⟨rfl, rfl⟩ := hR
                try simp only [List.cons_append, List.nil_append, List.append_assoc, List.append_nil] at hh
                refine wl (wl_val hl rfl trivial (r_not hl rfl) ?_)
                clear hl a; intro a hl
                refine w_nil ?_
                have hl2 := hl.add (t := 3) (hl.add (t := 12) (hl.add (t := 16) (hl.add (t := 25) (hl.add (t := 26) (hl.add (t := 27) (hl.add (t := 96) (hl.add (t := 97) (hl.add (t := 98) (hl.add (t := 106) (hl.nil) rfl) rfl) rfl) rfl) rfl) rfl) rfl) rfl) rfl) rfl; clear hl; have hl := hl2; clear hl2
                refine then_normal ?_
                refine c_condF hl rfl ?_
                refine wp_skip ?_
                refine blk_normal ?_
                refine then_normal ?_
                refine c_region ?_
                first | refine wl (wl_val hl rfl trivial (r_add hl rfl rfl (by simp only [Fits]; omega)) ?_) | refine wl (wl_val hl rfl trivial (r_addW hl rfl rfl) ?_)
                clear hl a; intro a hl
                refine wl (wl_val hl rfl trivial (r_move hl rfl) ?_)
                clear hl a; intro a hl
                refine w_nil ?_
                have hl2 := hl.add (t := 3) (hl.add (t := 12) (hl.add (t := 16) (hl.add (t := 25) (hl.add (t := 26) (hl.add (t := 27) (hl.add (t := 96) (hl.add (t := 97) (hl.add (t := 98) (hl.nil) rfl) rfl) rfl) rfl) rfl) rfl) rfl) rfl) rfl; clear hl; have hl := hl2; clear hl2
                refine then_normal ?_
                refine ⟨(y + 1), (by omega), (by omega), hl.addE (t := 98) (hl.addE (t := 3) (hl.addE (t := 12) (hl.addE (t := 16) (hl.addE (t := 25) (hl.addE (t := 26) (hl.addE (t := 27) (hl.addE (t := 96) (hl.addE (t := 97) (hl.nil) rfl (by first | rfl | (congr 1; omega))) rfl (by first | rfl | (congr 1; omega))) rfl (by first | rfl | (congr 1; omega))) rfl (by first | rfl | (congr 1; omega))) rfl (by first | rfl | (congr 1; omega))) rfl (by first | rfl | (congr 1; omega))) rfl (by first | rfl | (congr 1; omega))) rfl (by first | rfl | (congr 1; omega))) rfl (by first | rfl | (congr 1; omega)), hh.keep (by repeat (first | exact keeps_nil | apply keeps_cons (by repeat (first | exact find_head | apply find_tail | apply find_skip)) (by first  | rfl) | exact keeps_self | exact keeps_left | apply keeps_app | apply keeps_mv | apply keeps_skip))⟩
              · intro hc5
                try simp only [decide_eq_true_eq, decide_eq_false_iff_not, Bool.not_eq_true', Bool.not_eq_false', Bool.not_eq_true, Bool.not_eq_false, Bool.and_eq_true, Bool.or_eq_true, Bool.and_eq_false_iff, Bool.or_eq_false_iff, Bool.not_not, ne_eq, Int.not_lt, Int.not_le, Decidable.not_not, beq_iff_eq, bne_iff_ne] at hc5
                refine wp_exit ?_
                refine then_exit ?_
                refine then_exit ?_
                refine blk_exit ?_
                refine blk_normal ?_
                refine then_normal ?_
                refine c_region ?_
                first | refine wl (wl_val hl rfl trivial (r_add hl rfl rfl (by simp only [Fits]; omega)) ?_) | refine wl (wl_val hl rfl trivial (r_addW hl rfl rfl) ?_)
                clear hl a; intro a hl
                refine wl (wl_val hl rfl trivial (r_move hl rfl) ?_)
                clear hl a; intro a hl
                refine w_nil ?_
                have hl2 := hl.add (t := 3) (hl.add (t := 25) (hl.add (t := 26) (hl.add (t := 27) (hl.nil) rfl) rfl) rfl) rfl; clear hl; have hl := hl2; clear hl2
                refine then_normal ?_
                refine ⟨⟨g2, M2, z.i + 1⟩, (by simp only; omega), ⟨by simp only; omega, hS2, hG3⟩, hl.addE (t := 27) (hl.addE (t := 3) (hl.addE (t := 25) (hl.addE (t := 26) (hl.nil) rfl (by first | rfl | (congr 1; omega))) rfl (by first | rfl | (congr 1; omega))) rfl (by first | rfl | (congr 1; omega))) rfl (by first | rfl | (congr 1; omega)), hh.keep (by repeat (first | exact keeps_nil | apply keeps_cons (by repeat (first | exact find_head | apply find_tail | apply find_skip)) (by first  | rfl) | exact keeps_self | exact keeps_left | apply keeps_app | apply keeps_mv | apply keeps_skip))⟩
          ·
            try clear hM
            refine id (w_alloc hl hh rfl trivial zero48 rfl ?_)
            clear hl hh a w; intro k9 a w hl hh
            have hM : Mem [(k3, C [.pointer (some ⟨bg, 0, none⟩)] 24), (k5, C (opc o) 32), (k6, C [.int .i64 (wn : Int)] 52)] w := (memK hh (by repeat (first | exact keeps_nil | apply keeps_cons (by repeat (first | exact find_head | apply find_tail | apply find_skip)) (by first  | rfl) | exact keeps_self | exact keeps_left | apply keeps_app | apply keeps_mv | apply keeps_skip)))
            refine d_step (fun _ => hM) ?_
            refine d_one (i := 5) (by kernel_rfl) rfl ?_
            try clear hM
            refine id (w_call hl hh rfl trivial rfl cal30 rfl (low4_spec o.c) (by repeat (first | exact keeps_nil | apply keeps_cons (by repeat (first | exact find_head | apply find_tail | apply find_skip)) (by first  | rfl) | exact keeps_self | exact keeps_left | apply keeps_app | apply keeps_mv | apply keeps_skip)) trivial ?_)
            clear hl hh a w; intro vc Fc a w hR hl hh
            obtain ⟨rfl, rfl⟩ := hR
            try simp only [List.cons_append, List.nil_append, List.append_assoc, List.append_nil] at hh
            have hM : Mem [(k3, C [.pointer (some ⟨bg, 0, none⟩)] 24), (k5, C (opc o) 32), (k6, C [.int .i64 (wn : Int)] 52)] w := (memK hh (by repeat (first | exact keeps_nil | apply keeps_cons (by repeat (first | exact find_head | apply find_tail | apply find_skip)) (by first  | rfl) | exact keeps_self | exact keeps_left | apply keeps_app | apply keeps_mv | apply keeps_skip)))
            refine d_step (fun _ => hM) ?_
            first | refine d_take (i := 6) hl rfl (by kernel_rfl) (by kernel_rfl) (by kernel_rfl) (by kernel_rfl) (by kernel_rfl) rfl trivial (fun _ _ _ h => h) hM (fun w hC => r_conv hl rfl Tryd.underlying2 Tryd.underlying48 (by simp only [Fits]; omega)) rfl ?_ | refine d_take (i := 6) hl rfl (by kernel_rfl) (by kernel_rfl) (by kernel_rfl) (by kernel_rfl) (by kernel_rfl) rfl trivial (fun _ _ _ h => h) hM (fun w hC => r_convM wm_u64 hl rfl Tryd.underlying2 Tryd.underlying48) rfl ?_
            clear hl a; intro a hl
            first | refine d_take (i := 7) hl rfl (by kernel_rfl) (by kernel_rfl) (by kernel_rfl) (by kernel_rfl) (by kernel_rfl) rfl trivial (fun _ _ _ h => h) hM (fun w hC => r_add hl rfl rfl (by simp only [Fits]; omega)) rfl ?_ | refine d_take (i := 7) hl rfl (by kernel_rfl) (by kernel_rfl) (by kernel_rfl) (by kernel_rfl) (by kernel_rfl) rfl trivial (fun _ _ _ h => h) hM (fun w hC => r_addM wm_u64 hl rfl rfl) rfl ?_
            clear hl a; intro a hl
            refine d_one (i := 9) (by kernel_rfl) rfl ?_
            try clear hM
            refine id (w_store hl hh trivial one48 rfl rfl (by repeat (first | exact find_head | apply find_tail | apply find_skip)) (by first | (simp; done) | (simp; omega) | (rw [arrL_length]; omega)) (by first | rfl | assumption | (apply Row.one; assumption)) (by first | exact setL_whole (arrL_length _ _) | (simp only [setL, List.getElem?_cons_zero, List.getElem?_cons_succ, Value.cells, List.take_zero, List.take_succ_cons, List.take_nil, List.drop_zero, List.drop_succ_cons, List.drop_nil, List.length_cons, List.length_nil, List.cons_append, List.nil_append, List.append_nil, Nat.zero_add, Nat.add_zero, Nat.reduceAdd, Nat.reduceBEq, Nat.reduceEqDiff, Nat.ble, BEq.rfl, Bool.and_true, Bool.and_self, cond_true, beq_self_eq_true]; rfl)) ?_)
            clear hh w; intro w hh
            refine d_step (fun h => absurd h (by decide)) ?_
            refine d_done (by kernel_rfl) ?_
            try clear hM
            have hl2 := hl.add (t := 3) (hl.add (t := 5) (hl.add (t := 6) (hl.add (t := 7) (hl.add (t := 8) (hl.add (t := 9) (hl.add (t := 25) (hl.add (t := 26) (hl.add (t := 27) (hl.nil) rfl) rfl) rfl) rfl) rfl) rfl) rfl) rfl) rfl; clear hl; have hl := hl2; clear hl2
            try rw [set9] at hh
            refine then_normal ?_
            refine c_seq ?_
            refine c_seq ?_
            refine c_region ?_
            refine wl (w_load hl hh rfl trivial one48 rfl (by repeat (first | exact find_head | apply find_tail | apply find_skip)) (by first | exact hcell | rfl | rfl) ?_)
            clear hl a; intro a hl
            refine wl (wl_val hl rfl trivial (r_gtr hl rfl rfl) ?_)
            clear hl a; intro a hl
            refine w_nil ?_
            have hl2 := hl.add (t := 3) (hl.add (t := 5) (hl.add (t := 6) (hl.add (t := 7) (hl.add (t := 8) (hl.add (t := 9) (hl.add (t := 25) (hl.add (t := 26) (hl.add (t := 27) (hl.add (t := 59) (hl.nil) rfl) rfl) rfl) rfl) rfl) rfl) rfl) rfl) rfl) rfl; clear hl; have hl := hl2; clear hl2
            refine then_normal ?_
            refine c_cond hl rfl ?_ ?_
            · intro hc3
              try simp only [decide_eq_true_eq, decide_eq_false_iff_not, Bool.not_eq_true', Bool.not_eq_false', Bool.not_eq_true, Bool.not_eq_false, Bool.and_eq_true, Bool.or_eq_true, Bool.and_eq_false_iff, Bool.or_eq_false_iff, Bool.not_not, ne_eq, Int.not_lt, Int.not_le, Decidable.not_not, beq_iff_eq, bne_iff_ne] at hc3
              refine c_region ?_
              refine wl (w_load hl hh rfl trivial one48 rfl (by repeat (first | exact find_head | apply find_tail | apply find_skip)) (by first | exact hcell | rfl | rfl) ?_)
              clear hl a; intro a hl
              first | refine wl (wl_val hl rfl trivial (r_sub hl rfl rfl (by simp only [Fits]; omega)) ?_) | refine wl (wl_val hl rfl trivial (r_subM wm_u64 hl rfl rfl) ?_)
              clear hl a; intro a hl
              refine wl (w_store hl hh trivial one48 rfl rfl (by repeat (first | exact find_head | apply find_tail | apply find_skip)) (by first | (simp; done) | (simp; omega) | (rw [arrL_length]; omega)) (by first | rfl | assumption | (apply Row.one; assumption)) (by first | exact setL_whole (arrL_length _ _) | (simp only [setL, List.getElem?_cons_zero, List.getElem?_cons_succ, Value.cells, List.take_zero, List.take_succ_cons, List.take_nil, List.drop_zero, List.drop_succ_cons, List.drop_nil, List.length_cons, List.length_nil, List.cons_append, List.nil_append, List.append_nil, Nat.zero_add, Nat.add_zero, Nat.reduceAdd, Nat.reduceBEq, Nat.reduceEqDiff, Nat.ble, BEq.rfl, Bool.and_true, Bool.and_self, cond_true, beq_self_eq_true]; rfl)) ?_)
              clear hh w; intro w hh
              refine w_nil ?_
              have hl2 := hl.add (t := 3) (hl.add (t := 5) (hl.add (t := 6) (hl.add (t := 7) (hl.add (t := 8) (hl.add (t := 9) (hl.add (t := 25) (hl.add (t := 26) (hl.add (t := 27) (hl.nil) rfl) rfl) rfl) rfl) rfl) rfl) rfl) rfl) rfl; clear hl; have hl := hl2; clear hl2
              try rw [set9] at hh
              obtain ⟨e, he⟩ : ∃ e, e = g2.ep wn + o.c % 4 - 1 := ⟨_, rfl⟩
              have her : 0 ≤ e ∧ e ≤ 400 * ((z.i + 1 : Nat) : Int) + 4 := by omega
              rw [← he] at hh
              clear he
              have hGe : GI (40 * ((z.i + 1 : Nat) : Int) + 1) (400 * ((z.i + 1 : Nat) : Int) + 4) (ends g2 wn e) := hG4.apply (u := ⟨3, wn, e, 0#16⟩) ⟨by omega, by omega⟩ hwn16 her
              refine then_normal ?_
              refine c_seq ?_
              refine c_region ?_
              refine wl (wl_val hl rfl trivial (r_makeFunc hl rfl) ?_)
              clear hl a; intro a hl
              refine wl (wl_val hl rfl trivial (r_assign hl rfl) ?_)
              clear hl a; intro a hl
              refine w_nil ?_
              have hl2 := hl.add (t := 3) (hl.add (t := 7) (hl.add (t := 8) (hl.add (t := 10) (hl.add (t := 25) (hl.add (t := 26) (hl.add (t := 27) (hl.nil) rfl) rfl) rfl) rfl) rfl) rfl) rfl; clear hl; have hl := hl2; clear hl2
              refine then_normal ?_
              refine c_seq ?_
              refine c_region ?_
              refine wl (wl_val hl rfl trivial (r_move hl rfl) ?_)
              clear hl a; intro a hl
              refine wl (wl_val hl rfl trivial (r_move hl rfl) ?_)
              clear hl a; intro a hl
              refine wl (w_call hl hh rfl trivial rfl cal31 rfl (msg_spec 1 (mi s) ((wn % 4 : Nat) : Int) e (mi_rng s) wn hwn16 o k5 k8 k6 k9) (by repeat (first | exact keeps_nil | apply keeps_cons (by repeat (first | exact find_head | apply find_tail | apply find_skip)) (by first  | rfl) | exact keeps_self | exact keeps_left | apply keeps_app | apply keeps_mv | apply keeps_skip)) (memK (E := [(k5, C (opc o) 32), (k8, C [.int .i64 ((wn % 4 : Nat) : Int)] 58), (k6, C [.int .i64 (wn : Int)] 52), (k9, C [.int .u64 e] 48)]) hh (by repeat (first | exact keeps_nil | apply keeps_cons (by repeat (first | exact find_head | apply find_tail | apply find_skip)) (by first  | rfl) | exact keeps_self | exact keeps_left | apply keeps_app | apply keeps_mv | apply keeps_skip))) ?_)
              clear hl hh a w; intro vc Fc a w hR hl hh
              obtain ⟨rfl, rfl⟩ := hR
              try simp only [List.cons_append, List.nil_append, List.append_assoc, List.append_nil] at hh
              refine wl (wl_val hl rfl trivial (r_move hl rfl) ?_)
              clear hl a; intro a hl
              refine wl (wl_val hl rfl trivial (r_move hl rfl) ?_)
              clear hl a; intro a hl
              refine wl (w_call hl hh rfl trivial rfl cal31 rfl (msg_spec 2 (mi s) ((wn % 4 : Nat) : Int) e (mi_rng s) wn hwn16 o k5 k8 k6 k9) (by repeat (first | exact keeps_nil | apply keeps_cons (by repeat (first | exact find_head | apply find_tail | apply find_skip)) (by first  | rfl) | exact keeps_self | exact keeps_left | apply keeps_app | apply keeps_mv | apply keeps_skip)) (memK (E := [(k5, C (opc o) 32), (k8, C [.int .i64 ((wn % 4 : Nat) : Int)] 58), (k6, C [.int .i64 (wn : Int)] 52), (k9, C [.int .u64 e] 48)]) hh (by repeat (first | exact keeps_nil | apply keeps_cons (by repeat (first | exact find_head | apply find_tail | apply find_skip)) (by first  | rfl) | exact keeps_self | exact keeps_left | apply keeps_app | apply keeps_mv | apply keeps_skip))) ?_)
              clear hl hh a w; intro vc Fc a w hR hl hh
              obtain ⟨rfl, rfl⟩ := hR
              try simp only [List.cons_append, List.nil_append, List.append_assoc, List.append_nil] at hh
              refine wl (wl_val hl rfl trivial (r_move hl rfl) ?_)
              clear hl a; intro a hl
              refine wl (w_call hl hh rfl trivial rfl cal31 rfl (msg_spec 3 0 ((wn % 4 : Nat) : Int) e ⟨by omega, by omega⟩ wn hwn16 o k5 k8 k6 k9) (by repeat (first | exact keeps_nil | apply keeps_cons (by repeat (first | exact find_head | apply find_tail | apply find_skip)) (by first  | rfl) | exact keeps_self | exact keeps_left | apply keeps_app | apply keeps_mv | apply keeps_skip)) (memK (E := [(k5, C (opc o) 32), (k8, C [.int .i64 ((wn % 4 : Nat) : Int)] 58), (k6, C [.int .i64 (wn : Int)] 52), (k9, C [.int .u64 e] 48)]) hh (by repeat (first | exact keeps_nil | apply keeps_cons (by repeat (first | exact find_head | apply find_tail | apply find_skip)) (by first  | rfl) | exact keeps_self | exact keeps_left | apply keeps_app | apply keeps_mv | apply keeps_skip))) ?_)
              clear hl hh a w; intro vc Fc a w hR hl hh
              obtain ⟨rfl, rfl⟩ := hR
              try simp only [List.cons_append, List.nil_append, List.append_assoc, List.append_nil] at hh
              refine wl (wl_val hl rfl trivial (r_build hl rfl zero85 bld85 (by simp only [fillL, setL, List.getElem?_cons_zero, List.getElem?_cons_succ, Value.cells, List.take_zero, List.take_succ_cons, List.take_nil, List.drop_zero, List.drop_succ_cons, List.drop_nil, List.length_cons, List.length_nil, List.cons_append, List.nil_append, List.append_nil, Nat.zero_add, Nat.add_zero, Nat.reduceAdd, Nat.reduceBEq, Nat.reduceEqDiff, Nat.ble, BEq.rfl, Bool.and_true, Bool.and_self, cond_true, beq_self_eq_true]; rfl)) ?_)
              clear hl a; intro a hl
              refine wl (w_alloc hl hh rfl trivial zero85 rfl ?_)
              clear hl hh a w; intro k11 a w hl hh
              refine wl (w_storeA hl hh trivial agg85 rfl rfl (by repeat (first | exact find_head | apply find_tail | apply find_skip)) (by first | rfl | (simp; done) | rfl | exact arrL_length _ _) (by first | (simp; done) | (simp; omega) | (rw [arrL_length]; omega)) (by first | rfl | (simp; done) | rfl | exact arrL_all (fun j => ite_one hR0.one rfl) | exact arrL_all (fun j => ite_one hR1.one rfl) | exact arrL_all (fun j => ite_one hR2.one rfl) | exact arrL_all (fun j => ite_one hR3.one rfl) | exact arrL_all (fun j => ite_one hR4.one rfl)) (by first | exact setL_whole (arrL_length _ _) | (simp only [setL, List.getElem?_cons_zero, List.getElem?_cons_succ, Value.cells, List.take_zero, List.take_succ_cons, List.take_nil, List.drop_zero, List.drop_succ_cons, List.drop_nil, List.length_cons, List.length_nil, List.cons_append, List.nil_append, List.append_nil, Nat.zero_add, Nat.add_zero, Nat.reduceAdd, Nat.reduceBEq, Nat.reduceEqDiff, Nat.ble, BEq.rfl, Bool.and_true, Bool.and_self, cond_true, beq_self_eq_true]; rfl)) ?_)
              clear hh w; intro w hh
              refine w_nil ?_
              have hl2 := hl.add (t := 3) (hl.add (t := 8) (hl.add (t := 11) (hl.add (t := 25) (hl.add (t := 26) (hl.add (t := 27) (hl.nil) rfl) rfl) rfl) rfl) rfl) rfl; clear hl; have hl := hl2; clear hl2
              refine then_normal ?_
              refine c_seq ?_
              refine c_region ?_
              refine wl (wl_val hl rfl trivial (r_makeFunc hl rfl) ?_)
              clear hl a; intro a hl
              refine wl (wl_val hl rfl trivial (r_assign hl rfl) ?_)
              clear hl a; intro a hl
              refine w_nil ?_
              have hl2 := hl.add (t := 3) (hl.add (t := 8) (hl.add (t := 12) (hl.add (t := 25) (hl.add (t := 26) (hl.add (t := 27) (hl.nil) rfl) rfl) rfl) rfl) rfl) rfl; clear hl; have hl := hl2; clear hl2
              refine then_normal ?_
              refine c_seq ?_
              refine c_region ?_
              refine wl (w_load hl hh rfl trivial one24 rfl (by repeat (first | exact find_head | apply find_tail | apply find_skip)) (by first | exact hcell | rfl | rfl) ?_)
              clear hl a; intro a hl
              refine wl (w_load hl hh rfl trivial one58 rfl (by repeat (first | exact find_head | apply find_tail | apply find_skip)) (by first | exact hcell | rfl | rfl) ?_)
              clear hl a; intro a hl
              refine wl (w_call hl hh rfl trivial rfl cal22 rfl (shard_spec hS2 bg (40 * ((z.i + 1 : Nat) : Int)) (400 * ((z.i + 1 : Nat) : Int) + 4) ⟨by omega, by omega⟩ hG4 (wn % 4) (by omega)) (by repeat (first | exact keeps_nil | apply keeps_cons (by repeat (first | exact find_head | apply find_tail | apply find_skip)) (by first  | rfl) | exact keeps_self | exact keeps_left | apply keeps_app | apply keeps_mv | apply keeps_skip)) (memK (E := sysL bg M2) hh (by repeat (first | exact keeps_nil | apply keeps_cons (by repeat (first | exact find_head | apply find_tail | apply find_skip)) (by first  | rfl) | exact keeps_self | exact keeps_left | apply keeps_app | apply keeps_mv | apply keeps_skip))) ?_)
              clear hl hh a w; intro vc Fc a w hR hl hh
              obtain ⟨ve0, rfl, hR0⟩ := hR
              try simp only [List.cons_append, List.nil_append, List.append_assoc, List.append_nil] at hh
              generalize Fc = Ee0 at hh hR0
              refine wl (wl_val hl rfl trivial (r_move hl rfl) ?_)
              clear hl a; intro a hl
              refine wl (w_buildSlice hl hh rfl trivial app86 zero3 rfl rfl rfl rfl rfl (by simp only [fillL, arrPl, List.range_succ, List.range_zero, List.map_cons, List.map_nil, List.map_append, List.nil_append, List.replicate_succ, List.replicate_zero, List.flatten_cons, List.flatten_nil, Nat.zero_mul, Nat.mul_one, Nat.one_mul, Nat.reduceMul, setL, List.getElem?_cons_zero, List.getElem?_cons_succ, Value.cells, List.take_zero, List.take_succ_cons, List.take_nil, List.drop_zero, List.drop_succ_cons, List.drop_nil, List.length_cons, List.length_nil, List.cons_append, List.nil_append, List.append_nil, Nat.zero_add, Nat.add_zero, Nat.reduceAdd, Nat.reduceBEq, Nat.reduceEqDiff, Nat.ble, BEq.rfl, Bool.and_true, Bool.and_self, cond_true, beq_self_eq_true]; rfl) ?_)
              clear hl hh a w; intro k77 a w hl hh
              refine wl (w_call hl hh rfl trivial rfl cal32 rfl (play_spec hS2 bg tT tf (40 * ((z.i + 1 : Nat) : Int)) (400 * ((z.i + 1 : Nat) : Int) + 4) ⟨by omega, by omega⟩ (by omega) (by omega) hG4 (wn % 4) (by omega) (ms7 (o.b % 4) wn e s) (us7 wn e s) (ms7_us hwn16 her (by omega) hsz hsb) rfl [0, 1] (by decide) (by decide) 2 k77 k3 k11 k8) (by repeat (first | exact keeps_nil | apply keeps_cons (by repeat (first | exact find_head | apply find_tail | apply find_skip)) (by first  | rfl) | exact keeps_self | exact keeps_left | apply keeps_app | apply keeps_mv | apply keeps_skip)) ⟨⟨memK (E := sysL bg M2) hh (by repeat (first | exact keeps_nil | apply keeps_cons (by repeat (first | exact find_head | apply find_tail | apply find_skip)) (by first  | rfl) | exact keeps_self | exact keeps_left | apply keeps_app | apply keeps_mv | apply keeps_skip)), (pt_law (Fn := []) hh hpre.2 (by repeat (first | exact keeps_nil | apply keeps_cons (by repeat (first | exact find_head | apply find_tail | apply find_skip)) (by first  | rfl) | exact keeps_self | exact keeps_left | apply keeps_app | apply keeps_mv | apply keeps_skip))).1⟩, (mem1 (memK (E := [(k3, C [.pointer (some ⟨bg, 0, none⟩)] 24)]) hh (by repeat (first | exact keeps_nil | apply keeps_cons (by repeat (first | exact find_head | apply find_tail | apply find_skip)) (by first  | rfl) | exact keeps_self | exact keeps_left | apply keeps_app | apply keeps_mv | apply keeps_skip)))), (mem1 (memK (E := [(k11, C (fl rmc (ms7 (o.b % 4) wn e s) ++ []) 85)]) hh (by repeat (first | exact keeps_nil | apply keeps_cons (by repeat (first | exact find_head | apply find_tail | apply find_skip)) (by first  | rfl) | exact keeps_self | exact keeps_left | apply keeps_app | apply keeps_mv | apply keeps_skip)))), (mem1 (memK (E := [(k8, C [.int .i64 ((wn % 4 : Nat) : Int)] 58)]) hh (by repeat (first | exact keeps_nil | apply keeps_cons (by repeat (first | exact find_head | apply find_tail | apply find_skip)) (by first  | rfl) | exact keeps_self | exact keeps_left | apply keeps_app | apply keeps_mv | apply keeps_skip)))), (mem1 (memK (E := [(k77, C (fl ivc [0, 1] ++ []) 3)]) hh (by repeat (first | exact keeps_nil | apply keeps_cons (by repeat (first | exact find_head | apply find_tail | apply find_skip)) (by first  | rfl) | exact keeps_self | exact keeps_left | apply keeps_app | apply keeps_mv | apply keeps_skip))))⟩ ?_)
              clear hl hh a w; intro vc Fc a w hR hl hh
              obtain ⟨ve1, rfl, hR1⟩ := hR
              try simp only [List.cons_append, List.nil_append, List.append_assoc, List.append_nil] at hh
              rw [pl01 hok7] at hl hR1
              generalize Fc = Ee1 at hh hR1
              refine wl (wl_val hl rfl trivial (r_move hl rfl) ?_)
              clear hl a; intro a hl
              refine wl (w_buildSlice hl hh rfl trivial app86 zero3 rfl rfl rfl rfl rfl (by simp only [fillL, arrPl, List.range_succ, List.range_zero, List.map_cons, List.map_nil, List.map_append, List.nil_append, List.replicate_succ, List.replicate_zero, List.flatten_cons, List.flatten_nil, Nat.zero_mul, Nat.mul_one, Nat.one_mul, Nat.reduceMul, setL, List.getElem?_cons_zero, List.getElem?_cons_succ, Value.cells, List.take_zero, List.take_succ_cons, List.take_nil, List.drop_zero, List.drop_succ_cons, List.drop_nil, List.length_cons, List.length_nil, List.cons_append, List.nil_append, List.append_nil, Nat.zero_add, Nat.add_zero, Nat.reduceAdd, Nat.reduceBEq, Nat.reduceEqDiff, Nat.ble, BEq.rfl, Bool.and_true, Bool.and_self, cond_true, beq_self_eq_true]; rfl) ?_)
              clear hl hh a w; intro k80 a w hl hh
              refine wl (w_call hl hh rfl trivial rfl cal32 rfl (play_spec hS2 bg tT tf (40 * ((z.i + 1 : Nat) : Int)) (400 * ((z.i + 1 : Nat) : Int) + 4) ⟨by omega, by omega⟩ (by omega) (by omega) hG4 (wn % 4) (by omega) (ms7 (o.b % 4) wn e s) (us7 wn e s) (ms7_us hwn16 her (by omega) hsz hsb) rfl [1, 0] (by decide) (by decide) 2 k80 k3 k11 k8) (by repeat (first | exact keeps_nil | apply keeps_cons (by repeat (first | exact find_head | apply find_tail | apply find_skip)) (by first  | rfl) | exact keeps_self | exact keeps_left | apply keeps_app | apply keeps_mv | apply keeps_skip)) ⟨⟨memK (E := sysL bg M2) hh (by repeat (first | exact keeps_nil | apply keeps_cons (by repeat (first | exact find_head | apply find_tail | apply find_skip)) (by first  | rfl) | exact keeps_self | exact keeps_left | apply keeps_app | apply keeps_mv | apply keeps_skip)), (pt_law (Fn := []) hh hpre.2 (by repeat (first | exact keeps_nil | apply keeps_cons (by repeat (first | exact find_head | apply find_tail | apply find_skip)) (by first  | rfl) | exact keeps_self | exact keeps_left | apply keeps_app | apply keeps_mv | apply keeps_skip))).1⟩, (mem1 (memK (E := [(k3, C [.pointer (some ⟨bg, 0, none⟩)] 24)]) hh (by repeat (first | exact keeps_nil | apply keeps_cons (by repeat (first | exact find_head | apply find_tail | apply find_skip)) (by first  | rfl) | exact keeps_self | exact keeps_left | apply keeps_app | apply keeps_mv | apply keeps_skip)))), (mem1 (memK (E := [(k11, C (fl rmc (ms7 (o.b % 4) wn e s) ++ []) 85)]) hh (by repeat (first | exact keeps_nil | apply keeps_cons (by repeat (first | exact find_head | apply find_tail | apply find_skip)) (by first  | rfl) | exact keeps_self | exact keeps_left | apply keeps_app | apply keeps_mv | apply keeps_skip)))), (mem1 (memK (E := [(k8, C [.int .i64 ((wn % 4 : Nat) : Int)] 58)]) hh (by repeat (first | exact keeps_nil | apply keeps_cons (by repeat (first | exact find_head | apply find_tail | apply find_skip)) (by first  | rfl) | exact keeps_self | exact keeps_left | apply keeps_app | apply keeps_mv | apply keeps_skip)))), (mem1 (memK (E := [(k80, C (fl ivc [1, 0] ++ []) 3)]) hh (by repeat (first | exact keeps_nil | apply keeps_cons (by repeat (first | exact find_head | apply find_tail | apply find_skip)) (by first  | rfl) | exact keeps_self | exact keeps_left | apply keeps_app | apply keeps_mv | apply keeps_skip))))⟩ ?_)
              clear hl hh a w; intro vc Fc a w hR hl hh
              obtain ⟨ve2, rfl, hR2⟩ := hR
              try simp only [List.cons_append, List.nil_append, List.append_assoc, List.append_nil] at hh
              rw [pl10 hok7] at hl hR2
              generalize Fc = Ee2 at hh hR2
              refine wl (w_alloc hl hh rfl trivial zero61 rfl ?_)
              clear hl hh a w; intro k13 a w hl hh
              refine wl (w_alloc hl hh rfl trivial zero61 rfl ?_)
              clear hl hh a w; intro k14 a w hl hh
              refine wl (w_alloc hl hh rfl trivial zero61 rfl ?_)
              clear hl hh a w; intro k15 a w hl hh
              refine wl (w_storeA hl hh trivial agg61 rfl rfl (by repeat (first | exact find_head | apply find_tail | apply find_skip)) (by first | rfl | (simp; done) | rfl | exact arrL_length _ _) (by first | (simp; done) | (simp; omega) | (rw [arrL_length]; omega)) (by first | rfl | (simp; done) | rfl | exact arrL_all (fun j => ite_one hR0.one rfl) | exact arrL_all (fun j => ite_one hR1.one rfl) | exact arrL_all (fun j => ite_one hR2.one rfl) | exact arrL_all (fun j => ite_one hR3.one rfl) | exact arrL_all (fun j => ite_one hR4.one rfl)) (by first | exact setL_whole (arrL_length _ _) | (simp only [setL, List.getElem?_cons_zero, List.getElem?_cons_succ, Value.cells, List.take_zero, List.take_succ_cons, List.take_nil, List.drop_zero, List.drop_succ_cons, List.drop_nil, List.length_cons, List.length_nil, List.cons_append, List.nil_append, List.append_nil, Nat.zero_add, Nat.add_zero, Nat.reduceAdd, Nat.reduceBEq, Nat.reduceEqDiff, Nat.ble, BEq.rfl, Bool.and_true, Bool.and_self, cond_true, beq_self_eq_true]; rfl)) ?_)
              clear hh w; intro w hh
              refine wl (w_storeA hl hh trivial agg61 rfl rfl (by repeat (first | exact find_head | apply find_tail | apply find_skip)) (by first | rfl | (simp; done) | rfl | exact arrL_length _ _) (by first | (simp; done) | (simp; omega) | (rw [arrL_length]; omega)) (by first | rfl | (simp; done) | rfl | exact arrL_all (fun j => ite_one hR0.one rfl) | exact arrL_all (fun j => ite_one hR1.one rfl) | exact arrL_all (fun j => ite_one hR2.one rfl) | exact arrL_all (fun j => ite_one hR3.one rfl) | exact arrL_all (fun j => ite_one hR4.one rfl)) (by first | exact setL_whole (arrL_length _ _) | (simp only [setL, List.getElem?_cons_zero, List.getElem?_cons_succ, Value.cells, List.take_zero, List.take_succ_cons, List.take_nil, List.drop_zero, List.drop_succ_cons, List.drop_nil, List.length_cons, List.length_nil, List.cons_append, List.nil_append, List.append_nil, Nat.zero_add, Nat.add_zero, Nat.reduceAdd, Nat.reduceBEq, Nat.reduceEqDiff, Nat.ble, BEq.rfl, Bool.and_true, Bool.and_self, cond_true, beq_self_eq_true]; rfl)) ?_)
              clear hh w; intro w hh
              refine wl (w_storeA hl hh trivial agg61 rfl rfl (by repeat (first | exact find_head | apply find_tail | apply find_skip)) (by first | rfl | (simp; done) | rfl | exact arrL_length _ _) (by first | (simp; done) | (simp; omega) | (rw [arrL_length]; omega)) (by first | rfl | (simp; done) | rfl | exact arrL_all (fun j => ite_one hR0.one rfl) | exact arrL_all (fun j => ite_one hR1.one rfl) | exact arrL_all (fun j => ite_one hR2.one rfl) | exact arrL_all (fun j => ite_one hR3.one rfl) | exact arrL_all (fun j => ite_one hR4.one rfl)) (by first | exact setL_whole (arrL_length _ _) | (simp only [setL, List.getElem?_cons_zero, List.getElem?_cons_succ, Value.cells, List.take_zero, List.take_succ_cons, List.take_nil, List.drop_zero, List.drop_succ_cons, List.drop_nil, List.length_cons, List.length_nil, List.cons_append, List.nil_append, List.append_nil, Nat.zero_add, Nat.add_zero, Nat.reduceAdd, Nat.reduceBEq, Nat.reduceEqDiff, Nat.ble, BEq.rfl, Bool.and_true, Bool.and_self, cond_true, beq_self_eq_true]; rfl)) ?_)
              clear hh w; intro w hh
              refine w_nil ?_
              have hl2 := hl.add (t := 3) (hl.add (t := 12) (hl.add (t := 13) (hl.add (t := 14) (hl.add (t := 15) (hl.add (t := 25) (hl.add (t := 26) (hl.add (t := 27) (hl.nil) rfl) rfl) rfl) rfl) rfl) rfl) rfl) rfl; clear hl; have hl := hl2; clear hl2
              refine then_normal ?_
              refine c_seq ?_
              refine c_seq ?_
              refine c_region ?_
              refine wl (w_call hl hh rfl trivial rfl cal34 rfl (eqS2_spec (flK g2.flr (wn % 4)) (flK_rng (B := 40 * ((z.i + 1 : Nat) : Int)) (Q := 400 * ((z.i + 1 : Nat) : Int) + 4) hG4 ⟨by omega, by omega⟩ (wn % 4)) (edN (wsK g2.ws (wn % 4)) 16) (edK_len (B := 40 * ((z.i + 1 : Nat) : Int)) (Q := 400 * ((z.i + 1 : Nat) : Int) + 4) hG4 ⟨by omega, by omega⟩ (wn % 4)) (eg_ok (B := 40 * ((z.i + 1 : Nat) : Int)) (Q := 400 * ((z.i + 1 : Nat) : Int) + 4) hG4 ⟨by omega, by omega⟩) k14 k13 ve1 ve0 Ee1 Ee0 hR1 hR0) (by repeat (first | exact keeps_nil | apply keeps_cons (by repeat (first | exact find_head | apply find_tail | apply find_skip)) (by first  | rfl) | exact keeps_self | exact keeps_left | apply keeps_app | apply keeps_mv | apply keeps_skip)) ⟨memK (E := (k14, C (arrL 17 (shV (flK g2.flr (wn % 4)) ve1)) 61) :: Ee1) hh (by repeat (first | exact keeps_nil | apply keeps_cons (by repeat (first | exact find_head | apply find_tail | apply find_skip)) (by first  | rfl) | exact keeps_self | exact keeps_left | apply keeps_app | apply keeps_mv | apply keeps_skip)), memK (E := (k13, C (arrL 17 (shV (flK g2.flr (wn % 4)) ve0)) 61) :: Ee0) hh (by repeat (first | exact keeps_nil | apply keeps_cons (by repeat (first | exact find_head | apply find_tail | apply find_skip)) (by first  | rfl) | exact keeps_self | exact keeps_left | apply keeps_app | apply keeps_mv | apply keeps_skip))⟩ ?_)
              clear hl hh a w; intro vc Fc a w hR hl hh
              obtain ⟨rfl, rfl⟩ := hR
              try simp only [List.cons_append, List.nil_append, List.append_assoc, List.append_nil] at hh
              refine wl (wl_val hl rfl trivial (r_not hl rfl) ?_)
              clear hl a; intro a hl
              refine wl (wl_val hl rfl trivial (r_move hl rfl) ?_)
              clear hl a; intro a hl
              refine wl (w_call hl hh rfl ⟨_, _, rfl, rfl, rfl⟩ rfl cal34 rfl (eqS2_spec (flK g2.flr (wn % 4)) (flK_rng (B := 40 * ((z.i + 1 : Nat) : Int)) (Q := 400 * ((z.i + 1 : Nat) : Int) + 4) hG4 ⟨by omega, by omega⟩ (wn % 4)) (edN (wsK g2.ws (wn % 4)) 16) (edK_len (B := 40 * ((z.i + 1 : Nat) : Int)) (Q := 400 * ((z.i + 1 : Nat) : Int) + 4) hG4 ⟨by omega, by omega⟩ (wn % 4)) (eg_ok (B := 40 * ((z.i + 1 : Nat) : Int)) (Q := 400 * ((z.i + 1 : Nat) : Int) + 4) hG4 ⟨by omega, by omega⟩) k15 k13 ve2 ve0 Ee2 Ee0 hR2 hR0) (by repeat (first | exact keeps_nil | apply keeps_cons (by repeat (first | exact find_head | apply find_tail | apply find_skip)) (by first  | rfl) | exact keeps_self | exact keeps_left | apply keeps_app | apply keeps_mv | apply keeps_skip)) ⟨memK (E := (k15, C (arrL 17 (shV (flK g2.flr (wn % 4)) ve2)) 61) :: Ee2) hh (by repeat (first | exact keeps_nil | apply keeps_cons (by repeat (first | exact find_head | apply find_tail | apply find_skip)) (by first  | rfl) | exact keeps_self | exact keeps_left | apply keeps_app | apply keeps_mv | apply keeps_skip)), memK (E := (k13, C (arrL 17 (shV (flK g2.flr (wn % 4)) ve0)) 61) :: Ee0) hh (by repeat (first | exact keeps_nil | apply keeps_cons (by repeat (first | exact find_head | apply find_tail | apply find_skip)) (by first  | rfl) | exact keeps_self | exact keeps_left | apply keeps_app | apply keeps_mv | apply keeps_skip))⟩ ?_)
              clear hl hh a w; intro vc Fc a w hR hl hh
              obtain ⟨rfl, rfl⟩ := hR
              try simp only [List.cons_append, List.nil_append, List.append_assoc, List.append_nil] at hh
              refine wl (wl_val hl rfl ⟨_, _, rfl, rfl, rfl⟩ (r_not hl rfl) ?_)
              clear hl a; intro a hl
              refine wl (wl_val hl rfl trivial (r_pickF hl rfl rfl) ?_)
              clear hl a; intro a hl
              refine w_nil ?_
              have hl2 := hl.add (t := 3) (hl.add (t := 12) (hl.add (t := 25) (hl.add (t := 26) (hl.add (t := 27) (hl.add (t := 87) (hl.nil) rfl) rfl) rfl) rfl) rfl) rfl; clear hl; have hl := hl2; clear hl2
              refine then_normal ?_
              refine c_condF hl rfl ?_
              refine wp_skip ?_
              refine then_normal ?_
              refine c_seq ?_
              refine c_region ?_
              refine wl (wl_val hl rfl trivial (r_move hl rfl) ?_)
              clear hl a; intro a hl
              refine wl (w_buildSlice hl hh rfl trivial app86 zero3 rfl rfl rfl rfl rfl (by simp only [fillL, arrPl, List.range_succ, List.range_zero, List.map_cons, List.map_nil, List.map_append, List.nil_append, List.replicate_succ, List.replicate_zero, List.flatten_cons, List.flatten_nil, Nat.zero_mul, Nat.mul_one, Nat.one_mul, Nat.reduceMul, setL, List.getElem?_cons_zero, List.getElem?_cons_succ, Value.cells, List.take_zero, List.take_succ_cons, List.take_nil, List.drop_zero, List.drop_succ_cons, List.drop_nil, List.length_cons, List.length_nil, List.cons_append, List.nil_append, List.append_nil, Nat.zero_add, Nat.add_zero, Nat.reduceAdd, Nat.reduceBEq, Nat.reduceEqDiff, Nat.ble, BEq.rfl, Bool.and_true, Bool.and_self, cond_true, beq_self_eq_true]; rfl) ?_)
              clear hl hh a w; intro k89 a w hl hh
              refine wl (w_call hl hh rfl trivial rfl cal32 rfl (play_spec hS2 bg tT tf (40 * ((z.i + 1 : Nat) : Int)) (400 * ((z.i + 1 : Nat) : Int) + 4) ⟨by omega, by omega⟩ (by omega) (by omega) hG4 (wn % 4) (by omega) (ms7 (o.b % 4) wn e s) (us7 wn e s) (ms7_us hwn16 her (by omega) hsz hsb) rfl [0, 1, 2] (by decide) (by decide) 3 k89 k3 k11 k8) (by repeat (first | exact keeps_nil | apply keeps_cons (by repeat (first | exact find_head | apply find_tail | apply find_skip)) (by first  | rfl) | exact keeps_self | exact keeps_left | apply keeps_app | apply keeps_mv | apply keeps_skip)) ⟨⟨memK (E := sysL bg M2) hh (by repeat (first | exact keeps_nil | apply keeps_cons (by repeat (first | exact find_head | apply find_tail | apply find_skip)) (by first  | rfl) | exact keeps_self | exact keeps_left | apply keeps_app | apply keeps_mv | apply keeps_skip)), (pt_law (Fn := []) hh hpre.2 (by repeat (first | exact keeps_nil | apply keeps_cons (by repeat (first | exact find_head | apply find_tail | apply find_skip)) (by first  | rfl) | exact keeps_self | exact keeps_left | apply keeps_app | apply keeps_mv | apply keeps_skip))).1⟩, (mem1 (memK (E := [(k3, C [.pointer (some ⟨bg, 0, none⟩)] 24)]) hh (by repeat (first | exact keeps_nil | apply keeps_cons (by repeat (first | exact find_head | apply find_tail | apply find_skip)) (by first  | rfl) | exact keeps_self | exact keeps_left | apply keeps_app | apply keeps_mv | apply keeps_skip)))), (mem1 (memK (E := [(k11, C (fl rmc (ms7 (o.b % 4) wn e s) ++ []) 85)]) hh (by repeat (first | exact keeps_nil | apply keeps_cons (by repeat (first | exact find_head | apply find_tail | apply find_skip)) (by first  | rfl) | exact keeps_self | exact keeps_left | apply keeps_app | apply keeps_mv | apply keeps_skip)))), (mem1 (memK (E := [(k8, C [.int .i64 ((wn % 4 : Nat) : Int)] 58)]) hh (by repeat (first | exact keeps_nil | apply keeps_cons (by repeat (first | exact find_head | apply find_tail | apply find_skip)) (by first  | rfl) | exact keeps_self | exact keeps_left | apply keeps_app | apply keeps_mv | apply keeps_skip)))), (mem1 (memK (E := [(k89, C (fl ivc [0, 1, 2] ++ []) 3)]) hh (by repeat (first | exact keeps_nil | apply keeps_cons (by repeat (first | exact find_head | apply find_tail | apply find_skip)) (by first  | rfl) | exact keeps_self | exact keeps_left | apply keeps_app | apply keeps_mv | apply keeps_skip))))⟩ ?_)
              clear hl hh a w; intro vc Fc a w hR hl hh
              obtain ⟨ve3, rfl, hR3⟩ := hR
              try simp only [List.cons_append, List.nil_append, List.append_assoc, List.append_nil] at hh
              rw [pl3 hok7 [0, 1, 2] (.inl rfl)] at hl hR3
              generalize Fc = Ee3 at hh hR3
              refine wl (w_alloc hl hh rfl trivial zero61 rfl ?_)
              clear hl hh a w; intro k16 a w hl hh
              refine wl (w_storeA hl hh trivial agg61 rfl rfl (by repeat (first | exact find_head | apply find_tail | apply find_skip)) (by first | rfl | (simp; done) | rfl | exact arrL_length _ _) (by first | (simp; done) | (simp; omega) | (rw [arrL_length]; omega)) (by first | rfl | (simp; done) | rfl | exact arrL_all (fun j => ite_one hR0.one rfl) | exact arrL_all (fun j => ite_one hR1.one rfl) | exact arrL_all (fun j => ite_one hR2.one rfl) | exact arrL_all (fun j => ite_one hR3.one rfl) | exact arrL_all (fun j => ite_one hR4.one rfl)) (by first | exact setL_whole (arrL_length _ _) | (simp only [setL, List.getElem?_cons_zero, List.getElem?_cons_succ, Value.cells, List.take_zero, List.take_succ_cons, List.take_nil, List.drop_zero, List.drop_succ_cons, List.drop_nil, List.length_cons, List.length_nil, List.cons_append, List.nil_append, List.append_nil, Nat.zero_add, Nat.add_zero, Nat.reduceAdd, Nat.reduceBEq, Nat.reduceEqDiff, Nat.ble, BEq.rfl, Bool.and_true, Bool.and_self, cond_true, beq_self_eq_true]; rfl)) ?_)
              clear hh w; intro w hh
              refine w_nil ?_
              have hl2 := hl.add (t := 3) (hl.add (t := 12) (hl.add (t := 16) (hl.add (t := 25) (hl.add (t := 26) (hl.add (t := 27) (hl.nil) rfl) rfl) rfl) rfl) rfl) rfl; clear hl; have hl := hl2; clear hl2
              refine then_normal ?_
              refine c_seq ?_
              refine c_region ?_
              refine wl (w_buildSlice hl hh rfl trivial app86 zero3 rfl rfl rfl rfl rfl (by simp only [fillL, arrPl, List.range_succ, List.range_zero, List.map_cons, List.map_nil, List.map_append, List.nil_append, List.replicate_succ, List.replicate_zero, List.flatten_cons, List.flatten_nil, Nat.zero_mul, Nat.mul_one, Nat.one_mul, Nat.reduceMul, setL, List.getElem?_cons_zero, List.getElem?_cons_succ, Value.cells, List.take_zero, List.take_succ_cons, List.take_nil, List.drop_zero, List.drop_succ_cons, List.drop_nil, List.length_cons, List.length_nil, List.cons_append, List.nil_append, List.append_nil, Nat.zero_add, Nat.add_zero, Nat.reduceAdd, Nat.reduceBEq, Nat.reduceEqDiff, Nat.ble, BEq.rfl, Bool.and_true, Bool.and_self, cond_true, beq_self_eq_true]; rfl) ?_)
              clear hl hh a w; intro k91 a w hl hh
              refine wl (w_buildSlice hl hh rfl trivial app86 zero3 rfl rfl rfl rfl rfl (by simp only [fillL, arrPl, List.range_succ, List.range_zero, List.map_cons, List.map_nil, List.map_append, List.nil_append, List.replicate_succ, List.replicate_zero, List.flatten_cons, List.flatten_nil, Nat.zero_mul, Nat.mul_one, Nat.one_mul, Nat.reduceMul, setL, List.getElem?_cons_zero, List.getElem?_cons_succ, Value.cells, List.take_zero, List.take_succ_cons, List.take_nil, List.drop_zero, List.drop_succ_cons, List.drop_nil, List.length_cons, List.length_nil, List.cons_append, List.nil_append, List.append_nil, Nat.zero_add, Nat.add_zero, Nat.reduceAdd, Nat.reduceBEq, Nat.reduceEqDiff, Nat.ble, BEq.rfl, Bool.and_true, Bool.and_self, cond_true, beq_self_eq_true]; rfl) ?_)
              clear hl hh a w; intro k92 a w hl hh
              refine wl (w_buildSlice hl hh rfl trivial app86 zero3 rfl rfl rfl rfl rfl (by simp only [fillL, arrPl, List.range_succ, List.range_zero, List.map_cons, List.map_nil, List.map_append, List.nil_append, List.replicate_succ, List.replicate_zero, List.flatten_cons, List.flatten_nil, Nat.zero_mul, Nat.mul_one, Nat.one_mul, Nat.reduceMul, setL, List.getElem?_cons_zero, List.getElem?_cons_succ, Value.cells, List.take_zero, List.take_succ_cons, List.take_nil, List.drop_zero, List.drop_succ_cons, List.drop_nil, List.length_cons, List.length_nil, List.cons_append, List.nil_append, List.append_nil, Nat.zero_add, Nat.add_zero, Nat.reduceAdd, Nat.reduceBEq, Nat.reduceEqDiff, Nat.ble, BEq.rfl, Bool.and_true, Bool.and_self, cond_true, beq_self_eq_true]; rfl) ?_)
              clear hl hh a w; intro k93 a w hl hh
              refine wl (w_buildSlice hl hh rfl trivial app86 zero3 rfl rfl rfl rfl rfl (by simp only [fillL, arrPl, List.range_succ, List.range_zero, List.map_cons, List.map_nil, List.map_append, List.nil_append, List.replicate_succ, List.replicate_zero, List.flatten_cons, List.flatten_nil, Nat.zero_mul, Nat.mul_one, Nat.one_mul, Nat.reduceMul, setL, List.getElem?_cons_zero, List.getElem?_cons_succ, Value.cells, List.take_zero, List.take_succ_cons, List.take_nil, List.drop_zero, List.drop_succ_cons, List.drop_nil, List.length_cons, List.length_nil, List.cons_append, List.nil_append, List.append_nil, Nat.zero_add, Nat.add_zero, Nat.reduceAdd, Nat.reduceBEq, Nat.reduceEqDiff, Nat.ble, BEq.rfl, Bool.and_true, Bool.and_self, cond_true, beq_self_eq_true]; rfl) ?_)
              clear hl hh a w; intro k94 a w hl hh
              refine wl (w_buildSlice hl hh rfl trivial app86 zero3 rfl rfl rfl rfl rfl (by simp only [fillL, arrPl, List.range_succ, List.range_zero, List.map_cons, List.map_nil, List.map_append, List.nil_append, List.replicate_succ, List.replicate_zero, List.flatten_cons, List.flatten_nil, Nat.zero_mul, Nat.mul_one, Nat.one_mul, Nat.reduceMul, setL, List.getElem?_cons_zero, List.getElem?_cons_succ, Value.cells, List.take_zero, List.take_succ_cons, List.take_nil, List.drop_zero, List.drop_succ_cons, List.drop_nil, List.length_cons, List.length_nil, List.cons_append, List.nil_append, List.append_nil, Nat.zero_add, Nat.add_zero, Nat.reduceAdd, Nat.reduceBEq, Nat.reduceEqDiff, Nat.ble, BEq.rfl, Bool.and_true, Bool.and_self, cond_true, beq_self_eq_true]; rfl) ?_)
              clear hl hh a w; intro k95 a w hl hh
              refine wl (w_buildSlice hl hh rfl trivial app91 zero86 rfl rfl rfl rfl rfl (by simp only [fillL, arrPl, List.range_succ, List.range_zero, List.map_cons, List.map_nil, List.map_append, List.nil_append, List.replicate_succ, List.replicate_zero, List.flatten_cons, List.flatten_nil, Nat.zero_mul, Nat.mul_one, Nat.one_mul, Nat.reduceMul, setL, List.getElem?_cons_zero, List.getElem?_cons_succ, Value.cells, List.take_zero, List.take_succ_cons, List.take_nil, List.drop_zero, List.drop_succ_cons, List.drop_nil, List.length_cons, List.length_nil, List.cons_append, List.nil_append, List.append_nil, Nat.zero_add, Nat.add_zero, Nat.reduceAdd, Nat.reduceBEq, Nat.reduceEqDiff, Nat.ble, BEq.rfl, Bool.and_true, Bool.and_self, cond_true, beq_self_eq_true]; rfl) ?_)
              clear hl hh a w; intro k96 a w hl hh
              refine wl (wl_val hl rfl trivial (r_lenS hl rfl slc91) ?_)
              clear hl a; intro a hl
              refine wl (wl_val hl rfl trivial (r_move hl rfl) ?_)
              clear hl a; intro a hl
              refine w_nil ?_
              have hl2 := hl.add (t := 3) (hl.add (t := 12) (hl.add (t := 16) (hl.add (t := 25) (hl.add (t := 26) (hl.add (t := 27) (hl.add (t := 96) (hl.add (t := 97) (hl.add (t := 98) (hl.nil) rfl) rfl) rfl) rfl) rfl) rfl) rfl) rfl) rfl; clear hl; have hl := hl2; clear hl2
              refine then_normal ?_
              refine wp_block ?_
              obtain ⟨KS1, hKS1, hk⟩ := (hl.add (t := 3) (hl.add (t := 12) (hl.add (t := 16) (hl.add (t := 25) (hl.add (t := 26) (hl.add (t := 27) (hl.add (t := 96) (hl.add (t := 97) (hl.nil) rfl) rfl) rfl) rfl) rfl) rfl) rfl) rfl).name
              obtain ⟨HS1, hHS1, hh2⟩ := hh.name (keeps_nil)
              refine c_loop (α := Nat) (fun y => 5 - y) (fun y a w => (y ≤ 5) ∧ Sl 109 ([(98, .int .i64 (y : Int))] ++ KS1) a ∧ Has _ w0 ([] ++ HS1) w) 0 ⟨(by omega), hl.addE (t := 98) (hk) rfl (by first | rfl), hh2⟩ ?_
              clear hk hh2 hl hh a w
              intro y a w hI
              obtain ⟨hy5, hl, hh⟩ := hI
              subst hKS1; subst hHS1
              simp only [List.cons_append, List.nil_append, List.append_nil, List.append_assoc] at hl hh
              refine c_seq ?_
              refine c_region ?_
              refine wl (wl_val hl rfl trivial (r_lss hl rfl rfl) ?_)
              clear hl a; intro a hl
              refine w_nil ?_
              have hl2 := hl.add (t := 3) (hl.add (t := 12) (hl.add (t := 16) (hl.add (t := 25) (hl.add (t := 26) (hl.add (t := 27) (hl.add (t := 96) (hl.add (t := 97) (hl.add (t := 98) (hl.add (t := 99) (hl.nil) rfl) rfl) rfl) rfl) rfl) rfl) rfl) rfl) rfl) rfl; clear hl; have hl := hl2; clear hl2
              refine then_normal ?_
              refine c_seq ?_
              refine c_cond hl rfl ?_ ?_
              · intro hc5
                try simp only [decide_eq_true_eq, decide_eq_false_iff_not, Bool.not_eq_true', Bool.not_eq_false', Bool.not_eq_true, Bool.not_eq_false, Bool.and_eq_true, Bool.or_eq_true, Bool.and_eq_false_iff, Bool.or_eq_false_iff, Bool.not_not, ne_eq, Int.not_lt, Int.not_le, Decidable.not_not, beq_iff_eq, bne_iff_ne] at hc5
                obtain ⟨ko, od, hcell, hmo, hol, hod⟩ : ∃ ko od, ([.slice (some ⟨k91, 0, none⟩) 3 3, .slice (some ⟨k92, 0, none⟩) 3 3, .slice (some ⟨k93, 0, none⟩) 3 3, .slice (some ⟨k94, 0, none⟩) 3 3, .slice (some ⟨k95, 0, none⟩) 3 3] : List Value)[0 + y * 1]? = some (.slice (some ⟨ko, 0, none⟩) od.length 3) ∧ (∀ w9, Mem [(k91, C (fl ivc [0, 2, 1] ++ []) 3), (k92, C (fl ivc [1, 0, 2] ++ []) 3), (k93, C (fl ivc [1, 2, 0] ++ []) 3), (k94, C (fl ivc [2, 0, 1] ++ []) 3), (k95, C (fl ivc [2, 1, 0] ++ []) 3)] w9 → w9.heap[ko]? = some (C (fl ivc od ++ []) 3)) ∧ od.length = 3 ∧ (od = [0, 1, 2] ∨ od = [0, 2, 1] ∨ od = [1, 0, 2] ∨ od = [1, 2, 0] ∨ od = [2, 0, 1] ∨ od = [2, 1, 0]) := by
                  have hy9 : y = 0 ∨ y = 1 ∨ y = 2 ∨ y = 3 ∨ y = 4 := by omega
                  rcases hy9 with rfl | rfl | rfl | rfl | rfl
                  · exact ⟨k91, [0, 2, 1], rfl, fun w9 h9 => h9 _ _ (.head _), rfl, .inr (.inl rfl)⟩
                  · exact ⟨k92, [1, 0, 2], rfl, fun w9 h9 => h9 _ _ (.tail _ (.head _)), rfl, .inr (.inr (.inl rfl))⟩
                  · exact ⟨k93, [1, 2, 0], rfl, fun w9 h9 => h9 _ _ (.tail _ (.tail _ (.head _))), rfl, .inr (.inr (.inr (.inl rfl)))⟩
                  · exact ⟨k94, [2, 0, 1], rfl, fun w9 h9 => h9 _ _ (.tail _ (.tail _ (.tail _ (.head _)))), rfl, .inr (.inr (.inr (.inr (.inl rfl))))⟩
                  · exact ⟨k95, [2, 1, 0], rfl, fun w9 h9 => h9 _ _ (.tail _ (.tail _ (.tail _ (.tail _ (.head _))))), rfl, .inr (.inr (.inr (.inr (.inr (rfl)))))⟩
                have hod3 : ∀ j, j ∈ od → j < 3 := by rcases hod with rfl | rfl | rfl | rfl | rfl | rfl <;> decide
                refine wp_skip ?_
                refine then_normal ?_
                refine c_seq ?_
                refine wp_block ?_
                refine c_seq ?_
                refine c_region ?_
                refine wl (wl_val hl rfl trivial (r_indexS hl rfl rfl slc91 (by omega) (by omega) (by first | (simp only [Int.reduceToNat]; rfl) | exact toNat_add1 _ | exact toNat_add2 _ _ | exact toNat_emod _ _ | exact Int.toNat_natCast _ | rfl)) ?_)
                clear hl a; intro a hl
                refine wl (w_load hl hh rfl trivial one86 rfl (by repeat (first | exact find_head | apply find_tail | apply find_skip)) (by first | exact hcell | rfl | rfl) ?_)
                clear hl a; intro a hl
                refine wl (wl_val hl rfl trivial (r_assign hl rfl) ?_)
                clear hl a; intro a hl
                refine w_nil ?_
                have hl2 := hl.add (t := 3) (hl.add (t := 12) (hl.add (t := 16) (hl.add (t := 18) (hl.add (t := 25) (hl.add (t := 26) (hl.add (t := 27) (hl.add (t := 96) (hl.add (t := 97) (hl.add (t := 98) (hl.nil) rfl) rfl) rfl) rfl) rfl) rfl) rfl) rfl) rfl) rfl; clear hl; have hl := hl2; clear hl2
                refine then_normal ?_
                refine c_seq ?_
                refine c_region ?_
                refine wl (wl_val hl rfl trivial (r_move hl rfl) ?_)
                clear hl a; intro a hl
                refine wl (wl_val hl rfl trivial (r_move hl rfl) ?_)
                clear hl a; intro a hl
                refine wl (w_call hl hh rfl trivial rfl cal32 rfl (play_spec hS2 bg tT tf (40 * ((z.i + 1 : Nat) : Int)) (400 * ((z.i + 1 : Nat) : Int) + 4) ⟨by omega, by omega⟩ (by omega) (by omega) hG4 (wn % 4) (by omega) (ms7 (o.b % 4) wn e s) (us7 wn e s) (ms7_us hwn16 her (by omega) hsz hsb) rfl od hod3 (by omega) 3 ko k3 k11 k8) (by repeat (first | exact keeps_nil | apply keeps_cons (by repeat (first | exact find_head | apply find_tail | apply find_skip)) (by first  | rfl) | exact keeps_self | exact keeps_left | apply keeps_app | apply keeps_mv | apply keeps_skip)) ⟨⟨memK (E := sysL bg M2) hh (by repeat (first | exact keeps_nil | apply keeps_cons (by repeat (first | exact find_head | apply find_tail | apply find_skip)) (by first  | rfl) | exact keeps_self | exact keeps_left | apply keeps_app | apply keeps_mv | apply keeps_skip)), (pt_law (Fn := []) hh hpre.2 (by repeat (first | exact keeps_nil | apply keeps_cons (by repeat (first | exact find_head | apply find_tail | apply find_skip)) (by first  | rfl) | exact keeps_self | exact keeps_left | apply keeps_app | apply keeps_mv | apply keeps_skip))).1⟩, (mem1 (memK (E := [(k3, C [.pointer (some ⟨bg, 0, none⟩)] 24)]) hh (by repeat (first | exact keeps_nil | apply keeps_cons (by repeat (first | exact find_head | apply find_tail | apply find_skip)) (by first  | rfl) | exact keeps_self | exact keeps_left | apply keeps_app | apply keeps_mv | apply keeps_skip)))), (mem1 (memK (E := [(k11, C (fl rmc (ms7 (o.b % 4) wn e s) ++ []) 85)]) hh (by repeat (first | exact keeps_nil | apply keeps_cons (by repeat (first | exact find_head | apply find_tail | apply find_skip)) (by first  | rfl) | exact keeps_self | exact keeps_left | apply keeps_app | apply keeps_mv | apply keeps_skip)))), (mem1 (memK (E := [(k8, C [.int .i64 ((wn % 4 : Nat) : Int)] 58)]) hh (by repeat (first | exact keeps_nil | apply keeps_cons (by repeat (first | exact find_head | apply find_tail | apply find_skip)) (by first  | rfl) | exact keeps_self | exact keeps_left | apply keeps_app | apply keeps_mv | apply keeps_skip)))), (hmo w (memK (E := [(k91, C (fl ivc [0, 2, 1] ++ []) 3), (k92, C (fl ivc [1, 0, 2] ++ []) 3), (k93, C (fl ivc [1, 2, 0] ++ []) 3), (k94, C (fl ivc [2, 0, 1] ++ []) 3), (k95, C (fl ivc [2, 1, 0] ++ []) 3)]) hh (by repeat (first | exact keeps_nil | apply keeps_cons (by repeat (first | exact find_head | apply find_tail | apply find_skip)) (by first  | rfl) | exact keeps_self | exact keeps_left | apply keeps_app | apply keeps_mv | apply keeps_skip))))⟩ ?_)
                clear hl hh a w; intro vc Fc a w hR hl hh
                obtain ⟨ve4, rfl, hR4⟩ := hR
                try simp only [List.cons_append, List.nil_append, List.append_assoc, List.append_nil] at hh
                rw [pl3 hok7 od hod] at hl hR4
                generalize Fc = Ee4 at hh hR4
                refine wl (w_alloc hl hh rfl trivial zero61 rfl ?_)
                clear hl hh a w; intro k19 a w hl hh
                refine wl (w_storeA hl hh trivial agg61 rfl rfl (by repeat (first | exact find_head | apply find_tail | apply find_skip)) (by first | rfl | (simp; done) | rfl | exact arrL_length _ _) (by first | (simp; done) | (simp; omega) | (rw [arrL_length]; omega)) (by first | rfl | (simp; done) | rfl | exact arrL_all (fun j => ite_one hR0.one rfl) | exact arrL_all (fun j => ite_one hR1.one rfl) | exact arrL_all (fun j => ite_one hR2.one rfl) | exact arrL_all (fun j => ite_one hR3.one rfl) | exact arrL_all (fun j => ite_one hR4.one rfl)) (by first | exact setL_whole (arrL_length _ _) | (simp only [setL, List.getElem?_cons_zero, List.getElem?_cons_succ, Value.cells, List.take_zero, List.take_succ_cons, List.take_nil, List.drop_zero, List.drop_succ_cons, List.drop_nil, List.length_cons, List.length_nil, List.cons_append, List.nil_append, List.append_nil, Nat.zero_add, Nat.add_zero, Nat.reduceAdd, Nat.reduceBEq, Nat.reduceEqDiff, Nat.ble, BEq.rfl, Bool.and_true, Bool.and_self, cond_true, beq_self_eq_true]; rfl)) ?_)
                clear hh w; intro w hh
                refine w_nil ?_
                have hl2 := hl.add (t := 3) (hl.add (t := 12) (hl.add (t := 16) (hl.add (t := 19) (hl.add (t := 25) (hl.add (t := 26) (hl.add (t := 27) (hl.add (t := 96) (hl.add (t := 97) (hl.add (t := 98) (hl.nil) rfl) rfl) rfl) rfl) rfl) rfl) rfl) rfl) rfl) rfl; clear hl; have hl := hl2; clear hl2
                refine then_normal ?_
                refine c_seq ?_
                refine c_region ?_
                refine wl (w_call hl hh rfl trivial rfl cal34 rfl (eqS2_spec (flK (ends g2 wn e).flr (wn % 4)) (flK_rng (B := 40 * ((z.i + 1 : Nat) : Int) + 1) (Q := 400 * ((z.i + 1 : Nat) : Int) + 4) hGe ⟨by omega, by omega⟩ (wn % 4)) (edN (wsK (ends g2 wn e).ws (wn % 4)) 16) (edK_len (B := 40 * ((z.i + 1 : Nat) : Int) + 1) (Q := 400 * ((z.i + 1 : Nat) : Int) + 4) hGe ⟨by omega, by omega⟩ (wn % 4)) (eg_ok (B := 40 * ((z.i + 1 : Nat) : Int) + 1) (Q := 400 * ((z.i + 1 : Nat) : Int) + 4) hGe ⟨by omega, by omega⟩) k19 k16 ve4 ve3 Ee4 Ee3 hR4 hR3) (by repeat (first | exact keeps_nil | apply keeps_cons (by repeat (first | exact find_head | apply find_tail | apply find_skip)) (by first  | rfl) | exact keeps_self | exact keeps_left | apply keeps_app | apply keeps_mv | apply keeps_skip)) ⟨memK (E := (k19, C (arrL 17 (shV (flK (ends g2 wn e).flr (wn % 4)) ve4)) 61) :: Ee4) hh (by repeat (first | exact keeps_nil | apply keeps_cons (by repeat (first | exact find_head | apply find_tail | apply find_skip)) (by first  | rfl) | exact keeps_self | exact keeps_left | apply keeps_app | apply keeps_mv | apply keeps_skip)), memK (E := (k16, C (arrL 17 (shV (flK (ends g2 wn e).flr (wn % 4)) ve3)) 61) :: Ee3) hh (by repeat (first | exact keeps_nil | apply keeps_cons (by repeat (first | exact find_head | apply find_tail | apply find_skip)) (by first  | rfl) | exact keeps_self | exact keeps_left | apply keeps_app | apply keeps_mv | apply keeps_skip))⟩ ?_)
                clear hl hh a w; intro vc Fc a w hR hl hh
                obtain ⟨rfl, rfl⟩ := hR
                try simp only [List.cons_append, List.nil_append, List.append_assoc, List.append_nil] at hh
                refine wl (wl_val hl rfl trivial (r_not hl rfl) ?_)
                clear hl a; intro a hl
                refine w_nil ?_
                have hl2 := hl.add (t := 3) (hl.add (t := 12) (hl.add (t := 16) (hl.add (t := 25) (hl.add (t := 26) (hl.add (t := 27) (hl.add (t := 96) (hl.add (t := 97) (hl.add (t := 98) (hl.add (t := 106) (hl.nil) rfl) rfl) rfl) rfl) rfl) rfl) rfl) rfl) rfl) rfl; clear hl; have hl := hl2; clear hl2
                refine then_normal ?_
                refine c_condF hl rfl ?_
                refine wp_skip ?_
                refine blk_normal ?_
                refine then_normal ?_
                refine c_region ?_
                first | refine wl (wl_val hl rfl trivial (r_add hl rfl rfl (by simp only [Fits]; omega)) ?_) | refine wl (wl_val hl rfl trivial (r_addW hl rfl rfl) ?_)
                clear hl a; intro a hl
                refine wl (wl_val hl rfl trivial (r_move hl rfl) ?_)
                clear hl a; intro a hl
                refine w_nil ?_
                have hl2 := hl.add (t := 3) (hl.add (t := 12) (hl.add (t := 16) (hl.add (t := 25) (hl.add (t := 26) (hl.add (t := 27) (hl.add (t := 96) (hl.add (t := 97) (hl.add (t := 98) (hl.nil) rfl) rfl) rfl) rfl) rfl) rfl) rfl) rfl) rfl; clear hl; have hl := hl2; clear hl2
                refine then_normal ?_
                refine ⟨(y + 1), (by omega), (by omega), hl.addE (t := 98) (hl.addE (t := 3) (hl.addE (t := 12) (hl.addE (t := 16) (hl.addE (t := 25) (hl.addE (t := 26) (hl.addE (t := 27) (hl.addE (t := 96) (hl.addE (t := 97) (hl.nil) rfl (by first | rfl | (congr 1; omega))) rfl (by first | rfl | (congr 1; omega))) rfl (by first | rfl | (congr 1; omega))) rfl (by first | rfl | (congr 1; omega))) rfl (by first | rfl | (congr 1; omega))) rfl (by first | rfl | (congr 1; omega))) rfl (by first | rfl | (congr 1; omega))) rfl (by first | rfl | (congr 1; omega))) rfl (by first | rfl | (congr 1; omega)), hh.keep (by repeat (first | exact keeps_nil | apply keeps_cons (by repeat (first | exact find_head | apply find_tail | apply find_skip)) (by first  | rfl) | exact keeps_self | exact keeps_left | apply keeps_app | apply keeps_mv | apply keeps_skip))⟩
              · intro hc5
                try simp only [decide_eq_true_eq, decide_eq_false_iff_not, Bool.not_eq_true', Bool.not_eq_false', Bool.not_eq_true, Bool.not_eq_false, Bool.and_eq_true, Bool.or_eq_true, Bool.and_eq_false_iff, Bool.or_eq_false_iff, Bool.not_not, ne_eq, Int.not_lt, Int.not_le, Decidable.not_not, beq_iff_eq, bne_iff_ne] at hc5
                refine wp_exit ?_
                refine then_exit ?_
                refine then_exit ?_
                refine blk_exit ?_
                refine blk_normal ?_
                refine then_normal ?_
                refine c_region ?_
                first | refine wl (wl_val hl rfl trivial (r_add hl rfl rfl (by simp only [Fits]; omega)) ?_) | refine wl (wl_val hl rfl trivial (r_addW hl rfl rfl) ?_)
                clear hl a; intro a hl
                refine wl (wl_val hl rfl trivial (r_move hl rfl) ?_)
                clear hl a; intro a hl
                refine w_nil ?_
                have hl2 := hl.add (t := 3) (hl.add (t := 25) (hl.add (t := 26) (hl.add (t := 27) (hl.nil) rfl) rfl) rfl) rfl; clear hl; have hl := hl2; clear hl2
                refine then_normal ?_
                refine ⟨⟨g2, M2, z.i + 1⟩, (by simp only; omega), ⟨by simp only; omega, hS2, hG3⟩, hl.addE (t := 27) (hl.addE (t := 3) (hl.addE (t := 25) (hl.addE (t := 26) (hl.nil) rfl (by first | rfl | (congr 1; omega))) rfl (by first | rfl | (congr 1; omega))) rfl (by first | rfl | (congr 1; omega))) rfl (by first | rfl | (congr 1; omega)), hh.keep (by repeat (first | exact keeps_nil | apply keeps_cons (by repeat (first | exact find_head | apply find_tail | apply find_skip)) (by first  | rfl) | exact keeps_self | exact keeps_left | apply keeps_app | apply keeps_mv | apply keeps_skip))⟩
            · intro hc3
              try simp only [decide_eq_true_eq, decide_eq_false_iff_not, Bool.not_eq_true', Bool.not_eq_false', Bool.not_eq_true, Bool.not_eq_false, Bool.and_eq_true, Bool.or_eq_true, Bool.and_eq_false_iff, Bool.or_eq_false_iff, Bool.not_not, ne_eq, Int.not_lt, Int.not_le, Decidable.not_not, beq_iff_eq, bne_iff_ne] at hc3
              obtain ⟨e, he⟩ : ∃ e, e = g2.ep wn + o.c % 4 := ⟨_, rfl⟩
              have her : 0 ≤ e ∧ e ≤ 400 * ((z.i + 1 : Nat) : Int) + 4 := by omega
              rw [← he] at hh
              clear he
              have hGe : GI (40 * ((z.i + 1 : Nat) : Int) + 1) (400 * ((z.i + 1 : Nat) : Int) + 4) (ends g2 wn e) := hG4.apply (u := ⟨3, wn, e, 0#16⟩) ⟨by omega, by omega⟩ hwn16 her
              refine wp_skip ?_
              refine then_normal ?_
              refine c_seq ?_
              refine c_region ?_
              refine wl (wl_val hl rfl trivial (r_makeFunc hl rfl) ?_)
              clear hl a; intro a hl
              refine wl (wl_val hl rfl trivial (r_assign hl rfl) ?_)
              clear hl a; intro a hl
              refine w_nil ?_
              have hl2 := hl.add (t := 3) (hl.add (t := 7) (hl.add (t := 8) (hl.add (t := 10) (hl.add (t := 25) (hl.add (t := 26) (hl.add (t := 27) (hl.nil) rfl) rfl) rfl) rfl) rfl) rfl) rfl; clear hl; have hl := hl2; clear hl2
              refine then_normal ?_
              refine c_seq ?_
              refine c_region ?_
              refine wl (wl_val hl rfl trivial (r_move hl rfl) ?_)
              clear hl a; intro a hl
              refine wl (wl_val hl rfl trivial (r_move hl rfl) ?_)
              clear hl a; intro a hl
              refine wl (w_call hl hh rfl trivial rfl cal31 rfl (msg_spec 1 (mi s) ((wn % 4 : Nat) : Int) e (mi_rng s) wn hwn16 o k5 k8 k6 k9) (by repeat (first | exact keeps_nil | apply keeps_cons (by repeat (first | exact find_head | apply find_tail | apply find_skip)) (by first  | rfl) | exact keeps_self | exact keeps_left | apply keeps_app | apply keeps_mv | apply keeps_skip)) (memK (E := [(k5, C (opc o) 32), (k8, C [.int .i64 ((wn % 4 : Nat) : Int)] 58), (k6, C [.int .i64 (wn : Int)] 52), (k9, C [.int .u64 e] 48)]) hh (by repeat (first | exact keeps_nil | apply keeps_cons (by repeat (first | exact find_head | apply find_tail | apply find_skip)) (by first  | rfl) | exact keeps_self | exact keeps_left | apply keeps_app | apply keeps_mv | apply keeps_skip))) ?_)
              clear hl hh a w; intro vc Fc a w hR hl hh
              obtain ⟨rfl, rfl⟩ := hR
              try simp only [List.cons_append, List.nil_append, List.append_assoc, List.append_nil] at hh
              refine wl (wl_val hl rfl trivial (r_move hl rfl) ?_)
              clear hl a; intro a hl
              refine wl (wl_val hl rfl trivial (r_move hl rfl) ?_)
              clear hl a; intro a hl
              refine wl (w_call hl hh rfl trivial rfl cal31 rfl (msg_spec 2 (mi s) ((wn % 4 : Nat) : Int) e (mi_rng s) wn hwn16 o k5 k8 k6 k9) (by repeat (first | exact keeps_nil | apply keeps_cons (by repeat (first | exact find_head | apply find_tail | apply find_skip)) (by first  | rfl) | exact keeps_self | exact keeps_left | apply keeps_app | apply keeps_mv | apply keeps_skip)) (memK (E := [(k5, C (opc o) 32), (k8, C [.int .i64 ((wn % 4 : Nat) : Int)] 58), (k6, C [.int .i64 (wn : Int)] 52), (k9, C [.int .u64 e] 48)]) hh (by repeat (first | exact keeps_nil | apply keeps_cons (by repeat (first | exact find_head | apply find_tail | apply find_skip)) (by first  | rfl) | exact keeps_self | exact keeps_left | apply keeps_app | apply keeps_mv | apply keeps_skip))) ?_)
              clear hl hh a w; intro vc Fc a w hR hl hh
              obtain ⟨rfl, rfl⟩ := hR
              try simp only [List.cons_append, List.nil_append, List.append_assoc, List.append_nil] at hh
              refine wl (wl_val hl rfl trivial (r_move hl rfl) ?_)
              clear hl a; intro a hl
              refine wl (w_call hl hh rfl trivial rfl cal31 rfl (msg_spec 3 0 ((wn % 4 : Nat) : Int) e ⟨by omega, by omega⟩ wn hwn16 o k5 k8 k6 k9) (by repeat (first | exact keeps_nil | apply keeps_cons (by repeat (first | exact find_head | apply find_tail | apply find_skip)) (by first  | rfl) | exact keeps_self | exact keeps_left | apply keeps_app | apply keeps_mv | apply keeps_skip)) (memK (E := [(k5, C (opc o) 32), (k8, C [.int .i64 ((wn % 4 : Nat) : Int)] 58), (k6, C [.int .i64 (wn : Int)] 52), (k9, C [.int .u64 e] 48)]) hh (by repeat (first | exact keeps_nil | apply keeps_cons (by repeat (first | exact find_head | apply find_tail | apply find_skip)) (by first  | rfl) | exact keeps_self | exact keeps_left | apply keeps_app | apply keeps_mv | apply keeps_skip))) ?_)
              clear hl hh a w; intro vc Fc a w hR hl hh
              obtain ⟨rfl, rfl⟩ := hR
              try simp only [List.cons_append, List.nil_append, List.append_assoc, List.append_nil] at hh
              refine wl (wl_val hl rfl trivial (r_build hl rfl zero85 bld85 (by simp only [fillL, setL, List.getElem?_cons_zero, List.getElem?_cons_succ, Value.cells, List.take_zero, List.take_succ_cons, List.take_nil, List.drop_zero, List.drop_succ_cons, List.drop_nil, List.length_cons, List.length_nil, List.cons_append, List.nil_append, List.append_nil, Nat.zero_add, Nat.add_zero, Nat.reduceAdd, Nat.reduceBEq, Nat.reduceEqDiff, Nat.ble, BEq.rfl, Bool.and_true, Bool.and_self, cond_true, beq_self_eq_true]; rfl)) ?_)
              clear hl a; intro a hl
              refine wl (w_alloc hl hh rfl trivial zero85 rfl ?_)
              clear hl hh a w; intro k11 a w hl hh
              refine wl (w_storeA hl hh trivial agg85 rfl rfl (by repeat (first | exact find_head | apply find_tail | apply find_skip)) (by first | rfl | (simp; done) | rfl | exact arrL_length _ _) (by first | (simp; done) | (simp; omega) | (rw [arrL_length]; omega)) (by first | rfl | (simp; done) | rfl | exact arrL_all (fun j => ite_one hR0.one rfl) | exact arrL_all (fun j => ite_one hR1.one rfl) | exact arrL_all (fun j => ite_one hR2.one rfl) | exact arrL_all (fun j => ite_one hR3.one rfl) | exact arrL_all (fun j => ite_one hR4.one rfl)) (by first | exact setL_whole (arrL_length _ _) | (simp only [setL, List.getElem?_cons_zero, List.getElem?_cons_succ, Value.cells, List.take_zero, List.take_succ_cons, List.take_nil, List.drop_zero, List.drop_succ_cons, List.drop_nil, List.length_cons, List.length_nil, List.cons_append, List.nil_append, List.append_nil, Nat.zero_add, Nat.add_zero, Nat.reduceAdd, Nat.reduceBEq, Nat.reduceEqDiff, Nat.ble, BEq.rfl, Bool.and_true, Bool.and_self, cond_true, beq_self_eq_true]; rfl)) ?_)
              clear hh w; intro w hh
              refine w_nil ?_
              have hl2 := hl.add (t := 3) (hl.add (t := 8) (hl.add (t := 11) (hl.add (t := 25) (hl.add (t := 26) (hl.add (t := 27) (hl.nil) rfl) rfl) rfl) rfl) rfl) rfl; clear hl; have hl := hl2; clear hl2
              refine then_normal ?_
              refine c_seq ?_
              refine c_region ?_
              refine wl (wl_val hl rfl trivial (r_makeFunc hl rfl) ?_)
              clear hl a; intro a hl
              refine wl (wl_val hl rfl trivial (r_assign hl rfl) ?_)
              clear hl a; intro a hl
              refine w_nil ?_
              have hl2 := hl.add (t := 3) (hl.add (t := 8) (hl.add (t := 12) (hl.add (t := 25) (hl.add (t := 26) (hl.add (t := 27) (hl.nil) rfl) rfl) rfl) rfl) rfl) rfl; clear hl; have hl := hl2; clear hl2
              refine then_normal ?_
              refine c_seq ?_
              refine c_region ?_
              refine wl (w_load hl hh rfl trivial one24 rfl (by repeat (first | exact find_head | apply find_tail | apply find_skip)) (by first | exact hcell | rfl | rfl) ?_)
              clear hl a; intro a hl
              refine wl (w_load hl hh rfl trivial one58 rfl (by repeat (first | exact find_head | apply find_tail | apply find_skip)) (by first | exact hcell | rfl | rfl) ?_)
              clear hl a; intro a hl
              refine wl (w_call hl hh rfl trivial rfl cal22 rfl (shard_spec hS2 bg (40 * ((z.i + 1 : Nat) : Int)) (400 * ((z.i + 1 : Nat) : Int) + 4) ⟨by omega, by omega⟩ hG4 (wn % 4) (by omega)) (by repeat (first | exact keeps_nil | apply keeps_cons (by repeat (first | exact find_head | apply find_tail | apply find_skip)) (by first  | rfl) | exact keeps_self | exact keeps_left | apply keeps_app | apply keeps_mv | apply keeps_skip)) (memK (E := sysL bg M2) hh (by repeat (first | exact keeps_nil | apply keeps_cons (by repeat (first | exact find_head | apply find_tail | apply find_skip)) (by first  | rfl) | exact keeps_self | exact keeps_left | apply keeps_app | apply keeps_mv | apply keeps_skip))) ?_)
              clear hl hh a w; intro vc Fc a w hR hl hh
              obtain ⟨ve0, rfl, hR0⟩ := hR
              try simp only [List.cons_append, List.nil_append, List.append_assoc, List.append_nil] at hh
              generalize Fc = Ee0 at hh hR0
              refine wl (wl_val hl rfl trivial (r_move hl rfl) ?_)
              clear hl a; intro a hl
              refine wl (w_buildSlice hl hh rfl trivial app86 zero3 rfl rfl rfl rfl rfl (by simp only [fillL, arrPl, List.range_succ, List.range_zero, List.map_cons, List.map_nil, List.map_append, List.nil_append, List.replicate_succ, List.replicate_zero, List.flatten_cons, List.flatten_nil, Nat.zero_mul, Nat.mul_one, Nat.one_mul, Nat.reduceMul, setL, List.getElem?_cons_zero, List.getElem?_cons_succ, Value.cells, List.take_zero, List.take_succ_cons, List.take_nil, List.drop_zero, List.drop_succ_cons, List.drop_nil, List.length_cons, List.length_nil, List.cons_append, List.nil_append, List.append_nil, Nat.zero_add, Nat.add_zero, Nat.reduceAdd, Nat.reduceBEq, Nat.reduceEqDiff, Nat.ble, BEq.rfl, Bool.and_true, Bool.and_self, cond_true, beq_self_eq_true]; rfl) ?_)
              clear hl hh a w; intro k77 a w hl hh
              refine wl (w_call hl hh rfl trivial rfl cal32 rfl (play_spec hS2 bg tT tf (40 * ((z.i + 1 : Nat) : Int)) (400 * ((z.i + 1 : Nat) : Int) + 4) ⟨by omega, by omega⟩ (by omega) (by omega) hG4 (wn % 4) (by omega) (ms7 (o.b % 4) wn e s) (us7 wn e s) (ms7_us hwn16 her (by omega) hsz hsb) rfl [0, 1] (by decide) (by decide) 2 k77 k3 k11 k8) (by repeat (first | exact keeps_nil | apply keeps_cons (by repeat (first | exact find_head | apply find_tail | apply find_skip)) (by first  | rfl) | exact keeps_self | exact keeps_left | apply keeps_app | apply keeps_mv | apply keeps_skip)) ⟨⟨memK (E := sysL bg M2) hh (by repeat (first | exact keeps_nil | apply keeps_cons (by repeat (first | exact find_head | apply find_tail | apply find_skip)) (by first  | rfl) | exact keeps_self | exact keeps_left | apply keeps_app | apply keeps_mv | apply keeps_skip)), (pt_law (Fn := []) hh hpre.2 (by repeat (first | exact keeps_nil | apply keeps_cons (by repeat (first | exact find_head | apply find_tail | apply find_skip)) (by first  | rfl) | exact keeps_self | exact keeps_left | apply keeps_app | apply keeps_mv | apply keeps_skip))).1⟩, (mem1 (memK (E := [(k3, C [.pointer (some ⟨bg, 0, none⟩)] 24)]) hh (by repeat (first | exact keeps_nil | apply keeps_cons (by repeat (first | exact find_head | apply find_tail | apply find_skip)) (by first  | rfl) | exact keeps_self | exact keeps_left | apply keeps_app | apply keeps_mv | apply keeps_skip)))), (mem1 (memK (E := [(k11, C (fl rmc (ms7 (o.b % 4) wn e s) ++ []) 85)]) hh (by repeat (first | exact keeps_nil | apply keeps_cons (by repeat (first | exact find_head | apply find_tail | apply find_skip)) (by first  | rfl) | exact keeps_self | exact keeps_left | apply keeps_app | apply keeps_mv | apply keeps_skip)))), (mem1 (memK (E := [(k8, C [.int .i64 ((wn % 4 : Nat) : Int)] 58)]) hh (by repeat (first | exact keeps_nil | apply keeps_cons (by repeat (first | exact find_head | apply find_tail | apply find_skip)) (by first  | rfl) | exact keeps_self | exact keeps_left | apply keeps_app | apply keeps_mv | apply keeps_skip)))), (mem1 (memK (E := [(k77, C (fl ivc [0, 1] ++ []) 3)]) hh (by repeat (first | exact keeps_nil | apply keeps_cons (by repeat (first | exact find_head | apply find_tail | apply find_skip)) (by first  | rfl) | exact keeps_self | exact keeps_left | apply keeps_app | apply keeps_mv | apply keeps_skip))))⟩ ?_)
              clear hl hh a w; intro vc Fc a w hR hl hh
              obtain ⟨ve1, rfl, hR1⟩ := hR
              try simp only [List.cons_append, List.nil_append, List.append_assoc, List.append_nil] at hh
              rw [pl01 hok7] at hl hR1
              generalize Fc = Ee1 at hh hR1
              refine wl (wl_val hl rfl trivial (r_move hl rfl) ?_)
              clear hl a; intro a hl
              refine wl (w_buildSlice hl hh rfl trivial app86 zero3 rfl rfl rfl rfl rfl (by simp only [fillL, arrPl, List.range_succ, List.range_zero, List.map_cons, List.map_nil, List.map_append, List.nil_append, List.replicate_succ, List.replicate_zero, List.flatten_cons, List.flatten_nil, Nat.zero_mul, Nat.mul_one, Nat.one_mul, Nat.reduceMul, setL, List.getElem?_cons_zero, List.getElem?_cons_succ, Value.cells, List.take_zero, List.take_succ_cons, List.take_nil, List.drop_zero, List.drop_succ_cons, List.drop_nil, List.length_cons, List.length_nil, List.cons_append, List.nil_append, List.append_nil, Nat.zero_add, Nat.add_zero, Nat.reduceAdd, Nat.reduceBEq, Nat.reduceEqDiff, Nat.ble, BEq.rfl, Bool.and_true, Bool.and_self, cond_true, beq_self_eq_true]; rfl) ?_)
              clear hl hh a w; intro k80 a w hl hh
              refine wl (w_call hl hh rfl trivial rfl cal32 rfl (play_spec hS2 bg tT tf (40 * ((z.i + 1 : Nat) : Int)) (400 * ((z.i + 1 : Nat) : Int) + 4) ⟨by omega, by omega⟩ (by omega) (by omega) hG4 (wn % 4) (by omega) (ms7 (o.b % 4) wn e s) (us7 wn e s) (ms7_us hwn16 her (by omega) hsz hsb) rfl [1, 0] (by decide) (by decide) 2 k80 k3 k11 k8) (by repeat (first | exact keeps_nil | apply keeps_cons (by repeat (first | exact find_head | apply find_tail | apply find_skip)) (by first  | rfl) | exact keeps_self | exact keeps_left | apply keeps_app | apply keeps_mv | apply keeps_skip)) ⟨⟨memK (E := sysL bg M2) hh (by repeat (first | exact keeps_nil | apply keeps_cons (by repeat (first | exact find_head | apply find_tail | apply find_skip)) (by first  | rfl) | exact keeps_self | exact keeps_left | apply keeps_app | apply keeps_mv | apply keeps_skip)), (pt_law (Fn := []) hh hpre.2 (by repeat (first | exact keeps_nil | apply keeps_cons (by repeat (first | exact find_head | apply find_tail | apply find_skip)) (by first  | rfl) | exact keeps_self | exact keeps_left | apply keeps_app | apply keeps_mv | apply keeps_skip))).1⟩, (mem1 (memK (E := [(k3, C [.pointer (some ⟨bg, 0, none⟩)] 24)]) hh (by repeat (first | exact keeps_nil | apply keeps_cons (by repeat (first | exact find_head | apply find_tail | apply find_skip)) (by first  | rfl) | exact keeps_self | exact keeps_left | apply keeps_app | apply keeps_mv | apply keeps_skip)))), (mem1 (memK (E := [(k11, C (fl rmc (ms7 (o.b % 4) wn e s) ++ []) 85)]) hh (by repeat (first | exact keeps_nil | apply keeps_cons (by repeat (first | exact find_head | apply find_tail | apply find_skip)) (by first  | rfl) | exact keeps_self | exact keeps_left | apply keeps_app | apply keeps_mv | apply keeps_skip)))), (mem1 (memK (E := [(k8, C [.int .i64 ((wn % 4 : Nat) : Int)] 58)]) hh (by repeat (first | exact keeps_nil | apply keeps_cons (by repeat (first | exact find_head | apply find_tail | apply find_skip)) (by first  | rfl) | exact keeps_self | exact keeps_left | apply keeps_app | apply keeps_mv | apply keeps_skip)))), (mem1 (memK (E := [(k80, C (fl ivc [1, 0] ++ []) 3)]) hh (by repeat (first | exact keeps_nil | apply keeps_cons (by repeat (first | exact find_head | apply find_tail | apply find_skip)) (by first  | rfl) | exact keeps_self | exact keeps_left | apply keeps_app | apply keeps_mv | apply keeps_skip))))⟩ ?_)
              clear hl hh a w; intro vc Fc a w hR hl hh
              obtain ⟨ve2, rfl, hR2⟩ := hR
              try simp only [List.cons_append, List.nil_append, List.append_assoc, List.append_nil] at hh
              rw [pl10 hok7] at hl hR2
              generalize Fc = Ee2 at hh hR2
              refine wl (w_alloc hl hh rfl trivial zero61 rfl ?_)
              clear hl hh a w; intro k13 a w hl hh
              refine wl (w_alloc hl hh rfl trivial zero61 rfl ?_)
              clear hl hh a w; intro k14 a w hl hh
              refine wl (w_alloc hl hh rfl trivial zero61 rfl ?_)
              clear hl hh a w; intro k15 a w hl hh
              refine wl (w_storeA hl hh trivial agg61 rfl rfl (by repeat (first | exact find_head | apply find_tail | apply find_skip)) (by first | rfl | (simp; done) | rfl | exact arrL_length _ _) (by first | (simp; done) | (simp; omega) | (rw [arrL_length]; omega)) (by first | rfl | (simp; done) | rfl | exact arrL_all (fun j => ite_one hR0.one rfl) | exact arrL_all (fun j => ite_one hR1.one rfl) | exact arrL_all (fun j => ite_one hR2.one rfl) | exact arrL_all (fun j => ite_one hR3.one rfl) | exact arrL_all (fun j => ite_one hR4.one rfl)) (by first | exact setL_whole (arrL_length _ _) | (simp only [setL, List.getElem?_cons_zero, List.getElem?_cons_succ, Value.cells, List.take_zero, List.take_succ_cons, List.take_nil, List.drop_zero, List.drop_succ_cons, List.drop_nil, List.length_cons, List.length_nil, List.cons_append, List.nil_append, List.append_nil, Nat.zero_add, Nat.add_zero, Nat.reduceAdd, Nat.reduceBEq, Nat.reduceEqDiff, Nat.ble, BEq.rfl, Bool.and_true, Bool.and_self, cond_true, beq_self_eq_true]; rfl)) ?_)
              clear hh w; intro w hh
              refine wl (w_storeA hl hh trivial agg61 rfl rfl (by repeat (first | exact find_head | apply find_tail | apply find_skip)) (by first | rfl | (simp; done) | rfl | exact arrL_length _ _) (by first | (simp; done) | (simp; omega) | (rw [arrL_length]; omega)) (by first | rfl | (simp; done) | rfl | exact arrL_all (fun j => ite_one hR0.one rfl) | exact arrL_all (fun j => ite_one hR1.one rfl) | exact arrL_all (fun j => ite_one hR2.one rfl) | exact arrL_all (fun j => ite_one hR3.one rfl) | exact arrL_all (fun j => ite_one hR4.one rfl)) (by first | exact setL_whole (arrL_length _ _) | (simp only [setL, List.getElem?_cons_zero, List.getElem?_cons_succ, Value.cells, List.take_zero, List.take_succ_cons, List.take_nil, List.drop_zero, List.drop_succ_cons, List.drop_nil, List.length_cons, List.length_nil, List.cons_append, List.nil_append, List.append_nil, Nat.zero_add, Nat.add_zero, Nat.reduceAdd, Nat.reduceBEq, Nat.reduceEqDiff, Nat.ble, BEq.rfl, Bool.and_true, Bool.and_self, cond_true, beq_self_eq_true]; rfl)) ?_)
              clear hh w; intro w hh
              refine wl (w_storeA hl hh trivial agg61 rfl rfl (by repeat (first | exact find_head | apply find_tail | apply find_skip)) (by first | rfl | (simp; done) | rfl | exact arrL_length _ _) (by first | (simp; done) | (simp; omega) | (rw [arrL_length]; omega)) (by first | rfl | (simp; done) | rfl | exact arrL_all (fun j => ite_one hR0.one rfl) | exact arrL_all (fun j => ite_one hR1.one rfl) | exact arrL_all (fun j => ite_one hR2.one rfl) | exact arrL_all (fun j => ite_one hR3.one rfl) | exact arrL_all (fun j => ite_one hR4.one rfl)) (by first | exact setL_whole (arrL_length _ _) | (simp only [setL, List.getElem?_cons_zero, List.getElem?_cons_succ, Value.cells, List.take_zero, List.take_succ_cons, List.take_nil, List.drop_zero, List.drop_succ_cons, List.drop_nil, List.length_cons, List.length_nil, List.cons_append, List.nil_append, List.append_nil, Nat.zero_add, Nat.add_zero, Nat.reduceAdd, Nat.reduceBEq, Nat.reduceEqDiff, Nat.ble, BEq.rfl, Bool.and_true, Bool.and_self, cond_true, beq_self_eq_true]; rfl)) ?_)
              clear hh w; intro w hh
              refine w_nil ?_
              have hl2 := hl.add (t := 3) (hl.add (t := 12) (hl.add (t := 13) (hl.add (t := 14) (hl.add (t := 15) (hl.add (t := 25) (hl.add (t := 26) (hl.add (t := 27) (hl.nil) rfl) rfl) rfl) rfl) rfl) rfl) rfl) rfl; clear hl; have hl := hl2; clear hl2
              refine then_normal ?_
              refine c_seq ?_
              refine c_seq ?_
              refine c_region ?_
              refine wl (w_call hl hh rfl trivial rfl cal34 rfl (eqS2_spec (flK g2.flr (wn % 4)) (flK_rng (B := 40 * ((z.i + 1 : Nat) : Int)) (Q := 400 * ((z.i + 1 : Nat) : Int) + 4) hG4 ⟨by omega, by omega⟩ (wn % 4)) (edN (wsK g2.ws (wn % 4)) 16) (edK_len (B := 40 * ((z.i + 1 : Nat) : Int)) (Q := 400 * ((z.i + 1 : Nat) : Int) + 4) hG4 ⟨by omega, by omega⟩ (wn % 4)) (eg_ok (B := 40 * ((z.i + 1 : Nat) : Int)) (Q := 400 * ((z.i + 1 : Nat) : Int) + 4) hG4 ⟨by omega, by omega⟩) k14 k13 ve1 ve0 Ee1 Ee0 hR1 hR0) (by repeat (first | exact keeps_nil | apply keeps_cons (by repeat (first | exact find_head | apply find_tail | apply find_skip)) (by first  | rfl) | exact keeps_self | exact keeps_left | apply keeps_app | apply keeps_mv | apply keeps_skip)) ⟨memK (E := (k14, C (arrL 17 (shV (flK g2.flr (wn % 4)) ve1)) 61) :: Ee1) hh (by repeat (first | exact keeps_nil | apply keeps_cons (by repeat (first | exact find_head | apply find_tail | apply find_skip)) (by first  | rfl) | exact keeps_self | exact keeps_left | apply keeps_app | apply keeps_mv | apply keeps_skip)), memK (E := (k13, C (arrL 17 (shV (flK g2.flr (wn % 4)) ve0)) 61) :: Ee0) hh (by repeat (first | exact keeps_nil | apply keeps_cons (by repeat (first | exact find_head | apply find_tail | apply find_skip)) (by first  | rfl) | exact keeps_self | exact keeps_left | apply keeps_app | apply keeps_mv | apply keeps_skip))⟩ ?_)
              clear hl hh a w; intro vc Fc a w hR hl hh
              obtain ⟨rfl, rfl⟩ := hR
              try simp only [List.cons_append, List.nil_append, List.append_assoc, List.append_nil] at hh
              refine wl (wl_val hl rfl trivial (r_not hl rfl) ?_)
              clear hl a; intro a hl
              refine wl (wl_val hl rfl trivial (r_move hl rfl) ?_)
              clear hl a; intro a hl
              refine wl (w_call hl hh rfl ⟨_, _, rfl, rfl, rfl⟩ rfl cal34 rfl (eqS2_spec (flK g2.flr (wn % 4)) (flK_rng (B := 40 * ((z.i + 1 : Nat) : Int)) (Q := 400 * ((z.i + 1 : Nat) : Int) + 4) hG4 ⟨by omega, by omega⟩ (wn % 4)) (edN (wsK g2.ws (wn % 4)) 16) (edK_len (B := 40 * ((z.i + 1 : Nat) : Int)) (Q := 400 * ((z.i + 1 : Nat) : Int) + 4) hG4 ⟨by omega, by omega⟩ (wn % 4)) (eg_ok (B := 40 * ((z.i + 1 : Nat) : Int)) (Q := 400 * ((z.i + 1 : Nat) : Int) + 4) hG4 ⟨by omega, by omega⟩) k15 k13 ve2 ve0 Ee2 Ee0 hR2 hR0) (by repeat (first | exact keeps_nil | apply keeps_cons (by repeat (first | exact find_head | apply find_tail | apply find_skip)) (by first  | rfl) | exact keeps_self | exact keeps_left | apply keeps_app | apply keeps_mv | apply keeps_skip)) ⟨memK (E := (k15, C (arrL 17 (shV (flK g2.flr (wn % 4)) ve2)) 61) :: Ee2) hh (by repeat (first | exact keeps_nil | apply keeps_cons (by repeat (first | exact find_head | apply find_tail | apply find_skip)) (by first  | rfl) | exact keeps_self | exact keeps_left | apply keeps_app | apply keeps_mv | apply keeps_skip)), memK (E := (k13, C (arrL 17 (shV (flK g2.flr (wn % 4)) ve0)) 61) :: Ee0) hh (by repeat (first | exact keeps_nil | apply keeps_cons (by repeat (first | exact find_head | apply find_tail | apply find_skip)) (by first  | rfl) | exact keeps_self | exact keeps_left | apply keeps_app | apply keeps_mv | apply keeps_skip))⟩ ?_)
              clear hl hh a w; intro vc Fc a w hR hl hh
              obtain ⟨rfl, rfl⟩ := hR
              try simp only [List.cons_append, List.nil_append, List.append_assoc, List.append_nil] at hh
              refine wl (wl_val hl rfl ⟨_, _, rfl, rfl, rfl⟩ (r_not hl rfl) ?_)
              clear hl a; intro a hl
              refine wl (wl_val hl rfl trivial (r_pickF hl rfl rfl) ?_)
              clear hl a; intro a hl
              refine w_nil ?_
              have hl2 := hl.add (t := 3) (hl.add (t := 12) (hl.add (t := 25) (hl.add (t := 26) (hl.add (t := 27) (hl.add (t := 87) (hl.nil) rfl) rfl) rfl) rfl) rfl) rfl; clear hl; have hl := hl2; clear hl2
              refine then_normal ?_
              refine c_condF hl rfl ?_
              refine wp_skip ?_
              refine then_normal ?_
              refine c_seq ?_
              refine c_region ?_
              refine wl (wl_val hl rfl trivial (r_move hl rfl) ?_)
              clear hl a; intro a hl
              refine wl (w_buildSlice hl hh rfl trivial app86 zero3 rfl rfl rfl rfl rfl (by simp only [fillL, arrPl, List.range_succ, List.range_zero, List.map_cons, List.map_nil, List.map_append, List.nil_append, List.replicate_succ, List.replicate_zero, List.flatten_cons, List.flatten_nil, Nat.zero_mul, Nat.mul_one, Nat.one_mul, Nat.reduceMul, setL, List.getElem?_cons_zero, List.getElem?_cons_succ, Value.cells, List.take_zero, List.take_succ_cons, List.take_nil, List.drop_zero, List.drop_succ_cons, List.drop_nil, List.length_cons, List.length_nil, List.cons_append, List.nil_append, List.append_nil, Nat.zero_add, Nat.add_zero, Nat.reduceAdd, Nat.reduceBEq, Nat.reduceEqDiff, Nat.ble, BEq.rfl, Bool.and_true, Bool.and_self, cond_true, beq_self_eq_true]; rfl) ?_)
              clear hl hh a w; intro k89 a w hl hh
              refine wl (w_call hl hh rfl trivial rfl cal32 rfl (play_spec hS2 bg tT tf (40 * ((z.i + 1 : Nat) : Int)) (400 * ((z.i + 1 : Nat) : Int) + 4) ⟨by omega, by omega⟩ (by omega) (by omega) hG4 (wn % 4) (by omega) (ms7 (o.b % 4) wn e s) (us7 wn e s) (ms7_us hwn16 her (by omega) hsz hsb) rfl [0, 1, 2] (by decide) (by decide) 3 k89 k3 k11 k8) (by repeat (first | exact keeps_nil | apply keeps_cons (by repeat (first | exact find_head | apply find_tail | apply find_skip)) (by first  | rfl) | exact keeps_self | exact keeps_left | apply keeps_app | apply keeps_mv | apply keeps_skip)) ⟨⟨memK (E := sysL bg M2) hh (by repeat (first | exact keeps_nil | apply keeps_cons (by repeat (first | exact find_head | apply find_tail | apply find_skip)) (by first  | rfl) | exact keeps_self | exact keeps_left | apply keeps_app | apply keeps_mv | apply keeps_skip)), (pt_law (Fn := []) hh hpre.2 (by repeat (first | exact keeps_nil | apply keeps_cons (by repeat (first | exact find_head | apply find_tail | apply find_skip)) (by first  | rfl) | exact keeps_self | exact keeps_left | apply keeps_app | apply keeps_mv | apply keeps_skip))).1⟩, (mem1 (memK (E := [(k3, C [.pointer (some ⟨bg, 0, none⟩)] 24)]) hh (by repeat (first | exact keeps_nil | apply keeps_cons (by repeat (first | exact find_head | apply find_tail | apply find_skip)) (by first  | rfl) | exact keeps_self | exact keeps_left | apply keeps_app | apply keeps_mv | apply keeps_skip)))), (mem1 (memK (E := [(k11, C (fl rmc (ms7 (o.b % 4) wn e s) ++ []) 85)]) hh (by repeat (first | exact keeps_nil | apply keeps_cons (by repeat (first | exact find_head | apply find_tail | apply find_skip)) (by first  | rfl) | exact keeps_self | exact keeps_left | apply keeps_app | apply keeps_mv | apply keeps_skip)))), (mem1 (memK (E := [(k8, C [.int .i64 ((wn % 4 : Nat) : Int)] 58)]) hh (by repeat (first | exact keeps_nil | apply keeps_cons (by repeat (first | exact find_head | apply find_tail | apply find_skip)) (by first  | rfl) | exact keeps_self | exact keeps_left | apply keeps_app | apply keeps_mv | apply keeps_skip)))), (mem1 (memK (E := [(k89, C (fl ivc [0, 1, 2] ++ []) 3)]) hh (by repeat (first | exact keeps_nil | apply keeps_cons (by repeat (first | exact find_head | apply find_tail | apply find_skip)) (by first  | rfl) | exact keeps_self | exact keeps_left | apply keeps_app | apply keeps_mv | apply keeps_skip))))⟩ ?_)
              clear hl hh a w; intro vc Fc a w hR hl hh
              obtain ⟨ve3, rfl, hR3⟩ := hR
              try simp only [List.cons_append, List.nil_append, List.append_assoc, List.append_nil] at hh
              rw [pl3 hok7 [0, 1, 2] (.inl rfl)] at hl hR3
              generalize Fc = Ee3 at hh hR3
              refine wl (w_alloc hl hh rfl trivial zero61 rfl ?_)
              clear hl hh a w; intro k16 a w hl hh
              refine wl (w_storeA hl hh trivial agg61 rfl rfl (by repeat (first | exact find_head | apply find_tail | apply find_skip)) (by first | rfl | (simp; done) | rfl | exact arrL_length _ _) (by first | (simp; done) | (simp; omega) | (rw [arrL_length]; omega)) (by first | rfl | (simp; done) | rfl | exact arrL_all (fun j => ite_one hR0.one rfl) | exact arrL_all (fun j => ite_one hR1.one rfl) | exact arrL_all (fun j => ite_one hR2.one rfl) | exact arrL_all (fun j => ite_one hR3.one rfl) | exact arrL_all (fun j => ite_one hR4.one rfl)) (by first | exact setL_whole (arrL_length _ _) | (simp only [setL, List.getElem?_cons_zero, List.getElem?_cons_succ, Value.cells, List.take_zero, List.take_succ_cons, List.take_nil, List.drop_zero, List.drop_succ_cons, List.drop_nil, List.length_cons, List.length_nil, List.cons_append, List.nil_append, List.append_nil, Nat.zero_add, Nat.add_zero, Nat.reduceAdd, Nat.reduceBEq, Nat.reduceEqDiff, Nat.ble, BEq.rfl, Bool.and_true, Bool.and_self, cond_true, beq_self_eq_true]; rfl)) ?_)
              clear hh w; intro w hh
              refine w_nil ?_
              have hl2 := hl.add (t := 3) (hl.add (t := 12) (hl.add (t := 16) (hl.add (t := 25) (hl.add (t := 26) (hl.add (t := 27) (hl.nil) rfl) rfl) rfl) rfl) rfl) rfl; clear hl; have hl := hl2; clear hl2
              refine then_normal ?_
              refine c_seq ?_
              refine c_region ?_
              refine wl (w_buildSlice hl hh rfl trivial app86 zero3 rfl rfl rfl rfl rfl (by simp only [fillL, arrPl, List.range_succ, List.range_zero, List.map_cons, List.map_nil, List.map_append, List.nil_append, List.replicate_succ, List.replicate_zero, List.flatten_cons, List.flatten_nil, Nat.zero_mul, Nat.mul_one, Nat.one_mul, Nat.reduceMul, setL, List.getElem?_cons_zero, List.getElem?_cons_succ, Value.cells, List.take_zero, List.take_succ_cons, List.take_nil, List.drop_zero, List.drop_succ_cons, List.drop_nil, List.length_cons, List.length_nil, List.cons_append, List.nil_append, List.append_nil, Nat.zero_add, Nat.add_zero, Nat.reduceAdd, Nat.reduceBEq, Nat.reduceEqDiff, Nat.ble, BEq.rfl, Bool.and_true, Bool.and_self, cond_true, beq_self_eq_true]; rfl) ?_)
              clear hl hh a w; intro k91 a w hl hh
              refine wl (w_buildSlice hl hh rfl trivial app86 zero3 rfl rfl rfl rfl rfl (by simp only [fillL, arrPl, List.range_succ, List.range_zero, List.map_cons, List.map_nil, List.map_append, List.nil_append, List.replicate_succ, List.replicate_zero, List.flatten_cons, List.flatten_nil, Nat.zero_mul, Nat.mul_one, Nat.one_mul, Nat.reduceMul, setL, List.getElem?_cons_zero, List.getElem?_cons_succ, Value.cells, List.take_zero, List.take_succ_cons, List.take_nil, List.drop_zero, List.drop_succ_cons, List.drop_nil, List.length_cons, List.length_nil, List.cons_append, List.nil_append, List.append_nil, Nat.zero_add, Nat.add_zero, Nat.reduceAdd, Nat.reduceBEq, Nat.reduceEqDiff, Nat.ble, BEq.rfl, Bool.and_true, Bool.and_self, cond_true, beq_self_eq_true]; rfl) ?_)
              clear hl hh a w; intro k92 a w hl hh
              refine wl (w_buildSlice hl hh rfl trivial app86 zero3 rfl rfl rfl rfl rfl (by simp only [fillL, arrPl, List.range_succ, List.range_zero, List.map_cons, List.map_nil, List.map_append, List.nil_append, List.replicate_succ, List.replicate_zero, List.flatten_cons, List.flatten_nil, Nat.zero_mul, Nat.mul_one, Nat.one_mul, Nat.reduceMul, setL, List.getElem?_cons_zero, List.getElem?_cons_succ, Value.cells, List.take_zero, List.take_succ_cons, List.take_nil, List.drop_zero, List.drop_succ_cons, List.drop_nil, List.length_cons, List.length_nil, List.cons_append, List.nil_append, List.append_nil, Nat.zero_add, Nat.add_zero, Nat.reduceAdd, Nat.reduceBEq, Nat.reduceEqDiff, Nat.ble, BEq.rfl, Bool.and_true, Bool.and_self, cond_true, beq_self_eq_true]; rfl) ?_)
              clear hl hh a w; intro k93 a w hl hh
              refine wl (w_buildSlice hl hh rfl trivial app86 zero3 rfl rfl rfl rfl rfl (by simp only [fillL, arrPl, List.range_succ, List.range_zero, List.map_cons, List.map_nil, List.map_append, List.nil_append, List.replicate_succ, List.replicate_zero, List.flatten_cons, List.flatten_nil, Nat.zero_mul, Nat.mul_one, Nat.one_mul, Nat.reduceMul, setL, List.getElem?_cons_zero, List.getElem?_cons_succ, Value.cells, List.take_zero, List.take_succ_cons, List.take_nil, List.drop_zero, List.drop_succ_cons, List.drop_nil, List.length_cons, List.length_nil, List.cons_append, List.nil_append, List.append_nil, Nat.zero_add, Nat.add_zero, Nat.reduceAdd, Nat.reduceBEq, Nat.reduceEqDiff, Nat.ble, BEq.rfl, Bool.and_true, Bool.and_self, cond_true, beq_self_eq_true]; rfl) ?_)
              clear hl hh a w; intro k94 a w hl hh
              refine wl (w_buildSlice hl hh rfl trivial app86 zero3 rfl rfl rfl rfl rfl (by simp only [fillL, arrPl, List.range_succ, List.range_zero, List.map_cons, List.map_nil, List.map_append, List.nil_append, List.replicate_succ, List.replicate_zero, List.flatten_cons, List.flatten_nil, Nat.zero_mul, Nat.mul_one, Nat.one_mul, Nat.reduceMul, setL, List.getElem?_cons_zero, List.getElem?_cons_succ, Value.cells, List.take_zero, List.take_succ_cons, List.take_nil, List.drop_zero, List.drop_succ_cons, List.drop_nil, List.length_cons, List.length_nil, List.cons_append, List.nil_append, List.append_nil, Nat.zero_add, Nat.add_zero, Nat.reduceAdd, Nat.reduceBEq, Nat.reduceEqDiff, Nat.ble, BEq.rfl, Bool.and_true, Bool.and_self, cond_true, beq_self_eq_true]; rfl) ?_)
              clear hl hh a w; intro k95 a w hl hh
              refine wl (w_buildSlice hl hh rfl trivial app91 zero86 rfl rfl rfl rfl rfl (by simp only [fillL, arrPl, List.range_succ, List.range_zero, List.map_cons, List.map_nil, List.map_append, List.nil_append, List.replicate_succ, List.replicate_zero, List.flatten_cons, List.flatten_nil, Nat.zero_mul, Nat.mul_one, Nat.one_mul, Nat.reduceMul, setL, List.getElem?_cons_zero, List.getElem?_cons_succ, Value.cells, List.take_zero, List.take_succ_cons, List.take_nil, List.drop_zero, List.drop_succ_cons, List.drop_nil, List.length_cons, List.length_nil, List.cons_append, List.nil_append, List.append_nil, Nat.zero_add, Nat.add_zero, Nat.reduceAdd, Nat.reduceBEq, Nat.reduceEqDiff, Nat.ble, BEq.rfl, Bool.and_true, Bool.and_self, cond_true, beq_self_eq_true]; rfl) ?_)
              clear hl hh a w; intro k96 a w hl hh
              refine wl (wl_val hl rfl trivial (r_lenS hl rfl slc91) ?_)
              clear hl a; intro a hl
              refine wl (wl_val hl rfl trivial (r_move hl rfl) ?_)
              clear hl a; intro a hl
              refine w_nil ?_
              have hl2 := hl.add (t := 3) (hl.add (t := 12) (hl.add (t := 16) (hl.add (t := 25) (hl.add (t := 26) (hl.add (t := 27) (hl.add (t := 96) (hl.add (t := 97) (hl.add (t := 98) (hl.nil) rfl) rfl) rfl) rfl) rfl) rfl) rfl) rfl) rfl; clear hl; have hl := hl2; clear hl2
              refine then_normal ?_
              refine wp_block ?_
              obtain ⟨KS1, hKS1, hk⟩ := (hl.add (t := 3) (hl.add (t := 12) (hl.add (t := 16) (hl.add (t := 25) (hl.add (t := 26) (hl.add (t := 27) (hl.add (t := 96) (hl.add (t := 97) (hl.nil) rfl) rfl) rfl) rfl) rfl) rfl) rfl) rfl).name
              obtain ⟨HS1, hHS1, hh2⟩ := hh.name (keeps_nil)
              refine c_loop (α := Nat) (fun y => 5 - y) (fun y a w => (y ≤ 5) ∧ Sl 109 ([(98, .int .i64 (y : Int))] ++ KS1) a ∧ Has _ w0 ([] ++ HS1) w) 0 ⟨(by omega), hl.addE (t := 98) (hk) rfl (by first | rfl), hh2⟩ ?_
              clear hk hh2 hl hh a w
              intro y a w hI
              obtain ⟨hy5, hl, hh⟩ := hI
              subst hKS1; subst hHS1
              simp only [List.cons_append, List.nil_append, List.append_nil, List.append_assoc] at hl hh
              refine c_seq ?_
              refine c_region ?_
              refine wl (wl_val hl rfl trivial (r_lss hl rfl rfl) ?_)
              clear hl a; intro a hl
              refine w_nil ?_
              have hl2 := hl.add (t := 3) (hl.add (t := 12) (hl.add (t := 16) (hl.add (t := 25) (hl.add (t := 26) (hl.add (t := 27) (hl.add (t := 96) (hl.add (t := 97) (hl.add (t := 98) (hl.add (t := 99) (hl.nil) rfl) rfl) rfl) rfl) rfl) rfl) rfl) rfl) rfl) rfl; clear hl; have hl := hl2; clear hl2
              refine then_normal ?_
              refine c_seq ?_
              refine c_cond hl rfl ?_ ?_
              · intro hc5
                try simp only [decide_eq_true_eq, decide_eq_false_iff_not, Bool.not_eq_true', Bool.not_eq_false', Bool.not_eq_true, Bool.not_eq_false, Bool.and_eq_true, Bool.or_eq_true, Bool.and_eq_false_iff, Bool.or_eq_false_iff, Bool.not_not, ne_eq, Int.not_lt, Int.not_le, Decidable.not_not, beq_iff_eq, bne_iff_ne] at hc5
                obtain ⟨ko, od, hcell, hmo, hol, hod⟩ : ∃ ko od, ([.slice (some ⟨k91, 0, none⟩) 3 3, .slice (some ⟨k92, 0, none⟩) 3 3, .slice (some ⟨k93, 0, none⟩) 3 3, .slice (some ⟨k94, 0, none⟩) 3 3, .slice (some ⟨k95, 0, none⟩) 3 3] : List Value)[0 + y * 1]? = some (.slice (some ⟨ko, 0, none⟩) od.length 3) ∧ (∀ w9, Mem [(k91, C (fl ivc [0, 2, 1] ++ []) 3), (k92, C (fl ivc [1, 0, 2] ++ []) 3), (k93, C (fl ivc [1, 2, 0] ++ []) 3), (k94, C (fl ivc [2, 0, 1] ++ []) 3), (k95, C (fl ivc [2, 1, 0] ++ []) 3)] w9 → w9.heap[ko]? = some (C (fl ivc od ++ []) 3)) ∧ od.length = 3 ∧ (od = [0, 1, 2] ∨ od = [0, 2, 1] ∨ od = [1, 0, 2] ∨ od = [1, 2, 0] ∨ od = [2, 0, 1] ∨ od = [2, 1, 0]) := by
                  have hy9 : y = 0 ∨ y = 1 ∨ y = 2 ∨ y = 3 ∨ y = 4 := by omega
                  rcases hy9 with rfl | rfl | rfl | rfl | rfl
                  · exact ⟨k91, [0, 2, 1], rfl, fun w9 h9 => h9 _ _ (.head _), rfl, .inr (.inl rfl)⟩
                  · exact ⟨k92, [1, 0, 2], rfl, fun w9 h9 => h9 _ _ (.tail _ (.head _)), rfl, .inr (.inr (.inl rfl))⟩
                  · exact ⟨k93, [1, 2, 0], rfl, fun w9 h9 => h9 _ _ (.tail _ (.tail _ (.head _))), rfl, .inr (.inr (.inr (.inl rfl)))⟩
                  · exact ⟨k94, [2, 0, 1], rfl, fun w9 h9 => h9 _ _ (.tail _ (.tail _ (.tail _ (.head _)))), rfl, .inr (.inr (.inr (.inr (.inl rfl))))⟩
                  · exact ⟨k95, [2, 1, 0], rfl, fun w9 h9 => h9 _ _ (.tail _ (.tail _ (.tail _ (.tail _ (.head _))))), rfl, .inr (.inr (.inr (.inr (.inr (rfl)))))⟩
                have hod3 : ∀ j, j ∈ od → j < 3 := by rcases hod with rfl | rfl | rfl | rfl | rfl | rfl <;> decide
                refine wp_skip ?_
                refine then_normal ?_
                refine c_seq ?_
                refine wp_block ?_
                refine c_seq ?_
                refine c_region ?_
                refine wl (wl_val hl rfl trivial (r_indexS hl rfl rfl slc91 (by omega) (by omega) (by first | (simp only [Int.reduceToNat]; rfl) | exact toNat_add1 _ | exact toNat_add2 _ _ | exact toNat_emod _ _ | exact Int.toNat_natCast _ | rfl)) ?_)
                clear hl a; intro a hl
                refine wl (w_load hl hh rfl trivial one86 rfl (by repeat (first | exact find_head | apply find_tail | apply find_skip)) (by first | exact hcell | rfl | rfl) ?_)
                clear hl a; intro a hl
                refine wl (wl_val hl rfl trivial (r_assign hl rfl) ?_)
                clear hl a; intro a hl
                refine w_nil ?_
                have hl2 := hl.add (t := 3) (hl.add (t := 12) (hl.add (t := 16) (hl.add (t := 18) (hl.add (t := 25) (hl.add (t := 26) (hl.add (t := 27) (hl.add (t := 96) (hl.add (t := 97) (hl.add (t := 98) (hl.nil) rfl) rfl) rfl) rfl) rfl) rfl) rfl) rfl) rfl) rfl; clear hl; have hl := hl2; clear hl2
                refine then_normal ?_
                refine c_seq ?_
                refine c_region ?_
                refine wl (wl_val hl rfl trivial (r_move hl rfl) ?_)
                clear hl a; intro a hl
                refine wl (wl_val hl rfl trivial (r_move hl rfl) ?_)
                clear hl a; intro a hl
                refine wl (w_call hl hh rfl trivial rfl cal32 rfl (play_spec hS2 bg tT tf (40 * ((z.i + 1 : Nat) : Int)) (400 * ((z.i + 1 : Nat) : Int) + 4) ⟨by omega, by omega⟩ (by omega) (by omega) hG4 (wn % 4) (by omega) (ms7 (o.b % 4) wn e s) (us7 wn e s) (ms7_us hwn16 her (by omega) hsz hsb) rfl od hod3 (by omega) 3 ko k3 k11 k8) (by repeat (first | exact keeps_nil | apply keeps_cons (by repeat (first | exact find_head | apply find_tail | apply find_skip)) (by first  | rfl) | exact keeps_self | exact keeps_left | apply keeps_app | apply keeps_mv | apply keeps_skip)) ⟨⟨memK (E := sysL bg M2) hh (by repeat (first | exact keeps_nil | apply keeps_cons (by repeat (first | exact find_head | apply find_tail | apply find_skip)) (by first  | rfl) | exact keeps_self | exact keeps_left | apply keeps_app | apply keeps_mv | apply keeps_skip)), (pt_law (Fn := []) hh hpre.2 (by repeat (first | exact keeps_nil | apply keeps_cons (by repeat (first | exact find_head | apply find_tail | apply find_skip)) (by first  | rfl) | exact keeps_self | exact keeps_left | apply keeps_app | apply keeps_mv | apply keeps_skip))).1⟩, (mem1 (memK (E := [(k3, C [.pointer (some ⟨bg, 0, none⟩)] 24)]) hh (by repeat (first | exact keeps_nil | apply keeps_cons (by repeat (first | exact find_head | apply find_tail | apply find_skip)) (by first  | rfl) | exact keeps_self | exact keeps_left | apply keeps_app | apply keeps_mv | apply keeps_skip)))), (mem1 (memK (E := [(k11, C (fl rmc (ms7 (o.b % 4) wn e s) ++ []) 85)]) hh (by repeat (first | exact keeps_nil | apply keeps_cons (by repeat (first | exact find_head | apply find_tail | apply find_skip)) (by first  | rfl) | exact keeps_self | exact keeps_left | apply keeps_app | apply keeps_mv | apply keeps_skip)))), (mem1 (memK (E := [(k8, C [.int .i64 ((wn % 4 : Nat) : Int)] 58)]) hh (by repeat (first | exact keeps_nil | apply keeps_cons (by repeat (first | exact find_head | apply find_tail | apply find_skip)) (by first  | rfl) | exact keeps_self | exact keeps_left | apply keeps_app | apply keeps_mv | apply keeps_skip)))), (hmo w (memK (E := [(k91, C (fl ivc [0, 2, 1] ++ []) 3), (k92, C (fl ivc [1, 0, 2] ++ []) 3), (k93, C (fl ivc [1, 2, 0] ++ []) 3), (k94, C (fl ivc [2, 0, 1] ++ []) 3), (k95, C (fl ivc [2, 1, 0] ++ []) 3)]) hh (by repeat (first | exact keeps_nil | apply keeps_cons (by repeat (first | exact find_head | apply find_tail | apply find_skip)) (by first  | rfl) | exact keeps_self | exact keeps_left | apply keeps_app | apply keeps_mv | apply keeps_skip))))⟩ ?_)
                clear hl hh a w; intro vc Fc a w hR hl hh
                obtain ⟨ve4, rfl, hR4⟩ := hR
                try simp only [List.cons_append, List.nil_append, List.append_assoc, List.append_nil] at hh
                rw [pl3 hok7 od hod] at hl hR4
                generalize Fc = Ee4 at hh hR4
                refine wl (w_alloc hl hh rfl trivial zero61 rfl ?_)
                clear hl hh a w; intro k19 a w hl hh
                refine wl (w_storeA hl hh trivial agg61 rfl rfl (by repeat (first | exact find_head | apply find_tail | apply find_skip)) (by first | rfl | (simp; done) | rfl | exact arrL_length _ _) (by first | (simp; done) | (simp; omega) | (rw [arrL_length]; omega)) (by first | rfl | (simp; done) | rfl | exact arrL_all (fun j => ite_one hR0.one rfl) | exact arrL_all (fun j => ite_one hR1.one rfl) | exact arrL_all (fun j => ite_one hR2.one rfl) | exact arrL_all (fun j => ite_one hR3.one rfl) | exact arrL_all (fun j => ite_one hR4.one rfl)) (by first | exact setL_whole (arrL_length _ _) | (simp only [setL, List.getElem?_cons_zero, List.getElem?_cons_succ, Value.cells, List.take_zero, List.take_succ_cons, List.take_nil, List.drop_zero, List.drop_succ_cons, List.drop_nil, List.length_cons, List.length_nil, List.cons_append, List.nil_append, List.append_nil, Nat.zero_add, Nat.add_zero, Nat.reduceAdd, Nat.reduceBEq, Nat.reduceEqDiff, Nat.ble, BEq.rfl, Bool.and_true, Bool.and_self, cond_true, beq_self_eq_true]; rfl)) ?_)
                clear hh w; intro w hh
                refine w_nil ?_
                have hl2 := hl.add (t := 3) (hl.add (t := 12) (hl.add (t := 16) (hl.add (t := 19) (hl.add (t := 25) (hl.add (t := 26) (hl.add (t := 27) (hl.add (t := 96) (hl.add (t := 97) (hl.add (t := 98) (hl.nil) rfl) rfl) rfl) rfl) rfl) rfl) rfl) rfl) rfl) rfl; clear hl; have hl := hl2; clear hl2
                refine then_normal ?_
                refine c_seq ?_
                refine c_region ?_
                refine wl (w_call hl hh rfl trivial rfl cal34 rfl (eqS2_spec (flK (ends g2 wn e).flr (wn % 4)) (flK_rng (B := 40 * ((z.i + 1 : Nat) : Int) + 1) (Q := 400 * ((z.i + 1 : Nat) : Int) + 4) hGe ⟨by omega, by omega⟩ (wn % 4)) (edN (wsK (ends g2 wn e).ws (wn % 4)) 16) (edK_len (B := 40 * ((z.i + 1 : Nat) : Int) + 1) (Q := 400 * ((z.i + 1 : Nat) : Int) + 4) hGe ⟨by omega, by omega⟩ (wn % 4)) (eg_ok (B := 40 * ((z.i + 1 : Nat) : Int) + 1) (Q := 400 * ((z.i + 1 : Nat) : Int) + 4) hGe ⟨by omega, by omega⟩) k19 k16 ve4 ve3 Ee4 Ee3 hR4 hR3) (by repeat (first | exact keeps_nil | apply keeps_cons (by repeat (first | exact find_head | apply find_tail | apply find_skip)) (by first  | rfl) | exact keeps_self | exact keeps_left | apply keeps_app | apply keeps_mv | apply keeps_skip)) ⟨memK (E := (k19, C (arrL 17 (shV (flK (ends g2 wn e).flr (wn % 4)) ve4)) 61) :: Ee4) hh (by repeat (first | exact keeps_nil | apply keeps_cons (by repeat (first | exact find_head | apply find_tail | apply find_skip)) (by first  | rfl) | exact keeps_self | exact keeps_left | apply keeps_app | apply keeps_mv | apply keeps_skip)), memK (E := (k16, C (arrL 17 (shV (flK (ends g2 wn e).flr (wn % 4)) ve3)) 61) :: Ee3) hh (by repeat (first | exact keeps_nil | apply keeps_cons (by repeat (first | exact find_head | apply find_tail | apply find_skip)) (by first  | rfl) | exact keeps_self | exact keeps_left | apply keeps_app | apply keeps_mv | apply keeps_skip))⟩ ?_)
                clear hl hh a w; intro vc Fc a w hR hl hh
                obtain ⟨rfl, rfl⟩ := hR
                try simp only [List.cons_append, List.nil_append, List.append_assoc, List.append_nil] at hh
                refine wl (wl_val hl rfl trivial (r_not hl rfl) ?_)
                clear hl a; intro a hl
                refine w_nil ?_
                have hl2 := hl.add (t := 3) (hl.add (t := 12) (hl.add (t := 16) (hl.add (t := 25) (hl.add (t := 26) (hl.add (t := 27) (hl.add (t := 96) (hl.add (t := 97) (hl.add (t := 98) (hl.add (t := 106) (hl.nil) rfl) rfl) rfl) rfl) rfl) rfl) rfl) rfl) rfl) rfl; clear hl; have hl := hl2; clear hl2
                refine then_normal ?_
                refine c_condF hl rfl ?_
                refine wp_skip ?_
                refine blk_normal ?_
                refine then_normal ?_
                refine c_region ?_
                first | refine wl (wl_val hl rfl trivial (r_add hl rfl rfl (by simp only [Fits]; omega)) ?_) | refine wl (wl_val hl rfl trivial (r_addW hl rfl rfl) ?_)
                clear hl a; intro a hl
                refine wl (wl_val hl rfl trivial (r_move hl rfl) ?_)
                clear hl a; intro a hl
                refine w_nil ?_
                have hl2 := hl.add (t := 3) (hl.add (t := 12) (hl.add (t := 16) (hl.add (t := 25) (hl.add (t := 26) (hl.add (t := 27) (hl.add (t := 96) (hl.add (t := 97) (hl.add (t := 98) (hl.nil) rfl) rfl) rfl) rfl) rfl) rfl) rfl) rfl) rfl; clear hl; have hl := hl2; clear hl2
                refine then_normal ?_
                refine ⟨(y + 1), (by omega), (by omega), hl.addE (t := 98) (hl.addE (t := 3) (hl.addE (t := 12) (hl.addE (t := 16) (hl.addE (t := 25) (hl.addE (t := 26) (hl.addE (t := 27) (hl.addE (t := 96) (hl.addE (t := 97) (hl.nil) rfl (by first | rfl | (congr 1; omega))) rfl (by first | rfl | (congr 1; omega))) rfl (by first | rfl | (congr 1; omega))) rfl (by first | rfl | (congr 1; omega))) rfl (by first | rfl | (congr 1; omega))) rfl (by first | rfl | (congr 1; omega))) rfl (by first | rfl | (congr 1; omega))) rfl (by first | rfl | (congr 1; omega))) rfl (by first | rfl | (congr 1; omega)), hh.keep (by repeat (first | exact keeps_nil | apply keeps_cons (by repeat (first | exact find_head | apply find_tail | apply find_skip)) (by first  | rfl) | exact keeps_self | exact keeps_left | apply keeps_app | apply keeps_mv | apply keeps_skip))⟩
              · intro hc5
                try simp only [decide_eq_true_eq, decide_eq_false_iff_not, Bool.not_eq_true', Bool.not_eq_false', Bool.not_eq_true, Bool.not_eq_false, Bool.and_eq_true, Bool.or_eq_true, Bool.and_eq_false_iff, Bool.or_eq_false_iff, Bool.not_not, ne_eq, Int.not_lt, Int.not_le, Decidable.not_not, beq_iff_eq, bne_iff_ne] at hc5
                refine wp_exit ?_
                refine then_exit ?_
                refine then_exit ?_
                refine blk_exit ?_
                refine blk_normal ?_
                refine then_normal ?_
                refine c_region ?_
                first | refine wl (wl_val hl rfl trivial (r_add hl rfl rfl (by simp only [Fits]; omega)) ?_) | refine wl (wl_val hl rfl trivial (r_addW hl rfl rfl) ?_)
                clear hl a; intro a hl
                refine wl (wl_val hl rfl trivial (r_move hl rfl) ?_)
                clear hl a; intro a hl
                refine w_nil ?_
                have hl2 := hl.add (t := 3) (hl.add (t := 25) (hl.add (t := 26) (hl.add (t := 27) (hl.nil) rfl) rfl) rfl) rfl; clear hl; have hl := hl2; clear hl2
                refine then_normal ?_
                refine ⟨⟨g2, M2, z.i + 1⟩, (by simp only; omega), ⟨by simp only; omega, hS2, hG3⟩, hl.addE (t := 27) (hl.addE (t := 3) (hl.addE (t := 25) (hl.addE (t := 26) (hl.nil) rfl (by first | rfl | (congr 1; omega))) rfl (by first | rfl | (congr 1; omega))) rfl (by first | rfl | (congr 1; omega))) rfl (by first | rfl | (congr 1; omega)), hh.keep (by repeat (first | exact keeps_nil | apply keeps_cons (by repeat (first | exact find_head | apply find_tail | apply find_skip)) (by first  | rfl) | exact keeps_self | exact keeps_left | apply keeps_app | apply keeps_mv | apply keeps_skip))⟩
        ·
          try clear hM
          refine id (w_alloc hl hh rfl trivial zero48 rfl ?_)
          clear hl hh a w; intro k9 a w hl hh
          have hM : Mem [(k3, C [.pointer (some ⟨bg, 0, none⟩)] 24), (k5, C (opc o) 32), (k6, C [.int .i64 (wn : Int)] 52)] w := (memK hh (by repeat (first | exact keeps_nil | apply keeps_cons (by repeat (first | exact find_head | apply find_tail | apply find_skip)) (by first  | rfl) | exact keeps_self | exact keeps_left | apply keeps_app | apply keeps_mv | apply keeps_skip)))
          refine d_step (fun _ => hM) ?_
          refine d_one (i := 2) (by kernel_rfl) rfl ?_
          try clear hM
          refine id (w_call hl hh rfl trivial rfl cal20 rfl (epoch_spec hS2 bg wn hwn16) (by repeat (first | exact keeps_nil | apply keeps_cons (by repeat (first | exact find_head | apply find_tail | apply find_skip)) (by first  | rfl) | exact keeps_self | exact keeps_left | apply keeps_app | apply keeps_mv | apply keeps_skip)) (memK (E := sysL bg M2) hh (by repeat (first | exact keeps_nil | apply keeps_cons (by repeat (first | exact find_head | apply find_tail | apply find_skip)) (by first  | rfl) | exact keeps_self | exact keeps_left | apply keeps_app | apply keeps_mv | apply keeps_skip))) ?_)
          clear hl hh a w; intro vc Fc a w hR hl hh
          obtain ⟨rfl, rfl⟩ := hR
          try simp only [List.cons_append, List.nil_append, List.append_assoc, List.append_nil] at hh
          have hM : Mem [(k3, C [.pointer (some ⟨bg, 0, none⟩)] 24), (k5, C (opc o) 32), (k6, C [.int .i64 (wn : Int)] 52)] w := (memK hh (by repeat (first | exact keeps_nil | apply keeps_cons (by repeat (first | exact find_head | apply find_tail | apply find_skip)) (by first  | rfl) | exact keeps_self | exact keeps_left | apply keeps_app | apply keeps_mv | apply keeps_skip)))
          refine d_step (fun _ => hM) ?_
          refine d_one (i := 5) (by kernel_rfl) rfl ?_
          try clear hM
          refine id (w_call hl hh rfl trivial rfl cal30 rfl (low4_spec o.c) (by repeat (first | exact keeps_nil | apply keeps_cons (by repeat (first | exact find_head | apply find_tail | apply find_skip)) (by first  | rfl) | exact keeps_self | exact keeps_left | apply keeps_app | apply keeps_mv | apply keeps_skip)) trivial ?_)
          clear hl hh a w; intro vc Fc a w hR hl hh
          obtain ⟨rfl, rfl⟩ := hR
          try simp only [List.cons_append, List.nil_append, List.append_assoc, List.append_nil] at hh
          have hM : Mem [(k3, C [.pointer (some ⟨bg, 0, none⟩)] 24), (k5, C (opc o) 32), (k6, C [.int .i64 (wn : Int)] 52)] w := (memK hh (by repeat (first | exact keeps_nil | apply keeps_cons (by repeat (first | exact find_head | apply find_tail | apply find_skip)) (by first  | rfl) | exact keeps_self | exact keeps_left | apply keeps_app | apply keeps_mv | apply keeps_skip)))
          refine d_step (fun _ => hM) ?_
          first | refine d_take (i := 6) hl rfl (by kernel_rfl) (by kernel_rfl) (by kernel_rfl) (by kernel_rfl) (by kernel_rfl) rfl trivial (fun _ _ _ h => h) hM (fun w hC => r_conv hl rfl Tryd.underlying2 Tryd.underlying48 (by simp only [Fits]; omega)) rfl ?_ | refine d_take (i := 6) hl rfl (by kernel_rfl) (by kernel_rfl) (by kernel_rfl) (by kernel_rfl) (by kernel_rfl) rfl trivial (fun _ _ _ h => h) hM (fun w hC => r_convM wm_u64 hl rfl Tryd.underlying2 Tryd.underlying48) rfl ?_
          clear hl a; intro a hl
          first | refine d_take (i := 7) hl rfl (by kernel_rfl) (by kernel_rfl) (by kernel_rfl) (by kernel_rfl) (by kernel_rfl) rfl trivial (fun _ _ _ h => h) hM (fun w hC => r_add hl rfl rfl (by simp only [Fits]; omega)) rfl ?_ | refine d_take (i := 7) hl rfl (by kernel_rfl) (by kernel_rfl) (by kernel_rfl) (by kernel_rfl) (by kernel_rfl) rfl trivial (fun _ _ _ h => h) hM (fun w hC => r_addM wm_u64 hl rfl rfl) rfl ?_
          clear hl a; intro a hl
          refine d_one (i := 9) (by kernel_rfl) rfl ?_
          try clear hM
          refine id (w_store hl hh trivial one48 rfl rfl (by repeat (first | exact find_head | apply find_tail | apply find_skip)) (by first | (simp; done) | (simp; omega) | (rw [arrL_length]; omega)) (by first | rfl | assumption | (apply Row.one; assumption)) (by first | exact setL_whole (arrL_length _ _) | (simp only [setL, List.getElem?_cons_zero, List.getElem?_cons_succ, Value.cells, List.take_zero, List.take_succ_cons, List.take_nil, List.drop_zero, List.drop_succ_cons, List.drop_nil, List.length_cons, List.length_nil, List.cons_append, List.nil_append, List.append_nil, Nat.zero_add, Nat.add_zero, Nat.reduceAdd, Nat.reduceBEq, Nat.reduceEqDiff, Nat.ble, BEq.rfl, Bool.and_true, Bool.and_self, cond_true, beq_self_eq_true]; rfl)) ?_)
          clear hh w; intro w hh
          refine d_step (fun h => absurd h (by decide)) ?_
          refine d_done (by kernel_rfl) ?_
          try clear hM
          have hl2 := hl.add (t := 3) (hl.add (t := 5) (hl.add (t := 6) (hl.add (t := 7) (hl.add (t := 8) (hl.add (t := 9) (hl.add (t := 25) (hl.add (t := 26) (hl.add (t := 27) (hl.nil) rfl) rfl) rfl) rfl) rfl) rfl) rfl) rfl) rfl; clear hl; have hl := hl2; clear hl2
          try rw [set9] at hh
          refine then_normal ?_
          refine c_seq ?_
          refine c_seq ?_
          refine c_region ?_
          refine wl (w_load hl hh rfl trivial one48 rfl (by repeat (first | exact find_head | apply find_tail | apply find_skip)) (by first | exact hcell | rfl | rfl) ?_)
          clear hl a; intro a hl
          refine wl (wl_val hl rfl trivial (r_gtr hl rfl rfl) ?_)
          clear hl a; intro a hl
          refine w_nil ?_
          have hl2 := hl.add (t := 3) (hl.add (t := 5) (hl.add (t := 6) (hl.add (t := 7) (hl.add (t := 8) (hl.add (t := 9) (hl.add (t := 25) (hl.add (t := 26) (hl.add (t := 27) (hl.add (t := 59) (hl.nil) rfl) rfl) rfl) rfl) rfl) rfl) rfl) rfl) rfl) rfl; clear hl; have hl := hl2; clear hl2
          refine then_normal ?_
          refine c_cond hl rfl ?_ ?_
          · intro hc3
            try simp only [decide_eq_true_eq, decide_eq_false_iff_not, Bool.not_eq_true', Bool.not_eq_false', Bool.not_eq_true, Bool.not_eq_false, Bool.and_eq_true, Bool.or_eq_true, Bool.and_eq_false_iff, Bool.or_eq_false_iff, Bool.not_not, ne_eq, Int.not_lt, Int.not_le, Decidable.not_not, beq_iff_eq, bne_iff_ne] at hc3
            refine c_region ?_
            refine wl (w_load hl hh rfl trivial one48 rfl (by repeat (first | exact find_head | apply find_tail | apply find_skip)) (by first | exact hcell | rfl | rfl) ?_)
            clear hl a; intro a hl
            first | refine wl (wl_val hl rfl trivial (r_sub hl rfl rfl (by simp only [Fits]; omega)) ?_) | refine wl (wl_val hl rfl trivial (r_subM wm_u64 hl rfl rfl) ?_)
            clear hl a; intro a hl
            refine wl (w_store hl hh trivial one48 rfl rfl (by repeat (first | exact find_head | apply find_tail | apply find_skip)) (by first | (simp; done) | (simp; omega) | (rw [arrL_length]; omega)) (by first | rfl | assumption | (apply Row.one; assumption)) (by first | exact setL_whole (arrL_length _ _) | (simp only [setL, List.getElem?_cons_zero, List.getElem?_cons_succ, Value.cells, List.take_zero, List.take_succ_cons, List.take_nil, List.drop_zero, List.drop_succ_cons, List.drop_nil, List.length_cons, List.length_nil, List.cons_append, List.nil_append, List.append_nil, Nat.zero_add, Nat.add_zero, Nat.reduceAdd, Nat.reduceBEq, Nat.reduceEqDiff, Nat.ble, BEq.rfl, Bool.and_true, Bool.and_self, cond_true, beq_self_eq_true]; rfl)) ?_)
            clear hh w; intro w hh
            refine w_nil ?_
            have hl2 := hl.add (t := 3) (hl.add (t := 5) (hl.add (t := 6) (hl.add (t := 7) (hl.add (t := 8) (hl.add (t := 9) (hl.add (t := 25) (hl.add (t := 26) (hl.add (t := 27) (hl.nil) rfl) rfl) rfl) rfl) rfl) rfl) rfl) rfl) rfl; clear hl; have hl := hl2; clear hl2
            try rw [set9] at hh
            obtain ⟨e, he⟩ : ∃ e, e = g2.ep wn + o.c % 4 - 1 := ⟨_, rfl⟩
            have her : 0 ≤ e ∧ e ≤ 400 * ((z.i + 1 : Nat) : Int) + 4 := by omega
            rw [← he] at hh
            clear he
            have hGe : GI (40 * ((z.i + 1 : Nat) : Int) + 1) (400 * ((z.i + 1 : Nat) : Int) + 4) (ends g2 wn e) := hG4.apply (u := ⟨3, wn, e, 0#16⟩) ⟨by omega, by omega⟩ hwn16 her
            refine then_normal ?_
            refine c_seq ?_
            refine c_region ?_
            refine wl (wl_val hl rfl trivial (r_makeFunc hl rfl) ?_)
            clear hl a; intro a hl
            refine wl (wl_val hl rfl trivial (r_assign hl rfl) ?_)
            clear hl a; intro a hl
            refine w_nil ?_
            have hl2 := hl.add (t := 3) (hl.add (t := 7) (hl.add (t := 8) (hl.add (t := 10) (hl.add (t := 25) (hl.add (t := 26) (hl.add (t := 27) (hl.nil) rfl) rfl) rfl) rfl) rfl) rfl) rfl; clear hl; have hl := hl2; clear hl2
            refine then_normal ?_
            refine c_seq ?_
            refine c_region ?_
            refine wl (wl_val hl rfl trivial (r_move hl rfl) ?_)
            clear hl a; intro a hl
            refine wl (wl_val hl rfl trivial (r_move hl rfl) ?_)
            clear hl a; intro a hl
            refine wl (w_call hl hh rfl trivial rfl cal31 rfl (msg_spec 1 (mi s) ((wn % 4 : Nat) : Int) e (mi_rng s) wn hwn16 o k5 k8 k6 k9) (by repeat (first | exact keeps_nil | apply keeps_cons (by repeat (first | exact find_head | apply find_tail | apply find_skip)) (by first  | rfl) | exact keeps_self | exact keeps_left | apply keeps_app | apply keeps_mv | apply keeps_skip)) (memK (E := [(k5, C (opc o) 32), (k8, C [.int .i64 ((wn % 4 : Nat) : Int)] 58), (k6, C [.int .i64 (wn : Int)] 52), (k9, C [.int .u64 e] 48)]) hh (by repeat (first | exact keeps_nil | apply keeps_cons (by repeat (first | exact find_head | apply find_tail | apply find_skip)) (by first  | rfl) | exact keeps_self | exact keeps_left | apply keeps_app | apply keeps_mv | apply keeps_skip))) ?_)
            clear hl hh a w; intro vc Fc a w hR hl hh
            obtain ⟨rfl, rfl⟩ := hR
            try simp only [List.cons_append, List.nil_append, List.append_assoc, List.append_nil] at hh
            refine wl (wl_val hl rfl trivial (r_move hl rfl) ?_)
            clear hl a; intro a hl
            refine wl (wl_val hl rfl trivial (r_move hl rfl) ?_)
            clear hl a; intro a hl
            refine wl (w_call hl hh rfl trivial rfl cal31 rfl (msg_spec 2 (mi s) ((wn % 4 : Nat) : Int) e (mi_rng s) wn hwn16 o k5 k8 k6 k9) (by repeat (first | exact keeps_nil | apply keeps_cons (by repeat (first | exact find_head | apply find_tail | apply find_skip)) (by first  | rfl) | exact keeps_self | exact keeps_left | apply keeps_app | apply keeps_mv | apply keeps_skip)) (memK (E := [(k5, C (opc o) 32), (k8, C [.int .i64 ((wn % 4 : Nat) : Int)] 58), (k6, C [.int .i64 (wn : Int)] 52), (k9, C [.int .u64 e] 48)]) hh (by repeat (first | exact keeps_nil | apply keeps_cons (by repeat (first | exact find_head | apply find_tail | apply find_skip)) (by first  | rfl) | exact keeps_self | exact keeps_left | apply keeps_app | apply keeps_mv | apply keeps_skip))) ?_)
            clear hl hh a w; intro vc Fc a w hR hl hh
            obtain ⟨rfl, rfl⟩ := hR
            try simp only [List.cons_append, List.nil_append, List.append_assoc, List.append_nil] at hh
            refine wl (wl_val hl rfl trivial (r_move hl rfl) ?_)
            clear hl a; intro a hl
            refine wl (w_call hl hh rfl trivial rfl cal31 rfl (msg_spec 3 0 ((wn % 4 : Nat) : Int) e ⟨by omega, by omega⟩ wn hwn16 o k5 k8 k6 k9) (by repeat (first | exact keeps_nil | apply keeps_cons (by repeat (first | exact find_head | apply find_tail | apply find_skip)) (by first  | rfl) | exact keeps_self | exact keeps_left | apply keeps_app | apply keeps_mv | apply keeps_skip)) (memK (E := [(k5, C (opc o) 32), (k8, C [.int .i64 ((wn % 4 : Nat) : Int)] 58), (k6, C [.int .i64 (wn : Int)] 52), (k9, C [.int .u64 e] 48)]) hh (by repeat (first | exact keeps_nil | apply keeps_cons (by repeat (first | exact find_head | apply find_tail | apply find_skip)) (by first  | rfl) | exact keeps_self | exact keeps_left | apply keeps_app | apply keeps_mv | apply keeps_skip))) ?_)
            clear hl hh a w; intro vc Fc a w hR hl hh
            obtain ⟨rfl, rfl⟩ := hR
            try simp only [List.cons_append, List.nil_append, List.append_assoc, List.append_nil] at hh
            refine wl (wl_val hl rfl trivial (r_build hl rfl zero85 bld85 (by simp only [fillL, setL, List.getElem?_cons_zero, List.getElem?_cons_succ, Value.cells, List.take_zero, List.take_succ_cons, List.take_nil, List.drop_zero, List.drop_succ_cons, List.drop_nil, List.length_cons, List.length_nil, List.cons_append, List.nil_append, List.append_nil, Nat.zero_add, Nat.add_zero, Nat.reduceAdd, Nat.reduceBEq, Nat.reduceEqDiff, Nat.ble, BEq.rfl, Bool.and_true, Bool.and_self, cond_true, beq_self_eq_true]; rfl)) ?_)
            clear hl a; intro a hl
            refine wl (w_alloc hl hh rfl trivial zero85 rfl ?_)
            clear hl hh a w; intro k11 a w hl hh
            refine wl (w_storeA hl hh trivial agg85 rfl rfl (by repeat (first | exact find_head | apply find_tail | apply find_skip)) (by first | rfl | (simp; done) | rfl | exact arrL_length _ _) (by first | (simp; done) | (simp; omega) | (rw [arrL_length]; omega)) (by first | rfl | (simp; done) | rfl | exact arrL_all (fun j => ite_one hR0.one rfl) | exact arrL_all (fun j => ite_one hR1.one rfl) | exact arrL_all (fun j => ite_one hR2.one rfl) | exact arrL_all (fun j => ite_one hR3.one rfl) | exact arrL_all (fun j => ite_one hR4.one rfl)) (by first | exact setL_whole (arrL_length _ _) | (simp only [setL, List.getElem?_cons_zero, List.getElem?_cons_succ, Value.cells, List.take_zero, List.take_succ_cons, List.take_nil, List.drop_zero, List.drop_succ_cons, List.drop_nil, List.length_cons, List.length_nil, List.cons_append, List.nil_append, List.append_nil, Nat.zero_add, Nat.add_zero, Nat.reduceAdd, Nat.reduceBEq, Nat.reduceEqDiff, Nat.ble, BEq.rfl, Bool.and_true, Bool.and_self, cond_true, beq_self_eq_true]; rfl)) ?_)
            clear hh w; intro w hh
            refine w_nil ?_
            have hl2 := hl.add (t := 3) (hl.add (t := 8) (hl.add (t := 11) (hl.add (t := 25) (hl.add (t := 26) (hl.add (t := 27) (hl.nil) rfl) rfl) rfl) rfl) rfl) rfl; clear hl; have hl := hl2; clear hl2
            refine then_normal ?_
            refine c_seq ?_
            refine c_region ?_
            refine wl (wl_val hl rfl trivial (r_makeFunc hl rfl) ?_)
            clear hl a; intro a hl
            refine wl (wl_val hl rfl trivial (r_assign hl rfl) ?_)
            clear hl a; intro a hl
            refine w_nil ?_
            have hl2 := hl.add (t := 3) (hl.add (t := 8) (hl.add (t := 12) (hl.add (t := 25) (hl.add (t := 26) (hl.add (t := 27) (hl.nil) rfl) rfl) rfl) rfl) rfl) rfl; clear hl; have hl := hl2; clear hl2
            refine then_normal ?_
            refine c_seq ?_
            refine c_region ?_
            refine wl (w_load hl hh rfl trivial one24 rfl (by repeat (first | exact find_head | apply find_tail | apply find_skip)) (by first | exact hcell | rfl | rfl) ?_)
            clear hl a; intro a hl
            refine wl (w_load hl hh rfl trivial one58 rfl (by repeat (first | exact find_head | apply find_tail | apply find_skip)) (by first | exact hcell | rfl | rfl) ?_)
            clear hl a; intro a hl
            refine wl (w_call hl hh rfl trivial rfl cal22 rfl (shard_spec hS2 bg (40 * ((z.i + 1 : Nat) : Int)) (400 * ((z.i + 1 : Nat) : Int) + 4) ⟨by omega, by omega⟩ hG4 (wn % 4) (by omega)) (by repeat (first | exact keeps_nil | apply keeps_cons (by repeat (first | exact find_head | apply find_tail | apply find_skip)) (by first  | rfl) | exact keeps_self | exact keeps_left | apply keeps_app | apply keeps_mv | apply keeps_skip)) (memK (E := sysL bg M2) hh (by repeat (first | exact keeps_nil | apply keeps_cons (by repeat (first | exact find_head | apply find_tail | apply find_skip)) (by first  | rfl) | exact keeps_self | exact keeps_left | apply keeps_app | apply keeps_mv | apply keeps_skip))) ?_)
            clear hl hh a w; intro vc Fc a w hR hl hh
            obtain ⟨ve0, rfl, hR0⟩ := hR
            try simp only [List.cons_append, List.nil_append, List.append_assoc, List.append_nil] at hh
            generalize Fc = Ee0 at hh hR0
            refine wl (wl_val hl rfl trivial (r_move hl rfl) ?_)
            clear hl a; intro a hl
            refine wl (w_buildSlice hl hh rfl trivial app86 zero3 rfl rfl rfl rfl rfl (by simp only [fillL, arrPl, List.range_succ, List.range_zero, List.map_cons, List.map_nil, List.map_append, List.nil_append, List.replicate_succ, List.replicate_zero, List.flatten_cons, List.flatten_nil, Nat.zero_mul, Nat.mul_one, Nat.one_mul, Nat.reduceMul, setL, List.getElem?_cons_zero, List.getElem?_cons_succ, Value.cells, List.take_zero, List.take_succ_cons, List.take_nil, List.drop_zero, List.drop_succ_cons, List.drop_nil, List.length_cons, List.length_nil, List.cons_append, List.nil_append, List.append_nil, Nat.zero_add, Nat.add_zero, Nat.reduceAdd, Nat.reduceBEq, Nat.reduceEqDiff, Nat.ble, BEq.rfl, Bool.and_true, Bool.and_self, cond_true, beq_self_eq_true]; rfl) ?_)
            clear hl hh a w; intro k77 a w hl hh
            refine wl (w_call hl hh rfl trivial rfl cal32 rfl (play_spec hS2 bg tT tf (40 * ((z.i + 1 : Nat) : Int)) (400 * ((z.i + 1 : Nat) : Int) + 4) ⟨by omega, by omega⟩ (by omega) (by omega) hG4 (wn % 4) (by omega) (ms7 (o.b % 4) wn e s) (us7 wn e s) (ms7_us hwn16 her (by omega) hsz hsb) rfl [0, 1] (by decide) (by decide) 2 k77 k3 k11 k8) (by repeat (first | exact keeps_nil | apply keeps_cons (by repeat (first | exact find_head | apply find_tail | apply find_skip)) (by first  | rfl) | exact keeps_self | exact keeps_left | apply keeps_app | apply keeps_mv | apply keeps_skip)) ⟨⟨memK (E := sysL bg M2) hh (by repeat (first | exact keeps_nil | apply keeps_cons (by repeat (first | exact find_head | apply find_tail | apply find_skip)) (by first  | rfl) | exact keeps_self | exact keeps_left | apply keeps_app | apply keeps_mv | apply keeps_skip)), (pt_law (Fn := []) hh hpre.2 (by repeat (first | exact keeps_nil | apply keeps_cons (by repeat (first | exact find_head | apply find_tail | apply find_skip)) (by first  | rfl) | exact keeps_self | exact keeps_left | apply keeps_app | apply keeps_mv | apply keeps_skip))).1⟩, (mem1 (memK (E := [(k3, C [.pointer (some ⟨bg, 0, none⟩)] 24)]) hh (by repeat (first | exact keeps_nil | apply keeps_cons (by repeat (first | exact find_head | apply find_tail | apply find_skip)) (by first  | rfl) | exact keeps_self | exact keeps_left | apply keeps_app | apply keeps_mv | apply keeps_skip)))), (mem1 (memK (E := [(k11, C (fl rmc (ms7 (o.b % 4) wn e s) ++ []) 85)]) hh (by repeat (first | exact keeps_nil | apply keeps_cons (by repeat (first | exact find_head | apply find_tail | apply find_skip)) (by first  | rfl) | exact keeps_self | exact keeps_left | apply keeps_app | apply keeps_mv | apply keeps_skip)))), (mem1 (memK (E := [(k8, C [.int .i64 ((wn % 4 : Nat) : Int)] 58)]) hh (by repeat (first | exact keeps_nil | apply keeps_cons (by repeat (first | exact find_head | apply find_tail | apply find_skip)) (by first  | rfl) | exact keeps_self | exact keeps_left | apply keeps_app | apply keeps_mv | apply keeps_skip)))), (mem1 (memK (E := [(k77, C (fl ivc [0, 1] ++ []) 3)]) hh (by repeat (first | exact keeps_nil | apply keeps_cons (by repeat (first | exact find_head | apply find_tail | apply find_skip)) (by first  | rfl) | exact keeps_self | exact keeps_left | apply keeps_app | apply keeps_mv | apply keeps_skip))))⟩ ?_)
            clear hl hh a w; intro vc Fc a w hR hl hh
            obtain ⟨ve1, rfl, hR1⟩ := hR
            try simp only [List.cons_append, List.nil_append, List.append_assoc, List.append_nil] at hh
            rw [pl01 hok7] at hl hR1
            generalize Fc = Ee1 at hh hR1
            refine wl (wl_val hl rfl trivial (r_move hl rfl) ?_)
            clear hl a; intro a hl
            refine wl (w_buildSlice hl hh rfl trivial app86 zero3 rfl rfl rfl rfl rfl (by simp only [fillL, arrPl, List.range_succ, List.range_zero, List.map_cons, List.map_nil, List.map_append, List.nil_append, List.replicate_succ, List.replicate_zero, List.flatten_cons, List.flatten_nil, Nat.zero_mul, Nat.mul_one, Nat.one_mul, Nat.reduceMul, setL, List.getElem?_cons_zero, List.getElem?_cons_succ, Value.cells, List.take_zero, List.take_succ_cons, List.take_nil, List.drop_zero, List.drop_succ_cons, List.drop_nil, List.length_cons, List.length_nil, List.cons_append, List.nil_append, List.append_nil, Nat.zero_add, Nat.add_zero, Nat.reduceAdd, Nat.reduceBEq, Nat.reduceEqDiff, Nat.ble, BEq.rfl, Bool.and_true, Bool.and_self, cond_true, beq_self_eq_true]; rfl) ?_)
            clear hl hh a w; intro k80 a w hl hh
            refine wl (w_call hl hh rfl trivial rfl cal32 rfl (play_spec hS2 bg tT tf (40 * ((z.i + 1 : Nat) : Int)) (400 * ((z.i + 1 : Nat) : Int) + 4) ⟨by omega, by omega⟩ (by omega) (by omega) hG4 (wn % 4) (by omega) (ms7 (o.b % 4) wn e s) (us7 wn e s) (ms7_us hwn16 her (by omega) hsz hsb) rfl [1, 0] (by decide) (by decide) 2 k80 k3 k11 k8) (by repeat (first | exact keeps_nil | apply keeps_cons (by repeat (first | exact find_head | apply find_tail | apply find_skip)) (by first  | rfl) | exact keeps_self | exact keeps_left | apply keeps_app | apply keeps_mv | apply keeps_skip)) ⟨⟨memK (E := sysL bg M2) hh (by repeat (first | exact keeps_nil | apply keeps_cons (by repeat (first | exact find_head | apply find_tail | apply find_skip)) (by first  | rfl) | exact keeps_self | exact keeps_left | apply keeps_app | apply keeps_mv | apply keeps_skip)), (pt_law (Fn := []) hh hpre.2 (by repeat (first | exact keeps_nil | apply keeps_cons (by repeat (first | exact find_head | apply find_tail | apply find_skip)) (by first  | rfl) | exact keeps_self | exact keeps_left | apply keeps_app | apply keeps_mv | apply keeps_skip))).1⟩, (mem1 (memK (E := [(k3, C [.pointer (some ⟨bg, 0, none⟩)] 24)]) hh (by repeat (first | exact keeps_nil | apply keeps_cons (by repeat (first | exact find_head | apply find_tail | apply find_skip)) (by first  | rfl) | exact keeps_self | exact keeps_left | apply keeps_app | apply keeps_mv | apply keeps_skip)))), (mem1 (memK (E := [(k11, C (fl rmc (ms7 (o.b % 4) wn e s) ++ []) 85)]) hh (by repeat (first | exact keeps_nil | apply keeps_cons (by repeat (first | exact find_head | apply find_tail | apply find_skip)) (by first  | rfl) | exact keeps_self | exact keeps_left | apply keeps_app | apply keeps_mv | apply keeps_skip)))), (mem1 (memK (E := [(k8, C [.int .i64 ((wn % 4 : Nat) : Int)] 58)]) hh (by repeat (first | exact keeps_nil | apply keeps_cons (by repeat (first | exact find_head | apply find_tail | apply find_skip)) (by first  | rfl) | exact keeps_self | exact keeps_left | apply keeps_app | apply keeps_mv | apply keeps_skip)))), (mem1 (memK (E := [(k80, C (fl ivc [1, 0] ++ []) 3)]) hh (by repeat (first | exact keeps_nil | apply keeps_cons (by repeat (first | exact find_head | apply find_tail | apply find_skip)) (by first  | rfl) | exact keeps_self | exact keeps_left | apply keeps_app | apply keeps_mv | apply keeps_skip))))⟩ ?_)
            clear hl hh a w; intro vc Fc a w hR hl hh
            obtain ⟨ve2, rfl, hR2⟩ := hR
            try simp only [List.cons_append, List.nil_append, List.append_assoc, List.append_nil] at hh
            rw [pl10 hok7] at hl hR2
            generalize Fc = Ee2 at hh hR2
            refine wl (w_alloc hl hh rfl trivial zero61 rfl ?_)
            clear hl hh a w; intro k13 a w hl hh
            refine wl (w_alloc hl hh rfl trivial zero61 rfl ?_)
            clear hl hh a w; intro k14 a w hl hh
            refine wl (w_alloc hl hh rfl trivial zero61 rfl ?_)
            clear hl hh a w; intro k15 a w hl hh
            refine wl (w_storeA hl hh trivial agg61 rfl rfl (by repeat (first | exact find_head | apply find_tail | apply find_skip)) (by first | rfl | (simp; done) | rfl | exact arrL_length _ _) (by first | (simp; done) | (simp; omega) | (rw [arrL_length]; omega)) (by first | rfl | (simp; done) | rfl | exact arrL_all (fun j => ite_one hR0.one rfl) | exact arrL_all (fun j => ite_one hR1.one rfl) | exact arrL_all (fun j => ite_one hR2.one rfl) | exact arrL_all (fun j => ite_one hR3.one rfl) | exact arrL_all (fun j => ite_one hR4.one rfl)) (by first | exact setL_whole (arrL_length _ _) | (simp only [setL, List.getElem?_cons_zero, List.getElem?_cons_succ, Value.cells, List.take_zero, List.take_succ_cons, List.take_nil, List.drop_zero, List.drop_succ_cons, List.drop_nil, List.length_cons, List.length_nil, List.cons_append, List.nil_append, List.append_nil, Nat.zero_add, Nat.add_zero, Nat.reduceAdd, Nat.reduceBEq, Nat.reduceEqDiff, Nat.ble, BEq.rfl, Bool.and_true, Bool.and_self, cond_true, beq_self_eq_true]; rfl)) ?_)
            clear hh w; intro w hh
            refine wl (w_storeA hl hh trivial agg61 rfl rfl (by repeat (first | exact find_head | apply find_tail | apply find_skip)) (by first | rfl | (simp; done) | rfl | exact arrL_length _ _) (by first | (simp; done) | (simp; omega) | (rw [arrL_length]; omega)) (by first | rfl | (simp; done) | rfl | exact arrL_all (fun j => ite_one hR0.one rfl) | exact arrL_all (fun j => ite_one hR1.one rfl) | exact arrL_all (fun j => ite_one hR2.one rfl) | exact arrL_all (fun j => ite_one hR3.one rfl) | exact arrL_all (fun j => ite_one hR4.one rfl)) (by first | exact setL_whole (arrL_length _ _) | (simp only [setL, List.getElem?_cons_zero, List.getElem?_cons_succ, Value.cells, List.take_zero, List.take_succ_cons, List.take_nil, List.drop_zero, List.drop_succ_cons, List.drop_nil, List.length_cons, List.length_nil, List.cons_append, List.nil_append, List.append_nil, Nat.zero_add, Nat.add_zero, Nat.reduceAdd, Nat.reduceBEq, Nat.reduceEqDiff, Nat.ble, BEq.rfl, Bool.and_true, Bool.and_self, cond_true, beq_self_eq_true]; rfl)) ?_)
            clear hh w; intro w hh
            refine wl (w_storeA hl hh trivial agg61 rfl rfl (by repeat (first | exact find_head | apply find_tail | apply find_skip)) (by first | rfl | (simp; done) | rfl | exact arrL_length _ _) (by first | (simp; done) | (simp; omega) | (rw [arrL_length]; omega)) (by first | rfl | (simp; done) | rfl | exact arrL_all (fun j => ite_one hR0.one rfl) | exact arrL_all (fun j => ite_one hR1.one rfl) | exact arrL_all (fun j => ite_one hR2.one rfl) | exact arrL_all (fun j => ite_one hR3.one rfl) | exact arrL_all (fun j => ite_one hR4.one rfl)) (by first | exact setL_whole (arrL_length _ _) | (simp only [setL, List.getElem?_cons_zero, List.getElem?_cons_succ, Value.cells, List.take_zero, List.take_succ_cons, List.take_nil, List.drop_zero, List.drop_succ_cons, List.drop_nil, List.length_cons, List.length_nil, List.cons_append, List.nil_append, List.append_nil, Nat.zero_add, Nat.add_zero, Nat.reduceAdd, Nat.reduceBEq, Nat.reduceEqDiff, Nat.ble, BEq.rfl, Bool.and_true, Bool.and_self, cond_true, beq_self_eq_true]; rfl)) ?_)
            clear hh w; intro w hh
            refine w_nil ?_
            have hl2 := hl.add (t := 3) (hl.add (t := 12) (hl.add (t := 13) (hl.add (t := 14) (hl.add (t := 15) (hl.add (t := 25) (hl.add (t := 26) (hl.add (t := 27) (hl.nil) rfl) rfl) rfl) rfl) rfl) rfl) rfl) rfl; clear hl; have hl := hl2; clear hl2
            refine then_normal ?_
            refine c_seq ?_
            refine c_seq ?_
            refine c_region ?_
            refine wl (w_call hl hh rfl trivial rfl cal34 rfl (eqS2_spec (flK g2.flr (wn % 4)) (flK_rng (B := 40 * ((z.i + 1 : Nat) : Int)) (Q := 400 * ((z.i + 1 : Nat) : Int) + 4) hG4 ⟨by omega, by omega⟩ (wn % 4)) (edN (wsK g2.ws (wn % 4)) 16) (edK_len (B := 40 * ((z.i + 1 : Nat) : Int)) (Q := 400 * ((z.i + 1 : Nat) : Int) + 4) hG4 ⟨by omega, by omega⟩ (wn % 4)) (eg_ok (B := 40 * ((z.i + 1 : Nat) : Int)) (Q := 400 * ((z.i + 1 : Nat) : Int) + 4) hG4 ⟨by omega, by omega⟩) k14 k13 ve1 ve0 Ee1 Ee0 hR1 hR0) (by repeat (first | exact keeps_nil | apply keeps_cons (by repeat (first | exact find_head | apply find_tail | apply find_skip)) (by first  | rfl) | exact keeps_self | exact keeps_left | apply keeps_app | apply keeps_mv | apply keeps_skip)) ⟨memK (E := (k14, C (arrL 17 (shV (flK g2.flr (wn % 4)) ve1)) 61) :: Ee1) hh (by repeat (first | exact keeps_nil | apply keeps_cons (by repeat (first | exact find_head | apply find_tail | apply find_skip)) (by first  | rfl) | exact keeps_self | exact keeps_left | apply keeps_app | apply keeps_mv | apply keeps_skip)), memK (E := (k13, C (arrL 17 (shV (flK g2.flr (wn % 4)) ve0)) 61) :: Ee0) hh (by repeat (first | exact keeps_nil | apply keeps_cons (by repeat (first | exact find_head | apply find_tail | apply find_skip)) (by first  | rfl) | exact keeps_self | exact keeps_left | apply keeps_app | apply keeps_mv | apply keeps_skip))⟩ ?_)
            clear hl hh a w; intro vc Fc a w hR hl hh
            obtain ⟨rfl, rfl⟩ := hR
            try simp only [List.cons_append, List.nil_append, List.append_assoc, List.append_nil] at hh
            refine wl (wl_val hl rfl trivial (r_not hl rfl) ?_)
            clear hl a; intro a hl
            refine wl (wl_val hl rfl trivial (r_move hl rfl) ?_)
            clear hl a; intro a hl
            refine wl (w_call hl hh rfl ⟨_, _, rfl, rfl, rfl⟩ rfl cal34 rfl (eqS2_spec (flK g2.flr (wn % 4)) (flK_rng (B := 40 * ((z.i + 1 : Nat) : Int)) (Q := 400 * ((z.i + 1 : Nat) : Int) + 4) hG4 ⟨by omega, by omega⟩ (wn % 4)) (edN (wsK g2.ws (wn % 4)) 16) (edK_len (B := 40 * ((z.i + 1 : Nat) : Int)) (Q := 400 * ((z.i + 1 : Nat) : Int) + 4) hG4 ⟨by omega, by omega⟩ (wn % 4)) (eg_ok (B := 40 * ((z.i + 1 : Nat) : Int)) (Q := 400 * ((z.i + 1 : Nat) : Int) + 4) hG4 ⟨by omega, by omega⟩) k15 k13 ve2 ve0 Ee2 Ee0 hR2 hR0) (by repeat (first | exact keeps_nil | apply keeps_cons (by repeat (first | exact find_head | apply find_tail | apply find_skip)) (by first  | rfl) | exact keeps_self | exact keeps_left | apply keeps_app | apply keeps_mv | apply keeps_skip)) ⟨memK (E := (k15, C (arrL 17 (shV (flK g2.flr (wn % 4)) ve2)) 61) :: Ee2) hh (by repeat (first | exact keeps_nil | apply keeps_cons (by repeat (first | exact find_head | apply find_tail | apply find_skip)) (by first  | rfl) | exact keeps_self | exact keeps_left | apply keeps_app | apply keeps_mv | apply keeps_skip)), memK (E := (k13, C (arrL 17 (shV (flK g2.flr (wn % 4)) ve0)) 61) :: Ee0) hh (by repeat (first | exact keeps_nil | apply keeps_cons (by repeat (first | exact find_head | apply find_tail | apply find_skip)) (by first  | rfl) | exact keeps_self | exact keeps_left | apply keeps_app | apply keeps_mv | apply keeps_skip))⟩ ?_)
            clear hl hh a w; intro vc Fc a w hR hl hh
            obtain ⟨rfl, rfl⟩ := hR
            try simp only [List.cons_append, List.nil_append, List.append_assoc, List.append_nil] at hh
            refine wl (wl_val hl rfl ⟨_, _, rfl, rfl, rfl⟩ (r_not hl rfl) ?_)
            clear hl a; intro a hl
            refine wl (wl_val hl rfl trivial (r_pickF hl rfl rfl) ?_)
            clear hl a; intro a hl
            refine w_nil ?_
            have hl2 := hl.add (t := 3) (hl.add (t := 12) (hl.add (t := 25) (hl.add (t := 26) (hl.add (t := 27) (hl.add (t := 87) (hl.nil) rfl) rfl) rfl) rfl) rfl) rfl; clear hl; have hl := hl2; clear hl2
            refine then_normal ?_
            refine c_condF hl rfl ?_
            refine wp_skip ?_
            refine then_normal ?_
            refine c_seq ?_
            refine c_region ?_
            refine wl (wl_val hl rfl trivial (r_move hl rfl) ?_)
            clear hl a; intro a hl
            refine wl (w_buildSlice hl hh rfl trivial app86 zero3 rfl rfl rfl rfl rfl (by simp only [fillL, arrPl, List.range_succ, List.range_zero, List.map_cons, List.map_nil, List.map_append, List.nil_append, List.replicate_succ, List.replicate_zero, List.flatten_cons, List.flatten_nil, Nat.zero_mul, Nat.mul_one, Nat.one_mul, Nat.reduceMul, setL, List.getElem?_cons_zero, List.getElem?_cons_succ, Value.cells, List.take_zero, List.take_succ_cons, List.take_nil, List.drop_zero, List.drop_succ_cons, List.drop_nil, List.length_cons, List.length_nil, List.cons_append, List.nil_append, List.append_nil, Nat.zero_add, Nat.add_zero, Nat.reduceAdd, Nat.reduceBEq, Nat.reduceEqDiff, Nat.ble, BEq.rfl, Bool.and_true, Bool.and_self, cond_true, beq_self_eq_true]; rfl) ?_)
            clear hl hh a w; intro k89 a w hl hh
            refine wl (w_call hl hh rfl trivial rfl cal32 rfl (play_spec hS2 bg tT tf (40 * ((z.i + 1 : Nat) : Int)) (400 * ((z.i + 1 : Nat) : Int) + 4) ⟨by omega, by omega⟩ (by omega) (by omega) hG4 (wn % 4) (by omega) (ms7 (o.b % 4) wn e s) (us7 wn e s) (ms7_us hwn16 her (by omega) hsz hsb) rfl [0, 1, 2] (by decide) (by decide) 3 k89 k3 k11 k8) (by repeat (first | exact keeps_nil | apply keeps_cons (by repeat (first | exact find_head | apply find_tail | apply find_skip)) (by first  | rfl) | exact keeps_self | exact keeps_left | apply keeps_app | apply keeps_mv | apply keeps_skip)) ⟨⟨memK (E := sysL bg M2) hh (by repeat (first | exact keeps_nil | apply keeps_cons (by repeat (first | exact find_head | apply find_tail | apply find_skip)) (by first  | rfl) | exact keeps_self | exact keeps_left | apply keeps_app | apply keeps_mv | apply keeps_skip)), (pt_law (Fn := []) hh hpre.2 (by repeat (first | exact keeps_nil | apply keeps_cons (by repeat (first | exact find_head | apply find_tail | apply find_skip)) (by first  | rfl) | exact keeps_self | exact keeps_left | apply keeps_app | apply keeps_mv | apply keeps_skip))).1⟩, (mem1 (memK (E := [(k3, C [.pointer (some ⟨bg, 0, none⟩)] 24)]) hh (by repeat (first | exact keeps_nil | apply keeps_cons (by repeat (first | exact find_head | apply find_tail | apply find_skip)) (by first  | rfl) | exact keeps_self | exact keeps_left | apply keeps_app | apply keeps_mv | apply keeps_skip)))), (mem1 (memK (E := [(k11, C (fl rmc (ms7 (o.b % 4) wn e s) ++ []) 85)]) hh (by repeat (first | exact keeps_nil | apply keeps_cons (by repeat (first | exact find_head | apply find_tail | apply find_skip)) (by first  | rfl) | exact keeps_self | exact keeps_left | apply keeps_app | apply keeps_mv | apply keeps_skip)))), (mem1 (memK (E := [(k8, C [.int .i64 ((wn % 4 : Nat) : Int)] 58)]) hh (by repeat (first | exact keeps_nil | apply keeps_cons (by repeat (first | exact find_head | apply find_tail | apply find_skip)) (by first  | rfl) | exact keeps_self | exact keeps_left | apply keeps_app | apply keeps_mv | apply keeps_skip)))), (mem1 (memK (E := [(k89, C (fl ivc [0, 1, 2] ++ []) 3)]) hh (by repeat (first | exact keeps_nil | apply keeps_cons (by repeat (first | exact find_head | apply find_tail | apply find_skip)) (by first  | rfl) | exact keeps_self | exact keeps_left | apply keeps_app | apply keeps_mv | apply keeps_skip))))⟩ ?_)
            clear hl hh a w; intro vc Fc a w hR hl hh
            obtain ⟨ve3, rfl, hR3⟩ := hR
            try simp only [List.cons_append, List.nil_append, List.append_assoc, List.append_nil] at hh
            rw [pl3 hok7 [0, 1, 2] (.inl rfl)] at hl hR3
            generalize Fc = Ee3 at hh hR3
            refine wl (w_alloc hl hh rfl trivial zero61 rfl ?_)
            clear hl hh a w; intro k16 a w hl hh
            refine wl (w_storeA hl hh trivial agg61 rfl rfl (by repeat (first | exact find_head | apply find_tail | apply find_skip)) (by first | rfl | (simp; done) | rfl | exact arrL_length _ _) (by first | (simp; done) | (simp; omega) | (rw [arrL_length]; omega)) (by first | rfl | (simp; done) | rfl | exact arrL_all (fun j => ite_one hR0.one rfl) | exact arrL_all (fun j => ite_one hR1.one rfl) | exact arrL_all (fun j => ite_one hR2.one rfl) | exact arrL_all (fun j => ite_one hR3.one rfl) | exact arrL_all (fun j => ite_one hR4.one rfl)) (by first | exact setL_whole (arrL_length _ _) | (simp only [setL, List.getElem?_cons_zero, List.getElem?_cons_succ, Value.cells, List.take_zero, List.take_succ_cons, List.take_nil, List.drop_zero, List.drop_succ_cons, List.drop_nil, List.length_cons, List.length_nil, List.cons_append, List.nil_append, List.append_nil, Nat.zero_add, Nat.add_zero, Nat.reduceAdd, Nat.reduceBEq, Nat.reduceEqDiff, Nat.ble, BEq.rfl, Bool.and_true, Bool.and_self, cond_true, beq_self_eq_true]; rfl)) ?_)
            clear hh w; intro w hh
            refine w_nil ?_
            have hl2 := hl.add (t := 3) (hl.add (t := 12) (hl.add (t := 16) (hl.add (t := 25) (hl.add (t := 26) (hl.add (t := 27) (hl.nil) rfl) rfl) rfl) rfl) rfl) rfl; clear hl; have hl := hl2; clear hl2
            refine then_normal ?_
            refine c_seq ?_
            refine c_region ?_
            refine wl (w_buildSlice hl hh rfl trivial app86 zero3 rfl rfl rfl rfl rfl (by simp only [fillL, arrPl, List.range_succ, List.range_zero, List.map_cons, List.map_nil, List.map_append, List.nil_append, List.replicate_succ, List.replicate_zero, List.flatten_cons, List.flatten_nil, Nat.zero_mul, Nat.mul_one, Nat.one_mul, Nat.reduceMul, setL, List.getElem?_cons_zero, List.getElem?_cons_succ, Value.cells, List.take_zero, List.take_succ_cons, List.take_nil, List.drop_zero, List.drop_succ_cons, List.drop_nil, List.length_cons, List.length_nil, List.cons_append, List.nil_append, List.append_nil, Nat.zero_add, Nat.add_zero, Nat.reduceAdd, Nat.reduceBEq, Nat.reduceEqDiff, Nat.ble, BEq.rfl, Bool.and_true, Bool.and_self, cond_true, beq_self_eq_true]; rfl) ?_)
            clear hl hh a w; intro k91 a w hl hh
            refine wl (w_buildSlice hl hh rfl trivial app86 zero3 rfl rfl rfl rfl rfl (by simp only [fillL, arrPl, List.range_succ, List.range_zero, List.map_cons, List.map_nil, List.map_append, List.nil_append, List.replicate_succ, List.replicate_zero, List.flatten_cons, List.flatten_nil, Nat.zero_mul, Nat.mul_one, Nat.one_mul, Nat.reduceMul, setL, List.getElem?_cons_zero, List.getElem?_cons_succ, Value.cells, List.take_zero, List.take_succ_cons, List.take_nil, List.drop_zero, List.drop_succ_cons, List.drop_nil, List.length_cons, List.length_nil, List.cons_append, List.nil_append, List.append_nil, Nat.zero_add, Nat.add_zero, Nat.reduceAdd, Nat.reduceBEq, Nat.reduceEqDiff, Nat.ble, BEq.rfl, Bool.and_true, Bool.and_self, cond_true, beq_self_eq_true]; rfl) ?_)
            clear hl hh a w; intro k92 a w hl hh
            refine wl (w_buildSlice hl hh rfl trivial app86 zero3 rfl rfl rfl rfl rfl (by simp only [fillL, arrPl, List.range_succ, List.range_zero, List.map_cons, List.map_nil, List.map_append, List.nil_append, List.replicate_succ, List.replicate_zero, List.flatten_cons, List.flatten_nil, Nat.zero_mul, Nat.mul_one, Nat.one_mul, Nat.reduceMul, setL, List.getElem?_cons_zero, List.getElem?_cons_succ, Value.cells, List.take_zero, List.take_succ_cons, List.take_nil, List.drop_zero, List.drop_succ_cons, List.drop_nil, List.length_cons, List.length_nil, List.cons_append, List.nil_append, List.append_nil, Nat.zero_add, Nat.add_zero, Nat.reduceAdd, Nat.reduceBEq, Nat.reduceEqDiff, Nat.ble, BEq.rfl, Bool.and_true, Bool.and_self, cond_true, beq_self_eq_true]; rfl) ?_)
            clear hl hh a w; intro k93 a w hl hh
            refine wl (w_buildSlice hl hh rfl trivial app86 zero3 rfl rfl rfl rfl rfl (by simp only [fillL, arrPl, List.range_succ, List.range_zero, List.map_cons, List.map_nil, List.map_append, List.nil_append, List.replicate_succ, List.replicate_zero, List.flatten_cons, List.flatten_nil, Nat.zero_mul, Nat.mul_one, Nat.one_mul, Nat.reduceMul, setL, List.getElem?_cons_zero, List.getElem?_cons_succ, Value.cells, List.take_zero, List.take_succ_cons, List.take_nil, List.drop_zero, List.drop_succ_cons, List.drop_nil, List.length_cons, List.length_nil, List.cons_append, List.nil_append, List.append_nil, Nat.zero_add, Nat.add_zero, Nat.reduceAdd, Nat.reduceBEq, Nat.reduceEqDiff, Nat.ble, BEq.rfl, Bool.and_true, Bool.and_self, cond_true, beq_self_eq_true]; rfl) ?_)
            clear hl hh a w; intro k94 a w hl hh
            refine wl (w_buildSlice hl hh rfl trivial app86 zero3 rfl rfl rfl rfl rfl (by simp only [fillL, arrPl, List.range_succ, List.range_zero, List.map_cons, List.map_nil, List.map_append, List.nil_append, List.replicate_succ, List.replicate_zero, List.flatten_cons, List.flatten_nil, Nat.zero_mul, Nat.mul_one, Nat.one_mul, Nat.reduceMul, setL, List.getElem?_cons_zero, List.getElem?_cons_succ, Value.cells, List.take_zero, List.take_succ_cons, List.take_nil, List.drop_zero, List.drop_succ_cons, List.drop_nil, List.length_cons, List.length_nil, List.cons_append, List.nil_append, List.append_nil, Nat.zero_add, Nat.add_zero, Nat.reduceAdd, Nat.reduceBEq, Nat.reduceEqDiff, Nat.ble, BEq.rfl, Bool.and_true, Bool.and_self, cond_true, beq_self_eq_true]; rfl) ?_)
            clear hl hh a w; intro k95 a w hl hh
            refine wl (w_buildSlice hl hh rfl trivial app91 zero86 rfl rfl rfl rfl rfl (by simp only [fillL, arrPl, List.range_succ, List.range_zero, List.map_cons, List.map_nil, List.map_append, List.nil_append, List.replicate_succ, List.replicate_zero, List.flatten_cons, List.flatten_nil, Nat.zero_mul, Nat.mul_one, Nat.one_mul, Nat.reduceMul, setL, List.getElem?_cons_zero, List.getElem?_cons_succ, Value.cells, List.take_zero, List.take_succ_cons, List.take_nil, List.drop_zero, List.drop_succ_cons, List.drop_nil, List.length_cons, List.length_nil, List.cons_append, List.nil_append, List.append_nil, Nat.zero_add, Nat.add_zero, Nat.reduceAdd, Nat.reduceBEq, Nat.reduceEqDiff, Nat.ble, BEq.rfl, Bool.and_true, Bool.and_self, cond_true, beq_self_eq_true]; rfl) ?_)
            clear hl hh a w; intro k96 a w hl hh
            refine wl (wl_val hl rfl trivial (r_lenS hl rfl slc91) ?_)
            clear hl a; intro a hl
            refine wl (wl_val hl rfl trivial (r_move hl rfl) ?_)
            clear hl a; intro a hl
            refine w_nil ?_
            have hl2 := hl.add (t := 3) (hl.add (t := 12) (hl.add (t := 16) (hl.add (t := 25) (hl.add (t := 26) (hl.add (t := 27) (hl.add (t := 96) (hl.add (t := 97) (hl.add (t := 98) (hl.nil) rfl) rfl) rfl) rfl) rfl) rfl) rfl) rfl) rfl; clear hl; have hl := hl2; clear hl2
            refine then_normal ?_
            refine wp_block ?_
            obtain ⟨KS1, hKS1, hk⟩ := (hl.add (t := 3) (hl.add (t := 12) (hl.add (t := 16) (hl.add (t := 25) (hl.add (t := 26) (hl.add (t := 27) (hl.add (t := 96) (hl.add (t := 97) (hl.nil) rfl) rfl) rfl) rfl) rfl) rfl) rfl) rfl).name
            obtain ⟨HS1, hHS1, hh2⟩ := hh.name (keeps_nil)
            refine c_loop (α := Nat) (fun y => 5 - y) (fun y a w => (y ≤ 5) ∧ Sl 109 ([(98, .int .i64 (y : Int))] ++ KS1) a ∧ Has _ w0 ([] ++ HS1) w) 0 ⟨(by omega), hl.addE (t := 98) (hk) rfl (by first | rfl), hh2⟩ ?_
            clear hk hh2 hl hh a w
            intro y a w hI
            obtain ⟨hy5, hl, hh⟩ := hI
            subst hKS1; subst hHS1
            simp only [List.cons_append, List.nil_append, List.append_nil, List.append_assoc] at hl hh
            refine c_seq ?_
            refine c_region ?_
            refine wl (wl_val hl rfl trivial (r_lss hl rfl rfl) ?_)
            clear hl a; intro a hl
            refine w_nil ?_
            have hl2 := hl.add (t := 3) (hl.add (t := 12) (hl.add (t := 16) (hl.add (t := 25) (hl.add (t := 26) (hl.add (t := 27) (hl.add (t := 96) (hl.add (t := 97) (hl.add (t := 98) (hl.add (t := 99) (hl.nil) rfl) rfl) rfl) rfl) rfl) rfl) rfl) rfl) rfl) rfl; clear hl; have hl := hl2; clear hl2
            refine then_normal ?_
            refine c_seq ?_
            refine c_cond hl rfl ?_ ?_
            · intro hc5
              try simp only [decide_eq_true_eq, decide_eq_false_iff_not, Bool.not_eq_true', Bool.not_eq_false', Bool.not_eq_true, Bool.not_eq_false, Bool.and_eq_true, Bool.or_eq_true, Bool.and_eq_false_iff, Bool.or_eq_false_iff, Bool.not_not, ne_eq, Int.not_lt, Int.not_le, Decidable.not_not, beq_iff_eq, bne_iff_ne] at hc5
              obtain ⟨ko, od, hcell, hmo, hol, hod⟩ : ∃ ko od, ([.slice (some ⟨k91, 0, none⟩) 3 3, .slice (some ⟨k92, 0, none⟩) 3 3, .slice (some ⟨k93, 0, none⟩) 3 3, .slice (some ⟨k94, 0, none⟩) 3 3, .slice (some ⟨k95, 0, none⟩) 3 3] : List Value)[0 + y * 1]? = some (.slice (some ⟨ko, 0, none⟩) od.length 3) ∧ (∀ w9, Mem [(k91, C (fl ivc [0, 2, 1] ++ []) 3), (k92, C (fl ivc [1, 0, 2] ++ []) 3), (k93, C (fl ivc [1, 2, 0] ++ []) 3), (k94, C (fl ivc [2, 0, 1] ++ []) 3), (k95, C (fl ivc [2, 1, 0] ++ []) 3)] w9 → w9.heap[ko]? = some (C (fl ivc od ++ []) 3)) ∧ od.length = 3 ∧ (od = [0, 1, 2] ∨ od = [0, 2, 1] ∨ od = [1, 0, 2] ∨ od = [1, 2, 0] ∨ od = [2, 0, 1] ∨ od = [2, 1, 0]) := by
                have hy9 : y = 0 ∨ y = 1 ∨ y = 2 ∨ y = 3 ∨ y = 4 := by omega
                rcases hy9 with rfl | rfl | rfl | rfl | rfl
                · exact ⟨k91, [0, 2, 1], rfl, fun w9 h9 => h9 _ _ (.head _), rfl, .inr (.inl rfl)⟩
                · exact ⟨k92, [1, 0, 2], rfl, fun w9 h9 => h9 _ _ (.tail _ (.head _)), rfl, .inr (.inr (.inl rfl))⟩
                · exact ⟨k93, [1, 2, 0], rfl, fun w9 h9 => h9 _ _ (.tail _ (.tail _ (.head _))), rfl, .inr (.inr (.inr (.inl rfl)))⟩
                · exact ⟨k94, [2, 0, 1], rfl, fun w9 h9 => h9 _ _ (.tail _ (.tail _ (.tail _ (.head _)))), rfl, .inr (.inr (.inr (.inr (.inl rfl))))⟩
                · exact ⟨k95, [2, 1, 0], rfl, fun w9 h9 => h9 _ _ (.tail _ (.tail _ (.tail _ (.tail _ (.head _))))), rfl, .inr (.inr (.inr (.inr (.inr (rfl)))))⟩
              have hod3 : ∀ j, j ∈ od → j < 3 := by rcases hod with rfl | rfl | rfl | rfl | rfl | rfl <;> decide
              refine wp_skip ?_
              refine then_normal ?_
              refine c_seq ?_
              refine wp_block ?_
              refine c_seq ?_
              refine c_region ?_
              refine wl (wl_val hl rfl trivial (r_indexS hl rfl rfl slc91 (by omega) (by omega) (by first | (simp only [Int.reduceToNat]; rfl) | exact toNat_add1 _ | exact toNat_add2 _ _ | exact toNat_emod _ _ | exact Int.toNat_natCast _ | rfl)) ?_)
              clear hl a; intro a hl
              refine wl (w_load hl hh rfl trivial one86 rfl (by repeat (first | exact find_head | apply find_tail | apply find_skip)) (by first | exact hcell | rfl | rfl) ?_)
              clear hl a; intro a hl
              refine wl (wl_val hl rfl trivial (r_assign hl rfl) ?_)
              clear hl a; intro a hl
              refine w_nil ?_
              have hl2 := hl.add (t := 3) (hl.add (t := 12) (hl.add (t := 16) (hl.add (t := 18) (hl.add (t := 25) (hl.add (t := 26) (hl.add (t := 27) (hl.add (t := 96) (hl.add (t := 97) (hl.add (t := 98) (hl.nil) rfl) rfl) rfl) rfl) rfl) rfl) rfl) rfl) rfl) rfl; clear hl; have hl := hl2; clear hl2
              refine then_normal ?_
              refine c_seq ?_
              refine c_region ?_
              refine wl (wl_val hl rfl trivial (r_move hl rfl) ?_)
              clear hl a; intro a hl
              refine wl (wl_val hl rfl trivial (r_move hl rfl) ?_)
              clear hl a; intro a hl
              refine wl (w_call hl hh rfl trivial rfl cal32 rfl (play_spec hS2 bg tT tf (40 * ((z.i + 1 : Nat) : Int)) (400 * ((z.i + 1 : Nat) : Int) + 4) ⟨by omega, by omega⟩ (by omega) (by omega) hG4 (wn % 4) (by omega) (ms7 (o.b % 4) wn e s) (us7 wn e s) (ms7_us hwn16 her (by omega) hsz hsb) rfl od hod3 (by omega) 3 ko k3 k11 k8) (by repeat (first | exact keeps_nil | apply keeps_cons (by repeat (first | exact find_head | apply find_tail | apply find_skip)) (by first  | rfl) | exact keeps_self | exact keeps_left | apply keeps_app | apply keeps_mv | apply keeps_skip)) ⟨⟨memK (E := sysL bg M2) hh (by repeat (first | exact keeps_nil | apply keeps_cons (by repeat (first | exact find_head | apply find_tail | apply find_skip)) (by first  | rfl) | exact keeps_self | exact keeps_left | apply keeps_app | apply keeps_mv | apply keeps_skip)), (pt_law (Fn := []) hh hpre.2 (by repeat (first | exact keeps_nil | apply keeps_cons (by repeat (first | exact find_head | apply find_tail | apply find_skip)) (by first  | rfl) | exact keeps_self | exact keeps_left | apply keeps_app | apply keeps_mv | apply keeps_skip))).1⟩, (mem1 (memK (E := [(k3, C [.pointer (some ⟨bg, 0, none⟩)] 24)]) hh (by repeat (first | exact keeps_nil | apply keeps_cons (by repeat (first | exact find_head | apply find_tail | apply find_skip)) (by first  | rfl) | exact keeps_self | exact keeps_left | apply keeps_app | apply keeps_mv | apply keeps_skip)))), (mem1 (memK (E := [(k11, C (fl rmc (ms7 (o.b % 4) wn e s) ++ []) 85)]) hh (by repeat (first | exact keeps_nil | apply keeps_cons (by repeat (first | exact find_head | apply find_tail | apply find_skip)) (by first  | rfl) | exact keeps_self | exact keeps_left | apply keeps_app | apply keeps_mv | apply keeps_skip)))), (mem1 (memK (E := [(k8, C [.int .i64 ((wn % 4 : Nat) : Int)] 58)]) hh (by repeat (first | exact keeps_nil | apply keeps_cons (by repeat (first | exact find_head | apply find_tail | apply find_skip)) (by first  | rfl) | exact keeps_self | exact keeps_left | apply keeps_app | apply keeps_mv | apply keeps_skip)))), (hmo w (memK (E := [(k91, C (fl ivc [0, 2, 1] ++ []) 3), (k92, C (fl ivc [1, 0, 2] ++ []) 3), (k93, C (fl ivc [1, 2, 0] ++ []) 3), (k94, C (fl ivc [2, 0, 1] ++ []) 3), (k95, C (fl ivc [2, 1, 0] ++ []) 3)]) hh (by repeat (first | exact keeps_nil | apply keeps_cons (by repeat (first | exact find_head | apply find_tail | apply find_skip)) (by first  | rfl) | exact keeps_self | exact keeps_left | apply keeps_app | apply keeps_mv | apply keeps_skip))))⟩ ?_)
              clear hl hh a w; intro vc Fc a w hR hl hh
              obtain ⟨ve4, rfl, hR4⟩ := hR
              try simp only [List.cons_append, List.nil_append, List.append_assoc, List.append_nil] at hh
              rw [pl3 hok7 od hod] at hl hR4
              generalize Fc = Ee4 at hh hR4
              refine wl (w_alloc hl hh rfl trivial zero61 rfl ?_)
              clear hl hh a w; intro k19 a w hl hh
              refine wl (w_storeA hl hh trivial agg61 rfl rfl (by repeat (first | exact find_head | apply find_tail | apply find_skip)) (by first | rfl | (simp; done) | rfl | exact arrL_length _ _) (by first | (simp; done) | (simp; omega) | (rw [arrL_length]; omega)) (by first | rfl | (simp; done) | rfl | exact arrL_all (fun j => ite_one hR0.one rfl) | exact arrL_all (fun j => ite_one hR1.one rfl) | exact arrL_all (fun j => ite_one hR2.one rfl) | exact arrL_all (fun j => ite_one hR3.one rfl) | exact arrL_all (fun j => ite_one hR4.one rfl)) (by first | exact setL_whole (arrL_length _ _) | (simp only [setL, List.getElem?_cons_zero, List.getElem?_cons_succ, Value.cells, List.take_zero, List.take_succ_cons, List.take_nil, List.drop_zero, List.drop_succ_cons, List.drop_nil, List.length_cons, List.length_nil, List.cons_append, List.nil_append, List.append_nil, Nat.zero_add, Nat.add_zero, Nat.reduceAdd, Nat.reduceBEq, Nat.reduceEqDiff, Nat.ble, BEq.rfl, Bool.and_true, Bool.and_self, cond_true, beq_self_eq_true]; rfl)) ?_)
              clear hh w; intro w hh
              refine w_nil ?_
              have hl2 := hl.add (t := 3) (hl.add (t := 12) (hl.add (t := 16) (hl.add (t := 19) (hl.add (t := 25) (hl.add (t := 26) (hl.add (t := 27) (hl.add (t := 96) (hl.add (t := 97) (hl.add (t := 98) (hl.nil) rfl) rfl) rfl) rfl) rfl) rfl) rfl) rfl) rfl) rfl; clear hl; have hl := hl2; clear hl2
              refine then_normal ?_
              refine c_seq ?_
              refine c_region ?_
              refine wl (w_call hl hh rfl trivial rfl cal34 rfl (eqS2_spec (flK (ends g2 wn e).flr (wn % 4)) (flK_rng (B := 40 * ((z.i + 1 : Nat) : Int) + 1) (Q := 400 * ((z.i + 1 : Nat) : Int) + 4) hGe ⟨by omega, by omega⟩ (wn % 4)) (edN (wsK (ends g2 wn e).ws (wn % 4)) 16) (edK_len (B := 40 * ((z.i + 1 : Nat) : Int) + 1) (Q := 400 * ((z.i + 1 : Nat) : Int) + 4) hGe ⟨by omega, by omega⟩ (wn % 4)) (eg_ok (B := 40 * ((z.i + 1 : Nat) : Int) + 1) (Q := 400 * ((z.i + 1 : Nat) : Int) + 4) hGe ⟨by omega, by omega⟩) k19 k16 ve4 ve3 Ee4 Ee3 hR4 hR3) (by repeat (first | exact keeps_nil | apply keeps_cons (by repeat (first | exact find_head | apply find_tail | apply find_skip)) (by first  | rfl) | exact keeps_self | exact keeps_left | apply keeps_app | apply keeps_mv | apply keeps_skip)) ⟨memK (E := (k19, C (arrL 17 (shV (flK (ends g2 wn e).flr (wn % 4)) ve4)) 61) :: Ee4) hh (by repeat (first | exact keeps_nil | apply keeps_cons (by repeat (first | exact find_head | apply find_tail | apply find_skip)) (by first  | rfl) | exact keeps_self | exact keeps_left | apply keeps_app | apply keeps_mv | apply keeps_skip)), memK (E := (k16, C (arrL 17 (shV (flK (ends g2 wn e).flr (wn % 4)) ve3)) 61) :: Ee3) hh (by repeat (first | exact keeps_nil | apply keeps_cons (by repeat (first | exact find_head | apply find_tail | apply find_skip)) (by first  | rfl) | exact keeps_self | exact keeps_left | apply keeps_app | apply keeps_mv | apply keeps_skip))⟩ ?_)
              clear hl hh a w; intro vc Fc a w hR hl hh
              obtain ⟨rfl, rfl⟩ := hR
              try simp only [List.cons_append, List.nil_append, List.append_assoc, List.append_nil] at hh
              refine wl (wl_val hl rfl trivial (r_not hl rfl) ?_)
              clear hl a; intro a hl
              refine w_nil ?_
              have hl2 := hl.add (t := 3) (hl.add (t := 12) (hl.add (t := 16) (hl.add (t := 25) (hl.add (t := 26) (hl.add (t := 27) (hl.add (t := 96) (hl.add (t := 97) (hl.add (t := 98) (hl.add (t := 106) (hl.nil) rfl) rfl) rfl) rfl) rfl) rfl) rfl) rfl) rfl) rfl; clear hl; have hl := hl2; clear hl2
              refine then_normal ?_
              refine c_condF hl rfl ?_
              refine wp_skip ?_
              refine blk_normal ?_
              refine then_normal ?_
              refine c_region ?_
              first | refine wl (wl_val hl rfl trivial (r_add hl rfl rfl (by simp only [Fits]; omega)) ?_) | refine wl (wl_val hl rfl trivial (r_addW hl rfl rfl) ?_)
              clear hl a; intro a hl
              refine wl (wl_val hl rfl trivial (r_move hl rfl) ?_)
              clear hl a; intro a hl
              refine w_nil ?_
              have hl2 := hl.add (t := 3) (hl.add (t := 12) (hl.add (t := 16) (hl.add (t := 25) (hl.add (t := 26) (hl.add (t := 27) (hl.add (t := 96) (hl.add (t := 97) (hl.add (t := 98) (hl.nil) rfl) rfl) rfl) rfl) rfl) rfl) rfl) rfl) rfl; clear hl; have hl := hl2; clear hl2
              refine then_normal ?_
              refine ⟨(y + 1), (by omega), (by omega), hl.addE (t := 98) (hl.addE (t := 3) (hl.addE (t := 12) (hl.addE (t := 16) (hl.addE (t := 25) (hl.addE (t := 26) (hl.addE (t := 27) (hl.addE (t := 96) (hl.addE (t := 97) (hl.nil) rfl (by first | rfl | (congr 1; omega))) rfl (by first | rfl | (congr 1; omega))) rfl (by first | rfl | (congr 1; omega))) rfl (by first | rfl | (congr 1; omega))) rfl (by first | rfl | (congr 1; omega))) rfl (by first | rfl | (congr 1; omega))) rfl (by first | rfl | (congr 1; omega))) rfl (by first | rfl | (congr 1; omega))) rfl (by first | rfl | (congr 1; omega)), hh.keep (by repeat (first | exact keeps_nil | apply keeps_cons (by repeat (first | exact find_head | apply find_tail | apply find_skip)) (by first  | rfl) | exact keeps_self | exact keeps_left | apply keeps_app | apply keeps_mv | apply keeps_skip))⟩
            · intro hc5
              try simp only [decide_eq_true_eq, decide_eq_false_iff_not, Bool.not_eq_true', Bool.not_eq_false', Bool.not_eq_true, Bool.not_eq_false, Bool.and_eq_true, Bool.or_eq_true, Bool.and_eq_false_iff, Bool.or_eq_false_iff, Bool.not_not, ne_eq, Int.not_lt, Int.not_le, Decidable.not_not, beq_iff_eq, bne_iff_ne] at hc5
              refine wp_exit ?_
              refine then_exit ?_
              refine then_exit ?_
              refine blk_exit ?_
              refine blk_normal ?_
              refine then_normal ?_
              refine c_region ?_
              first | refine wl (wl_val hl rfl trivial (r_add hl rfl rfl (by simp only [Fits]; omega)) ?_) | refine wl (wl_val hl rfl trivial (r_addW hl rfl rfl) ?_)
              clear hl a; intro a hl
              refine wl (wl_val hl rfl trivial (r_move hl rfl) ?_)
              clear hl a; intro a hl
              refine w_nil ?_
              have hl2 := hl.add (t := 3) (hl.add (t := 25) (hl.add (t := 26) (hl.add (t := 27) (hl.nil) rfl) rfl) rfl) rfl; clear hl; have hl := hl2; clear hl2
              refine then_normal ?_
              refine ⟨⟨g2, M2, z.i + 1⟩, (by simp only; omega), ⟨by simp only; omega, hS2, hG3⟩, hl.addE (t := 27) (hl.addE (t := 3) (hl.addE (t := 25) (hl.addE (t := 26) (hl.nil) rfl (by first | rfl | (congr 1; omega))) rfl (by first | rfl | (congr 1; omega))) rfl (by first | rfl | (congr 1; omega))) rfl (by first | rfl | (congr 1; omega)), hh.keep (by repeat (first | exact keeps_nil | apply keeps_cons (by repeat (first | exact find_head | apply find_tail | apply find_skip)) (by first  | rfl) | exact keeps_self | exact keeps_left | apply keeps_app | apply keeps_mv | apply keeps_skip))⟩
          · intro hc3
            try simp only [decide_eq_true_eq, decide_eq_false_iff_not, Bool.not_eq_true', Bool.not_eq_false', Bool.not_eq_true, Bool.not_eq_false, Bool.and_eq_true, Bool.or_eq_true, Bool.and_eq_false_iff, Bool.or_eq_false_iff, Bool.not_not, ne_eq, Int.not_lt, Int.not_le, Decidable.not_not, beq_iff_eq, bne_iff_ne] at hc3
            obtain ⟨e, he⟩ : ∃ e, e = g2.ep wn + o.c % 4 := ⟨_, rfl⟩
            have her : 0 ≤ e ∧ e ≤ 400 * ((z.i + 1 : Nat) : Int) + 4 := by omega
            rw [← he] at hh
            clear he
            have hGe : GI (40 * ((z.i + 1 : Nat) : Int) + 1) (400 * ((z.i + 1 : Nat) : Int) + 4) (ends g2 wn e) := hG4.apply (u := ⟨3, wn, e, 0#16⟩) ⟨by omega, by omega⟩ hwn16 her
            refine wp_skip ?_
            refine then_normal ?_
            refine c_seq ?_
            refine c_region ?_
            refine wl (wl_val hl rfl trivial (r_makeFunc hl rfl) ?_)
            clear hl a; intro a hl
            refine wl (wl_val hl rfl trivial (r_assign hl rfl) ?_)
            clear hl a; intro a hl
            refine w_nil ?_
            have hl2 := hl.add (t := 3) (hl.add (t := 7) (hl.add (t := 8) (hl.add (t := 10) (hl.add (t := 25) (hl.add (t := 26) (hl.add (t := 27) (hl.nil) rfl) rfl) rfl) rfl) rfl) rfl) rfl; clear hl; have hl := hl2; clear hl2
            refine then_normal ?_
            refine c_seq ?_
            refine c_region ?_
            refine wl (wl_val hl rfl trivial (r_move hl rfl) ?_)
            clear hl a; intro a hl
            refine wl (wl_val hl rfl trivial (r_move hl rfl) ?_)
            clear hl a; intro a hl
            refine wl (w_call hl hh rfl trivial rfl cal31 rfl (msg_spec 1 (mi s) ((wn % 4 : Nat) : Int) e (mi_rng s) wn hwn16 o k5 k8 k6 k9) (by repeat (first | exact keeps_nil | apply keeps_cons (by repeat (first | exact find_head | apply find_tail | apply find_skip)) (by first  | rfl) | exact keeps_self | exact keeps_left | apply keeps_app | apply keeps_mv | apply keeps_skip)) (memK (E := [(k5, C (opc o) 32), (k8, C [.int .i64 ((wn % 4 : Nat) : Int)] 58), (k6, C [.int .i64 (wn : Int)] 52), (k9, C [.int .u64 e] 48)]) hh (by repeat (first | exact keeps_nil | apply keeps_cons (by repeat (first | exact find_head | apply find_tail | apply find_skip)) (by first  | rfl) | exact keeps_self | exact keeps_left | apply keeps_app | apply keeps_mv | apply keeps_skip))) ?_)
            clear hl hh a w; intro vc Fc a w hR hl hh
            obtain ⟨rfl, rfl⟩ := hR
            try simp only [List.cons_append, List.nil_append, List.append_assoc, List.append_nil] at hh
            refine wl (wl_val hl rfl trivial (r_move hl rfl) ?_)
            clear hl a; intro a hl
            refine wl (wl_val hl rfl trivial (r_move hl rfl) ?_)
            clear hl a; intro a hl
            refine wl (w_call hl hh rfl trivial rfl cal31 rfl (msg_spec 2 (mi s) ((wn % 4 : Nat) : Int) e (mi_rng s) wn hwn16 o k5 k8 k6 k9) (by repeat (first | exact keeps_nil | apply keeps_cons (by repeat (first | exact find_head | apply find_tail | apply find_skip)) (by first  | rfl) | exact keeps_self | exact keeps_left | apply keeps_app | apply keeps_mv | apply keeps_skip)) (memK (E := [(k5, C (opc o) 32), (k8, C [.int .i64 ((wn % 4 : Nat) : Int)] 58), (k6, C [.int .i64 (wn : Int)] 52), (k9, C [.int .u64 e] 48)]) hh (by repeat (first | exact keeps_nil | apply keeps_cons (by repeat (first | exact find_head | apply find_tail | apply find_skip)) (by first  | rfl) | exact keeps_self | exact keeps_left | apply keeps_app | apply keeps_mv | apply keeps_skip))) ?_)
            clear hl hh a w; intro vc Fc a w hR hl hh
            obtain ⟨rfl, rfl⟩ := hR
            try simp only [List.cons_append, List.nil_append, List.append_assoc, List.append_nil] at hh
            refine wl (wl_val hl rfl trivial (r_move hl rfl) ?_)
            clear hl a; intro a hl
            refine wl (w_call hl hh rfl trivial rfl cal31 rfl (msg_spec 3 0 ((wn % 4 : Nat) : Int) e ⟨by omega, by omega⟩ wn hwn16 o k5 k8 k6 k9) (by repeat (first | exact keeps_nil | apply keeps_cons (by repeat (first | exact find_head | apply find_tail | apply find_skip)) (by first  | rfl) | exact keeps_self | exact keeps_left | apply keeps_app | apply keeps_mv | apply keeps_skip)) (memK (E := [(k5, C (opc o) 32), (k8, C [.int .i64 ((wn % 4 : Nat) : Int)] 58), (k6, C [.int .i64 (wn : Int)] 52), (k9, C [.int .u64 e] 48)]) hh (by repeat (first | exact keeps_nil | apply keeps_cons (by repeat (first | exact find_head | apply find_tail | apply find_skip)) (by first  | rfl) | exact keeps_self | exact keeps_left | apply keeps_app | apply keeps_mv | apply keeps_skip))) ?_)
            clear hl hh a w; intro vc Fc a w hR hl hh
            obtain ⟨rfl, rfl⟩ := hR
            try simp only [List.cons_append, List.nil_append, List.append_assoc, List.append_nil] at hh
            refine wl (wl_val hl rfl trivial (r_build hl rfl zero85 bld85 (by simp only [fillL, setL, List.getElem?_cons_zero, List.getElem?_cons_succ, Value.cells, List.take_zero, List.take_succ_cons, List.take_nil, List.drop_zero, List.drop_succ_cons, List.drop_nil, List.length_cons, List.length_nil, List.cons_append, List.nil_append, List.append_nil, Nat.zero_add, Nat.add_zero, Nat.reduceAdd, Nat.reduceBEq, Nat.reduceEqDiff, Nat.ble, BEq.rfl, Bool.and_true, Bool.and_self, cond_true, beq_self_eq_true]; rfl)) ?_)
            clear hl a; intro a hl
            refine wl (w_alloc hl hh rfl trivial zero85 rfl ?_)
            clear hl hh a w; intro k11 a w hl hh
            refine wl (w_storeA hl hh trivial agg85 rfl rfl (by repeat (first | exact find_head | apply find_tail | apply find_skip)) (by first | rfl | (simp; done) | rfl | exact arrL_length _ _) (by first | (simp; done) | (simp; omega) | (rw [arrL_length]; omega)) (by first | rfl | (simp; done) | rfl | exact arrL_all (fun j => ite_one hR0.one rfl) | exact arrL_all (fun j => ite_one hR1.one rfl) | exact arrL_all (fun j => ite_one hR2.one rfl) | exact arrL_all (fun j => ite_one hR3.one rfl) | exact arrL_all (fun j => ite_one hR4.one rfl)) (by first | exact setL_whole (arrL_length _ _) | (simp only [setL, List.getElem?_cons_zero, List.getElem?_cons_succ, Value.cells, List.take_zero, List.take_succ_cons, List.take_nil, List.drop_zero, List.drop_succ_cons, List.drop_nil, List.length_cons, List.length_nil, List.cons_append, List.nil_append, List.append_nil, Nat.zero_add, Nat.add_zero, Nat.reduceAdd, Nat.reduceBEq, Nat.reduceEqDiff, Nat.ble, BEq.rfl, Bool.and_true, Bool.and_self, cond_true, beq_self_eq_true]; rfl)) ?_)
            clear hh w; intro w hh
            refine w_nil ?_
            have hl2 := hl.add (t := 3) (hl.add (t := 8) (hl.add (t := 11) (hl.add (t := 25) (hl.add (t := 26) (hl.add (t := 27) (hl.nil) rfl) rfl) rfl) rfl) rfl) rfl; clear hl; have hl := hl2; clear hl2
            refine then_normal ?_
            refine c_seq ?_
            refine c_region ?_
            refine wl (wl_val hl rfl trivial (r_makeFunc hl rfl) ?_)
            clear hl a; intro a hl
            refine wl (wl_val hl rfl trivial (r_assign hl rfl) ?_)
            clear hl a; intro a hl
            refine w_nil ?_
            have hl2 := hl.add (t := 3) (hl.add (t := 8) (hl.add (t := 12) (hl.add (t := 25) (hl.add (t := 26) (hl.add (t := 27) (hl.nil) rfl) rfl) rfl) rfl) rfl) rfl; clear hl; have hl := hl2; clear hl2
            refine then_normal ?_
            refine c_seq ?_
            refine c_region ?_
            refine wl (w_load hl hh rfl trivial one24 rfl (by repeat (first | exact find_head | apply find_tail | apply find_skip)) (by first | exact hcell | rfl | rfl) ?_)
            clear hl a; intro a hl
            refine wl (w_load hl hh rfl trivial one58 rfl (by repeat (first | exact find_head | apply find_tail | apply find_skip)) (by first | exact hcell | rfl | rfl) ?_)
            clear hl a; intro a hl
            refine wl (w_call hl hh rfl trivial rfl cal22 rfl (shard_spec hS2 bg (40 * ((z.i + 1 : Nat) : Int)) (400 * ((z.i + 1 : Nat) : Int) + 4) ⟨by omega, by omega⟩ hG4 (wn % 4) (by omega)) (by repeat (first | exact keeps_nil | apply keeps_cons (by repeat (first | exact find_head | apply find_tail | apply find_skip)) (by first  | rfl) | exact keeps_self | exact keeps_left | apply keeps_app | apply keeps_mv | apply keeps_skip)) (memK (E := sysL bg M2) hh (by repeat (first | exact keeps_nil | apply keeps_cons (by repeat (first | exact find_head | apply find_tail | apply find_skip)) (by first  | rfl) | exact keeps_self | exact keeps_left | apply keeps_app | apply keeps_mv | apply keeps_skip))) ?_)
            clear hl hh a w; intro vc Fc a w hR hl hh
            obtain ⟨ve0, rfl, hR0⟩ := hR
            try simp only [List.cons_append, List.nil_append, List.append_assoc, List.append_nil] at hh
            generalize Fc = Ee0 at hh hR0
            refine wl (wl_val hl rfl trivial (r_move hl rfl) ?_)
            clear hl a; intro a hl
            refine wl (w_buildSlice hl hh rfl trivial app86 zero3 rfl rfl rfl rfl rfl (by simp only [fillL, arrPl, List.range_succ, List.range_zero, List.map_cons, List.map_nil, List.map_append, List.nil_append, List.replicate_succ, List.replicate_zero, List.flatten_cons, List.flatten_nil, Nat.zero_mul, Nat.mul_one, Nat.one_mul, Nat.reduceMul, setL, List.getElem?_cons_zero, List.getElem?_cons_succ, Value.cells, List.take_zero, List.take_succ_cons, List.take_nil, List.drop_zero, List.drop_succ_cons, List.drop_nil, List.length_cons, List.length_nil, List.cons_append, List.nil_append, List.append_nil, Nat.zero_add, Nat.add_zero, Nat.reduceAdd, Nat.reduceBEq, Nat.reduceEqDiff, Nat.ble, BEq.rfl, Bool.and_true, Bool.and_self, cond_true, beq_self_eq_true]; rfl) ?_)
            clear hl hh a w; intro k77 a w hl hh
            refine wl (w_call hl hh rfl trivial rfl cal32 rfl (play_spec hS2 bg tT tf (40 * ((z.i + 1 : Nat) : Int)) (400 * ((z.i + 1 : Nat) : Int) + 4) ⟨by omega, by omega⟩ (by omega) (by omega) hG4 (wn % 4) (by omega) (ms7 (o.b % 4) wn e s) (us7 wn e s) (ms7_us hwn16 her (by omega) hsz hsb) rfl [0, 1] (by decide) (by decide) 2 k77 k3 k11 k8) (by repeat (first | exact keeps_nil | apply keeps_cons (by repeat (first | exact find_head | apply find_tail | apply find_skip)) (by first  | rfl) | exact keeps_self | exact keeps_left | apply keeps_app | apply keeps_mv | apply keeps_skip)) ⟨⟨memK (E := sysL bg M2) hh (by repeat (first | exact keeps_nil | apply keeps_cons (by repeat (first | exact find_head | apply find_tail | apply find_skip)) (by first  | rfl) | exact keeps_self | exact keeps_left | apply keeps_app | apply keeps_mv | apply keeps_skip)), (pt_law (Fn := []) hh hpre.2 (by repeat (first | exact keeps_nil | apply keeps_cons (by repeat (first | exact find_head | apply find_tail | apply find_skip)) (by first  | rfl) | exact keeps_self | exact keeps_left | apply keeps_app | apply keeps_mv | apply keeps_skip))).1⟩, (mem1 (memK (E := [(k3, C [.pointer (some ⟨bg, 0, none⟩)] 24)]) hh (by repeat (first | exact keeps_nil | apply keeps_cons (by repeat (first | exact find_head | apply find_tail | apply find_skip)) (by first  | rfl) | exact keeps_self | exact keeps_left | apply keeps_app | apply keeps_mv | apply keeps_skip)))), (mem1 (memK (E := [(k11, C (fl rmc (ms7 (o.b % 4) wn e s) ++ []) 85)]) hh (by repeat (first | exact keeps_nil | apply keeps_cons (by repeat (first | exact find_head | apply find_tail | apply find_skip)) (by first  | rfl) | exact keeps_self | exact keeps_left | apply keeps_app | apply keeps_mv | apply keeps_skip)))), (mem1 (memK (E := [(k8, C [.int .i64 ((wn % 4 : Nat) : Int)] 58)]) hh (by repeat (first | exact keeps_nil | apply keeps_cons (by repeat (first | exact find_head | apply find_tail | apply find_skip)) (by first  | rfl) | exact keeps_self | exact keeps_left | apply keeps_app | apply keeps_mv | apply keeps_skip)))), (mem1 (memK (E := [(k77, C (fl ivc [0, 1] ++ []) 3)]) hh (by repeat (first | exact keeps_nil | apply keeps_cons (by repeat (first | exact find_head | apply find_tail | apply find_skip)) (by first  | rfl) | exact keeps_self | exact keeps_left | apply keeps_app | apply keeps_mv | apply keeps_skip))))⟩ ?_)
            clear hl hh a w; intro vc Fc a w hR hl hh
            obtain ⟨ve1, rfl, hR1⟩ := hR
            try simp only [List.cons_append, List.nil_append, List.append_assoc, List.append_nil] at hh
            rw [pl01 hok7] at hl hR1
            generalize Fc = Ee1 at hh hR1
            refine wl (wl_val hl rfl trivial (r_move hl rfl) ?_)
            clear hl a; intro a hl
            refine wl (w_buildSlice hl hh rfl trivial app86 zero3 rfl rfl rfl rfl rfl (by simp only [fillL, arrPl, List.range_succ, List.range_zero, List.map_cons, List.map_nil, List.map_append, List.nil_append, List.replicate_succ, List.replicate_zero, List.flatten_cons, List.flatten_nil, Nat.zero_mul, Nat.mul_one, Nat.one_mul, Nat.reduceMul, setL, List.getElem?_cons_zero, List.getElem?_cons_succ, Value.cells, List.take_zero, List.take_succ_cons, List.take_nil, List.drop_zero, List.drop_succ_cons, List.drop_nil, List.length_cons, List.length_nil, List.cons_append, List.nil_append, List.append_nil, Nat.zero_add, Nat.add_zero, Nat.reduceAdd, Nat.reduceBEq, Nat.reduceEqDiff, Nat.ble, BEq.rfl, Bool.and_true, Bool.and_self, cond_true, beq_self_eq_true]; rfl) ?_)
            clear hl hh a w; intro k80 a w hl hh
            refine wl (w_call hl hh rfl trivial rfl cal32 rfl (play_spec hS2 bg tT tf (40 * ((z.i + 1 : Nat) : Int)) (400 * ((z.i + 1 : Nat) : Int) + 4) ⟨by omega, by omega⟩ (by omega) (by omega) hG4 (wn % 4) (by omega) (ms7 (o.b % 4) wn e s) (us7 wn e s) (ms7_us hwn16 her (by omega) hsz hsb) rfl [1, 0] (by decide) (by decide) 2 k80 k3 k11 k8) (by repeat (first | exact keeps_nil | apply keeps_cons (by repeat (first | exact find_head | apply find_tail | apply find_skip)) (by first  | rfl) | exact keeps_self | exact keeps_left | apply keeps_app | apply keeps_mv | apply keeps_skip)) ⟨⟨memK (E := sysL bg M2) hh (by repeat (first | exact keeps_nil | apply keeps_cons (by repeat (first | exact find_head | apply find_tail | apply find_skip)) (by first  | rfl) | exact keeps_self | exact keeps_left | apply keeps_app | apply keeps_mv | apply keeps_skip)), (pt_law (Fn := []) hh hpre.2 (by repeat (first | exact keeps_nil | apply keeps_cons (by repeat (first | exact find_head | apply find_tail | apply find_skip)) (by first  | rfl) | exact keeps_self | exact keeps_left | apply keeps_app | apply keeps_mv | apply keeps_skip))).1⟩, (mem1 (memK (E := [(k3, C [.pointer (some ⟨bg, 0, none⟩)] 24)]) hh (by repeat (first | exact keeps_nil | apply keeps_cons (by repeat (first | exact find_head | apply find_tail | apply find_skip)) (by first  | rfl) | exact keeps_self | exact keeps_left | apply keeps_app | apply keeps_mv | apply keeps_skip)))), (mem1 (memK (E := [(k11, C (fl rmc (ms7 (o.b % 4) wn e s) ++ []) 85)]) hh (by repeat (first | exact keeps_nil | apply keeps_cons (by repeat (first | exact find_head | apply find_tail | apply find_skip)) (by first  | rfl) | exact keeps_self | exact keeps_left | apply keeps_app | apply keeps_mv | apply keeps_skip)))), (mem1 (memK (E := [(k8, C [.int .i64 ((wn % 4 : Nat) : Int)] 58)]) hh (by repeat (first | exact keeps_nil | apply keeps_cons (by repeat (first | exact find_head | apply find_tail | apply find_skip)) (by first  | rfl) | exact keeps_self | exact keeps_left | apply keeps_app | apply keeps_mv | apply keeps_skip)))), (mem1 (memK (E := [(k80, C (fl ivc [1, 0] ++ []) 3)]) hh (by repeat (first | exact keeps_nil | apply keeps_cons (by repeat (first | exact find_head | apply find_tail | apply find_skip)) (by first  | rfl) | exact keeps_self | exact keeps_left | apply keeps_app | apply keeps_mv | apply keeps_skip))))⟩ ?_)
            clear hl hh a w; intro vc Fc a w hR hl hh
            obtain ⟨ve2, rfl, hR2⟩ := hR
            try simp only [List.cons_append, List.nil_append, List.append_assoc, List.append_nil] at hh
            rw [pl10 hok7] at hl hR2
            generalize Fc = Ee2 at hh hR2
            refine wl (w_alloc hl hh rfl trivial zero61 rfl ?_)
            clear hl hh a w; intro k13 a w hl hh
            refine wl (w_alloc hl hh rfl trivial zero61 rfl ?_)
            clear hl hh a w; intro k14 a w hl hh
            refine wl (w_alloc hl hh rfl trivial zero61 rfl ?_)
            clear hl hh a w; intro k15 a w hl hh
            refine wl (w_storeA hl hh trivial agg61 rfl rfl (by repeat (first | exact find_head | apply find_tail | apply find_skip)) (by first | rfl | (simp; done) | rfl | exact arrL_length _ _) (by first | (simp; done) | (simp; omega) | (rw [arrL_length]; omega)) (by first | rfl | (simp; done) | rfl | exact arrL_all (fun j => ite_one hR0.one rfl) | exact arrL_all (fun j => ite_one hR1.one rfl) | exact arrL_all (fun j => ite_one hR2.one rfl) | exact arrL_all (fun j => ite_one hR3.one rfl) | exact arrL_all (fun j => ite_one hR4.one rfl)) (by first | exact setL_whole (arrL_length _ _) | (simp only [setL, List.getElem?_cons_zero, List.getElem?_cons_succ, Value.cells, List.take_zero, List.take_succ_cons, List.take_nil, List.drop_zero, List.drop_succ_cons, List.drop_nil, List.length_cons, List.length_nil, List.cons_append, List.nil_append, List.append_nil, Nat.zero_add, Nat.add_zero, Nat.reduceAdd, Nat.reduceBEq, Nat.reduceEqDiff, Nat.ble, BEq.rfl, Bool.and_true, Bool.and_self, cond_true, beq_self_eq_true]; rfl)) ?_)
            clear hh w; intro w hh
            refine wl (w_storeA hl hh trivial agg61 rfl rfl (by repeat (first | exact find_head | apply find_tail | apply find_skip)) (by first | rfl | (simp; done) | rfl | exact arrL_length _ _) (by first | (simp; done) | (simp; omega) | (rw [arrL_length]; omega)) (by first | rfl | (simp; done) | rfl | exact arrL_all (fun j => ite_one hR0.one rfl) | exact arrL_all (fun j => ite_one hR1.one rfl) | exact arrL_all (fun j => ite_one hR2.one rfl) | exact arrL_all (fun j => ite_one hR3.one rfl) | exact arrL_all (fun j => ite_one hR4.one rfl)) (by first | exact setL_whole (arrL_length _ _) | (simp only [setL, List.getElem?_cons_zero, List.getElem?_cons_succ, Value.cells, List.take_zero, List.take_succ_cons, List.take_nil, List.drop_zero, List.drop_succ_cons, List.drop_nil, List.length_cons, List.length_nil, List.cons_append, List.nil_append, List.append_nil, Nat.zero_add, Nat.add_zero, Nat.reduceAdd, Nat.reduceBEq, Nat.reduceEqDiff, Nat.ble, BEq.rfl, Bool.and_true, Bool.and_self, cond_true, beq_self_eq_true]; rfl)) ?_)
            clear hh w; intro w hh
            refine wl (w_storeA hl hh trivial agg61 rfl rfl (by repeat (first | exact find_head | apply find_tail | apply find_skip)) (by first | rfl | (simp; done) | rfl | exact arrL_length _ _) (by first | (simp; done) | (simp; omega) | (rw [arrL_length]; omega)) (by first | rfl | (simp; done) | rfl | exact arrL_all (fun j => ite_one hR0.one rfl) | exact arrL_all (fun j => ite_one hR1.one rfl) | exact arrL_all (fun j => ite_one hR2.one rfl) | exact arrL_all (fun j => ite_one hR3.one rfl) | exact arrL_all (fun j => ite_one hR4.one rfl)) (by first | exact setL_whole (arrL_length _ _) | (simp only [setL, List.getElem?_cons_zero, List.getElem?_cons_succ, Value.cells, List.take_zero, List.take_succ_cons, List.take_nil, List.drop_zero, List.drop_succ_cons, List.drop_nil, List.length_cons, List.length_nil, List.cons_append, List.nil_append, List.append_nil, Nat.zero_add, Nat.add_zero, Nat.reduceAdd, Nat.reduceBEq, Nat.reduceEqDiff, Nat.ble, BEq.rfl, Bool.and_true, Bool.and_self, cond_true, beq_self_eq_true]; rfl)) ?_)
            clear hh w; intro w hh
            refine w_nil ?_
            have hl2 := hl.add (t := 3) (hl.add (t := 12) (hl.add (t := 13) (hl.add (t := 14) (hl.add (t := 15) (hl.add (t := 25) (hl.add (t := 26) (hl.add (t := 27) (hl.nil) rfl) rfl) rfl) rfl) rfl) rfl) rfl) rfl; clear hl; have hl := hl2; clear hl2
            refine then_normal ?_
            refine c_seq ?_
            refine c_seq ?_
            refine c_region ?_
            refine wl (w_call hl hh rfl trivial rfl cal34 rfl (eqS2_spec (flK g2.flr (wn % 4)) (flK_rng (B := 40 * ((z.i + 1 : Nat) : Int)) (Q := 400 * ((z.i + 1 : Nat) : Int) + 4) hG4 ⟨by omega, by omega⟩ (wn % 4)) (edN (wsK g2.ws (wn % 4)) 16) (edK_len (B := 40 * ((z.i + 1 : Nat) : Int)) (Q := 400 * ((z.i + 1 : Nat) : Int) + 4) hG4 ⟨by omega, by omega⟩ (wn % 4)) (eg_ok (B := 40 * ((z.i + 1 : Nat) : Int)) (Q := 400 * ((z.i + 1 : Nat) : Int) + 4) hG4 ⟨by omega, by omega⟩) k14 k13 ve1 ve0 Ee1 Ee0 hR1 hR0) (by repeat (first | exact keeps_nil | apply keeps_cons (by repeat (first | exact find_head | apply find_tail | apply find_skip)) (by first  | rfl) | exact keeps_self | exact keeps_left | apply keeps_app | apply keeps_mv | apply keeps_skip)) ⟨memK (E := (k14, C (arrL 17 (shV (flK g2.flr (wn % 4)) ve1)) 61) :: Ee1) hh (by repeat (first | exact keeps_nil | apply keeps_cons (by repeat (first | exact find_head | apply find_tail | apply find_skip)) (by first  | rfl) | exact keeps_self | exact keeps_left | apply keeps_app | apply keeps_mv | apply keeps_skip)), memK (E := (k13, C (arrL 17 (shV (flK g2.flr (wn % 4)) ve0)) 61) :: Ee0) hh (by repeat (first | exact keeps_nil | apply keeps_cons (by repeat (first | exact find_head | apply find_tail | apply find_skip)) (by first  | rfl) | exact keeps_self | exact keeps_left | apply keeps_app | apply keeps_mv | apply keeps_skip))⟩ ?_)
            clear hl hh a w; intro vc Fc a w hR hl hh
            obtain ⟨rfl, rfl⟩ := hR
            try simp only [List.cons_append, List.nil_append, List.append_assoc, List.append_nil] at hh
            refine wl (wl_val hl rfl trivial (r_not hl rfl) ?_)
            clear hl a; intro a hl
            refine wl (wl_val hl rfl trivial (r_move hl rfl) ?_)
            clear hl a; intro a hl
            refine wl (w_call hl hh rfl ⟨_, _, rfl, rfl, rfl⟩ rfl cal34 rfl (eqS2_spec (flK g2.flr (wn % 4)) (flK_rng (B := 40 * ((z.i + 1 : Nat) : Int)) (Q := 400 * ((z.i + 1 : Nat) : Int) + 4) hG4 ⟨by omega, by omega⟩ (wn % 4)) (edN (wsK g2.ws (wn % 4)) 16) (edK_len (B := 40 * ((z.i + 1 : Nat) : Int)) (Q := 400 * ((z.i + 1 : Nat) : Int) + 4) hG4 ⟨by omega, by omega⟩ (wn % 4)) (eg_ok (B := 40 * ((z.i + 1 : Nat) : Int)) (Q := 400 * ((z.i + 1 : Nat) : Int) + 4) hG4 ⟨by omega, by omega⟩) k15 k13 ve2 ve0 Ee2 Ee0 hR2 hR0) (by repeat (first | exact keeps_nil | apply keeps_cons (by repeat (first | exact find_head | apply find_tail | apply find_skip)) (by first  | rfl) | exact keeps_self | exact keeps_left | apply keeps_app | apply keeps_mv | apply keeps_skip)) ⟨memK (E := (k15, C (arrL 17 (shV (flK g2.flr (wn % 4)) ve2)) 61) :: Ee2) hh (by repeat (first | exact keeps_nil | apply keeps_cons (by repeat (first | exact find_head | apply find_tail | apply find_skip)) (by first  | rfl) | exact keeps_self | exact keeps_left | apply keeps_app | apply keeps_mv | apply keeps_skip)), memK (E := (k13, C (arrL 17 (shV (flK g2.flr (wn % 4)) ve0)) 61) :: Ee0) hh (by repeat (first | exact keeps_nil | apply keeps_cons (by repeat (first | exact find_head | apply find_tail | apply find_skip)) (by first  | rfl) | exact keeps_self | exact keeps_left | apply keeps_app | apply keeps_mv | apply keeps_skip))⟩ ?_)
            clear hl hh a w; intro vc Fc a w hR hl hh
            obtain ⟨rfl, rfl⟩ := hR
            try simp only [List.cons_append, List.nil_append, List.append_assoc, List.append_nil] at hh
            refine wl (wl_val hl rfl ⟨_, _, rfl, rfl, rfl⟩ (r_not hl rfl) ?_)
            clear hl a; intro a hl
            refine wl (wl_val hl rfl trivial (r_pickF hl rfl rfl) ?_)
            clear hl a; intro a hl
            refine w_nil ?_
            have hl2 := hl.add (t := 3) (hl.add (t := 12) (hl.add (t := 25) (hl.add (t := 26) (hl.add (t := 27) (hl.add (t := 87) (hl.nil) rfl) rfl) rfl) rfl) rfl) rfl; clear hl; have hl := hl2; clear hl2
            refine then_normal ?_
            refine c_condF hl rfl ?_
            refine wp_skip ?_
            refine then_normal ?_
            refine c_seq ?_
            refine c_region ?_
            refine wl (wl_val hl rfl trivial (r_move hl rfl) ?_)
            clear hl a; intro a hl
            refine wl (w_buildSlice hl hh rfl trivial app86 zero3 rfl rfl rfl rfl rfl (by simp only [fillL, arrPl, List.range_succ, List.range_zero, List.map_cons, List.map_nil, List.map_append, List.nil_append, List.replicate_succ, List.replicate_zero, List.flatten_cons, List.flatten_nil, Nat.zero_mul, Nat.mul_one, Nat.one_mul, Nat.reduceMul, setL, List.getElem?_cons_zero, List.getElem?_cons_succ, Value.cells, List.take_zero, List.take_succ_cons, List.take_nil, List.drop_zero, List.drop_succ_cons, List.drop_nil, List.length_cons, List.length_nil, List.cons_append, List.nil_append, List.append_nil, Nat.zero_add, Nat.add_zero, Nat.reduceAdd, Nat.reduceBEq, Nat.reduceEqDiff, Nat.ble, BEq.rfl, Bool.and_true, Bool.and_self, cond_true, beq_self_eq_true]; rfl) ?_)
            clear hl hh a w; intro k89 a w hl hh
            refine wl (w_call hl hh rfl trivial rfl cal32 rfl (play_spec hS2 bg tT tf (40 * ((z.i + 1 : Nat) : Int)) (400 * ((z.i + 1 : Nat) : Int) + 4) ⟨by omega, by omega⟩ (by omega) (by omega) hG4 (wn % 4) (by omega) (ms7 (o.b % 4) wn e s) (us7 wn e s) (ms7_us hwn16 her (by omega) hsz hsb) rfl [0, 1, 2] (by decide) (by decide) 3 k89 k3 k11 k8) (by repeat (first | exact keeps_nil | apply keeps_cons (by repeat (first | exact find_head | apply find_tail | apply find_skip)) (by first  | rfl) | exact keeps_self | exact keeps_left | apply keeps_app | apply keeps_mv | apply keeps_skip)) ⟨⟨memK (E := sysL bg M2) hh (by repeat (first | exact keeps_nil | apply keeps_cons (by repeat (first | exact find_head | apply find_tail | apply find_skip)) (by first  | rfl) | exact keeps_self | exact keeps_left | apply keeps_app | apply keeps_mv | apply keeps_skip)), (pt_law (Fn := []) hh hpre.2 (by repeat (first | exact keeps_nil | apply keeps_cons (by repeat (first | exact find_head | apply find_tail | apply find_skip)) (by first  | rfl) | exact keeps_self | exact keeps_left | apply keeps_app | apply keeps_mv | apply keeps_skip))).1⟩, (mem1 (memK (E := [(k3, C [.pointer (some ⟨bg, 0, none⟩)] 24)]) hh (by repeat (first | exact keeps_nil | apply keeps_cons (by repeat (first | exact find_head | apply find_tail | apply find_skip)) (by first  | rfl) | exact keeps_self | exact keeps_left | apply keeps_app | apply keeps_mv | apply keeps_skip)))), (mem1 (memK (E := [(k11, C (fl rmc (ms7 (o.b % 4) wn e s) ++ []) 85)]) hh (by repeat (first | exact keeps_nil | apply keeps_cons (by repeat (first | exact find_head | apply find_tail | apply find_skip)) (by first  | rfl) | exact keeps_self | exact keeps_left | apply keeps_app | apply keeps_mv | apply keeps_skip)))), (mem1 (memK (E := [(k8, C [.int .i64 ((wn % 4 : Nat) : Int)] 58)]) hh (by repeat (first | exact keeps_nil | apply keeps_cons (by repeat (first | exact find_head | apply find_tail | apply find_skip)) (by first  | rfl) | exact keeps_self | exact keeps_left | apply keeps_app | apply keeps_mv | apply keeps_skip)))), (mem1 (memK (E := [(k89, C (fl ivc [0, 1, 2] ++ []) 3)]) hh (by repeat (first | exact keeps_nil | apply keeps_cons (by repeat (first | exact find_head | apply find_tail | apply find_skip)) (by first  | rfl) | exact keeps_self | exact keeps_left | apply keeps_app | apply keeps_mv | apply keeps_skip))))⟩ ?_)
            clear hl hh a w; intro vc Fc a w hR hl hh
            obtain ⟨ve3, rfl, hR3⟩ := hR
            try simp only [List.cons_append, List.nil_append, List.append_assoc, List.append_nil] at hh
            rw [pl3 hok7 [0, 1, 2] (.inl rfl)] at hl hR3
            generalize Fc = Ee3 at hh hR3
            refine wl (w_alloc hl hh rfl trivial zero61 rfl ?_)
            clear hl hh a w; intro k16 a w hl hh
            refine wl (w_storeA hl hh trivial agg61 rfl rfl (by repeat (first | exact find_head | apply find_tail | apply find_skip)) (by first | rfl | (simp; done) | rfl | exact arrL_length _ _) (by first | (simp; done) | (simp; omega) | (rw [arrL_length]; omega)) (by first | rfl | (simp; done) | rfl | exact arrL_all (fun j => ite_one hR0.one rfl) | exact arrL_all (fun j => ite_one hR1.one rfl) | exact arrL_all (fun j => ite_one hR2.one rfl) | exact arrL_all (fun j => ite_one hR3.one rfl) | exact arrL_all (fun j => ite_one hR4.one rfl)) (by first | exact setL_whole (arrL_length _ _) | (simp only [setL, List.getElem?_cons_zero, List.getElem?_cons_succ, Value.cells, List.take_zero, List.take_succ_cons, List.take_nil, List.drop_zero, List.drop_succ_cons, List.drop_nil, List.length_cons, List.length_nil, List.cons_append, List.nil_append, List.append_nil, Nat.zero_add, Nat.add_zero, Nat.reduceAdd, Nat.reduceBEq, Nat.reduceEqDiff, Nat.ble, BEq.rfl, Bool.and_true, Bool.and_self, cond_true, beq_self_eq_true]; rfl)) ?_)
            clear hh w; intro w hh
            refine w_nil ?_
            have hl2 := hl.add (t := 3) (hl.add (t := 12) (hl.add (t := 16) (hl.add (t := 25) (hl.add (t := 26) (hl.add (t := 27) (hl.nil) rfl) rfl) rfl) rfl) rfl) rfl; clear hl; have hl := hl2; clear hl2
            refine then_normal ?_
            refine c_seq ?_
            refine c_region ?_
            refine wl (w_buildSlice hl hh rfl trivial app86 zero3 rfl rfl rfl rfl rfl (by simp only [fillL, arrPl, List.range_succ, List.range_zero, List.map_cons, List.map_nil, List.map_append, List.nil_append, List.replicate_succ, List.replicate_zero, List.flatten_cons, List.flatten_nil, Nat.zero_mul, Nat.mul_one, Nat.one_mul, Nat.reduceMul, setL, List.getElem?_cons_zero, List.getElem?_cons_succ, Value.cells, List.take_zero, List.take_succ_cons, List.take_nil, List.drop_zero, List.drop_succ_cons, List.drop_nil, List.length_cons, List.length_nil, List.cons_append, List.nil_append, List.append_nil, Nat.zero_add, Nat.add_zero, Nat.reduceAdd, Nat.reduceBEq, Nat.reduceEqDiff, Nat.ble, BEq.rfl, Bool.and_true, Bool.and_self, cond_true, beq_self_eq_true]; rfl) ?_)
            clear hl hh a w; intro k91 a w hl hh
            refine wl (w_buildSlice hl hh rfl trivial app86 zero3 rfl rfl rfl rfl rfl (by simp only [fillL, arrPl, List.range_succ, List.range_zero, List.map_cons, List.map_nil, List.map_append, List.nil_append, List.replicate_succ, List.replicate_zero, List.flatten_cons, List.flatten_nil, Nat.zero_mul, Nat.mul_one, Nat.one_mul, Nat.reduceMul, setL, List.getElem?_cons_zero, List.getElem?_cons_succ, Value.cells, List.take_zero, List.take_succ_cons, List.take_nil, List.drop_zero, List.drop_succ_cons, List.drop_nil, List.length_cons, List.length_nil, List.cons_append, List.nil_append, List.append_nil, Nat.zero_add, Nat.add_zero, Nat.reduceAdd, Nat.reduceBEq, Nat.reduceEqDiff, Nat.ble, BEq.rfl, Bool.and_true, Bool.and_self, cond_true, beq_self_eq_true]; rfl) ?_)
            clear hl hh a w; intro k92 a w hl hh
            refine wl (w_buildSlice hl hh rfl trivial app86 zero3 rfl rfl rfl rfl rfl (by simp only [fillL, arrPl, List.range_succ, List.range_zero, List.map_cons, List.map_nil, List.map_append, List.nil_append, List.replicate_succ, List.replicate_zero, List.flatten_cons, List.flatten_nil, Nat.zero_mul, Nat.mul_one, Nat.one_mul, Nat.reduceMul, setL, List.getElem?_cons_zero, List.getElem?_cons_succ, Value.cells, List.take_zero, List.take_succ_cons, List.take_nil, List.drop_zero, List.drop_succ_cons, List.drop_nil, List.length_cons, List.length_nil, List.cons_append, List.nil_append, List.append_nil, Nat.zero_add, Nat.add_zero, Nat.reduceAdd, Nat.reduceBEq, Nat.reduceEqDiff, Nat.ble, BEq.rfl, Bool.and_true, Bool.and_self, cond_true, beq_self_eq_true]; rfl) ?_)
            clear hl hh a w; intro k93 a w hl hh
            refine wl (w_buildSlice hl hh rfl trivial app86 zero3 rfl rfl rfl rfl rfl (by simp only [fillL, arrPl, List.range_succ, List.range_zero, List.map_cons, List.map_nil, List.map_append, List.nil_append, List.replicate_succ, List.replicate_zero, List.flatten_cons, List.flatten_nil, Nat.zero_mul, Nat.mul_one, Nat.one_mul, Nat.reduceMul, setL, List.getElem?_cons_zero, List.getElem?_cons_succ, Value.cells, List.take_zero, List.take_succ_cons, List.take_nil, List.drop_zero, List.drop_succ_cons, List.drop_nil, List.length_cons, List.length_nil, List.cons_append, List.nil_append, List.append_nil, Nat.zero_add, Nat.add_zero, Nat.reduceAdd, Nat.reduceBEq, Nat.reduceEqDiff, Nat.ble, BEq.rfl, Bool.and_true, Bool.and_self, cond_true, beq_self_eq_true]; rfl) ?_)
            clear hl hh a w; intro k94 a w hl hh
            refine wl (w_buildSlice hl hh rfl trivial app86 zero3 rfl rfl rfl rfl rfl (by simp only [fillL, arrPl, List.range_succ, List.range_zero, List.map_cons, List.map_nil, List.map_append, List.nil_append, List.replicate_succ, List.replicate_zero, List.flatten_cons, List.flatten_nil, Nat.zero_mul, Nat.mul_one, Nat.one_mul, Nat.reduceMul, setL, List.getElem?_cons_zero, List.getElem?_cons_succ, Value.cells, List.take_zero, List.take_succ_cons, List.take_nil, List.drop_zero, List.drop_succ_cons, List.drop_nil, List.length_cons, List.length_nil, List.cons_append, List.nil_append, List.append_nil, Nat.zero_add, Nat.add_zero, Nat.reduceAdd, Nat.reduceBEq, Nat.reduceEqDiff, Nat.ble, BEq.rfl, Bool.and_true, Bool.and_self, cond_true, beq_self_eq_true]; rfl) ?_)
            clear hl hh a w; intro k95 a w hl hh
            refine wl (w_buildSlice hl hh rfl trivial app91 zero86 rfl rfl rfl rfl rfl (by simp only [fillL, arrPl, List.range_succ, List.range_zero, List.map_cons, List.map_nil, List.map_append, List.nil_append, List.replicate_succ, List.replicate_zero, List.flatten_cons, List.flatten_nil, Nat.zero_mul, Nat.mul_one, Nat.one_mul, Nat.reduceMul, setL, List.getElem?_cons_zero, List.getElem?_cons_succ, Value.cells, List.take_zero, List.take_succ_cons, List.take_nil, List.drop_zero, List.drop_succ_cons, List.drop_nil, List.length_cons, List.length_nil, List.cons_append, List.nil_append, List.append_nil, Nat.zero_add, Nat.add_zero, Nat.reduceAdd, Nat.reduceBEq, Nat.reduceEqDiff, Nat.ble, BEq.rfl, Bool.and_true, Bool.and_self, cond_true, beq_self_eq_true]; rfl) ?_)
            clear hl hh a w; intro k96 a w hl hh
            refine wl (wl_val hl rfl trivial (r_lenS hl rfl slc91) ?_)
            clear hl a; intro a hl
            refine wl (wl_val hl rfl trivial (r_move hl rfl) ?_)
            clear hl a; intro a hl
            refine w_nil ?_
            have hl2 := hl.add (t := 3) (hl.add (t := 12) (hl.add (t := 16) (hl.add (t := 25) (hl.add (t := 26) (hl.add (t := 27) (hl.add (t := 96) (hl.add (t := 97) (hl.add (t := 98) (hl.nil) rfl) rfl) rfl) rfl) rfl) rfl) rfl) rfl) rfl; clear hl; have hl := hl2; clear hl2
            refine then_normal ?_
            refine wp_block ?_
            obtain ⟨KS1, hKS1, hk⟩ := (hl.add (t := 3) (hl.add (t := 12) (hl.add (t := 16) (hl.add (t := 25) (hl.add (t := 26) (hl.add (t := 27) (hl.add (t := 96) (hl.add (t := 97) (hl.nil) rfl) rfl) rfl) rfl) rfl) rfl) rfl) rfl).name
            obtain ⟨HS1, hHS1, hh2⟩ := hh.name (keeps_nil)
            refine c_loop (α := Nat) (fun y => 5 - y) (fun y a w => (y ≤ 5) ∧ Sl 109 ([(98, .int .i64 (y : Int))] ++ KS1) a ∧ Has _ w0 ([] ++ HS1) w) 0 ⟨(by omega), hl.addE (t := 98) (hk) rfl (by first | rfl), hh2⟩ ?_
            clear hk hh2 hl hh a w
            intro y a w hI
            obtain ⟨hy5, hl, hh⟩ := hI
            subst hKS1; subst hHS1
            simp only [List.cons_append, List.nil_append, List.append_nil, List.append_assoc] at hl hh
            refine c_seq ?_
            refine c_region ?_
            refine wl (wl_val hl rfl trivial (r_lss hl rfl rfl) ?_)
            clear hl a; intro a hl
            refine w_nil ?_
            have hl2 := hl.add (t := 3) (hl.add (t := 12) (hl.add (t := 16) (hl.add (t := 25) (hl.add (t := 26) (hl.add (t := 27) (hl.add (t := 96) (hl.add (t := 97) (hl.add (t := 98) (hl.add (t := 99) (hl.nil) rfl) rfl) rfl) rfl) rfl) rfl) rfl) rfl) rfl) rfl; clear hl; have hl := hl2; clear hl2
            refine then_normal ?_
            refine c_seq ?_
            refine c_cond hl rfl ?_ ?_
            · intro hc5
              try simp only [decide_eq_true_eq, decide_eq_false_iff_not, Bool.not_eq_true', Bool.not_eq_false', Bool.not_eq_true, Bool.not_eq_false, Bool.and_eq_true, Bool.or_eq_true, Bool.and_eq_false_iff, Bool.or_eq_false_iff, Bool.not_not, ne_eq, Int.not_lt, Int.not_le, Decidable.not_not, beq_iff_eq, bne_iff_ne] at hc5
              obtain ⟨ko, od, hcell, hmo, hol, hod⟩ : ∃ ko od, ([.slice (some ⟨k91, 0, none⟩) 3 3, .slice (some ⟨k92, 0, none⟩) 3 3, .slice (some ⟨k93, 0, none⟩) 3 3, .slice (some ⟨k94, 0, none⟩) 3 3, .slice (some ⟨k95, 0, none⟩) 3 3] : List Value)[0 + y * 1]? = some (.slice (some ⟨ko, 0, none⟩) od.length 3) ∧ (∀ w9, Mem [(k91, C (fl ivc [0, 2, 1] ++ []) 3), (k92, C (fl ivc [1, 0, 2] ++ []) 3), (k93, C (fl ivc [1, 2, 0] ++ []) 3), (k94, C (fl ivc [2, 0, 1] ++ []) 3), (k95, C (fl ivc [2, 1, 0] ++ []) 3)] w9 → w9.heap[ko]? = some (C (fl ivc od ++ []) 3)) ∧ od.length = 3 ∧ (od = [0, 1, 2] ∨ od = [0, 2, 1] ∨ od = [1, 0, 2] ∨ od = [1, 2, 0] ∨ od = [2, 0, 1] ∨ od = [2, 1, 0]) := by
                have hy9 : y = 0 ∨ y = 1 ∨ y = 2 ∨ y = 3 ∨ y = 4 := by omega
                rcases hy9 with rfl | rfl | rfl | rfl | rfl
                · exact ⟨k91, [0, 2, 1], rfl, fun w9 h9 => h9 _ _ (.head _), rfl, .inr (.inl rfl)⟩
                · exact ⟨k92, [1, 0, 2], rfl, fun w9 h9 => h9 _ _ (.tail _ (.head _)), rfl, .inr (.inr (.inl rfl))⟩
                · exact ⟨k93, [1, 2, 0], rfl, fun w9 h9 => h9 _ _ (.tail _ (.tail _ (.head _))), rfl, .inr (.inr (.inr (.inl rfl)))⟩
                · exact ⟨k94, [2, 0, 1], rfl, fun w9 h9 => h9 _ _ (.tail _ (.tail _ (.tail _ (.head _)))), rfl, .inr (.inr (.inr (.inr (.inl rfl))))⟩
                · exact ⟨k95, [2, 1, 0], rfl, fun w9 h9 => h9 _ _ (.tail _ (.tail _ (.tail _ (.tail _ (.head _))))), rfl, .inr (.inr (.inr (.inr (.inr (rfl)))))⟩
              have hod3 : ∀ j, j ∈ od → j < 3 := by rcases hod with rfl | rfl | rfl | rfl | rfl | rfl <;> decide
              refine wp_skip ?_
              refine then_normal ?_
              refine c_seq ?_
              refine wp_block ?_
              refine c_seq ?_
              refine c_region ?_
              refine wl (wl_val hl rfl trivial (r_indexS hl rfl rfl slc91 (by omega) (by omega) (by first | (simp only [Int.reduceToNat]; rfl) | exact toNat_add1 _ | exact toNat_add2 _ _ | exact toNat_emod _ _ | exact Int.toNat_natCast _ | rfl)) ?_)
              clear hl a; intro a hl
              refine wl (w_load hl hh rfl trivial one86 rfl (by repeat (first | exact find_head | apply find_tail | apply find_skip)) (by first | exact hcell | rfl | rfl) ?_)
              clear hl a; intro a hl
              refine wl (wl_val hl rfl trivial (r_assign hl rfl) ?_)
              clear hl a; intro a hl
              refine w_nil ?_
              have hl2 := hl.add (t := 3) (hl.add (t := 12) (hl.add (t := 16) (hl.add (t := 18) (hl.add (t := 25) (hl.add (t := 26) (hl.add (t := 27) (hl.add (t := 96) (hl.add (t := 97) (hl.add (t := 98) (hl.nil) rfl) rfl) rfl) rfl) rfl) rfl) rfl) rfl) rfl) rfl; clear hl; have hl := hl2; clear hl2
              refine then_normal ?_
              refine c_seq ?_
              refine c_region ?_
              refine wl (wl_val hl rfl trivial (r_move hl rfl) ?_)
              clear hl a; intro a hl
              refine wl (wl_val hl rfl trivial (r_move hl rfl) ?_)
              clear hl a; intro a hl
              refine wl (w_call hl hh rfl trivial rfl cal32 rfl (play_spec hS2 bg tT tf (40 * ((z.i + 1 : Nat) : Int)) (400 * ((z.i + 1 : Nat) : Int) + 4) ⟨by omega, by omega⟩ (by omega) (by omega) hG4 (wn % 4) (by omega) (ms7 (o.b % 4) wn e s) (us7 wn e s) (ms7_us hwn16 her (by omega) hsz hsb) rfl od hod3 (by omega) 3 ko k3 k11 k8) (by repeat (first | exact keeps_nil | apply keeps_cons (by repeat (first | exact find_head | apply find_tail | apply find_skip)) (by first  | rfl) | exact keeps_self | exact keeps_left | apply keeps_app | apply keeps_mv | apply keeps_skip)) ⟨⟨memK (E := sysL bg M2) hh (by repeat (first | exact keeps_nil | apply keeps_cons (by repeat (first | exact find_head | apply find_tail | apply find_skip)) (by first  | rfl) | exact keeps_self | exact keeps_left | apply keeps_app | apply keeps_mv | apply keeps_skip)), (pt_law (Fn := []) hh hpre.2 (by repeat (first | exact keeps_nil | apply keeps_cons (by repeat (first | exact find_head | apply find_tail | apply find_skip)) (by first  | rfl) | exact keeps_self | exact keeps_left | apply keeps_app | apply keeps_mv | apply keeps_skip))).1⟩, (mem1 (memK (E := [(k3, C [.pointer (some ⟨bg, 0, none⟩)] 24)]) hh (by repeat (first | exact keeps_nil | apply keeps_cons (by repeat (first | exact find_head | apply find_tail | apply find_skip)) (by first  | rfl) | exact keeps_self | exact keeps_left | apply keeps_app | apply keeps_mv | apply keeps_skip)))), (mem1 (memK (E := [(k11, C (fl rmc (ms7 (o.b % 4) wn e s) ++ []) 85)]) hh (by repeat (first | exact keeps_nil | apply keeps_cons (by repeat (first | exact find_head | apply find_tail | apply find_skip)) (by first  | rfl) | exact keeps_self | exact keeps_left | apply keeps_app | apply keeps_mv | apply keeps_skip)))), (mem1 (memK (E := [(k8, C [.int .i64 ((wn % 4 : Nat) : Int)] 58)]) hh (by repeat (first | exact keeps_nil | apply keeps_cons (by repeat (first | exact find_head | apply find_tail | apply find_skip)) (by first  | rfl) | exact keeps_self | exact keeps_left | apply keeps_app | apply keeps_mv | apply keeps_skip)))), (hmo w (memK (E := [(k91, C (fl ivc [0, 2, 1] ++ []) 3), (k92, C (fl ivc [1, 0, 2] ++ []) 3), (k93, C (fl ivc [1, 2, 0] ++ []) 3), (k94, C (fl ivc [2, 0, 1] ++ []) 3), (k95, C (fl ivc [2, 1, 0] ++ []) 3)]) hh (by repeat (first | exact keeps_nil | apply keeps_cons (by repeat (first | exact find_head | apply find_tail | apply find_skip)) (by first  | rfl) | exact keeps_self | exact keeps_left | apply keeps_app | apply keeps_mv | apply keeps_skip))))⟩ ?_)
              clear hl hh a w; intro vc Fc a w hR hl hh
              obtain ⟨ve4, rfl, hR4⟩ := hR
              try simp only [List.cons_append, List.nil_append, List.append_assoc, List.append_nil] at hh
              rw [pl3 hok7 od hod] at hl hR4
              generalize Fc = Ee4 at hh hR4
              refine wl (w_alloc hl hh rfl trivial zero61 rfl ?_)
              clear hl hh a w; intro k19 a w hl hh
              refine wl (w_storeA hl hh trivial agg61 rfl rfl (by repeat (first | exact find_head | apply find_tail | apply find_skip)) (by first | rfl | (simp; done) | rfl | exact arrL_length _ _) (by first | (simp; done) | (simp; omega) | (rw [arrL_length]; omega)) (by first | rfl | (simp; done) | rfl | exact arrL_all (fun j => ite_one hR0.one rfl) | exact arrL_all (fun j => ite_one hR1.one rfl) | exact arrL_all (fun j => ite_one hR2.one rfl) | exact arrL_all (fun j => ite_one hR3.one rfl) | exact arrL_all (fun j => ite_one hR4.one rfl)) (by first | exact setL_whole (arrL_length _ _) | (simp only [setL, List.getElem?_cons_zero, List.getElem?_cons_succ, Value.cells, List.take_zero, List.take_succ_cons, List.take_nil, List.drop_zero, List.drop_succ_cons, List.drop_nil, List.length_cons, List.length_nil, List.cons_append, List.nil_append, List.append_nil, Nat.zero_add, Nat.add_zero, Nat.reduceAdd, Nat.reduceBEq, Nat.reduceEqDiff, Nat.ble, BEq.rfl, Bool.and_true, Bool.and_self, cond_true, beq_self_eq_true]; rfl)) ?_)
              clear hh w; intro w hh
              refine w_nil ?_
              have hl2 := hl.add (t := 3) (hl.add (t := 12) (hl.add (t := 16) (hl.add (t := 19) (hl.add (t := 25) (hl.add (t := 26) (hl.add (t := 27) (hl.add (t := 96) (hl.add (t := 97) (hl.add (t := 98) (hl.nil) rfl) rfl) rfl) rfl) rfl) rfl) rfl) rfl) rfl) rfl; clear hl; have hl := hl2; clear hl2
              refine then_normal ?_
              refine c_seq ?_
              refine c_region ?_
              refine wl (w_call hl hh rfl trivial rfl cal34 rfl (eqS2_spec (flK (ends g2 wn e).flr (wn % 4)) (flK_rng (B := 40 * ((z.i + 1 : Nat) : Int) + 1) (Q := 400 * ((z.i + 1 : Nat) : Int) + 4) hGe ⟨by omega, by omega⟩ (wn % 4)) (edN (wsK (ends g2 wn e).ws (wn % 4)) 16) (edK_len (B := 40 * ((z.i + 1 : Nat) : Int) + 1) (Q := 400 * ((z.i + 1 : Nat) : Int) + 4) hGe ⟨by omega, by omega⟩ (wn % 4)) (eg_ok (B := 40 * ((z.i + 1 : Nat) : Int) + 1) (Q := 400 * ((z.i + 1 : Nat) : Int) + 4) hGe ⟨by omega, by omega⟩) k19 k16 ve4 ve3 Ee4 Ee3 hR4 hR3) (by repeat (first | exact keeps_nil | apply keeps_cons (by repeat (first | exact find_head | apply find_tail | apply find_skip)) (by first  | rfl) | exact keeps_self | exact keeps_left | apply keeps_app | apply keeps_mv | apply keeps_skip)) ⟨memK (E := (k19, C (arrL 17 (shV (flK (ends g2 wn e).flr (wn % 4)) ve4)) 61) :: Ee4) hh (by repeat (first | exact keeps_nil | apply keeps_cons (by repeat (first | exact find_head | apply find_tail | apply find_skip)) (by first  | rfl) | exact keeps_self | exact keeps_left | apply keeps_app | apply keeps_mv | apply keeps_skip)), memK (E := (k16, C (arrL 17 (shV (flK (ends g2 wn e).flr (wn % 4)) ve3)) 61) :: Ee3) hh (by repeat (first | exact keeps_nil | apply keeps_cons (by repeat (first | exact find_head | apply find_tail | apply find_skip)) (by first  | rfl) | exact keeps_self | exact keeps_left | apply keeps_app | apply keeps_mv | apply keeps_skip))⟩ ?_)
              clear hl hh a w; intro vc Fc a w hR hl hh
              obtain ⟨rfl, rfl⟩ := hR
              try simp only [List.cons_append, List.nil_append, List.append_assoc, List.append_nil] at hh
              refine wl (wl_val hl rfl trivial (r_not hl rfl) ?_)
              clear hl a; intro a hl
              refine w_nil ?_
              have hl2 := hl.add (t := 3) (hl.add (t := 12) (hl.add (t := 16) (hl.add (t := 25) (hl.add (t := 26) (hl.add (t := 27) (hl.add (t := 96) (hl.add (t := 97) (hl.add (t := 98) (hl.add (t := 106) (hl.nil) rfl) rfl) rfl) rfl) rfl) rfl) rfl) rfl) rfl) rfl; clear hl; have hl := hl2; clear hl2
              refine then_normal ?_
              refine c_condF hl rfl ?_
              refine wp_skip ?_
              refine blk_normal ?_
              refine then_normal ?_
              refine c_region ?_
              first | refine wl (wl_val hl rfl trivial (r_add hl rfl rfl (by simp only [Fits]; omega)) ?_) | refine wl (wl_val hl rfl trivial (r_addW hl rfl rfl) ?_)
              clear hl a; intro a hl
              refine wl (wl_val hl rfl trivial (r_move hl rfl) ?_)
              clear hl a; intro a hl
              refine w_nil ?_
              have hl2 := hl.add (t := 3) (hl.add (t := 12) (hl.add (t := 16) (hl.add (t := 25) (hl.add (t := 26) (hl.add (t := 27) (hl.add (t := 96) (hl.add (t := 97) (hl.add (t := 98) (hl.nil) rfl) rfl) rfl) rfl) rfl) rfl) rfl) rfl) rfl; clear hl; have hl := hl2; clear hl2
              refine then_normal ?_
              refine ⟨(y + 1), (by omega), (by omega), hl.addE (t := 98) (hl.addE (t := 3) (hl.addE (t := 12) (hl.addE (t := 16) (hl.addE (t := 25) (hl.addE (t := 26) (hl.addE (t := 27) (hl.addE (t := 96) (hl.addE (t := 97) (hl.nil) rfl (by first | rfl | (congr 1; omega))) rfl (by first | rfl | (congr 1; omega))) rfl (by first | rfl | (congr 1; omega))) rfl (by first | rfl | (congr 1; omega))) rfl (by first | rfl | (congr 1; omega))) rfl (by first | rfl | (congr 1; omega))) rfl (by first | rfl | (congr 1; omega))) rfl (by first | rfl | (congr 1; omega))) rfl (by first | rfl | (congr 1; omega)), hh.keep (by repeat (first | exact keeps_nil | apply keeps_cons (by repeat (first | exact find_head | apply find_tail | apply find_skip)) (by first  | rfl) | exact keeps_self | exact keeps_left | apply keeps_app | apply keeps_mv | apply keeps_skip))⟩
            · intro hc5
              try simp only [decide_eq_true_eq, decide_eq_false_iff_not, Bool.not_eq_true', Bool.not_eq_false', Bool.not_eq_true, Bool.not_eq_false, Bool.and_eq_true, Bool.or_eq_true, Bool.and_eq_false_iff, Bool.or_eq_false_iff, Bool.not_not, ne_eq, Int.not_lt, Int.not_le, Decidable.not_not, beq_iff_eq, bne_iff_ne] at hc5
              refine wp_exit ?_
              refine then_exit ?_
              refine then_exit ?_
              refine blk_exit ?_
              refine blk_normal ?_
              refine then_normal ?_
              refine c_region ?_
              first | refine wl (wl_val hl rfl trivial (r_add hl rfl rfl (by simp only [Fits]; omega)) ?_) | refine wl (wl_val hl rfl trivial (r_addW hl rfl rfl) ?_)
              clear hl a; intro a hl
              refine wl (wl_val hl rfl trivial (r_move hl rfl) ?_)
              clear hl a; intro a hl
              refine w_nil ?_
              have hl2 := hl.add (t := 3) (hl.add (t := 25) (hl.add (t := 26) (hl.add (t := 27) (hl.nil) rfl) rfl) rfl) rfl; clear hl; have hl := hl2; clear hl2
              refine then_normal ?_
              refine ⟨⟨g2, M2, z.i + 1⟩, (by simp only; omega), ⟨by simp only; omega, hS2, hG3⟩, hl.addE (t := 27) (hl.addE (t := 3) (hl.addE (t := 25) (hl.addE (t := 26) (hl.nil) rfl (by first | rfl | (congr 1; omega))) rfl (by first | rfl | (congr 1; omega))) rfl (by first | rfl | (congr 1; omega))) rfl (by first | rfl | (congr 1; omega)), hh.keep (by repeat (first | exact keeps_nil | apply keeps_cons (by repeat (first | exact find_head | apply find_tail | apply find_skip)) (by first  | rfl) | exact keeps_self | exact keeps_left | apply keeps_app | apply keeps_mv | apply keeps_skip))⟩
    · intro hc1
      try simp only [decide_eq_true_eq, decide_eq_false_iff_not, Bool.not_eq_true', Bool.not_eq_false', Bool.not_eq_true, Bool.not_eq_false, Bool.and_eq_true, Bool.or_eq_true, Bool.and_eq_false_iff, Bool.or_eq_false_iff, Bool.not_not, ne_eq, Int.not_lt, Int.not_le, Decidable.not_not, beq_iff_eq, bne_iff_ne] at hc1
      refine wp_exit ?_
      refine then_exit ?_
      refine then_exit ?_
      refine blk_exit ?_
      refine then_normal ?_
      refine c_seq ?_
      refine c_region ?_
      refine wl (wl_val hl rfl trivial (r_assign hl rfl) ?_)
      clear hl a; intro a hl
      refine w_nil ?_
      have hl2 := hl.add (t := 2) (hl.nil) rfl; clear hl; have hl := hl2; clear hl2
      refine then_normal ?_
      refine wp_ret ?_
      refine f_ret1 (F' := []) hl hh rfl rfl (by repeat (first | exact keeps_nil | apply keeps_cons (by repeat (first | exact find_head | apply find_tail | apply find_skip)) (by first  | rfl) | exact keeps_self | exact keeps_left | apply keeps_app | apply keeps_mv | apply keeps_skip)) ?_
      exact ⟨rfl, rfl⟩
end Go.Proofs.Qxb6500911aDoor

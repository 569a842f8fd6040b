import Derived.Test.Qxb6500914aGreatK1
namespace Go.Proofs.Qxb6500914aGreat
open Go.Eng
set_option linter.unusedVariables false
set_option linter.unusedSimpArgs false
theorem zero168 : zeroOk Tryz.prog 168 (.agg #[]) := by unfold zeroOk; kernel_rfl
theorem bld168 : buildOk Tryz.prog 168 [] = true := by kernel_rfl
theorem conc168 : concT Tryz.prog 168 = true := by kernel_rfl
theorem zero177 : zeroOk Tryz.prog 177 (.agg #[(.int .u64 0), (.int .u64 0), (.int .u64 0), (.int .u64 0), (.int .u64 0), (.int .u64 0), (.int .u64 0), (.int .u64 0), (.int .i64 0), (.int .i64 0), (.int .u8 0), (.int .u64 0), (.int .u64 0), (.int .u8 0), (.int .i64 0), (.int .u64 0), (.int .i64 0), (.int .u64 0), (.int .u64 0), (.int .u64 0), (.int .u64 0), (.int .u64 0), (.int .u64 0), (.int .u64 0), (.int .u64 0), (.int .u64 0), (.int .u64 0), (.int .u64 0), (.int .u64 0), (.int .u64 0), (.int .u64 0), (.int .u64 0), (.int .u64 0), (.int .i64 0), (.int .u8 0), (.int .u64 0), (.int .u64 0)]) := by unfold zeroOk; kernel_rfl
theorem bld177 : buildOk Tryz.prog 177 [(0, 9), (9, 1), (10, 3), (13, 1), (14, 1), (15, 1), (16, 17), (33, 1), (34, 3)] = true := by kernel_rfl
theorem conc169 : concT Tryz.prog 169 = true := by kernel_rfl
theorem fld71_0 : fieldOk Tryz.prog 71 0 0 = true := by kernel_rfl
theorem zero60 : zeroOk Tryz.prog 60 (.agg #[(.int .u8 0), (.int .u64 0), (.int .u64 0)]) := by unfold zeroOk; kernel_rfl
theorem bld60 : buildOk Tryz.prog 60 [(0, 1), (1, 1), (2, 1)] = true := by kernel_rfl
theorem cal59 : callable Tryz.prog 59 = true := by kernel_rfl
theorem fld72_0 : fieldOk Tryz.prog 72 0 0 = true := by kernel_rfl
theorem fld43_0 : fieldOk Tryz.prog 43 0 0 = true := by kernel_rfl
theorem fld74_2 : fieldOk Tryz.prog 74 2 2 = true := by kernel_rfl
theorem agg71 : aggOk Tryz.prog 71 9 = true := by kernel_rfl
theorem fld43_2 : fieldOk Tryz.prog 43 2 2 = true := by kernel_rfl
theorem cal35 : callable Tryz.prog 35 = true := by kernel_rfl
theorem cal36 : callable Tryz.prog 36 = true := by kernel_rfl
theorem cal37 : callable Tryz.prog 37 = true := by kernel_rfl
theorem cal38 : callable Tryz.prog 38 = true := by kernel_rfl
theorem fld74_3 : fieldOk Tryz.prog 74 3 11 = true := by kernel_rfl
theorem agg72 : aggOk Tryz.prog 72 9 = true := by kernel_rfl
theorem fld43_3 : fieldOk Tryz.prog 43 3 3 = true := by kernel_rfl
theorem cal39 : callable Tryz.prog 39 = true := by kernel_rfl
theorem cal40 : callable Tryz.prog 40 = true := by kernel_rfl
theorem cal41 : callable Tryz.prog 41 = true := by kernel_rfl
theorem cal42 : callable Tryz.prog 42 = true := by kernel_rfl
def startP (k : Bool) (t : Nat) (ck cv cp : Int) : PG := { h0 := ((65536 + hd k : Nat) : Int), nds := fun i => ((65536 + nd k i : Nat) : Int), wdt := (wd k : Int), self := t, ck := ck, cv := cv, cp := if k then cp else 0, pc := 0, sp := 0, root := 0, n := 0, ip := fun _ => 0, iv := fun _ => 0, at_ := 0, ra := 0, rv := 0, rp := 0 }
theorem start_obj (k : Bool) (t : Nat) (ck cv cp : Int) : C ([.int .u64 ((65536 + hd k : Nat) : Int), .int .u64 ((65536 + nd k 0 : Nat) : Int), .int .u64 ((65536 + nd k 1 : Nat) : Int), .int .u64 ((65536 + nd k 2 : Nat) : Int), .int .u64 ((65536 + nd k 3 : Nat) : Int), .int .u64 ((65536 + nd k 4 : Nat) : Int), .int .u64 ((65536 + nd k 5 : Nat) : Int), .int .u64 ((65536 + nd k 6 : Nat) : Int), .int .i64 (wd k : Int)] ++ (Value.int .i64 (t : Int) :: .int .u8 ck :: .int .u64 cv :: .int .u64 (if k then cp else 0) :: [.int .u8 0, .int .i64 0, .int .u64 0, .int .i64 0, .int .u64 0, .int .u64 0, .int .u64 0, .int .u64 0, .int .u64 0, .int .u64 0, .int .u64 0, .int .u64 0, .int .u64 0, .int .u64 0, .int .u64 0, .int .u64 0, .int .u64 0, .int .u64 0, .int .u64 0, .int .u64 0, .int .i64 0, .int .u8 0, .int .u64 0, .int .u64 0])) 177 = C (arrL 37 (encP (startP k t ck cv cp))) 177 := by
  unfold arrL; rfl
def OpR (k : Bool) (t : Nat) (ck cv cp : Int) (v : Value) (F : List (Nat × Obj)) : Prop :=
  (6 ≤ t ∧ (∃ c, v = .iface 168 c) ∧ F = []) ∨ (t < 6 ∧ ∃ qb, v = .iface 169 (.pointer (some ⟨qb, 0, none⟩)) ∧ F = [(qb, C (arrL 37 (encP (startP k t ck cv cp))) 177)])
attribute [local irreducible] encM encP

set_option maxHeartbeats 1000000 in
theorem operation_no_false (t : Nat) (ck cv cp : Int) (h : 6 ≤ t) : Sp Tryz.prog 59 #[.agg ⟨[.int .u64 ((65536 + hd false : Nat) : Int), .int .u64 ((65536 + nd false 0 : Nat) : Int), .int .u64 ((65536 + nd false 1 : Nat) : Int), .int .u64 ((65536 + nd false 2 : Nat) : Int), .int .u64 ((65536 + nd false 3 : Nat) : Int), .int .u64 ((65536 + nd false 4 : Nat) : Int), .int .u64 ((65536 + nd false 5 : Nat) : Int), .int .u64 ((65536 + nd false 6 : Nat) : Int), .int .i64 (wd false : Int)]⟩, .int .i64 t, .agg ⟨[.int .u8 ck, .int .u64 cv, .int .u64 cp]⟩] [] (fun v F' => OpR false t ck cv cp v F') := by
  refine f_enter (args := [.agg ⟨[.int .u64 ((65536 + hd false : Nat) : Int), .int .u64 ((65536 + nd false 0 : Nat) : Int), .int .u64 ((65536 + nd false 1 : Nat) : Int), .int .u64 ((65536 + nd false 2 : Nat) : Int), .int .u64 ((65536 + nd false 3 : Nat) : Int), .int .u64 ((65536 + nd false 4 : Nat) : Int), .int .u64 ((65536 + nd false 5 : Nat) : Int), .int .u64 ((65536 + nd false 6 : Nat) : Int), .int .i64 (wd false : Int)]⟩, .int .i64 t, .agg ⟨[.int .u8 ck, .int .u64 cv, .int .u64 cp]⟩]) Tryz.func59 rfl Tryz.ntmps59 rfl ?_
  intro w0 w a hpre hl hh
  simp only [slotsFrom, Nat.reduceAdd] at hl
  refine c_seq ?_
  refine c_region ?_
  refine wl (w_box hl hh rfl trivial rfl rfl ?_)
  clear hl hh a w; intro k3 a w hl hh
  refine wl (w_box hl hh rfl trivial rfl rfl ?_)
  clear hl hh a w; intro k5 a w hl hh
  refine wl (wl_val hl rfl trivial (r_assign hl rfl) ?_)
  clear hl a; intro a hl
  refine w_nil ?_
  have hl2 := hl.add (t := 1) (hl.add (t := 3) (hl.add (t := 5) (hl.nil) rfl) rfl) rfl; clear hl; have hl := hl2; clear hl2
  refine then_normal ?_
  refine c_seq ?_
  refine c_seq ?_
  refine c_region ?_
  refine wl (wl_val hl rfl trivial (r_move hl rfl) ?_)
  clear hl a; intro a hl
  refine wl (wl_val hl rfl trivial (r_lss hl rfl rfl) ?_)
  clear hl a; intro a hl
  refine wl (wl_val hl rfl trivial (r_move hl rfl) ?_)
  clear hl a; intro a hl
  refine sl_split (t := 9) hl rfl ?_ ?_
  · intro hg1; clear hl; intro hl
    try simp only [decide_eq_true_eq, decide_eq_false_iff_not, Bool.not_eq_true', Bool.not_eq_false', Bool.not_eq_true, Bool.not_eq_false, Bool.and_eq_true, Bool.or_eq_true, Bool.and_eq_false_iff, Bool.or_eq_false_iff, Bool.not_not, ne_eq, Int.not_lt, Int.not_le, Decidable.not_not, beq_iff_eq, bne_iff_ne] at hg1
    exfalso; first | omega | (simp at *; done) | (simp at *; omega)
  · intro hg1; clear hl; intro hl
    try simp only [decide_eq_true_eq, decide_eq_false_iff_not, Bool.not_eq_true', Bool.not_eq_false', Bool.not_eq_true, Bool.not_eq_false, Bool.and_eq_true, Bool.or_eq_true, Bool.and_eq_false_iff, Bool.or_eq_false_iff, Bool.not_not, ne_eq, Int.not_lt, Int.not_le, Decidable.not_not, beq_iff_eq, bne_iff_ne] at hg1
    refine wl (wl_val hl rfl ⟨_, _, rfl, rfl, rfl⟩ (r_move hl rfl) ?_)
    clear hl a; intro a hl
    refine wl (wl_val hl rfl ⟨_, _, rfl, rfl, rfl⟩ (r_geq hl rfl rfl) ?_)
    clear hl a; intro a hl
    refine wl (wl_val hl rfl trivial (r_pickF hl rfl rfl) ?_)
    clear hl a; intro a hl
    refine w_nil ?_
    have hl2 := hl.add (t := 1) (hl.add (t := 3) (hl.add (t := 5) (hl.add (t := 12) (hl.nil) rfl) rfl) rfl) rfl; clear hl; have hl := hl2; clear hl2
    refine then_normal ?_
    refine c_cond hl rfl ?_ ?_
    · intro hc0
      try simp only [decide_eq_true_eq, decide_eq_false_iff_not, Bool.not_eq_true', Bool.not_eq_false', Bool.not_eq_true, Bool.not_eq_false, Bool.and_eq_true, Bool.or_eq_true, Bool.and_eq_false_iff, Bool.or_eq_false_iff, Bool.not_not, ne_eq, Int.not_lt, Int.not_le, Decidable.not_not, beq_iff_eq, bne_iff_ne] at hc0
      refine c_seq ?_
      refine c_region ?_
      refine wl (wl_val hl rfl trivial (r_build hl rfl zero168 bld168 (by simp only [fillL, setL, List.getElem?_cons_zero, List.getElem?_cons_succ, Value.cells, List.take_zero, List.take_succ_cons, List.take_nil, List.drop_zero, List.drop_succ_cons, List.drop_nil, List.length_cons, List.length_nil, List.cons_append, List.nil_append, List.append_nil, Nat.zero_add, Nat.add_zero, Nat.reduceAdd, Nat.reduceBEq, Nat.reduceEqDiff, Nat.ble, BEq.rfl, Bool.and_true, Bool.and_self, cond_true, beq_self_eq_true]; rfl)) ?_)
      clear hl a; intro a hl
      refine wl (wl_val hl rfl trivial (r_makeInterface hl rfl conc168) ?_)
      clear hl a; intro a hl
      refine wl (wl_val hl rfl trivial (r_assign hl rfl) ?_)
      clear hl a; intro a hl
      refine w_nil ?_
      have hl2 := hl.add (t := 6) (hl.nil) rfl; clear hl; have hl := hl2; clear hl2
      refine then_normal ?_
      refine wp_ret ?_
      refine then_ret ?_
      refine f_ret1 (F' := []) hl hh rfl rfl (by repeat (first | exact keeps_nil | apply keeps_cons (by repeat (first | exact find_head | apply find_tail)) (by first  | rfl) | exact keeps_self | apply keeps_mv)) ?_
      exact .inl ⟨h, ⟨_, rfl⟩, rfl⟩
    · intro hc0
      try simp only [decide_eq_true_eq, decide_eq_false_iff_not, Bool.not_eq_true', Bool.not_eq_false', Bool.not_eq_true, Bool.not_eq_false, Bool.and_eq_true, Bool.or_eq_true, Bool.and_eq_false_iff, Bool.or_eq_false_iff, Bool.not_not, ne_eq, Int.not_lt, Int.not_le, Decidable.not_not, beq_iff_eq, bne_iff_ne] at hc0
      exfalso; first | omega | (simp at *; done) | (simp at *; omega)

set_option maxHeartbeats 1000000 in
theorem operation_yes_false (t : Nat) (ck cv cp : Int) (h : t < 6) : Sp Tryz.prog 59 #[.agg ⟨[.int .u64 ((65536 + hd false : Nat) : Int), .int .u64 ((65536 + nd false 0 : Nat) : Int), .int .u64 ((65536 + nd false 1 : Nat) : Int), .int .u64 ((65536 + nd false 2 : Nat) : Int), .int .u64 ((65536 + nd false 3 : Nat) : Int), .int .u64 ((65536 + nd false 4 : Nat) : Int), .int .u64 ((65536 + nd false 5 : Nat) : Int), .int .u64 ((65536 + nd false 6 : Nat) : Int), .int .i64 (wd false : Int)]⟩, .int .i64 t, .agg ⟨[.int .u8 ck, .int .u64 cv, .int .u64 cp]⟩] [] (fun v F' => OpR false t ck cv cp v F') := by
  refine f_enter (args := [.agg ⟨[.int .u64 ((65536 + hd false : Nat) : Int), .int .u64 ((65536 + nd false 0 : Nat) : Int), .int .u64 ((65536 + nd false 1 : Nat) : Int), .int .u64 ((65536 + nd false 2 : Nat) : Int), .int .u64 ((65536 + nd false 3 : Nat) : Int), .int .u64 ((65536 + nd false 4 : Nat) : Int), .int .u64 ((65536 + nd false 5 : Nat) : Int), .int .u64 ((65536 + nd false 6 : Nat) : Int), .int .i64 (wd false : Int)]⟩, .int .i64 t, .agg ⟨[.int .u8 ck, .int .u64 cv, .int .u64 cp]⟩]) Tryz.func59 rfl Tryz.ntmps59 rfl ?_
  intro w0 w a hpre hl hh
  simp only [slotsFrom, Nat.reduceAdd] at hl
  refine c_seq ?_
  refine c_region ?_
  refine wl (w_box hl hh rfl trivial rfl rfl ?_)
  clear hl hh a w; intro k3 a w hl hh
  refine wl (w_box hl hh rfl trivial rfl rfl ?_)
  clear hl hh a w; intro k5 a w hl hh
  refine wl (wl_val hl rfl trivial (r_assign hl rfl) ?_)
  clear hl a; intro a hl
  refine w_nil ?_
  have hl2 := hl.add (t := 1) (hl.add (t := 3) (hl.add (t := 5) (hl.nil) rfl) rfl) rfl; clear hl; have hl := hl2; clear hl2
  refine then_normal ?_
  refine c_seq ?_
  refine c_seq ?_
  refine c_region ?_
  refine wl (wl_val hl rfl trivial (r_move hl rfl) ?_)
  clear hl a; intro a hl
  refine wl (wl_val hl rfl trivial (r_lss hl rfl rfl) ?_)
  clear hl a; intro a hl
  refine wl (wl_val hl rfl trivial (r_move hl rfl) ?_)
  clear hl a; intro a hl
  refine sl_split (t := 9) hl rfl ?_ ?_
  · intro hg1; clear hl; intro hl
    try simp only [decide_eq_true_eq, decide_eq_false_iff_not, Bool.not_eq_true', Bool.not_eq_false', Bool.not_eq_true, Bool.not_eq_false, Bool.and_eq_true, Bool.or_eq_true, Bool.and_eq_false_iff, Bool.or_eq_false_iff, Bool.not_not, ne_eq, Int.not_lt, Int.not_le, Decidable.not_not, beq_iff_eq, bne_iff_ne] at hg1
    exfalso; first | omega | (simp at *; done) | (simp at *; omega)
  · intro hg1; clear hl; intro hl
    try simp only [decide_eq_true_eq, decide_eq_false_iff_not, Bool.not_eq_true', Bool.not_eq_false', Bool.not_eq_true, Bool.not_eq_false, Bool.and_eq_true, Bool.or_eq_true, Bool.and_eq_false_iff, Bool.or_eq_false_iff, Bool.not_not, ne_eq, Int.not_lt, Int.not_le, Decidable.not_not, beq_iff_eq, bne_iff_ne] at hg1
    refine wl (wl_val hl rfl ⟨_, _, rfl, rfl, rfl⟩ (r_move hl rfl) ?_)
    clear hl a; intro a hl
    refine wl (wl_val hl rfl ⟨_, _, rfl, rfl, rfl⟩ (r_geq hl rfl rfl) ?_)
    clear hl a; intro a hl
    refine wl (wl_val hl rfl trivial (r_pickF hl rfl rfl) ?_)
    clear hl a; intro a hl
    refine w_nil ?_
    have hl2 := hl.add (t := 1) (hl.add (t := 3) (hl.add (t := 5) (hl.add (t := 12) (hl.nil) rfl) rfl) rfl) rfl; clear hl; have hl := hl2; clear hl2
    refine then_normal ?_
    refine c_cond hl rfl ?_ ?_
    · intro hc0
      try simp only [decide_eq_true_eq, decide_eq_false_iff_not, Bool.not_eq_true', Bool.not_eq_false', Bool.not_eq_true, Bool.not_eq_false, Bool.and_eq_true, Bool.or_eq_true, Bool.and_eq_false_iff, Bool.or_eq_false_iff, Bool.not_not, ne_eq, Int.not_lt, Int.not_le, Decidable.not_not, beq_iff_eq, bne_iff_ne] at hc0
      exfalso; first | omega | (simp at *; done) | (simp at *; omega)
    · intro hc0
      try simp only [decide_eq_true_eq, decide_eq_false_iff_not, Bool.not_eq_true', Bool.not_eq_false', Bool.not_eq_true, Bool.not_eq_false, Bool.and_eq_true, Bool.or_eq_true, Bool.and_eq_false_iff, Bool.or_eq_false_iff, Bool.not_not, ne_eq, Int.not_lt, Int.not_le, Decidable.not_not, beq_iff_eq, bne_iff_ne] at hc0
      refine wp_skip ?_
      refine then_normal ?_
      refine c_seq ?_
      refine c_seq ?_
      refine c_region ?_
      refine wl (wl_val hl rfl trivial (r_field hl rfl fld69_2) ?_)
      clear hl a; intro a hl
      refine wl (w_load hl hh rfl trivial one3 rfl (by repeat (first | exact find_head | apply find_tail)) (by first | rfl) ?_)
      clear hl a; intro a hl
      refine wl (wl_val hl rfl trivial (r_eql hl rfl rfl) ?_)
      clear hl a; intro a hl
      refine w_nil ?_
      have hl2 := hl.add (t := 1) (hl.add (t := 3) (hl.add (t := 5) (hl.add (t := 17) (hl.nil) rfl) rfl) rfl) rfl; clear hl; have hl := hl2; clear hl2
      refine then_normal ?_
      refine c_cond hl rfl ?_ ?_
      · intro hc1
        try simp only [decide_eq_true_eq, decide_eq_false_iff_not, Bool.not_eq_true', Bool.not_eq_false', Bool.not_eq_true, Bool.not_eq_false, Bool.and_eq_true, Bool.or_eq_true, Bool.and_eq_false_iff, Bool.or_eq_false_iff, Bool.not_not, ne_eq, Int.not_lt, Int.not_le, Decidable.not_not, beq_iff_eq, bne_iff_ne] at hc1
        refine c_region ?_
        refine wl (wl_val hl rfl trivial (r_field hl rfl fld60_2) ?_)
        clear hl a; intro a hl
        refine wl (w_store hl hh trivial one37 rfl rfl (by repeat (first | exact find_head | apply find_tail)) (by first | (simp; done) | (simp; omega)) (by first | rfl | assumption | (apply Row.one; assumption)) (by first | (simp only [setL, List.getElem?_cons_zero, List.getElem?_cons_succ, Value.cells, List.take_zero, List.take_succ_cons, List.take_nil, List.drop_zero, List.drop_succ_cons, List.drop_nil, List.length_cons, List.length_nil, List.cons_append, List.nil_append, List.append_nil, Nat.zero_add, Nat.add_zero, Nat.reduceAdd, Nat.reduceBEq, Nat.reduceEqDiff, Nat.ble, BEq.rfl, Bool.and_true, Bool.and_self, cond_true, beq_self_eq_true]; rfl)) ?_)
        clear hh w; intro w hh
        refine w_nil ?_
        have hl2 := hl.add (t := 1) (hl.add (t := 3) (hl.add (t := 5) (hl.nil) rfl) rfl) rfl; clear hl; have hl := hl2; clear hl2
        refine then_normal ?_
        refine c_seq ?_
        refine c_region ?_
        refine wl (w_loadA hl hh rfl trivial agg69 rfl (by repeat (first | exact find_head | apply find_tail)) (by first | (simp only [List.getElem?_cons_zero, List.getElem?_cons_succ, Value.cells, List.take_zero, List.take_succ_cons, List.take_nil, List.drop_zero, List.drop_succ_cons, List.drop_nil, List.length_cons, List.length_nil, List.cons_append, List.nil_append, List.append_nil, Nat.zero_add, Nat.add_zero, Nat.reduceAdd, Nat.reduceBEq, Nat.reduceEqDiff, Nat.ble, BEq.rfl, Bool.and_true, Bool.and_self, cond_true, beq_self_eq_true]; rfl)) (by first | rfl | (simp; done)) ?_)
        clear hl a; intro a hl
        refine wl (wl_val hl rfl trivial (r_move hl rfl) ?_)
        clear hl a; intro a hl
        refine wl (w_loadA hl hh rfl trivial agg60 rfl (by repeat (first | exact find_head | apply find_tail)) (by first | (simp only [List.getElem?_cons_zero, List.getElem?_cons_succ, Value.cells, List.take_zero, List.take_succ_cons, List.take_nil, List.drop_zero, List.drop_succ_cons, List.drop_nil, List.length_cons, List.length_nil, List.cons_append, List.nil_append, List.append_nil, Nat.zero_add, Nat.add_zero, Nat.reduceAdd, Nat.reduceBEq, Nat.reduceEqDiff, Nat.ble, BEq.rfl, Bool.and_true, Bool.and_self, cond_true, beq_self_eq_true]; rfl)) (by first | rfl | (simp; done)) ?_)
        clear hl a; intro a hl
        refine wl (wl_val hl rfl trivial (r_build hl rfl zero177 bld177 (by simp only [fillL, setL, List.getElem?_cons_zero, List.getElem?_cons_succ, Value.cells, List.take_zero, List.take_succ_cons, List.take_nil, List.drop_zero, List.drop_succ_cons, List.drop_nil, List.length_cons, List.length_nil, List.cons_append, List.nil_append, List.append_nil, Nat.zero_add, Nat.add_zero, Nat.reduceAdd, Nat.reduceBEq, Nat.reduceEqDiff, Nat.ble, BEq.rfl, Bool.and_true, Bool.and_self, cond_true, beq_self_eq_true]; rfl)) ?_)
        clear hl a; intro a hl
        refine wl (w_box hl hh rfl trivial rfl rfl ?_)
        clear hl hh a w; intro k23 a w hl hh
        refine wl (wl_val hl rfl trivial (r_makeInterface hl rfl conc169) ?_)
        clear hl a; intro a hl
        refine wl (wl_val hl rfl trivial (r_assign hl rfl) ?_)
        clear hl a; intro a hl
        refine w_nil ?_
        have hl2 := hl.add (t := 6) (hl.nil) rfl; clear hl; have hl := hl2; clear hl2
        refine then_normal ?_
        refine wp_ret ?_
        refine f_ret1 (F' := [(k23, C (arrL 37 (encP (startP false t ck cv cp))) 177)]) hl hh rfl rfl (by repeat (first | exact keeps_nil | apply keeps_cons (by repeat (first | exact find_head | apply find_tail)) (by first  | exact start_obj false t ck cv cp | rfl) | exact keeps_self | apply keeps_mv)) ?_
        exact .inr ⟨h, k23, rfl, rfl⟩
      · intro hc1
        try simp only [decide_eq_true_eq, decide_eq_false_iff_not, Bool.not_eq_true', Bool.not_eq_false', Bool.not_eq_true, Bool.not_eq_false, Bool.and_eq_true, Bool.or_eq_true, Bool.and_eq_false_iff, Bool.or_eq_false_iff, Bool.not_not, ne_eq, Int.not_lt, Int.not_le, Decidable.not_not, beq_iff_eq, bne_iff_ne] at hc1
        exfalso; simp [wd] at hc1

set_option maxHeartbeats 1000000 in
theorem operation_no_true (t : Nat) (ck cv cp : Int) (h : 6 ≤ t) : Sp Tryz.prog 59 #[.agg ⟨[.int .u64 ((65536 + hd true : Nat) : Int), .int .u64 ((65536 + nd true 0 : Nat) : Int), .int .u64 ((65536 + nd true 1 : Nat) : Int), .int .u64 ((65536 + nd true 2 : Nat) : Int), .int .u64 ((65536 + nd true 3 : Nat) : Int), .int .u64 ((65536 + nd true 4 : Nat) : Int), .int .u64 ((65536 + nd true 5 : Nat) : Int), .int .u64 ((65536 + nd true 6 : Nat) : Int), .int .i64 (wd true : Int)]⟩, .int .i64 t, .agg ⟨[.int .u8 ck, .int .u64 cv, .int .u64 cp]⟩] [] (fun v F' => OpR true t ck cv cp v F') := by
  refine f_enter (args := [.agg ⟨[.int .u64 ((65536 + hd true : Nat) : Int), .int .u64 ((65536 + nd true 0 : Nat) : Int), .int .u64 ((65536 + nd true 1 : Nat) : Int), .int .u64 ((65536 + nd true 2 : Nat) : Int), .int .u64 ((65536 + nd true 3 : Nat) : Int), .int .u64 ((65536 + nd true 4 : Nat) : Int), .int .u64 ((65536 + nd true 5 : Nat) : Int), .int .u64 ((65536 + nd true 6 : Nat) : Int), .int .i64 (wd true : Int)]⟩, .int .i64 t, .agg ⟨[.int .u8 ck, .int .u64 cv, .int .u64 cp]⟩]) Tryz.func59 rfl Tryz.ntmps59 rfl ?_
  intro w0 w a hpre hl hh
  simp only [slotsFrom, Nat.reduceAdd] at hl
  refine c_seq ?_
  refine c_region ?_
  refine wl (w_box hl hh rfl trivial rfl rfl ?_)
  clear hl hh a w; intro k3 a w hl hh
  refine wl (w_box hl hh rfl trivial rfl rfl ?_)
  clear hl hh a w; intro k5 a w hl hh
  refine wl (wl_val hl rfl trivial (r_assign hl rfl) ?_)
  clear hl a; intro a hl
  refine w_nil ?_
  have hl2 := hl.add (t := 1) (hl.add (t := 3) (hl.add (t := 5) (hl.nil) rfl) rfl) rfl; clear hl; have hl := hl2; clear hl2
  refine then_normal ?_
  refine c_seq ?_
  refine c_seq ?_
  refine c_region ?_
  refine wl (wl_val hl rfl trivial (r_move hl rfl) ?_)
  clear hl a; intro a hl
  refine wl (wl_val hl rfl trivial (r_lss hl rfl rfl) ?_)
  clear hl a; intro a hl
  refine wl (wl_val hl rfl trivial (r_move hl rfl) ?_)
  clear hl a; intro a hl
  refine sl_split (t := 9) hl rfl ?_ ?_
  · intro hg1; clear hl; intro hl
    try simp only [decide_eq_true_eq, decide_eq_false_iff_not, Bool.not_eq_true', Bool.not_eq_false', Bool.not_eq_true, Bool.not_eq_false, Bool.and_eq_true, Bool.or_eq_true, Bool.and_eq_false_iff, Bool.or_eq_false_iff, Bool.not_not, ne_eq, Int.not_lt, Int.not_le, Decidable.not_not, beq_iff_eq, bne_iff_ne] at hg1
    exfalso; first | omega | (simp at *; done) | (simp at *; omega)
  · intro hg1; clear hl; intro hl
    try simp only [decide_eq_true_eq, decide_eq_false_iff_not, Bool.not_eq_true', Bool.not_eq_false', Bool.not_eq_true, Bool.not_eq_false, Bool.and_eq_true, Bool.or_eq_true, Bool.and_eq_false_iff, Bool.or_eq_false_iff, Bool.not_not, ne_eq, Int.not_lt, Int.not_le, Decidable.not_not, beq_iff_eq, bne_iff_ne] at hg1
    refine wl (wl_val hl rfl ⟨_, _, rfl, rfl, rfl⟩ (r_move hl rfl) ?_)
    clear hl a; intro a hl
    refine wl (wl_val hl rfl ⟨_, _, rfl, rfl, rfl⟩ (r_geq hl rfl rfl) ?_)
    clear hl a; intro a hl
    refine wl (wl_val hl rfl trivial (r_pickF hl rfl rfl) ?_)
    clear hl a; intro a hl
    refine w_nil ?_
    have hl2 := hl.add (t := 1) (hl.add (t := 3) (hl.add (t := 5) (hl.add (t := 12) (hl.nil) rfl) rfl) rfl) rfl; clear hl; have hl := hl2; clear hl2
    refine then_normal ?_
    refine c_cond hl rfl ?_ ?_
    · intro hc0
      try simp only [decide_eq_true_eq, decide_eq_false_iff_not, Bool.not_eq_true', Bool.not_eq_false', Bool.not_eq_true, Bool.not_eq_false, Bool.and_eq_true, Bool.or_eq_true, Bool.and_eq_false_iff, Bool.or_eq_false_iff, Bool.not_not, ne_eq, Int.not_lt, Int.not_le, Decidable.not_not, beq_iff_eq, bne_iff_ne] at hc0
      refine c_seq ?_
      refine c_region ?_
      refine wl (wl_val hl rfl trivial (r_build hl rfl zero168 bld168 (by simp only [fillL, setL, List.getElem?_cons_zero, List.getElem?_cons_succ, Value.cells, List.take_zero, List.take_succ_cons, List.take_nil, List.drop_zero, List.drop_succ_cons, List.drop_nil, List.length_cons, List.length_nil, List.cons_append, List.nil_append, List.append_nil, Nat.zero_add, Nat.add_zero, Nat.reduceAdd, Nat.reduceBEq, Nat.reduceEqDiff, Nat.ble, BEq.rfl, Bool.and_true, Bool.and_self, cond_true, beq_self_eq_true]; rfl)) ?_)
      clear hl a; intro a hl
      refine wl (wl_val hl rfl trivial (r_makeInterface hl rfl conc168) ?_)
      clear hl a; intro a hl
      refine wl (wl_val hl rfl trivial (r_assign hl rfl) ?_)
      clear hl a; intro a hl
      refine w_nil ?_
      have hl2 := hl.add (t := 6) (hl.nil) rfl; clear hl; have hl := hl2; clear hl2
      refine then_normal ?_
      refine wp_ret ?_
      refine then_ret ?_
      refine f_ret1 (F' := []) hl hh rfl rfl (by repeat (first | exact keeps_nil | apply keeps_cons (by repeat (first | exact find_head | apply find_tail)) (by first  | rfl) | exact keeps_self | apply keeps_mv)) ?_
      exact .inl ⟨h, ⟨_, rfl⟩, rfl⟩
    · intro hc0
      try simp only [decide_eq_true_eq, decide_eq_false_iff_not, Bool.not_eq_true', Bool.not_eq_false', Bool.not_eq_true, Bool.not_eq_false, Bool.and_eq_true, Bool.or_eq_true, Bool.and_eq_false_iff, Bool.or_eq_false_iff, Bool.not_not, ne_eq, Int.not_lt, Int.not_le, Decidable.not_not, beq_iff_eq, bne_iff_ne] at hc0
      exfalso; first | omega | (simp at *; done) | (simp at *; omega)

set_option maxHeartbeats 1000000 in
theorem operation_yes_true (t : Nat) (ck cv cp : Int) (h : t < 6) : Sp Tryz.prog 59 #[.agg ⟨[.int .u64 ((65536 + hd true : Nat) : Int), .int .u64 ((65536 + nd true 0 : Nat) : Int), .int .u64 ((65536 + nd true 1 : Nat) : Int), .int .u64 ((65536 + nd true 2 : Nat) : Int), .int .u64 ((65536 + nd true 3 : Nat) : Int), .int .u64 ((65536 + nd true 4 : Nat) : Int), .int .u64 ((65536 + nd true 5 : Nat) : Int), .int .u64 ((65536 + nd true 6 : Nat) : Int), .int .i64 (wd true : Int)]⟩, .int .i64 t, .agg ⟨[.int .u8 ck, .int .u64 cv, .int .u64 cp]⟩] [] (fun v F' => OpR true t ck cv cp v F') := by
  refine f_enter (args := [.agg ⟨[.int .u64 ((65536 + hd true : Nat) : Int), .int .u64 ((65536 + nd true 0 : Nat) : Int), .int .u64 ((65536 + nd true 1 : Nat) : Int), .int .u64 ((65536 + nd true 2 : Nat) : Int), .int .u64 ((65536 + nd true 3 : Nat) : Int), .int .u64 ((65536 + nd true 4 : Nat) : Int), .int .u64 ((65536 + nd true 5 : Nat) : Int), .int .u64 ((65536 + nd true 6 : Nat) : Int), .int .i64 (wd true : Int)]⟩, .int .i64 t, .agg ⟨[.int .u8 ck, .int .u64 cv, .int .u64 cp]⟩]) Tryz.func59 rfl Tryz.ntmps59 rfl ?_
  intro w0 w a hpre hl hh
  simp only [slotsFrom, Nat.reduceAdd] at hl
  refine c_seq ?_
  refine c_region ?_
  refine wl (w_box hl hh rfl trivial rfl rfl ?_)
  clear hl hh a w; intro k3 a w hl hh
  refine wl (w_box hl hh rfl trivial rfl rfl ?_)
  clear hl hh a w; intro k5 a w hl hh
  refine wl (wl_val hl rfl trivial (r_assign hl rfl) ?_)
  clear hl a; intro a hl
  refine w_nil ?_
  have hl2 := hl.add (t := 1) (hl.add (t := 3) (hl.add (t := 5) (hl.nil) rfl) rfl) rfl; clear hl; have hl := hl2; clear hl2
  refine then_normal ?_
  refine c_seq ?_
  refine c_seq ?_
  refine c_region ?_
  refine wl (wl_val hl rfl trivial (r_move hl rfl) ?_)
  clear hl a; intro a hl
  refine wl (wl_val hl rfl trivial (r_lss hl rfl rfl) ?_)
  clear hl a; intro a hl
  refine wl (wl_val hl rfl trivial (r_move hl rfl) ?_)
  clear hl a; intro a hl
  refine sl_split (t := 9) hl rfl ?_ ?_
  · intro hg1; clear hl; intro hl
    try simp only [decide_eq_true_eq, decide_eq_false_iff_not, Bool.not_eq_true', Bool.not_eq_false', Bool.not_eq_true, Bool.not_eq_false, Bool.and_eq_true, Bool.or_eq_true, Bool.and_eq_false_iff, Bool.or_eq_false_iff, Bool.not_not, ne_eq, Int.not_lt, Int.not_le, Decidable.not_not, beq_iff_eq, bne_iff_ne] at hg1
    exfalso; first | omega | (simp at *; done) | (simp at *; omega)
  · intro hg1; clear hl; intro hl
    try simp only [decide_eq_true_eq, decide_eq_false_iff_not, Bool.not_eq_true', Bool.not_eq_false', Bool.not_eq_true, Bool.not_eq_false, Bool.and_eq_true, Bool.or_eq_true, Bool.and_eq_false_iff, Bool.or_eq_false_iff, Bool.not_not, ne_eq, Int.not_lt, Int.not_le, Decidable.not_not, beq_iff_eq, bne_iff_ne] at hg1
    refine wl (wl_val hl rfl ⟨_, _, rfl, rfl, rfl⟩ (r_move hl rfl) ?_)
    clear hl a; intro a hl
    refine wl (wl_val hl rfl ⟨_, _, rfl, rfl, rfl⟩ (r_geq hl rfl rfl) ?_)
    clear hl a; intro a hl
    refine wl (wl_val hl rfl trivial (r_pickF hl rfl rfl) ?_)
    clear hl a; intro a hl
    refine w_nil ?_
    have hl2 := hl.add (t := 1) (hl.add (t := 3) (hl.add (t := 5) (hl.add (t := 12) (hl.nil) rfl) rfl) rfl) rfl; clear hl; have hl := hl2; clear hl2
    refine then_normal ?_
    refine c_cond hl rfl ?_ ?_
    · intro hc0
      try simp only [decide_eq_true_eq, decide_eq_false_iff_not, Bool.not_eq_true', Bool.not_eq_false', Bool.not_eq_true, Bool.not_eq_false, Bool.and_eq_true, Bool.or_eq_true, Bool.and_eq_false_iff, Bool.or_eq_false_iff, Bool.not_not, ne_eq, Int.not_lt, Int.not_le, Decidable.not_not, beq_iff_eq, bne_iff_ne] at hc0
      exfalso; first | omega | (simp at *; done) | (simp at *; omega)
    · intro hc0
      try simp only [decide_eq_true_eq, decide_eq_false_iff_not, Bool.not_eq_true', Bool.not_eq_false', Bool.not_eq_true, Bool.not_eq_false, Bool.and_eq_true, Bool.or_eq_true, Bool.and_eq_false_iff, Bool.or_eq_false_iff, Bool.not_not, ne_eq, Int.not_lt, Int.not_le, Decidable.not_not, beq_iff_eq, bne_iff_ne] at hc0
      refine wp_skip ?_
      refine then_normal ?_
      refine c_seq ?_
      refine c_seq ?_
      refine c_region ?_
      refine wl (wl_val hl rfl trivial (r_field hl rfl fld69_2) ?_)
      clear hl a; intro a hl
      refine wl (w_load hl hh rfl trivial one3 rfl (by repeat (first | exact find_head | apply find_tail)) (by first | rfl) ?_)
      clear hl a; intro a hl
      refine wl (wl_val hl rfl trivial (r_eql hl rfl rfl) ?_)
      clear hl a; intro a hl
      refine w_nil ?_
      have hl2 := hl.add (t := 1) (hl.add (t := 3) (hl.add (t := 5) (hl.add (t := 17) (hl.nil) rfl) rfl) rfl) rfl; clear hl; have hl := hl2; clear hl2
      refine then_normal ?_
      refine c_cond hl rfl ?_ ?_
      · intro hc1
        try simp only [decide_eq_true_eq, decide_eq_false_iff_not, Bool.not_eq_true', Bool.not_eq_false', Bool.not_eq_true, Bool.not_eq_false, Bool.and_eq_true, Bool.or_eq_true, Bool.and_eq_false_iff, Bool.or_eq_false_iff, Bool.not_not, ne_eq, Int.not_lt, Int.not_le, Decidable.not_not, beq_iff_eq, bne_iff_ne] at hc1
        exfalso; simp [wd] at hc1
      · intro hc1
        try simp only [decide_eq_true_eq, decide_eq_false_iff_not, Bool.not_eq_true', Bool.not_eq_false', Bool.not_eq_true, Bool.not_eq_false, Bool.and_eq_true, Bool.or_eq_true, Bool.and_eq_false_iff, Bool.or_eq_false_iff, Bool.not_not, ne_eq, Int.not_lt, Int.not_le, Decidable.not_not, beq_iff_eq, bne_iff_ne] at hc1
        refine wp_skip ?_
        refine then_normal ?_
        refine c_seq ?_
        refine c_region ?_
        refine wl (w_loadA hl hh rfl trivial agg69 rfl (by repeat (first | exact find_head | apply find_tail)) (by first | (simp only [List.getElem?_cons_zero, List.getElem?_cons_succ, Value.cells, List.take_zero, List.take_succ_cons, List.take_nil, List.drop_zero, List.drop_succ_cons, List.drop_nil, List.length_cons, List.length_nil, List.cons_append, List.nil_append, List.append_nil, Nat.zero_add, Nat.add_zero, Nat.reduceAdd, Nat.reduceBEq, Nat.reduceEqDiff, Nat.ble, BEq.rfl, Bool.and_true, Bool.and_self, cond_true, beq_self_eq_true]; rfl)) (by first | rfl | (simp; done)) ?_)
        clear hl a; intro a hl
        refine wl (wl_val hl rfl trivial (r_move hl rfl) ?_)
        clear hl a; intro a hl
        refine wl (w_loadA hl hh rfl trivial agg60 rfl (by repeat (first | exact find_head | apply find_tail)) (by first | (simp only [List.getElem?_cons_zero, List.getElem?_cons_succ, Value.cells, List.take_zero, List.take_succ_cons, List.take_nil, List.drop_zero, List.drop_succ_cons, List.drop_nil, List.length_cons, List.length_nil, List.cons_append, List.nil_append, List.append_nil, Nat.zero_add, Nat.add_zero, Nat.reduceAdd, Nat.reduceBEq, Nat.reduceEqDiff, Nat.ble, BEq.rfl, Bool.and_true, Bool.and_self, cond_true, beq_self_eq_true]; rfl)) (by first | rfl | (simp; done)) ?_)
        clear hl a; intro a hl
        refine wl (wl_val hl rfl trivial (r_build hl rfl zero177 bld177 (by simp only [fillL, setL, List.getElem?_cons_zero, List.getElem?_cons_succ, Value.cells, List.take_zero, List.take_succ_cons, List.take_nil, List.drop_zero, List.drop_succ_cons, List.drop_nil, List.length_cons, List.length_nil, List.cons_append, List.nil_append, List.append_nil, Nat.zero_add, Nat.add_zero, Nat.reduceAdd, Nat.reduceBEq, Nat.reduceEqDiff, Nat.ble, BEq.rfl, Bool.and_true, Bool.and_self, cond_true, beq_self_eq_true]; rfl)) ?_)
        clear hl a; intro a hl
        refine wl (w_box hl hh rfl trivial rfl rfl ?_)
        clear hl hh a w; intro k23 a w hl hh
        refine wl (wl_val hl rfl trivial (r_makeInterface hl rfl conc169) ?_)
        clear hl a; intro a hl
        refine wl (wl_val hl rfl trivial (r_assign hl rfl) ?_)
        clear hl a; intro a hl
        refine w_nil ?_
        have hl2 := hl.add (t := 6) (hl.nil) rfl; clear hl; have hl := hl2; clear hl2
        refine then_normal ?_
        refine wp_ret ?_
        refine f_ret1 (F' := [(k23, C (arrL 37 (encP (startP true t ck cv cp))) 177)]) hl hh rfl rfl (by repeat (first | exact keeps_nil | apply keeps_cons (by repeat (first | exact find_head | apply find_tail)) (by first  | exact start_obj true t ck cv cp | rfl) | exact keeps_self | apply keeps_mv)) ?_
        exact .inr ⟨h, k23, rfl, rfl⟩

theorem operation_spec (k : Bool) (t : Nat) (ck cv cp : Int) : Sp Tryz.prog 59 #[.agg ⟨[.int .u64 ((65536 + hd k : Nat) : Int), .int .u64 ((65536 + nd k 0 : Nat) : Int), .int .u64 ((65536 + nd k 1 : Nat) : Int), .int .u64 ((65536 + nd k 2 : Nat) : Int), .int .u64 ((65536 + nd k 3 : Nat) : Int), .int .u64 ((65536 + nd k 4 : Nat) : Int), .int .u64 ((65536 + nd k 5 : Nat) : Int), .int .u64 ((65536 + nd k 6 : Nat) : Int), .int .i64 (wd k : Int)]⟩, .int .i64 t, .agg ⟨[.int .u8 ck, .int .u64 cv, .int .u64 cp]⟩] [] (fun v F' => OpR k t ck cv cp v F') := by
  rcases Nat.lt_or_ge t 6 with h | h
  · cases k
    · exact operation_yes_false t ck cv cp h
    · exact operation_yes_true t ck cv cp h
  · cases k
    · exact operation_no_false t ck cv cp h
    · exact operation_no_true t ck cv cp h

set_option maxHeartbeats 1000000 in
theorem pushLeftP_spec (t : Nat) (x : Int) : Sp Tryz.prog 35 #[.agg ⟨[.int .u64 ((65536 + hd false : Nat) : Int), .int .u64 ((65536 + nd false 0 : Nat) : Int), .int .u64 ((65536 + nd false 1 : Nat) : Int), .int .u64 ((65536 + nd false 2 : Nat) : Int), .int .u64 ((65536 + nd false 3 : Nat) : Int), .int .u64 ((65536 + nd false 4 : Nat) : Int), .int .u64 ((65536 + nd false 5 : Nat) : Int), .int .u64 ((65536 + nd false 6 : Nat) : Int), .int .i64 (wd false : Int)]⟩, .int .i64 t, .int .u64 x] [] (fun v F' => OpR false t 0 x 0 v F') := by
  refine f_enter (args := [.agg ⟨[.int .u64 ((65536 + hd false : Nat) : Int), .int .u64 ((65536 + nd false 0 : Nat) : Int), .int .u64 ((65536 + nd false 1 : Nat) : Int), .int .u64 ((65536 + nd false 2 : Nat) : Int), .int .u64 ((65536 + nd false 3 : Nat) : Int), .int .u64 ((65536 + nd false 4 : Nat) : Int), .int .u64 ((65536 + nd false 5 : Nat) : Int), .int .u64 ((65536 + nd false 6 : Nat) : Int), .int .i64 (wd false : Int)]⟩, .int .i64 t, .int .u64 x]) Tryz.func35 rfl Tryz.ntmps35 rfl ?_
  intro w0 w a hpre hl hh
  simp only [slotsFrom, Nat.reduceAdd] at hl
  refine c_seq ?_
  refine c_region ?_
  refine wl (w_box hl hh rfl trivial rfl rfl ?_)
  clear hl hh a w; intro k3 a w hl hh
  refine wl (wl_val hl rfl trivial (r_assign hl rfl) ?_)
  clear hl a; intro a hl
  refine w_nil ?_
  have hl2 := hl.add (t := 1) (hl.add (t := 2) (hl.add (t := 3) (hl.nil) rfl) rfl) rfl; clear hl; have hl := hl2; clear hl2
  refine then_normal ?_
  refine c_seq ?_
  refine c_region ?_
  refine wl (wl_val hl rfl trivial (r_field hl rfl fld71_0) ?_)
  clear hl a; intro a hl
  refine wl (w_loadA hl hh rfl trivial agg69 rfl (by repeat (first | exact find_head | apply find_tail)) (by first | (simp only [List.getElem?_cons_zero, List.getElem?_cons_succ, Value.cells, List.take_zero, List.take_succ_cons, List.take_nil, List.drop_zero, List.drop_succ_cons, List.drop_nil, List.length_cons, List.length_nil, List.cons_append, List.nil_append, List.append_nil, Nat.zero_add, Nat.add_zero, Nat.reduceAdd, Nat.reduceBEq, Nat.reduceEqDiff, Nat.ble, BEq.rfl, Bool.and_true, Bool.and_self, cond_true, beq_self_eq_true]; rfl)) (by first | rfl | (simp; done)) ?_)
  clear hl a; intro a hl
  refine wl (wl_val hl rfl trivial (r_move hl rfl) ?_)
  clear hl a; intro a hl
  refine wl (wl_val hl rfl trivial (r_move hl rfl) ?_)
  clear hl a; intro a hl
  refine wl (wl_val hl rfl trivial (r_build hl rfl zero60 bld60 (by simp only [fillL, setL, List.getElem?_cons_zero, List.getElem?_cons_succ, Value.cells, List.take_zero, List.take_succ_cons, List.take_nil, List.drop_zero, List.drop_succ_cons, List.drop_nil, List.length_cons, List.length_nil, List.cons_append, List.nil_append, List.append_nil, Nat.zero_add, Nat.add_zero, Nat.reduceAdd, Nat.reduceBEq, Nat.reduceEqDiff, Nat.ble, BEq.rfl, Bool.and_true, Bool.and_self, cond_true, beq_self_eq_true]; rfl)) ?_)
  clear hl a; intro a hl
  refine wl (w_call hl hh rfl trivial rfl cal59 rfl (operation_spec false t 0 x 0) (by repeat (first | exact keeps_nil | apply keeps_cons (by repeat (first | exact find_head | apply find_tail)) (by first  | rfl) | exact keeps_self | exact keeps_left | exact keeps_right | exact keeps_swap | apply keeps_mv)) trivial ?_)
  clear hl hh a w; intro vc Fc a w hR hl hh
  obtain hR := hR
  try simp only [List.cons_append, List.nil_append] at hh
  refine wl (wl_val hl rfl trivial (r_assign hl rfl) ?_)
  clear hl a; intro a hl
  refine w_nil ?_
  have hl2 := hl.add (t := 6) (hl.nil) rfl; clear hl; have hl := hl2; clear hl2
  refine then_normal ?_
  refine wp_ret ?_
  refine f_ret1 (F' := Fc) hl hh rfl rfl (by repeat (first | exact keeps_nil | apply keeps_cons (by repeat (first | exact find_head | apply find_tail)) (by first  | rfl) | exact keeps_self | exact keeps_left | exact keeps_right | exact keeps_swap | apply keeps_mv)) ?_
  exact hR

set_option maxHeartbeats 1000000 in
theorem pushRightP_spec (t : Nat) (x : Int) : Sp Tryz.prog 36 #[.agg ⟨[.int .u64 ((65536 + hd false : Nat) : Int), .int .u64 ((65536 + nd false 0 : Nat) : Int), .int .u64 ((65536 + nd false 1 : Nat) : Int), .int .u64 ((65536 + nd false 2 : Nat) : Int), .int .u64 ((65536 + nd false 3 : Nat) : Int), .int .u64 ((65536 + nd false 4 : Nat) : Int), .int .u64 ((65536 + nd false 5 : Nat) : Int), .int .u64 ((65536 + nd false 6 : Nat) : Int), .int .i64 (wd false : Int)]⟩, .int .i64 t, .int .u64 x] [] (fun v F' => OpR false t 1 x 0 v F') := by
  refine f_enter (args := [.agg ⟨[.int .u64 ((65536 + hd false : Nat) : Int), .int .u64 ((65536 + nd false 0 : Nat) : Int), .int .u64 ((65536 + nd false 1 : Nat) : Int), .int .u64 ((65536 + nd false 2 : Nat) : Int), .int .u64 ((65536 + nd false 3 : Nat) : Int), .int .u64 ((65536 + nd false 4 : Nat) : Int), .int .u64 ((65536 + nd false 5 : Nat) : Int), .int .u64 ((65536 + nd false 6 : Nat) : Int), .int .i64 (wd false : Int)]⟩, .int .i64 t, .int .u64 x]) Tryz.func36 rfl Tryz.ntmps36 rfl ?_
  intro w0 w a hpre hl hh
  simp only [slotsFrom, Nat.reduceAdd] at hl
  refine c_seq ?_
  refine c_region ?_
  refine wl (w_box hl hh rfl trivial rfl rfl ?_)
  clear hl hh a w; intro k3 a w hl hh
  refine wl (wl_val hl rfl trivial (r_assign hl rfl) ?_)
  clear hl a; intro a hl
  refine w_nil ?_
  have hl2 := hl.add (t := 1) (hl.add (t := 2) (hl.add (t := 3) (hl.nil) rfl) rfl) rfl; clear hl; have hl := hl2; clear hl2
  refine then_normal ?_
  refine c_seq ?_
  refine c_region ?_
  refine wl (wl_val hl rfl trivial (r_field hl rfl fld71_0) ?_)
  clear hl a; intro a hl
  refine wl (w_loadA hl hh rfl trivial agg69 rfl (by repeat (first | exact find_head | apply find_tail)) (by first | (simp only [List.getElem?_cons_zero, List.getElem?_cons_succ, Value.cells, List.take_zero, List.take_succ_cons, List.take_nil, List.drop_zero, List.drop_succ_cons, List.drop_nil, List.length_cons, List.length_nil, List.cons_append, List.nil_append, List.append_nil, Nat.zero_add, Nat.add_zero, Nat.reduceAdd, Nat.reduceBEq, Nat.reduceEqDiff, Nat.ble, BEq.rfl, Bool.and_true, Bool.and_self, cond_true, beq_self_eq_true]; rfl)) (by first | rfl | (simp; done)) ?_)
  clear hl a; intro a hl
  refine wl (wl_val hl rfl trivial (r_move hl rfl) ?_)
  clear hl a; intro a hl
  refine wl (wl_val hl rfl trivial (r_move hl rfl) ?_)
  clear hl a; intro a hl
  refine wl (wl_val hl rfl trivial (r_build hl rfl zero60 bld60 (by simp only [fillL, setL, List.getElem?_cons_zero, List.getElem?_cons_succ, Value.cells, List.take_zero, List.take_succ_cons, List.take_nil, List.drop_zero, List.drop_succ_cons, List.drop_nil, List.length_cons, List.length_nil, List.cons_append, List.nil_append, List.append_nil, Nat.zero_add, Nat.add_zero, Nat.reduceAdd, Nat.reduceBEq, Nat.reduceEqDiff, Nat.ble, BEq.rfl, Bool.and_true, Bool.and_self, cond_true, beq_self_eq_true]; rfl)) ?_)
  clear hl a; intro a hl
  refine wl (w_call hl hh rfl trivial rfl cal59 rfl (operation_spec false t 1 x 0) (by repeat (first | exact keeps_nil | apply keeps_cons (by repeat (first | exact find_head | apply find_tail)) (by first  | rfl) | exact keeps_self | exact keeps_left | exact keeps_right | exact keeps_swap | apply keeps_mv)) trivial ?_)
  clear hl hh a w; intro vc Fc a w hR hl hh
  obtain hR := hR
  try simp only [List.cons_append, List.nil_append] at hh
  refine wl (wl_val hl rfl trivial (r_assign hl rfl) ?_)
  clear hl a; intro a hl
  refine w_nil ?_
  have hl2 := hl.add (t := 6) (hl.nil) rfl; clear hl; have hl := hl2; clear hl2
  refine then_normal ?_
  refine wp_ret ?_
  refine f_ret1 (F' := Fc) hl hh rfl rfl (by repeat (first | exact keeps_nil | apply keeps_cons (by repeat (first | exact find_head | apply find_tail)) (by first  | rfl) | exact keeps_self | exact keeps_left | exact keeps_right | exact keeps_swap | apply keeps_mv)) ?_
  exact hR

set_option maxHeartbeats 1000000 in
theorem popLeftP_spec (t : Nat)  : Sp Tryz.prog 37 #[.agg ⟨[.int .u64 ((65536 + hd false : Nat) : Int), .int .u64 ((65536 + nd false 0 : Nat) : Int), .int .u64 ((65536 + nd false 1 : Nat) : Int), .int .u64 ((65536 + nd false 2 : Nat) : Int), .int .u64 ((65536 + nd false 3 : Nat) : Int), .int .u64 ((65536 + nd false 4 : Nat) : Int), .int .u64 ((65536 + nd false 5 : Nat) : Int), .int .u64 ((65536 + nd false 6 : Nat) : Int), .int .i64 (wd false : Int)]⟩, .int .i64 t] [] (fun v F' => OpR false t 2 0 0 v F') := by
  refine f_enter (args := [.agg ⟨[.int .u64 ((65536 + hd false : Nat) : Int), .int .u64 ((65536 + nd false 0 : Nat) : Int), .int .u64 ((65536 + nd false 1 : Nat) : Int), .int .u64 ((65536 + nd false 2 : Nat) : Int), .int .u64 ((65536 + nd false 3 : Nat) : Int), .int .u64 ((65536 + nd false 4 : Nat) : Int), .int .u64 ((65536 + nd false 5 : Nat) : Int), .int .u64 ((65536 + nd false 6 : Nat) : Int), .int .i64 (wd false : Int)]⟩, .int .i64 t]) Tryz.func37 rfl Tryz.ntmps37 rfl ?_
  intro w0 w a hpre hl hh
  simp only [slotsFrom, Nat.reduceAdd] at hl
  refine c_seq ?_
  refine c_region ?_
  refine wl (w_box hl hh rfl trivial rfl rfl ?_)
  clear hl hh a w; intro k2 a w hl hh
  refine wl (wl_val hl rfl trivial (r_assign hl rfl) ?_)
  clear hl a; intro a hl
  refine w_nil ?_
  have hl2 := hl.add (t := 1) (hl.add (t := 2) (hl.nil) rfl) rfl; clear hl; have hl := hl2; clear hl2
  refine then_normal ?_
  refine c_seq ?_
  refine c_region ?_
  refine wl (wl_val hl rfl trivial (r_field hl rfl fld71_0) ?_)
  clear hl a; intro a hl
  refine wl (w_loadA hl hh rfl trivial agg69 rfl (by repeat (first | exact find_head | apply find_tail)) (by first | (simp only [List.getElem?_cons_zero, List.getElem?_cons_succ, Value.cells, List.take_zero, List.take_succ_cons, List.take_nil, List.drop_zero, List.drop_succ_cons, List.drop_nil, List.length_cons, List.length_nil, List.cons_append, List.nil_append, List.append_nil, Nat.zero_add, Nat.add_zero, Nat.reduceAdd, Nat.reduceBEq, Nat.reduceEqDiff, Nat.ble, BEq.rfl, Bool.and_true, Bool.and_self, cond_true, beq_self_eq_true]; rfl)) (by first | rfl | (simp; done)) ?_)
  clear hl a; intro a hl
  refine wl (wl_val hl rfl trivial (r_move hl rfl) ?_)
  clear hl a; intro a hl
  refine wl (wl_val hl rfl trivial (r_build hl rfl zero60 bld60 (by simp only [fillL, setL, List.getElem?_cons_zero, List.getElem?_cons_succ, Value.cells, List.take_zero, List.take_succ_cons, List.take_nil, List.drop_zero, List.drop_succ_cons, List.drop_nil, List.length_cons, List.length_nil, List.cons_append, List.nil_append, List.append_nil, Nat.zero_add, Nat.add_zero, Nat.reduceAdd, Nat.reduceBEq, Nat.reduceEqDiff, Nat.ble, BEq.rfl, Bool.and_true, Bool.and_self, cond_true, beq_self_eq_true]; rfl)) ?_)
  clear hl a; intro a hl
  refine wl (w_call hl hh rfl trivial rfl cal59 rfl (operation_spec false t 2 0 0) (by repeat (first | exact keeps_nil | apply keeps_cons (by repeat (first | exact find_head | apply find_tail)) (by first  | rfl) | exact keeps_self | exact keeps_left | exact keeps_right | exact keeps_swap | apply keeps_mv)) trivial ?_)
  clear hl hh a w; intro vc Fc a w hR hl hh
  obtain hR := hR
  try simp only [List.cons_append, List.nil_append] at hh
  refine wl (wl_val hl rfl trivial (r_assign hl rfl) ?_)
  clear hl a; intro a hl
  refine w_nil ?_
  have hl2 := hl.add (t := 4) (hl.nil) rfl; clear hl; have hl := hl2; clear hl2
  refine then_normal ?_
  refine wp_ret ?_
  refine f_ret1 (F' := Fc) hl hh rfl rfl (by repeat (first | exact keeps_nil | apply keeps_cons (by repeat (first | exact find_head | apply find_tail)) (by first  | rfl) | exact keeps_self | exact keeps_left | exact keeps_right | exact keeps_swap | apply keeps_mv)) ?_
  exact hR

set_option maxHeartbeats 1000000 in
theorem popRightP_spec (t : Nat)  : Sp Tryz.prog 38 #[.agg ⟨[.int .u64 ((65536 + hd false : Nat) : Int), .int .u64 ((65536 + nd false 0 : Nat) : Int), .int .u64 ((65536 + nd false 1 : Nat) : Int), .int .u64 ((65536 + nd false 2 : Nat) : Int), .int .u64 ((65536 + nd false 3 : Nat) : Int), .int .u64 ((65536 + nd false 4 : Nat) : Int), .int .u64 ((65536 + nd false 5 : Nat) : Int), .int .u64 ((65536 + nd false 6 : Nat) : Int), .int .i64 (wd false : Int)]⟩, .int .i64 t] [] (fun v F' => OpR false t 3 0 0 v F') := by
  refine f_enter (args := [.agg ⟨[.int .u64 ((65536 + hd false : Nat) : Int), .int .u64 ((65536 + nd false 0 : Nat) : Int), .int .u64 ((65536 + nd false 1 : Nat) : Int), .int .u64 ((65536 + nd false 2 : Nat) : Int), .int .u64 ((65536 + nd false 3 : Nat) : Int), .int .u64 ((65536 + nd false 4 : Nat) : Int), .int .u64 ((65536 + nd false 5 : Nat) : Int), .int .u64 ((65536 + nd false 6 : Nat) : Int), .int .i64 (wd false : Int)]⟩, .int .i64 t]) Tryz.func38 rfl Tryz.ntmps38 rfl ?_
  intro w0 w a hpre hl hh
  simp only [slotsFrom, Nat.reduceAdd] at hl
  refine c_seq ?_
  refine c_region ?_
  refine wl (w_box hl hh rfl trivial rfl rfl ?_)
  clear hl hh a w; intro k2 a w hl hh
  refine wl (wl_val hl rfl trivial (r_assign hl rfl) ?_)
  clear hl a; intro a hl
  refine w_nil ?_
  have hl2 := hl.add (t := 1) (hl.add (t := 2) (hl.nil) rfl) rfl; clear hl; have hl := hl2; clear hl2
  refine then_normal ?_
  refine c_seq ?_
  refine c_region ?_
  refine wl (wl_val hl rfl trivial (r_field hl rfl fld71_0) ?_)
  clear hl a; intro a hl
  refine wl (w_loadA hl hh rfl trivial agg69 rfl (by repeat (first | exact find_head | apply find_tail)) (by first | (simp only [List.getElem?_cons_zero, List.getElem?_cons_succ, Value.cells, List.take_zero, List.take_succ_cons, List.take_nil, List.drop_zero, List.drop_succ_cons, List.drop_nil, List.length_cons, List.length_nil, List.cons_append, List.nil_append, List.append_nil, Nat.zero_add, Nat.add_zero, Nat.reduceAdd, Nat.reduceBEq, Nat.reduceEqDiff, Nat.ble, BEq.rfl, Bool.and_true, Bool.and_self, cond_true, beq_self_eq_true]; rfl)) (by first | rfl | (simp; done)) ?_)
  clear hl a; intro a hl
  refine wl (wl_val hl rfl trivial (r_move hl rfl) ?_)
  clear hl a; intro a hl
  refine wl (wl_val hl rfl trivial (r_build hl rfl zero60 bld60 (by simp only [fillL, setL, List.getElem?_cons_zero, List.getElem?_cons_succ, Value.cells, List.take_zero, List.take_succ_cons, List.take_nil, List.drop_zero, List.drop_succ_cons, List.drop_nil, List.length_cons, List.length_nil, List.cons_append, List.nil_append, List.append_nil, Nat.zero_add, Nat.add_zero, Nat.reduceAdd, Nat.reduceBEq, Nat.reduceEqDiff, Nat.ble, BEq.rfl, Bool.and_true, Bool.and_self, cond_true, beq_self_eq_true]; rfl)) ?_)
  clear hl a; intro a hl
  refine wl (w_call hl hh rfl trivial rfl cal59 rfl (operation_spec false t 3 0 0) (by repeat (first | exact keeps_nil | apply keeps_cons (by repeat (first | exact find_head | apply find_tail)) (by first  | rfl) | exact keeps_self | exact keeps_left | exact keeps_right | exact keeps_swap | apply keeps_mv)) trivial ?_)
  clear hl hh a w; intro vc Fc a w hR hl hh
  obtain hR := hR
  try simp only [List.cons_append, List.nil_append] at hh
  refine wl (wl_val hl rfl trivial (r_assign hl rfl) ?_)
  clear hl a; intro a hl
  refine w_nil ?_
  have hl2 := hl.add (t := 4) (hl.nil) rfl; clear hl; have hl := hl2; clear hl2
  refine then_normal ?_
  refine wp_ret ?_
  refine f_ret1 (F' := Fc) hl hh rfl rfl (by repeat (first | exact keeps_nil | apply keeps_cons (by repeat (first | exact find_head | apply find_tail)) (by first  | rfl) | exact keeps_self | exact keeps_left | exact keeps_right | exact keeps_swap | apply keeps_mv)) ?_
  exact hR

set_option maxHeartbeats 1000000 in
theorem putP_spec (t : Nat) (y x : Int) : Sp Tryz.prog 39 #[.agg ⟨[.int .u64 ((65536 + hd true : Nat) : Int), .int .u64 ((65536 + nd true 0 : Nat) : Int), .int .u64 ((65536 + nd true 1 : Nat) : Int), .int .u64 ((65536 + nd true 2 : Nat) : Int), .int .u64 ((65536 + nd true 3 : Nat) : Int), .int .u64 ((65536 + nd true 4 : Nat) : Int), .int .u64 ((65536 + nd true 5 : Nat) : Int), .int .u64 ((65536 + nd true 6 : Nat) : Int), .int .i64 (wd true : Int)]⟩, .int .i64 t, .int .u64 y, .int .u64 x] [] (fun v F' => OpR true t 4 x y v F') := by
  refine f_enter (args := [.agg ⟨[.int .u64 ((65536 + hd true : Nat) : Int), .int .u64 ((65536 + nd true 0 : Nat) : Int), .int .u64 ((65536 + nd true 1 : Nat) : Int), .int .u64 ((65536 + nd true 2 : Nat) : Int), .int .u64 ((65536 + nd true 3 : Nat) : Int), .int .u64 ((65536 + nd true 4 : Nat) : Int), .int .u64 ((65536 + nd true 5 : Nat) : Int), .int .u64 ((65536 + nd true 6 : Nat) : Int), .int .i64 (wd true : Int)]⟩, .int .i64 t, .int .u64 y, .int .u64 x]) Tryz.func39 rfl Tryz.ntmps39 rfl ?_
  intro w0 w a hpre hl hh
  simp only [slotsFrom, Nat.reduceAdd] at hl
  refine c_seq ?_
  refine c_region ?_
  refine wl (w_box hl hh rfl trivial rfl rfl ?_)
  clear hl hh a w; intro k4 a w hl hh
  refine wl (wl_val hl rfl trivial (r_assign hl rfl) ?_)
  clear hl a; intro a hl
  refine w_nil ?_
  have hl2 := hl.add (t := 1) (hl.add (t := 2) (hl.add (t := 3) (hl.add (t := 4) (hl.nil) rfl) rfl) rfl) rfl; clear hl; have hl := hl2; clear hl2
  refine then_normal ?_
  refine c_seq ?_
  refine c_region ?_
  refine wl (wl_val hl rfl trivial (r_field hl rfl fld72_0) ?_)
  clear hl a; intro a hl
  refine wl (w_loadA hl hh rfl trivial agg69 rfl (by repeat (first | exact find_head | apply find_tail)) (by first | (simp only [List.getElem?_cons_zero, List.getElem?_cons_succ, Value.cells, List.take_zero, List.take_succ_cons, List.take_nil, List.drop_zero, List.drop_succ_cons, List.drop_nil, List.length_cons, List.length_nil, List.cons_append, List.nil_append, List.append_nil, Nat.zero_add, Nat.add_zero, Nat.reduceAdd, Nat.reduceBEq, Nat.reduceEqDiff, Nat.ble, BEq.rfl, Bool.and_true, Bool.and_self, cond_true, beq_self_eq_true]; rfl)) (by first | rfl | (simp; done)) ?_)
  clear hl a; intro a hl
  refine wl (wl_val hl rfl trivial (r_move hl rfl) ?_)
  clear hl a; intro a hl
  refine wl (wl_val hl rfl trivial (r_move hl rfl) ?_)
  clear hl a; intro a hl
  refine wl (wl_val hl rfl trivial (r_move hl rfl) ?_)
  clear hl a; intro a hl
  refine wl (wl_val hl rfl trivial (r_build hl rfl zero60 bld60 (by simp only [fillL, setL, List.getElem?_cons_zero, List.getElem?_cons_succ, Value.cells, List.take_zero, List.take_succ_cons, List.take_nil, List.drop_zero, List.drop_succ_cons, List.drop_nil, List.length_cons, List.length_nil, List.cons_append, List.nil_append, List.append_nil, Nat.zero_add, Nat.add_zero, Nat.reduceAdd, Nat.reduceBEq, Nat.reduceEqDiff, Nat.ble, BEq.rfl, Bool.and_true, Bool.and_self, cond_true, beq_self_eq_true]; rfl)) ?_)
  clear hl a; intro a hl
  refine wl (w_call hl hh rfl trivial rfl cal59 rfl (operation_spec true t 4 x y) (by repeat (first | exact keeps_nil | apply keeps_cons (by repeat (first | exact find_head | apply find_tail)) (by first  | rfl) | exact keeps_self | exact keeps_left | exact keeps_right | exact keeps_swap | apply keeps_mv)) trivial ?_)
  clear hl hh a w; intro vc Fc a w hR hl hh
  obtain hR := hR
  try simp only [List.cons_append, List.nil_append] at hh
  refine wl (wl_val hl rfl trivial (r_assign hl rfl) ?_)
  clear hl a; intro a hl
  refine w_nil ?_
  have hl2 := hl.add (t := 8) (hl.nil) rfl; clear hl; have hl := hl2; clear hl2
  refine then_normal ?_
  refine wp_ret ?_
  refine f_ret1 (F' := Fc) hl hh rfl rfl (by repeat (first | exact keeps_nil | apply keeps_cons (by repeat (first | exact find_head | apply find_tail)) (by first  | rfl) | exact keeps_self | exact keeps_left | exact keeps_right | exact keeps_swap | apply keeps_mv)) ?_
  exact hR

set_option maxHeartbeats 1000000 in
theorem takeMinP_spec (t : Nat)  : Sp Tryz.prog 40 #[.agg ⟨[.int .u64 ((65536 + hd true : Nat) : Int), .int .u64 ((65536 + nd true 0 : Nat) : Int), .int .u64 ((65536 + nd true 1 : Nat) : Int), .int .u64 ((65536 + nd true 2 : Nat) : Int), .int .u64 ((65536 + nd true 3 : Nat) : Int), .int .u64 ((65536 + nd true 4 : Nat) : Int), .int .u64 ((65536 + nd true 5 : Nat) : Int), .int .u64 ((65536 + nd true 6 : Nat) : Int), .int .i64 (wd true : Int)]⟩, .int .i64 t] [] (fun v F' => OpR true t 5 0 0 v F') := by
  refine f_enter (args := [.agg ⟨[.int .u64 ((65536 + hd true : Nat) : Int), .int .u64 ((65536 + nd true 0 : Nat) : Int), .int .u64 ((65536 + nd true 1 : Nat) : Int), .int .u64 ((65536 + nd true 2 : Nat) : Int), .int .u64 ((65536 + nd true 3 : Nat) : Int), .int .u64 ((65536 + nd true 4 : Nat) : Int), .int .u64 ((65536 + nd true 5 : Nat) : Int), .int .u64 ((65536 + nd true 6 : Nat) : Int), .int .i64 (wd true : Int)]⟩, .int .i64 t]) Tryz.func40 rfl Tryz.ntmps40 rfl ?_
  intro w0 w a hpre hl hh
  simp only [slotsFrom, Nat.reduceAdd] at hl
  refine c_seq ?_
  refine c_region ?_
  refine wl (w_box hl hh rfl trivial rfl rfl ?_)
  clear hl hh a w; intro k2 a w hl hh
  refine wl (wl_val hl rfl trivial (r_assign hl rfl) ?_)
  clear hl a; intro a hl
  refine w_nil ?_
  have hl2 := hl.add (t := 1) (hl.add (t := 2) (hl.nil) rfl) rfl; clear hl; have hl := hl2; clear hl2
  refine then_normal ?_
  refine c_seq ?_
  refine c_region ?_
  refine wl (wl_val hl rfl trivial (r_field hl rfl fld72_0) ?_)
  clear hl a; intro a hl
  refine wl (w_loadA hl hh rfl trivial agg69 rfl (by repeat (first | exact find_head | apply find_tail)) (by first | (simp only [List.getElem?_cons_zero, List.getElem?_cons_succ, Value.cells, List.take_zero, List.take_succ_cons, List.take_nil, List.drop_zero, List.drop_succ_cons, List.drop_nil, List.length_cons, List.length_nil, List.cons_append, List.nil_append, List.append_nil, Nat.zero_add, Nat.add_zero, Nat.reduceAdd, Nat.reduceBEq, Nat.reduceEqDiff, Nat.ble, BEq.rfl, Bool.and_true, Bool.and_self, cond_true, beq_self_eq_true]; rfl)) (by first | rfl | (simp; done)) ?_)
  clear hl a; intro a hl
  refine wl (wl_val hl rfl trivial (r_move hl rfl) ?_)
  clear hl a; intro a hl
  refine wl (wl_val hl rfl trivial (r_build hl rfl zero60 bld60 (by simp only [fillL, setL, List.getElem?_cons_zero, List.getElem?_cons_succ, Value.cells, List.take_zero, List.take_succ_cons, List.take_nil, List.drop_zero, List.drop_succ_cons, List.drop_nil, List.length_cons, List.length_nil, List.cons_append, List.nil_append, List.append_nil, Nat.zero_add, Nat.add_zero, Nat.reduceAdd, Nat.reduceBEq, Nat.reduceEqDiff, Nat.ble, BEq.rfl, Bool.and_true, Bool.and_self, cond_true, beq_self_eq_true]; rfl)) ?_)
  clear hl a; intro a hl
  refine wl (w_call hl hh rfl trivial rfl cal59 rfl (operation_spec true t 5 0 0) (by repeat (first | exact keeps_nil | apply keeps_cons (by repeat (first | exact find_head | apply find_tail)) (by first  | rfl) | exact keeps_self | exact keeps_left | exact keeps_right | exact keeps_swap | apply keeps_mv)) trivial ?_)
  clear hl hh a w; intro vc Fc a w hR hl hh
  obtain hR := hR
  try simp only [List.cons_append, List.nil_append] at hh
  refine wl (wl_val hl rfl trivial (r_assign hl rfl) ?_)
  clear hl a; intro a hl
  refine w_nil ?_
  have hl2 := hl.add (t := 4) (hl.nil) rfl; clear hl; have hl := hl2; clear hl2
  refine then_normal ?_
  refine wp_ret ?_
  refine f_ret1 (F' := Fc) hl hh rfl rfl (by repeat (first | exact keeps_nil | apply keeps_cons (by repeat (first | exact find_head | apply find_tail)) (by first  | rfl) | exact keeps_self | exact keeps_left | exact keeps_right | exact keeps_swap | apply keeps_mv)) ?_
  exact hR

set_option maxHeartbeats 1000000 in
theorem peekMinP_spec (t : Nat)  : Sp Tryz.prog 41 #[.agg ⟨[.int .u64 ((65536 + hd true : Nat) : Int), .int .u64 ((65536 + nd true 0 : Nat) : Int), .int .u64 ((65536 + nd true 1 : Nat) : Int), .int .u64 ((65536 + nd true 2 : Nat) : Int), .int .u64 ((65536 + nd true 3 : Nat) : Int), .int .u64 ((65536 + nd true 4 : Nat) : Int), .int .u64 ((65536 + nd true 5 : Nat) : Int), .int .u64 ((65536 + nd true 6 : Nat) : Int), .int .i64 (wd true : Int)]⟩, .int .i64 t] [] (fun v F' => OpR true t 6 0 0 v F') := by
  refine f_enter (args := [.agg ⟨[.int .u64 ((65536 + hd true : Nat) : Int), .int .u64 ((65536 + nd true 0 : Nat) : Int), .int .u64 ((65536 + nd true 1 : Nat) : Int), .int .u64 ((65536 + nd true 2 : Nat) : Int), .int .u64 ((65536 + nd true 3 : Nat) : Int), .int .u64 ((65536 + nd true 4 : Nat) : Int), .int .u64 ((65536 + nd true 5 : Nat) : Int), .int .u64 ((65536 + nd true 6 : Nat) : Int), .int .i64 (wd true : Int)]⟩, .int .i64 t]) Tryz.func41 rfl Tryz.ntmps41 rfl ?_
  intro w0 w a hpre hl hh
  simp only [slotsFrom, Nat.reduceAdd] at hl
  refine c_seq ?_
  refine c_region ?_
  refine wl (w_box hl hh rfl trivial rfl rfl ?_)
  clear hl hh a w; intro k2 a w hl hh
  refine wl (wl_val hl rfl trivial (r_assign hl rfl) ?_)
  clear hl a; intro a hl
  refine w_nil ?_
  have hl2 := hl.add (t := 1) (hl.add (t := 2) (hl.nil) rfl) rfl; clear hl; have hl := hl2; clear hl2
  refine then_normal ?_
  refine c_seq ?_
  refine c_region ?_
  refine wl (wl_val hl rfl trivial (r_field hl rfl fld72_0) ?_)
  clear hl a; intro a hl
  refine wl (w_loadA hl hh rfl trivial agg69 rfl (by repeat (first | exact find_head | apply find_tail)) (by first | (simp only [List.getElem?_cons_zero, List.getElem?_cons_succ, Value.cells, List.take_zero, List.take_succ_cons, List.take_nil, List.drop_zero, List.drop_succ_cons, List.drop_nil, List.length_cons, List.length_nil, List.cons_append, List.nil_append, List.append_nil, Nat.zero_add, Nat.add_zero, Nat.reduceAdd, Nat.reduceBEq, Nat.reduceEqDiff, Nat.ble, BEq.rfl, Bool.and_true, Bool.and_self, cond_true, beq_self_eq_true]; rfl)) (by first | rfl | (simp; done)) ?_)
  clear hl a; intro a hl
  refine wl (wl_val hl rfl trivial (r_move hl rfl) ?_)
  clear hl a; intro a hl
  refine wl (wl_val hl rfl trivial (r_build hl rfl zero60 bld60 (by simp only [fillL, setL, List.getElem?_cons_zero, List.getElem?_cons_succ, Value.cells, List.take_zero, List.take_succ_cons, List.take_nil, List.drop_zero, List.drop_succ_cons, List.drop_nil, List.length_cons, List.length_nil, List.cons_append, List.nil_append, List.append_nil, Nat.zero_add, Nat.add_zero, Nat.reduceAdd, Nat.reduceBEq, Nat.reduceEqDiff, Nat.ble, BEq.rfl, Bool.and_true, Bool.and_self, cond_true, beq_self_eq_true]; rfl)) ?_)
  clear hl a; intro a hl
  refine wl (w_call hl hh rfl trivial rfl cal59 rfl (operation_spec true t 6 0 0) (by repeat (first | exact keeps_nil | apply keeps_cons (by repeat (first | exact find_head | apply find_tail)) (by first  | rfl) | exact keeps_self | exact keeps_left | exact keeps_right | exact keeps_swap | apply keeps_mv)) trivial ?_)
  clear hl hh a w; intro vc Fc a w hR hl hh
  obtain hR := hR
  try simp only [List.cons_append, List.nil_append] at hh
  refine wl (wl_val hl rfl trivial (r_assign hl rfl) ?_)
  clear hl a; intro a hl
  refine w_nil ?_
  have hl2 := hl.add (t := 4) (hl.nil) rfl; clear hl; have hl := hl2; clear hl2
  refine then_normal ?_
  refine wp_ret ?_
  refine f_ret1 (F' := Fc) hl hh rfl rfl (by repeat (first | exact keeps_nil | apply keeps_cons (by repeat (first | exact find_head | apply find_tail)) (by first  | rfl) | exact keeps_self | exact keeps_left | exact keeps_right | exact keeps_swap | apply keeps_mv)) ?_
  exact hR

set_option maxHeartbeats 1000000 in
theorem takeDueP_spec (t : Nat) (y : Int) : Sp Tryz.prog 42 #[.agg ⟨[.int .u64 ((65536 + hd true : Nat) : Int), .int .u64 ((65536 + nd true 0 : Nat) : Int), .int .u64 ((65536 + nd true 1 : Nat) : Int), .int .u64 ((65536 + nd true 2 : Nat) : Int), .int .u64 ((65536 + nd true 3 : Nat) : Int), .int .u64 ((65536 + nd true 4 : Nat) : Int), .int .u64 ((65536 + nd true 5 : Nat) : Int), .int .u64 ((65536 + nd true 6 : Nat) : Int), .int .i64 (wd true : Int)]⟩, .int .i64 t, .int .u64 y] [] (fun v F' => OpR true t 7 0 y v F') := by
  refine f_enter (args := [.agg ⟨[.int .u64 ((65536 + hd true : Nat) : Int), .int .u64 ((65536 + nd true 0 : Nat) : Int), .int .u64 ((65536 + nd true 1 : Nat) : Int), .int .u64 ((65536 + nd true 2 : Nat) : Int), .int .u64 ((65536 + nd true 3 : Nat) : Int), .int .u64 ((65536 + nd true 4 : Nat) : Int), .int .u64 ((65536 + nd true 5 : Nat) : Int), .int .u64 ((65536 + nd true 6 : Nat) : Int), .int .i64 (wd true : Int)]⟩, .int .i64 t, .int .u64 y]) Tryz.func42 rfl Tryz.ntmps42 rfl ?_
  intro w0 w a hpre hl hh
  simp only [slotsFrom, Nat.reduceAdd] at hl
  refine c_seq ?_
  refine c_region ?_
  refine wl (w_box hl hh rfl trivial rfl rfl ?_)
  clear hl hh a w; intro k3 a w hl hh
  refine wl (wl_val hl rfl trivial (r_assign hl rfl) ?_)
  clear hl a; intro a hl
  refine w_nil ?_
  have hl2 := hl.add (t := 1) (hl.add (t := 2) (hl.add (t := 3) (hl.nil) rfl) rfl) rfl; clear hl; have hl := hl2; clear hl2
  refine then_normal ?_
  refine c_seq ?_
  refine c_region ?_
  refine wl (wl_val hl rfl trivial (r_field hl rfl fld72_0) ?_)
  clear hl a; intro a hl
  refine wl (w_loadA hl hh rfl trivial agg69 rfl (by repeat (first | exact find_head | apply find_tail)) (by first | (simp only [List.getElem?_cons_zero, List.getElem?_cons_succ, Value.cells, List.take_zero, List.take_succ_cons, List.take_nil, List.drop_zero, List.drop_succ_cons, List.drop_nil, List.length_cons, List.length_nil, List.cons_append, List.nil_append, List.append_nil, Nat.zero_add, Nat.add_zero, Nat.reduceAdd, Nat.reduceBEq, Nat.reduceEqDiff, Nat.ble, BEq.rfl, Bool.and_true, Bool.and_self, cond_true, beq_self_eq_true]; rfl)) (by first | rfl | (simp; done)) ?_)
  clear hl a; intro a hl
  refine wl (wl_val hl rfl trivial (r_move hl rfl) ?_)
  clear hl a; intro a hl
  refine wl (wl_val hl rfl trivial (r_move hl rfl) ?_)
  clear hl a; intro a hl
  refine wl (wl_val hl rfl trivial (r_build hl rfl zero60 bld60 (by simp only [fillL, setL, List.getElem?_cons_zero, List.getElem?_cons_succ, Value.cells, List.take_zero, List.take_succ_cons, List.take_nil, List.drop_zero, List.drop_succ_cons, List.drop_nil, List.length_cons, List.length_nil, List.cons_append, List.nil_append, List.append_nil, Nat.zero_add, Nat.add_zero, Nat.reduceAdd, Nat.reduceBEq, Nat.reduceEqDiff, Nat.ble, BEq.rfl, Bool.and_true, Bool.and_self, cond_true, beq_self_eq_true]; rfl)) ?_)
  clear hl a; intro a hl
  refine wl (w_call hl hh rfl trivial rfl cal59 rfl (operation_spec true t 7 0 y) (by repeat (first | exact keeps_nil | apply keeps_cons (by repeat (first | exact find_head | apply find_tail)) (by first  | rfl) | exact keeps_self | exact keeps_left | exact keeps_right | exact keeps_swap | apply keeps_mv)) trivial ?_)
  clear hl hh a w; intro vc Fc a w hR hl hh
  obtain hR := hR
  try simp only [List.cons_append, List.nil_append] at hh
  refine wl (wl_val hl rfl trivial (r_assign hl rfl) ?_)
  clear hl a; intro a hl
  refine w_nil ?_
  have hl2 := hl.add (t := 6) (hl.nil) rfl; clear hl; have hl := hl2; clear hl2
  refine then_normal ?_
  refine wp_ret ?_
  refine f_ret1 (F' := Fc) hl hh rfl rfl (by repeat (first | exact keeps_nil | apply keeps_cons (by repeat (first | exact find_head | apply find_tail)) (by first  | rfl) | exact keeps_self | exact keeps_left | exact keeps_right | exact keeps_swap | apply keeps_mv)) ?_
  exact hR

def boxOf (kd : Int) : Bool := decide (4 ≤ kd)
def cvOf (kd x : Int) : Int := if kd = 0 ∨ kd = 1 ∨ kd = 4 then x else 0
def cpOf (kd y : Int) : Int := if kd = 4 ∨ kd = 7 then y else 0
def ProgR (t : Nat) (kd x y : Int) (v : Value) (F : List (Nat × Obj)) : Prop :=
  (7 < kd ∧ v = .nilIface ∧ F = []) ∨ ((0 ≤ kd ∧ kd ≤ 7) ∧ OpR (boxOf kd) t kd (cvOf kd x) (cpOf kd y) v F)

set_option maxHeartbeats 1000000 in
theorem program_spec (wb b kb t : Nat) (kd th x y : Int) (h0 : 0 ≤ kd) : Sp Tryz.prog 25 #[.pointer (some ⟨wb, 0, none⟩), .int .i64 t, .agg ⟨[.int .u8 kd, .int .u8 th, .int .u64 x, .int .u64 y]⟩] [(wb, C [.pointer (some ⟨b, 0, none⟩), .pointer (some ⟨kb, 0, none⟩), .int .u64 ((65536 + hd false : Nat) : Int), .int .u64 ((65536 + nd false 0 : Nat) : Int), .int .u64 ((65536 + nd false 1 : Nat) : Int), .int .u64 ((65536 + nd false 2 : Nat) : Int), .int .u64 ((65536 + nd false 3 : Nat) : Int), .int .u64 ((65536 + nd false 4 : Nat) : Int), .int .u64 ((65536 + nd false 5 : Nat) : Int), .int .u64 ((65536 + nd false 6 : Nat) : Int), .int .i64 (wd false : Int), .int .u64 ((65536 + hd true : Nat) : Int), .int .u64 ((65536 + nd true 0 : Nat) : Int), .int .u64 ((65536 + nd true 1 : Nat) : Int), .int .u64 ((65536 + nd true 2 : Nat) : Int), .int .u64 ((65536 + nd true 3 : Nat) : Int), .int .u64 ((65536 + nd true 4 : Nat) : Int), .int .u64 ((65536 + nd true 5 : Nat) : Int), .int .u64 ((65536 + nd true 6 : Nat) : Int), .int .i64 (wd true : Int)] 74)] (fun v F' => ∃ F2, ProgR t kd x y v F2 ∧ F' = (wb, C [.pointer (some ⟨b, 0, none⟩), .pointer (some ⟨kb, 0, none⟩), .int .u64 ((65536 + hd false : Nat) : Int), .int .u64 ((65536 + nd false 0 : Nat) : Int), .int .u64 ((65536 + nd false 1 : Nat) : Int), .int .u64 ((65536 + nd false 2 : Nat) : Int), .int .u64 ((65536 + nd false 3 : Nat) : Int), .int .u64 ((65536 + nd false 4 : Nat) : Int), .int .u64 ((65536 + nd false 5 : Nat) : Int), .int .u64 ((65536 + nd false 6 : Nat) : Int), .int .i64 (wd false : Int), .int .u64 ((65536 + hd true : Nat) : Int), .int .u64 ((65536 + nd true 0 : Nat) : Int), .int .u64 ((65536 + nd true 1 : Nat) : Int), .int .u64 ((65536 + nd true 2 : Nat) : Int), .int .u64 ((65536 + nd true 3 : Nat) : Int), .int .u64 ((65536 + nd true 4 : Nat) : Int), .int .u64 ((65536 + nd true 5 : Nat) : Int), .int .u64 ((65536 + nd true 6 : Nat) : Int), .int .i64 (wd true : Int)] 74) :: F2) := by
  refine f_enter (args := [.pointer (some ⟨wb, 0, none⟩), .int .i64 t, .agg ⟨[.int .u8 kd, .int .u8 th, .int .u64 x, .int .u64 y]⟩]) Tryz.func25 rfl Tryz.ntmps25 rfl ?_
  intro w0 w a hpre hl hh
  simp only [slotsFrom, Nat.reduceAdd] at hl
  refine c_seq ?_
  refine c_region ?_
  refine wl (w_box hl hh rfl trivial rfl rfl ?_)
  clear hl hh a w; intro k5 a w hl hh
  refine wl (wl_val hl rfl trivial (r_assign hl rfl) ?_)
  clear hl a; intro a hl
  refine w_nil ?_
  have hl2 := hl.add (t := 0) (hl.add (t := 1) (hl.add (t := 5) (hl.nil) rfl) rfl) rfl; clear hl; have hl := hl2; clear hl2
  refine then_normal ?_
  refine c_seq ?_
  refine c_seq ?_
  refine c_region ?_
  refine wl (wl_val hl rfl trivial (r_field hl rfl fld43_0) ?_)
  clear hl a; intro a hl
  refine wl (w_load hl hh rfl trivial one35 rfl (by repeat (first | exact find_head | apply find_tail)) (by first | rfl) ?_)
  clear hl a; intro a hl
  refine w_nil ?_
  have hl2 := hl.add (t := 0) (hl.add (t := 1) (hl.add (t := 5) (hl.add (t := 8) (hl.nil) rfl) rfl) rfl) rfl; clear hl; have hl := hl2; clear hl2
  refine then_normal ?_
  refine wp_block ?_
  refine c_seq ?_
  refine c_region ?_
  refine wl (wl_val hl rfl trivial (r_eql hl rfl rfl) ?_)
  clear hl a; intro a hl
  refine wl (wl_val hl rfl trivial (r_assign hl rfl) ?_)
  clear hl a; intro a hl
  refine w_nil ?_
  have hl2 := hl.add (t := 0) (hl.add (t := 1) (hl.add (t := 5) (hl.add (t := 8) (hl.add (t := 9) (hl.nil) rfl) rfl) rfl) rfl) rfl; clear hl; have hl := hl2; clear hl2
  refine then_normal ?_
  refine c_cond hl rfl ?_ ?_
  · intro hc0
    try simp only [decide_eq_true_eq, decide_eq_false_iff_not, Bool.not_eq_true', Bool.not_eq_false', Bool.not_eq_true, Bool.not_eq_false, Bool.and_eq_true, Bool.or_eq_true, Bool.and_eq_false_iff, Bool.or_eq_false_iff, Bool.not_not, ne_eq, Int.not_lt, Int.not_le, Decidable.not_not, beq_iff_eq, bne_iff_ne] at hc0
    refine c_seq ?_
    refine c_draw [(wb, C [.pointer (some ⟨b, 0, none⟩), .pointer (some ⟨kb, 0, none⟩), .int .u64 ((65536 + hd false : Nat) : Int), .int .u64 ((65536 + nd false 0 : Nat) : Int), .int .u64 ((65536 + nd false 1 : Nat) : Int), .int .u64 ((65536 + nd false 2 : Nat) : Int), .int .u64 ((65536 + nd false 3 : Nat) : Int), .int .u64 ((65536 + nd false 4 : Nat) : Int), .int .u64 ((65536 + nd false 5 : Nat) : Int), .int .u64 ((65536 + nd false 6 : Nat) : Int), .int .i64 (wd false : Int), .int .u64 ((65536 + hd true : Nat) : Int), .int .u64 ((65536 + nd true 0 : Nat) : Int), .int .u64 ((65536 + nd true 1 : Nat) : Int), .int .u64 ((65536 + nd true 2 : Nat) : Int), .int .u64 ((65536 + nd true 3 : Nat) : Int), .int .u64 ((65536 + nd true 4 : Nat) : Int), .int .u64 ((65536 + nd true 5 : Nat) : Int), .int .u64 ((65536 + nd true 6 : Nat) : Int), .int .i64 (wd true : Int)] 74), (k5, C [.int .u8 kd, .int .u8 th, .int .u64 x, .int .u64 y] 43)] [7, 8] mixed hh ?_
    clear hh w; intro w hh
    have hM : Mem [(wb, C [.pointer (some ⟨b, 0, none⟩), .pointer (some ⟨kb, 0, none⟩), .int .u64 ((65536 + hd false : Nat) : Int), .int .u64 ((65536 + nd false 0 : Nat) : Int), .int .u64 ((65536 + nd false 1 : Nat) : Int), .int .u64 ((65536 + nd false 2 : Nat) : Int), .int .u64 ((65536 + nd false 3 : Nat) : Int), .int .u64 ((65536 + nd false 4 : Nat) : Int), .int .u64 ((65536 + nd false 5 : Nat) : Int), .int .u64 ((65536 + nd false 6 : Nat) : Int), .int .i64 (wd false : Int), .int .u64 ((65536 + hd true : Nat) : Int), .int .u64 ((65536 + nd true 0 : Nat) : Int), .int .u64 ((65536 + nd true 1 : Nat) : Int), .int .u64 ((65536 + nd true 2 : Nat) : Int), .int .u64 ((65536 + nd true 3 : Nat) : Int), .int .u64 ((65536 + nd true 4 : Nat) : Int), .int .u64 ((65536 + nd true 5 : Nat) : Int), .int .u64 ((65536 + nd true 6 : Nat) : Int), .int .i64 (wd true : Int)] 74), (k5, C [.int .u8 kd, .int .u8 th, .int .u64 x, .int .u64 y] 43)] w := (by repeat (first | exact Mem.nil | refine Mem.cons hh.mem (by repeat (first | exact find_head | apply find_tail)) ?_ | refine Mem.consR hh (by assumption) (by simp) ?_))
    refine d_take (i := 0) hl rfl (by kernel_rfl) (by kernel_rfl) (by kernel_rfl) (by kernel_rfl) (by kernel_rfl) rfl trivial (fun _ _ _ h => h) hM (fun w hC => r_move hl rfl) rfl ?_
    clear hl a; intro a hl
    refine d_take (i := 1) hl rfl (by kernel_rfl) (by kernel_rfl) (by kernel_rfl) (by kernel_rfl) (by kernel_rfl) rfl trivial (fun _ _ _ h => h) hM (fun w hC => r_nilCheck hl rfl) rfl ?_
    clear hl a; intro a hl
    refine d_take (i := 2) hl rfl (by kernel_rfl) (by kernel_rfl) (by kernel_rfl) (by kernel_rfl) (by kernel_rfl) rfl trivial (fun _ _ _ h => h) hM (fun w hC => r_field hl rfl fld74_2) rfl ?_
    clear hl a; intro a hl
    refine d_take (i := 3) hl rfl (by kernel_rfl) (by kernel_rfl) (by kernel_rfl) (by kernel_rfl) (by kernel_rfl) rfl trivial (fun _ _ _ h => h) hM (fun w hC => r_loadCA hl rfl agg71 hC (by repeat (first | exact find_head | apply find_tail)) (by first | (simp only [List.getElem?_cons_zero, List.getElem?_cons_succ, Value.cells, List.take_zero, List.take_succ_cons, List.take_nil, List.drop_zero, List.drop_succ_cons, List.drop_nil, List.length_cons, List.length_nil, List.cons_append, List.nil_append, List.append_nil, Nat.zero_add, Nat.add_zero, Nat.reduceAdd, Nat.reduceBEq, Nat.reduceEqDiff, Nat.ble, BEq.rfl, Bool.and_true, Bool.and_self, cond_true, beq_self_eq_true]; rfl)) (by first | rfl | (simp; done))) rfl ?_
    clear hl a; intro a hl
    refine d_take (i := 4) hl rfl (by kernel_rfl) (by kernel_rfl) (by kernel_rfl) (by kernel_rfl) (by kernel_rfl) rfl trivial (fun _ _ _ h => h) hM (fun w hC => r_move hl rfl) rfl ?_
    clear hl a; intro a hl
    refine d_take (i := 5) hl rfl (by kernel_rfl) (by kernel_rfl) (by kernel_rfl) (by kernel_rfl) (by kernel_rfl) rfl trivial (fun _ _ _ h => h) hM (fun w hC => r_field hl rfl fld43_2) rfl ?_
    clear hl a; intro a hl
    refine d_take (i := 6) hl rfl (by kernel_rfl) (by kernel_rfl) (by kernel_rfl) (by kernel_rfl) (by kernel_rfl) rfl trivial (fun _ _ _ h => h) hM (fun w hC => r_loadC hl rfl one37 hC (by repeat (first | exact find_head | apply find_tail)) (by first | rfl)) rfl ?_
    clear hl a; intro a hl
    refine d_one (i := 7) (by kernel_rfl) rfl ?_
    try clear hM
    refine id (w_call hl hh rfl trivial rfl cal35 rfl (pushLeftP_spec t x) (by repeat (first | exact keeps_nil | apply keeps_cons (by repeat (first | exact find_head | apply find_tail)) (by first  | rfl) | exact keeps_self | exact keeps_left | exact keeps_right | exact keeps_swap | apply keeps_mv)) trivial ?_)
    clear hl hh a w; intro vc Fc a w hR hl hh
    obtain hR := hR
    try simp only [List.cons_append, List.nil_append] at hh
    have hh3 := hh.comm; clear hh; have hh := hh3; clear hh3
    simp only [List.cons_append, List.nil_append] at hh
    refine d_step (fun h => absurd h (by decide)) ?_
    refine d_takeL (i := 8) hl rfl (by kernel_rfl) (by kernel_rfl) (by kernel_rfl) (by kernel_rfl) (by kernel_rfl) rfl trivial (fun _ _ _ h => h) (fun w => r_assign hl rfl) rfl ?_
    clear hl a; intro a hl
    refine d_done (by kernel_rfl) ?_
    try clear hM
    have hl2 := hl.add (t := 6) (hl.nil) rfl; clear hl; have hl := hl2; clear hl2
    refine then_normal ?_
    refine wp_ret ?_
    refine blk_ret ?_
    refine then_ret ?_
    refine f_ret1 (F' := (wb, C [.pointer (some ⟨b, 0, none⟩), .pointer (some ⟨kb, 0, none⟩), .int .u64 ((65536 + hd false : Nat) : Int), .int .u64 ((65536 + nd false 0 : Nat) : Int), .int .u64 ((65536 + nd false 1 : Nat) : Int), .int .u64 ((65536 + nd false 2 : Nat) : Int), .int .u64 ((65536 + nd false 3 : Nat) : Int), .int .u64 ((65536 + nd false 4 : Nat) : Int), .int .u64 ((65536 + nd false 5 : Nat) : Int), .int .u64 ((65536 + nd false 6 : Nat) : Int), .int .i64 (wd false : Int), .int .u64 ((65536 + hd true : Nat) : Int), .int .u64 ((65536 + nd true 0 : Nat) : Int), .int .u64 ((65536 + nd true 1 : Nat) : Int), .int .u64 ((65536 + nd true 2 : Nat) : Int), .int .u64 ((65536 + nd true 3 : Nat) : Int), .int .u64 ((65536 + nd true 4 : Nat) : Int), .int .u64 ((65536 + nd true 5 : Nat) : Int), .int .u64 ((65536 + nd true 6 : Nat) : Int), .int .i64 (wd true : Int)] 74) :: Fc) hl hh rfl rfl (by repeat (first | exact keeps_nil | apply keeps_cons (by repeat (first | exact find_head | apply find_tail)) (by first  | rfl) | exact keeps_self | exact keeps_left | exact keeps_right | exact keeps_swap | apply keeps_mv)) ?_
    exact ⟨Fc, .inr ⟨by omega, by (obtain rfl : kd = 0 := hc0); exact hR⟩, rfl⟩
  · intro hc0
    try simp only [decide_eq_true_eq, decide_eq_false_iff_not, Bool.not_eq_true', Bool.not_eq_false', Bool.not_eq_true, Bool.not_eq_false, Bool.and_eq_true, Bool.or_eq_true, Bool.and_eq_false_iff, Bool.or_eq_false_iff, Bool.not_not, ne_eq, Int.not_lt, Int.not_le, Decidable.not_not, beq_iff_eq, bne_iff_ne] at hc0
    refine c_seq ?_
    refine c_region ?_
    refine wl (wl_val hl rfl trivial (r_eql hl rfl rfl) ?_)
    clear hl a; intro a hl
    refine wl (wl_val hl rfl trivial (r_assign hl rfl) ?_)
    clear hl a; intro a hl
    refine w_nil ?_
    have hl2 := hl.add (t := 0) (hl.add (t := 1) (hl.add (t := 5) (hl.add (t := 8) (hl.add (t := 19) (hl.nil) rfl) rfl) rfl) rfl) rfl; clear hl; have hl := hl2; clear hl2
    refine then_normal ?_
    refine c_cond hl rfl ?_ ?_
    · intro hc1
      try simp only [decide_eq_true_eq, decide_eq_false_iff_not, Bool.not_eq_true', Bool.not_eq_false', Bool.not_eq_true, Bool.not_eq_false, Bool.and_eq_true, Bool.or_eq_true, Bool.and_eq_false_iff, Bool.or_eq_false_iff, Bool.not_not, ne_eq, Int.not_lt, Int.not_le, Decidable.not_not, beq_iff_eq, bne_iff_ne] at hc1
      refine c_seq ?_
      refine c_draw [(wb, C [.pointer (some ⟨b, 0, none⟩), .pointer (some ⟨kb, 0, none⟩), .int .u64 ((65536 + hd false : Nat) : Int), .int .u64 ((65536 + nd false 0 : Nat) : Int), .int .u64 ((65536 + nd false 1 : Nat) : Int), .int .u64 ((65536 + nd false 2 : Nat) : Int), .int .u64 ((65536 + nd false 3 : Nat) : Int), .int .u64 ((65536 + nd false 4 : Nat) : Int), .int .u64 ((65536 + nd false 5 : Nat) : Int), .int .u64 ((65536 + nd false 6 : Nat) : Int), .int .i64 (wd false : Int), .int .u64 ((65536 + hd true : Nat) : Int), .int .u64 ((65536 + nd true 0 : Nat) : Int), .int .u64 ((65536 + nd true 1 : Nat) : Int), .int .u64 ((65536 + nd true 2 : Nat) : Int), .int .u64 ((65536 + nd true 3 : Nat) : Int), .int .u64 ((65536 + nd true 4 : Nat) : Int), .int .u64 ((65536 + nd true 5 : Nat) : Int), .int .u64 ((65536 + nd true 6 : Nat) : Int), .int .i64 (wd true : Int)] 74), (k5, C [.int .u8 kd, .int .u8 th, .int .u64 x, .int .u64 y] 43)] [7, 8] mixed hh ?_
      clear hh w; intro w hh
      have hM : Mem [(wb, C [.pointer (some ⟨b, 0, none⟩), .pointer (some ⟨kb, 0, none⟩), .int .u64 ((65536 + hd false : Nat) : Int), .int .u64 ((65536 + nd false 0 : Nat) : Int), .int .u64 ((65536 + nd false 1 : Nat) : Int), .int .u64 ((65536 + nd false 2 : Nat) : Int), .int .u64 ((65536 + nd false 3 : Nat) : Int), .int .u64 ((65536 + nd false 4 : Nat) : Int), .int .u64 ((65536 + nd false 5 : Nat) : Int), .int .u64 ((65536 + nd false 6 : Nat) : Int), .int .i64 (wd false : Int), .int .u64 ((65536 + hd true : Nat) : Int), .int .u64 ((65536 + nd true 0 : Nat) : Int), .int .u64 ((65536 + nd true 1 : Nat) : Int), .int .u64 ((65536 + nd true 2 : Nat) : Int), .int .u64 ((65536 + nd true 3 : Nat) : Int), .int .u64 ((65536 + nd true 4 : Nat) : Int), .int .u64 ((65536 + nd true 5 : Nat) : Int), .int .u64 ((65536 + nd true 6 : Nat) : Int), .int .i64 (wd true : Int)] 74), (k5, C [.int .u8 kd, .int .u8 th, .int .u64 x, .int .u64 y] 43)] w := (by repeat (first | exact Mem.nil | refine Mem.cons hh.mem (by repeat (first | exact find_head | apply find_tail)) ?_ | refine Mem.consR hh (by assumption) (by simp) ?_))
      refine d_take (i := 0) hl rfl (by kernel_rfl) (by kernel_rfl) (by kernel_rfl) (by kernel_rfl) (by kernel_rfl) rfl trivial (fun _ _ _ h => h) hM (fun w hC => r_move hl rfl) rfl ?_
      clear hl a; intro a hl
      refine d_take (i := 1) hl rfl (by kernel_rfl) (by kernel_rfl) (by kernel_rfl) (by kernel_rfl) (by kernel_rfl) rfl trivial (fun _ _ _ h => h) hM (fun w hC => r_nilCheck hl rfl) rfl ?_
      clear hl a; intro a hl
      refine d_take (i := 2) hl rfl (by kernel_rfl) (by kernel_rfl) (by kernel_rfl) (by kernel_rfl) (by kernel_rfl) rfl trivial (fun _ _ _ h => h) hM (fun w hC => r_field hl rfl fld74_2) rfl ?_
      clear hl a; intro a hl
      refine d_take (i := 3) hl rfl (by kernel_rfl) (by kernel_rfl) (by kernel_rfl) (by kernel_rfl) (by kernel_rfl) rfl trivial (fun _ _ _ h => h) hM (fun w hC => r_loadCA hl rfl agg71 hC (by repeat (first | exact find_head | apply find_tail)) (by first | (simp only [List.getElem?_cons_zero, List.getElem?_cons_succ, Value.cells, List.take_zero, List.take_succ_cons, List.take_nil, List.drop_zero, List.drop_succ_cons, List.drop_nil, List.length_cons, List.length_nil, List.cons_append, List.nil_append, List.append_nil, Nat.zero_add, Nat.add_zero, Nat.reduceAdd, Nat.reduceBEq, Nat.reduceEqDiff, Nat.ble, BEq.rfl, Bool.and_true, Bool.and_self, cond_true, beq_self_eq_true]; rfl)) (by first | rfl | (simp; done))) rfl ?_
      clear hl a; intro a hl
      refine d_take (i := 4) hl rfl (by kernel_rfl) (by kernel_rfl) (by kernel_rfl) (by kernel_rfl) (by kernel_rfl) rfl trivial (fun _ _ _ h => h) hM (fun w hC => r_move hl rfl) rfl ?_
      clear hl a; intro a hl
      refine d_take (i := 5) hl rfl (by kernel_rfl) (by kernel_rfl) (by kernel_rfl) (by kernel_rfl) (by kernel_rfl) rfl trivial (fun _ _ _ h => h) hM (fun w hC => r_field hl rfl fld43_2) rfl ?_
      clear hl a; intro a hl
      refine d_take (i := 6) hl rfl (by kernel_rfl) (by kernel_rfl) (by kernel_rfl) (by kernel_rfl) (by kernel_rfl) rfl trivial (fun _ _ _ h => h) hM (fun w hC => r_loadC hl rfl one37 hC (by repeat (first | exact find_head | apply find_tail)) (by first | rfl)) rfl ?_
      clear hl a; intro a hl
      refine d_one (i := 7) (by kernel_rfl) rfl ?_
      try clear hM
      refine id (w_call hl hh rfl trivial rfl cal36 rfl (pushRightP_spec t x) (by repeat (first | exact keeps_nil | apply keeps_cons (by repeat (first | exact find_head | apply find_tail)) (by first  | rfl) | exact keeps_self | exact keeps_left | exact keeps_right | exact keeps_swap | apply keeps_mv)) trivial ?_)
      clear hl hh a w; intro vc Fc a w hR hl hh
      obtain hR := hR
      try simp only [List.cons_append, List.nil_append] at hh
      have hh3 := hh.comm; clear hh; have hh := hh3; clear hh3
      simp only [List.cons_append, List.nil_append] at hh
      refine d_step (fun h => absurd h (by decide)) ?_
      refine d_takeL (i := 8) hl rfl (by kernel_rfl) (by kernel_rfl) (by kernel_rfl) (by kernel_rfl) (by kernel_rfl) rfl trivial (fun _ _ _ h => h) (fun w => r_assign hl rfl) rfl ?_
      clear hl a; intro a hl
      refine d_done (by kernel_rfl) ?_
      try clear hM
      have hl2 := hl.add (t := 6) (hl.nil) rfl; clear hl; have hl := hl2; clear hl2
      refine then_normal ?_
      refine wp_ret ?_
      refine blk_ret ?_
      refine then_ret ?_
      refine f_ret1 (F' := (wb, C [.pointer (some ⟨b, 0, none⟩), .pointer (some ⟨kb, 0, none⟩), .int .u64 ((65536 + hd false : Nat) : Int), .int .u64 ((65536 + nd false 0 : Nat) : Int), .int .u64 ((65536 + nd false 1 : Nat) : Int), .int .u64 ((65536 + nd false 2 : Nat) : Int), .int .u64 ((65536 + nd false 3 : Nat) : Int), .int .u64 ((65536 + nd false 4 : Nat) : Int), .int .u64 ((65536 + nd false 5 : Nat) : Int), .int .u64 ((65536 + nd false 6 : Nat) : Int), .int .i64 (wd false : Int), .int .u64 ((65536 + hd true : Nat) : Int), .int .u64 ((65536 + nd true 0 : Nat) : Int), .int .u64 ((65536 + nd true 1 : Nat) : Int), .int .u64 ((65536 + nd true 2 : Nat) : Int), .int .u64 ((65536 + nd true 3 : Nat) : Int), .int .u64 ((65536 + nd true 4 : Nat) : Int), .int .u64 ((65536 + nd true 5 : Nat) : Int), .int .u64 ((65536 + nd true 6 : Nat) : Int), .int .i64 (wd true : Int)] 74) :: Fc) hl hh rfl rfl (by repeat (first | exact keeps_nil | apply keeps_cons (by repeat (first | exact find_head | apply find_tail)) (by first  | rfl) | exact keeps_self | exact keeps_left | exact keeps_right | exact keeps_swap | apply keeps_mv)) ?_
      exact ⟨Fc, .inr ⟨by omega, by (obtain rfl : kd = 1 := hc1); exact hR⟩, rfl⟩
    · intro hc1
      try simp only [decide_eq_true_eq, decide_eq_false_iff_not, Bool.not_eq_true', Bool.not_eq_false', Bool.not_eq_true, Bool.not_eq_false, Bool.and_eq_true, Bool.or_eq_true, Bool.and_eq_false_iff, Bool.or_eq_false_iff, Bool.not_not, ne_eq, Int.not_lt, Int.not_le, Decidable.not_not, beq_iff_eq, bne_iff_ne] at hc1
      refine c_seq ?_
      refine c_region ?_
      refine wl (wl_val hl rfl trivial (r_eql hl rfl rfl) ?_)
      clear hl a; intro a hl
      refine wl (wl_val hl rfl trivial (r_assign hl rfl) ?_)
      clear hl a; intro a hl
      refine w_nil ?_
      have hl2 := hl.add (t := 0) (hl.add (t := 1) (hl.add (t := 5) (hl.add (t := 8) (hl.add (t := 29) (hl.nil) rfl) rfl) rfl) rfl) rfl; clear hl; have hl := hl2; clear hl2
      refine then_normal ?_
      refine c_cond hl rfl ?_ ?_
      · intro hc2
        try simp only [decide_eq_true_eq, decide_eq_false_iff_not, Bool.not_eq_true', Bool.not_eq_false', Bool.not_eq_true, Bool.not_eq_false, Bool.and_eq_true, Bool.or_eq_true, Bool.and_eq_false_iff, Bool.or_eq_false_iff, Bool.not_not, ne_eq, Int.not_lt, Int.not_le, Decidable.not_not, beq_iff_eq, bne_iff_ne] at hc2
        refine c_seq ?_
        refine c_region ?_
        refine wl (wl_val hl rfl trivial (r_move hl rfl) ?_)
        clear hl a; intro a hl
        refine wl (wl_val hl rfl trivial (r_nilCheck hl rfl) ?_)
        clear hl a; intro a hl
        refine wl (wl_val hl rfl trivial (r_field hl rfl fld74_2) ?_)
        clear hl a; intro a hl
        refine wl (w_loadA hl hh rfl trivial agg71 rfl (by repeat (first | exact find_head | apply find_tail)) (by first | (simp only [List.getElem?_cons_zero, List.getElem?_cons_succ, Value.cells, List.take_zero, List.take_succ_cons, List.take_nil, List.drop_zero, List.drop_succ_cons, List.drop_nil, List.length_cons, List.length_nil, List.cons_append, List.nil_append, List.append_nil, Nat.zero_add, Nat.add_zero, Nat.reduceAdd, Nat.reduceBEq, Nat.reduceEqDiff, Nat.ble, BEq.rfl, Bool.and_true, Bool.and_self, cond_true, beq_self_eq_true]; rfl)) (by first | rfl | (simp; done)) ?_)
        clear hl a; intro a hl
        refine wl (wl_val hl rfl trivial (r_move hl rfl) ?_)
        clear hl a; intro a hl
        refine wl (w_call hl hh rfl trivial rfl cal37 rfl (popLeftP_spec t) (by repeat (first | exact keeps_nil | apply keeps_cons (by repeat (first | exact find_head | apply find_tail)) (by first  | rfl) | exact keeps_self | exact keeps_left | exact keeps_right | exact keeps_swap | apply keeps_mv)) trivial ?_)
        clear hl hh a w; intro vc Fc a w hR hl hh
        obtain hR := hR
        try simp only [List.cons_append, List.nil_append] at hh
        have hh3 := hh.comm; clear hh; have hh := hh3; clear hh3
        simp only [List.cons_append, List.nil_append] at hh
        refine wl (wl_val hl rfl trivial (r_assign hl rfl) ?_)
        clear hl a; intro a hl
        refine w_nil ?_
        have hl2 := hl.add (t := 6) (hl.nil) rfl; clear hl; have hl := hl2; clear hl2
        refine then_normal ?_
        refine wp_ret ?_
        refine blk_ret ?_
        refine then_ret ?_
        refine f_ret1 (F' := (wb, C [.pointer (some ⟨b, 0, none⟩), .pointer (some ⟨kb, 0, none⟩), .int .u64 ((65536 + hd false : Nat) : Int), .int .u64 ((65536 + nd false 0 : Nat) : Int), .int .u64 ((65536 + nd false 1 : Nat) : Int), .int .u64 ((65536 + nd false 2 : Nat) : Int), .int .u64 ((65536 + nd false 3 : Nat) : Int), .int .u64 ((65536 + nd false 4 : Nat) : Int), .int .u64 ((65536 + nd false 5 : Nat) : Int), .int .u64 ((65536 + nd false 6 : Nat) : Int), .int .i64 (wd false : Int), .int .u64 ((65536 + hd true : Nat) : Int), .int .u64 ((65536 + nd true 0 : Nat) : Int), .int .u64 ((65536 + nd true 1 : Nat) : Int), .int .u64 ((65536 + nd true 2 : Nat) : Int), .int .u64 ((65536 + nd true 3 : Nat) : Int), .int .u64 ((65536 + nd true 4 : Nat) : Int), .int .u64 ((65536 + nd true 5 : Nat) : Int), .int .u64 ((65536 + nd true 6 : Nat) : Int), .int .i64 (wd true : Int)] 74) :: Fc) hl hh rfl rfl (by repeat (first | exact keeps_nil | apply keeps_cons (by repeat (first | exact find_head | apply find_tail)) (by first  | rfl) | exact keeps_self | exact keeps_left | exact keeps_right | exact keeps_swap | apply keeps_mv)) ?_
        exact ⟨Fc, .inr ⟨by omega, by (obtain rfl : kd = 2 := hc2); exact hR⟩, rfl⟩
      · intro hc2
        try simp only [decide_eq_true_eq, decide_eq_false_iff_not, Bool.not_eq_true', Bool.not_eq_false', Bool.not_eq_true, Bool.not_eq_false, Bool.and_eq_true, Bool.or_eq_true, Bool.and_eq_false_iff, Bool.or_eq_false_iff, Bool.not_not, ne_eq, Int.not_lt, Int.not_le, Decidable.not_not, beq_iff_eq, bne_iff_ne] at hc2
        refine c_seq ?_
        refine c_region ?_
        refine wl (wl_val hl rfl trivial (r_eql hl rfl rfl) ?_)
        clear hl a; intro a hl
        refine wl (wl_val hl rfl trivial (r_assign hl rfl) ?_)
        clear hl a; intro a hl
        refine w_nil ?_
        have hl2 := hl.add (t := 0) (hl.add (t := 1) (hl.add (t := 5) (hl.add (t := 8) (hl.add (t := 37) (hl.nil) rfl) rfl) rfl) rfl) rfl; clear hl; have hl := hl2; clear hl2
        refine then_normal ?_
        refine c_cond hl rfl ?_ ?_
        · intro hc3
          try simp only [decide_eq_true_eq, decide_eq_false_iff_not, Bool.not_eq_true', Bool.not_eq_false', Bool.not_eq_true, Bool.not_eq_false, Bool.and_eq_true, Bool.or_eq_true, Bool.and_eq_false_iff, Bool.or_eq_false_iff, Bool.not_not, ne_eq, Int.not_lt, Int.not_le, Decidable.not_not, beq_iff_eq, bne_iff_ne] at hc3
          refine c_seq ?_
          refine c_region ?_
          refine wl (wl_val hl rfl trivial (r_move hl rfl) ?_)
          clear hl a; intro a hl
          refine wl (wl_val hl rfl trivial (r_nilCheck hl rfl) ?_)
          clear hl a; intro a hl
          refine wl (wl_val hl rfl trivial (r_field hl rfl fld74_2) ?_)
          clear hl a; intro a hl
          refine wl (w_loadA hl hh rfl trivial agg71 rfl (by repeat (first | exact find_head | apply find_tail)) (by first | (simp only [List.getElem?_cons_zero, List.getElem?_cons_succ, Value.cells, List.take_zero, List.take_succ_cons, List.take_nil, List.drop_zero, List.drop_succ_cons, List.drop_nil, List.length_cons, List.length_nil, List.cons_append, List.nil_append, List.append_nil, Nat.zero_add, Nat.add_zero, Nat.reduceAdd, Nat.reduceBEq, Nat.reduceEqDiff, Nat.ble, BEq.rfl, Bool.and_true, Bool.and_self, cond_true, beq_self_eq_true]; rfl)) (by first | rfl | (simp; done)) ?_)
          clear hl a; intro a hl
          refine wl (wl_val hl rfl trivial (r_move hl rfl) ?_)
          clear hl a; intro a hl
          refine wl (w_call hl hh rfl trivial rfl cal38 rfl (popRightP_spec t) (by repeat (first | exact keeps_nil | apply keeps_cons (by repeat (first | exact find_head | apply find_tail)) (by first  | rfl) | exact keeps_self | exact keeps_left | exact keeps_right | exact keeps_swap | apply keeps_mv)) trivial ?_)
          clear hl hh a w; intro vc Fc a w hR hl hh
          obtain hR := hR
          try simp only [List.cons_append, List.nil_append] at hh
          have hh3 := hh.comm; clear hh; have hh := hh3; clear hh3
          simp only [List.cons_append, List.nil_append] at hh
          refine wl (wl_val hl rfl trivial (r_assign hl rfl) ?_)
          clear hl a; intro a hl
          refine w_nil ?_
          have hl2 := hl.add (t := 6) (hl.nil) rfl; clear hl; have hl := hl2; clear hl2
          refine then_normal ?_
          refine wp_ret ?_
          refine blk_ret ?_
          refine then_ret ?_
          refine f_ret1 (F' := (wb, C [.pointer (some ⟨b, 0, none⟩), .pointer (some ⟨kb, 0, none⟩), .int .u64 ((65536 + hd false : Nat) : Int), .int .u64 ((65536 + nd false 0 : Nat) : Int), .int .u64 ((65536 + nd false 1 : Nat) : Int), .int .u64 ((65536 + nd false 2 : Nat) : Int), .int .u64 ((65536 + nd false 3 : Nat) : Int), .int .u64 ((65536 + nd false 4 : Nat) : Int), .int .u64 ((65536 + nd false 5 : Nat) : Int), .int .u64 ((65536 + nd false 6 : Nat) : Int), .int .i64 (wd false : Int), .int .u64 ((65536 + hd true : Nat) : Int), .int .u64 ((65536 + nd true 0 : Nat) : Int), .int .u64 ((65536 + nd true 1 : Nat) : Int), .int .u64 ((65536 + nd true 2 : Nat) : Int), .int .u64 ((65536 + nd true 3 : Nat) : Int), .int .u64 ((65536 + nd true 4 : Nat) : Int), .int .u64 ((65536 + nd true 5 : Nat) : Int), .int .u64 ((65536 + nd true 6 : Nat) : Int), .int .i64 (wd true : Int)] 74) :: Fc) hl hh rfl rfl (by repeat (first | exact keeps_nil | apply keeps_cons (by repeat (first | exact find_head | apply find_tail)) (by first  | rfl) | exact keeps_self | exact keeps_left | exact keeps_right | exact keeps_swap | apply keeps_mv)) ?_
          exact ⟨Fc, .inr ⟨by omega, by (obtain rfl : kd = 3 := hc3); exact hR⟩, rfl⟩
        · intro hc3
          try simp only [decide_eq_true_eq, decide_eq_false_iff_not, Bool.not_eq_true', Bool.not_eq_false', Bool.not_eq_true, Bool.not_eq_false, Bool.and_eq_true, Bool.or_eq_true, Bool.and_eq_false_iff, Bool.or_eq_false_iff, Bool.not_not, ne_eq, Int.not_lt, Int.not_le, Decidable.not_not, beq_iff_eq, bne_iff_ne] at hc3
          refine c_seq ?_
          refine c_region ?_
          refine wl (wl_val hl rfl trivial (r_eql hl rfl rfl) ?_)
          clear hl a; intro a hl
          refine wl (wl_val hl rfl trivial (r_assign hl rfl) ?_)
          clear hl a; intro a hl
          refine w_nil ?_
          have hl2 := hl.add (t := 0) (hl.add (t := 1) (hl.add (t := 5) (hl.add (t := 8) (hl.add (t := 45) (hl.nil) rfl) rfl) rfl) rfl) rfl; clear hl; have hl := hl2; clear hl2
          refine then_normal ?_
          refine c_cond hl rfl ?_ ?_
          · intro hc4
            try simp only [decide_eq_true_eq, decide_eq_false_iff_not, Bool.not_eq_true', Bool.not_eq_false', Bool.not_eq_true, Bool.not_eq_false, Bool.and_eq_true, Bool.or_eq_true, Bool.and_eq_false_iff, Bool.or_eq_false_iff, Bool.not_not, ne_eq, Int.not_lt, Int.not_le, Decidable.not_not, beq_iff_eq, bne_iff_ne] at hc4
            refine c_seq ?_
            refine c_draw [(wb, C [.pointer (some ⟨b, 0, none⟩), .pointer (some ⟨kb, 0, none⟩), .int .u64 ((65536 + hd false : Nat) : Int), .int .u64 ((65536 + nd false 0 : Nat) : Int), .int .u64 ((65536 + nd false 1 : Nat) : Int), .int .u64 ((65536 + nd false 2 : Nat) : Int), .int .u64 ((65536 + nd false 3 : Nat) : Int), .int .u64 ((65536 + nd false 4 : Nat) : Int), .int .u64 ((65536 + nd false 5 : Nat) : Int), .int .u64 ((65536 + nd false 6 : Nat) : Int), .int .i64 (wd false : Int), .int .u64 ((65536 + hd true : Nat) : Int), .int .u64 ((65536 + nd true 0 : Nat) : Int), .int .u64 ((65536 + nd true 1 : Nat) : Int), .int .u64 ((65536 + nd true 2 : Nat) : Int), .int .u64 ((65536 + nd true 3 : Nat) : Int), .int .u64 ((65536 + nd true 4 : Nat) : Int), .int .u64 ((65536 + nd true 5 : Nat) : Int), .int .u64 ((65536 + nd true 6 : Nat) : Int), .int .i64 (wd true : Int)] 74), (k5, C [.int .u8 kd, .int .u8 th, .int .u64 x, .int .u64 y] 43)] [9, 10] mixed hh ?_
            clear hh w; intro w hh
            have hM : Mem [(wb, C [.pointer (some ⟨b, 0, none⟩), .pointer (some ⟨kb, 0, none⟩), .int .u64 ((65536 + hd false : Nat) : Int), .int .u64 ((65536 + nd false 0 : Nat) : Int), .int .u64 ((65536 + nd false 1 : Nat) : Int), .int .u64 ((65536 + nd false 2 : Nat) : Int), .int .u64 ((65536 + nd false 3 : Nat) : Int), .int .u64 ((65536 + nd false 4 : Nat) : Int), .int .u64 ((65536 + nd false 5 : Nat) : Int), .int .u64 ((65536 + nd false 6 : Nat) : Int), .int .i64 (wd false : Int), .int .u64 ((65536 + hd true : Nat) : Int), .int .u64 ((65536 + nd true 0 : Nat) : Int), .int .u64 ((65536 + nd true 1 : Nat) : Int), .int .u64 ((65536 + nd true 2 : Nat) : Int), .int .u64 ((65536 + nd true 3 : Nat) : Int), .int .u64 ((65536 + nd true 4 : Nat) : Int), .int .u64 ((65536 + nd true 5 : Nat) : Int), .int .u64 ((65536 + nd true 6 : Nat) : Int), .int .i64 (wd true : Int)] 74), (k5, C [.int .u8 kd, .int .u8 th, .int .u64 x, .int .u64 y] 43)] w := (by repeat (first | exact Mem.nil | refine Mem.cons hh.mem (by repeat (first | exact find_head | apply find_tail)) ?_ | refine Mem.consR hh (by assumption) (by simp) ?_))
            refine d_take (i := 0) hl rfl (by kernel_rfl) (by kernel_rfl) (by kernel_rfl) (by kernel_rfl) (by kernel_rfl) rfl trivial (fun _ _ _ h => h) hM (fun w hC => r_move hl rfl) rfl ?_
            clear hl a; intro a hl
            refine d_take (i := 1) hl rfl (by kernel_rfl) (by kernel_rfl) (by kernel_rfl) (by kernel_rfl) (by kernel_rfl) rfl trivial (fun _ _ _ h => h) hM (fun w hC => r_nilCheck hl rfl) rfl ?_
            clear hl a; intro a hl
            refine d_take (i := 2) hl rfl (by kernel_rfl) (by kernel_rfl) (by kernel_rfl) (by kernel_rfl) (by kernel_rfl) rfl trivial (fun _ _ _ h => h) hM (fun w hC => r_field hl rfl fld74_3) rfl ?_
            clear hl a; intro a hl
            refine d_take (i := 3) hl rfl (by kernel_rfl) (by kernel_rfl) (by kernel_rfl) (by kernel_rfl) (by kernel_rfl) rfl trivial (fun _ _ _ h => h) hM (fun w hC => r_loadCA hl rfl agg72 hC (by repeat (first | exact find_head | apply find_tail)) (by first | (simp only [List.getElem?_cons_zero, List.getElem?_cons_succ, Value.cells, List.take_zero, List.take_succ_cons, List.take_nil, List.drop_zero, List.drop_succ_cons, List.drop_nil, List.length_cons, List.length_nil, List.cons_append, List.nil_append, List.append_nil, Nat.zero_add, Nat.add_zero, Nat.reduceAdd, Nat.reduceBEq, Nat.reduceEqDiff, Nat.ble, BEq.rfl, Bool.and_true, Bool.and_self, cond_true, beq_self_eq_true]; rfl)) (by first | rfl | (simp; done))) rfl ?_
            clear hl a; intro a hl
            refine d_take (i := 4) hl rfl (by kernel_rfl) (by kernel_rfl) (by kernel_rfl) (by kernel_rfl) (by kernel_rfl) rfl trivial (fun _ _ _ h => h) hM (fun w hC => r_move hl rfl) rfl ?_
            clear hl a; intro a hl
            refine d_take (i := 5) hl rfl (by kernel_rfl) (by kernel_rfl) (by kernel_rfl) (by kernel_rfl) (by kernel_rfl) rfl trivial (fun _ _ _ h => h) hM (fun w hC => r_field hl rfl fld43_3) rfl ?_
            clear hl a; intro a hl
            refine d_take (i := 6) hl rfl (by kernel_rfl) (by kernel_rfl) (by kernel_rfl) (by kernel_rfl) (by kernel_rfl) rfl trivial (fun _ _ _ h => h) hM (fun w hC => r_loadC hl rfl one37 hC (by repeat (first | exact find_head | apply find_tail)) (by first | rfl)) rfl ?_
            clear hl a; intro a hl
            refine d_take (i := 7) hl rfl (by kernel_rfl) (by kernel_rfl) (by kernel_rfl) (by kernel_rfl) (by kernel_rfl) rfl trivial (fun _ _ _ h => h) hM (fun w hC => r_field hl rfl fld43_2) rfl ?_
            clear hl a; intro a hl
            refine d_take (i := 8) hl rfl (by kernel_rfl) (by kernel_rfl) (by kernel_rfl) (by kernel_rfl) (by kernel_rfl) rfl trivial (fun _ _ _ h => h) hM (fun w hC => r_loadC hl rfl one37 hC (by repeat (first | exact find_head | apply find_tail)) (by first | rfl)) rfl ?_
            clear hl a; intro a hl
            refine d_one (i := 9) (by kernel_rfl) rfl ?_
            try clear hM
            refine id (w_call hl hh rfl trivial rfl cal39 rfl (putP_spec t y x) (by repeat (first | exact keeps_nil | apply keeps_cons (by repeat (first | exact find_head | apply find_tail)) (by first  | rfl) | exact keeps_self | exact keeps_left | exact keeps_right | exact keeps_swap | apply keeps_mv)) trivial ?_)
            clear hl hh a w; intro vc Fc a w hR hl hh
            obtain hR := hR
            try simp only [List.cons_append, List.nil_append] at hh
            have hh3 := hh.comm; clear hh; have hh := hh3; clear hh3
            simp only [List.cons_append, List.nil_append] at hh
            refine d_step (fun h => absurd h (by decide)) ?_
            refine d_takeL (i := 10) hl rfl (by kernel_rfl) (by kernel_rfl) (by kernel_rfl) (by kernel_rfl) (by kernel_rfl) rfl trivial (fun _ _ _ h => h) (fun w => r_assign hl rfl) rfl ?_
            clear hl a; intro a hl
            refine d_done (by kernel_rfl) ?_
            try clear hM
            have hl2 := hl.add (t := 6) (hl.nil) rfl; clear hl; have hl := hl2; clear hl2
            refine then_normal ?_
            refine wp_ret ?_
            refine blk_ret ?_
            refine then_ret ?_
            refine f_ret1 (F' := (wb, C [.pointer (some ⟨b, 0, none⟩), .pointer (some ⟨kb, 0, none⟩), .int .u64 ((65536 + hd false : Nat) : Int), .int .u64 ((65536 + nd false 0 : Nat) : Int), .int .u64 ((65536 + nd false 1 : Nat) : Int), .int .u64 ((65536 + nd false 2 : Nat) : Int), .int .u64 ((65536 + nd false 3 : Nat) : Int), .int .u64 ((65536 + nd false 4 : Nat) : Int), .int .u64 ((65536 + nd false 5 : Nat) : Int), .int .u64 ((65536 + nd false 6 : Nat) : Int), .int .i64 (wd false : Int), .int .u64 ((65536 + hd true : Nat) : Int), .int .u64 ((65536 + nd true 0 : Nat) : Int), .int .u64 ((65536 + nd true 1 : Nat) : Int), .int .u64 ((65536 + nd true 2 : Nat) : Int), .int .u64 ((65536 + nd true 3 : Nat) : Int), .int .u64 ((65536 + nd true 4 : Nat) : Int), .int .u64 ((65536 + nd true 5 : Nat) : Int), .int .u64 ((65536 + nd true 6 : Nat) : Int), .int .i64 (wd true : Int)] 74) :: Fc) hl hh rfl rfl (by repeat (first | exact keeps_nil | apply keeps_cons (by repeat (first | exact find_head | apply find_tail)) (by first  | rfl) | exact keeps_self | exact keeps_left | exact keeps_right | exact keeps_swap | apply keeps_mv)) ?_
            exact ⟨Fc, .inr ⟨by omega, by (obtain rfl : kd = 4 := hc4); exact hR⟩, rfl⟩
          · intro hc4
            try simp only [decide_eq_true_eq, decide_eq_false_iff_not, Bool.not_eq_true', Bool.not_eq_false', Bool.not_eq_true, Bool.not_eq_false, Bool.and_eq_true, Bool.or_eq_true, Bool.and_eq_false_iff, Bool.or_eq_false_iff, Bool.not_not, ne_eq, Int.not_lt, Int.not_le, Decidable.not_not, beq_iff_eq, bne_iff_ne] at hc4
            refine c_seq ?_
            refine c_region ?_
            refine wl (wl_val hl rfl trivial (r_eql hl rfl rfl) ?_)
            clear hl a; intro a hl
            refine wl (wl_val hl rfl trivial (r_assign hl rfl) ?_)
            clear hl a; intro a hl
            refine w_nil ?_
            have hl2 := hl.add (t := 0) (hl.add (t := 1) (hl.add (t := 5) (hl.add (t := 8) (hl.add (t := 57) (hl.nil) rfl) rfl) rfl) rfl) rfl; clear hl; have hl := hl2; clear hl2
            refine then_normal ?_
            refine c_cond hl rfl ?_ ?_
            · intro hc5
              try simp only [decide_eq_true_eq, decide_eq_false_iff_not, Bool.not_eq_true', Bool.not_eq_false', Bool.not_eq_true, Bool.not_eq_false, Bool.and_eq_true, Bool.or_eq_true, Bool.and_eq_false_iff, Bool.or_eq_false_iff, Bool.not_not, ne_eq, Int.not_lt, Int.not_le, Decidable.not_not, beq_iff_eq, bne_iff_ne] at hc5
              refine c_seq ?_
              refine c_region ?_
              refine wl (wl_val hl rfl trivial (r_move hl rfl) ?_)
              clear hl a; intro a hl
              refine wl (wl_val hl rfl trivial (r_nilCheck hl rfl) ?_)
              clear hl a; intro a hl
              refine wl (wl_val hl rfl trivial (r_field hl rfl fld74_3) ?_)
              clear hl a; intro a hl
              refine wl (w_loadA hl hh rfl trivial agg72 rfl (by repeat (first | exact find_head | apply find_tail)) (by first | (simp only [List.getElem?_cons_zero, List.getElem?_cons_succ, Value.cells, List.take_zero, List.take_succ_cons, List.take_nil, List.drop_zero, List.drop_succ_cons, List.drop_nil, List.length_cons, List.length_nil, List.cons_append, List.nil_append, List.append_nil, Nat.zero_add, Nat.add_zero, Nat.reduceAdd, Nat.reduceBEq, Nat.reduceEqDiff, Nat.ble, BEq.rfl, Bool.and_true, Bool.and_self, cond_true, beq_self_eq_true]; rfl)) (by first | rfl | (simp; done)) ?_)
              clear hl a; intro a hl
              refine wl (wl_val hl rfl trivial (r_move hl rfl) ?_)
              clear hl a; intro a hl
              refine wl (w_call hl hh rfl trivial rfl cal40 rfl (takeMinP_spec t) (by repeat (first | exact keeps_nil | apply keeps_cons (by repeat (first | exact find_head | apply find_tail)) (by first  | rfl) | exact keeps_self | exact keeps_left | exact keeps_right | exact keeps_swap | apply keeps_mv)) trivial ?_)
              clear hl hh a w; intro vc Fc a w hR hl hh
              obtain hR := hR
              try simp only [List.cons_append, List.nil_append] at hh
              have hh3 := hh.comm; clear hh; have hh := hh3; clear hh3
              simp only [List.cons_append, List.nil_append] at hh
              refine wl (wl_val hl rfl trivial (r_assign hl rfl) ?_)
              clear hl a; intro a hl
              refine w_nil ?_
              have hl2 := hl.add (t := 6) (hl.nil) rfl; clear hl; have hl := hl2; clear hl2
              refine then_normal ?_
              refine wp_ret ?_
              refine blk_ret ?_
              refine then_ret ?_
              refine f_ret1 (F' := (wb, C [.pointer (some ⟨b, 0, none⟩), .pointer (some ⟨kb, 0, none⟩), .int .u64 ((65536 + hd false : Nat) : Int), .int .u64 ((65536 + nd false 0 : Nat) : Int), .int .u64 ((65536 + nd false 1 : Nat) : Int), .int .u64 ((65536 + nd false 2 : Nat) : Int), .int .u64 ((65536 + nd false 3 : Nat) : Int), .int .u64 ((65536 + nd false 4 : Nat) : Int), .int .u64 ((65536 + nd false 5 : Nat) : Int), .int .u64 ((65536 + nd false 6 : Nat) : Int), .int .i64 (wd false : Int), .int .u64 ((65536 + hd true : Nat) : Int), .int .u64 ((65536 + nd true 0 : Nat) : Int), .int .u64 ((65536 + nd true 1 : Nat) : Int), .int .u64 ((65536 + nd true 2 : Nat) : Int), .int .u64 ((65536 + nd true 3 : Nat) : Int), .int .u64 ((65536 + nd true 4 : Nat) : Int), .int .u64 ((65536 + nd true 5 : Nat) : Int), .int .u64 ((65536 + nd true 6 : Nat) : Int), .int .i64 (wd true : Int)] 74) :: Fc) hl hh rfl rfl (by repeat (first | exact keeps_nil | apply keeps_cons (by repeat (first | exact find_head | apply find_tail)) (by first  | rfl) | exact keeps_self | exact keeps_left | exact keeps_right | exact keeps_swap | apply keeps_mv)) ?_
              exact ⟨Fc, .inr ⟨by omega, by (obtain rfl : kd = 5 := hc5); exact hR⟩, rfl⟩
            · intro hc5
              try simp only [decide_eq_true_eq, decide_eq_false_iff_not, Bool.not_eq_true', Bool.not_eq_false', Bool.not_eq_true, Bool.not_eq_false, Bool.and_eq_true, Bool.or_eq_true, Bool.and_eq_false_iff, Bool.or_eq_false_iff, Bool.not_not, ne_eq, Int.not_lt, Int.not_le, Decidable.not_not, beq_iff_eq, bne_iff_ne] at hc5
              refine c_seq ?_
              refine c_region ?_
              refine wl (wl_val hl rfl trivial (r_eql hl rfl rfl) ?_)
              clear hl a; intro a hl
              refine wl (wl_val hl rfl trivial (r_assign hl rfl) ?_)
              clear hl a; intro a hl
              refine w_nil ?_
              have hl2 := hl.add (t := 0) (hl.add (t := 1) (hl.add (t := 5) (hl.add (t := 8) (hl.add (t := 65) (hl.nil) rfl) rfl) rfl) rfl) rfl; clear hl; have hl := hl2; clear hl2
              refine then_normal ?_
              refine c_cond hl rfl ?_ ?_
              · intro hc6
                try simp only [decide_eq_true_eq, decide_eq_false_iff_not, Bool.not_eq_true', Bool.not_eq_false', Bool.not_eq_true, Bool.not_eq_false, Bool.and_eq_true, Bool.or_eq_true, Bool.and_eq_false_iff, Bool.or_eq_false_iff, Bool.not_not, ne_eq, Int.not_lt, Int.not_le, Decidable.not_not, beq_iff_eq, bne_iff_ne] at hc6
                refine c_seq ?_
                refine c_region ?_
                refine wl (wl_val hl rfl trivial (r_move hl rfl) ?_)
                clear hl a; intro a hl
                refine wl (wl_val hl rfl trivial (r_nilCheck hl rfl) ?_)
                clear hl a; intro a hl
                refine wl (wl_val hl rfl trivial (r_field hl rfl fld74_3) ?_)
                clear hl a; intro a hl
                refine wl (w_loadA hl hh rfl trivial agg72 rfl (by repeat (first | exact find_head | apply find_tail)) (by first | (simp only [List.getElem?_cons_zero, List.getElem?_cons_succ, Value.cells, List.take_zero, List.take_succ_cons, List.take_nil, List.drop_zero, List.drop_succ_cons, List.drop_nil, List.length_cons, List.length_nil, List.cons_append, List.nil_append, List.append_nil, Nat.zero_add, Nat.add_zero, Nat.reduceAdd, Nat.reduceBEq, Nat.reduceEqDiff, Nat.ble, BEq.rfl, Bool.and_true, Bool.and_self, cond_true, beq_self_eq_true]; rfl)) (by first | rfl | (simp; done)) ?_)
                clear hl a; intro a hl
                refine wl (wl_val hl rfl trivial (r_move hl rfl) ?_)
                clear hl a; intro a hl
                refine wl (w_call hl hh rfl trivial rfl cal41 rfl (peekMinP_spec t) (by repeat (first | exact keeps_nil | apply keeps_cons (by repeat (first | exact find_head | apply find_tail)) (by first  | rfl) | exact keeps_self | exact keeps_left | exact keeps_right | exact keeps_swap | apply keeps_mv)) trivial ?_)
                clear hl hh a w; intro vc Fc a w hR hl hh
                obtain hR := hR
                try simp only [List.cons_append, List.nil_append] at hh
                have hh3 := hh.comm; clear hh; have hh := hh3; clear hh3
                simp only [List.cons_append, List.nil_append] at hh
                refine wl (wl_val hl rfl trivial (r_assign hl rfl) ?_)
                clear hl a; intro a hl
                refine w_nil ?_
                have hl2 := hl.add (t := 6) (hl.nil) rfl; clear hl; have hl := hl2; clear hl2
                refine then_normal ?_
                refine wp_ret ?_
                refine blk_ret ?_
                refine then_ret ?_
                refine f_ret1 (F' := (wb, C [.pointer (some ⟨b, 0, none⟩), .pointer (some ⟨kb, 0, none⟩), .int .u64 ((65536 + hd false : Nat) : Int), .int .u64 ((65536 + nd false 0 : Nat) : Int), .int .u64 ((65536 + nd false 1 : Nat) : Int), .int .u64 ((65536 + nd false 2 : Nat) : Int), .int .u64 ((65536 + nd false 3 : Nat) : Int), .int .u64 ((65536 + nd false 4 : Nat) : Int), .int .u64 ((65536 + nd false 5 : Nat) : Int), .int .u64 ((65536 + nd false 6 : Nat) : Int), .int .i64 (wd false : Int), .int .u64 ((65536 + hd true : Nat) : Int), .int .u64 ((65536 + nd true 0 : Nat) : Int), .int .u64 ((65536 + nd true 1 : Nat) : Int), .int .u64 ((65536 + nd true 2 : Nat) : Int), .int .u64 ((65536 + nd true 3 : Nat) : Int), .int .u64 ((65536 + nd true 4 : Nat) : Int), .int .u64 ((65536 + nd true 5 : Nat) : Int), .int .u64 ((65536 + nd true 6 : Nat) : Int), .int .i64 (wd true : Int)] 74) :: Fc) hl hh rfl rfl (by repeat (first | exact keeps_nil | apply keeps_cons (by repeat (first | exact find_head | apply find_tail)) (by first  | rfl) | exact keeps_self | exact keeps_left | exact keeps_right | exact keeps_swap | apply keeps_mv)) ?_
                exact ⟨Fc, .inr ⟨by omega, by (obtain rfl : kd = 6 := hc6); exact hR⟩, rfl⟩
              · intro hc6
                try simp only [decide_eq_true_eq, decide_eq_false_iff_not, Bool.not_eq_true', Bool.not_eq_false', Bool.not_eq_true, Bool.not_eq_false, Bool.and_eq_true, Bool.or_eq_true, Bool.and_eq_false_iff, Bool.or_eq_false_iff, Bool.not_not, ne_eq, Int.not_lt, Int.not_le, Decidable.not_not, beq_iff_eq, bne_iff_ne] at hc6
                refine c_seq ?_
                refine c_region ?_
                refine wl (wl_val hl rfl trivial (r_eql hl rfl rfl) ?_)
                clear hl a; intro a hl
                refine wl (wl_val hl rfl trivial (r_assign hl rfl) ?_)
                clear hl a; intro a hl
                refine w_nil ?_
                have hl2 := hl.add (t := 0) (hl.add (t := 1) (hl.add (t := 5) (hl.add (t := 73) (hl.nil) rfl) rfl) rfl) rfl; clear hl; have hl := hl2; clear hl2
                refine then_normal ?_
                refine c_cond hl rfl ?_ ?_
                · intro hc7
                  try simp only [decide_eq_true_eq, decide_eq_false_iff_not, Bool.not_eq_true', Bool.not_eq_false', Bool.not_eq_true, Bool.not_eq_false, Bool.and_eq_true, Bool.or_eq_true, Bool.and_eq_false_iff, Bool.or_eq_false_iff, Bool.not_not, ne_eq, Int.not_lt, Int.not_le, Decidable.not_not, beq_iff_eq, bne_iff_ne] at hc7
                  refine c_seq ?_
                  refine c_draw [(wb, C [.pointer (some ⟨b, 0, none⟩), .pointer (some ⟨kb, 0, none⟩), .int .u64 ((65536 + hd false : Nat) : Int), .int .u64 ((65536 + nd false 0 : Nat) : Int), .int .u64 ((65536 + nd false 1 : Nat) : Int), .int .u64 ((65536 + nd false 2 : Nat) : Int), .int .u64 ((65536 + nd false 3 : Nat) : Int), .int .u64 ((65536 + nd false 4 : Nat) : Int), .int .u64 ((65536 + nd false 5 : Nat) : Int), .int .u64 ((65536 + nd false 6 : Nat) : Int), .int .i64 (wd false : Int), .int .u64 ((65536 + hd true : Nat) : Int), .int .u64 ((65536 + nd true 0 : Nat) : Int), .int .u64 ((65536 + nd true 1 : Nat) : Int), .int .u64 ((65536 + nd true 2 : Nat) : Int), .int .u64 ((65536 + nd true 3 : Nat) : Int), .int .u64 ((65536 + nd true 4 : Nat) : Int), .int .u64 ((65536 + nd true 5 : Nat) : Int), .int .u64 ((65536 + nd true 6 : Nat) : Int), .int .i64 (wd true : Int)] 74), (k5, C [.int .u8 kd, .int .u8 th, .int .u64 x, .int .u64 y] 43)] [7, 8] mixed hh ?_
                  clear hh w; intro w hh
                  have hM : Mem [(wb, C [.pointer (some ⟨b, 0, none⟩), .pointer (some ⟨kb, 0, none⟩), .int .u64 ((65536 + hd false : Nat) : Int), .int .u64 ((65536 + nd false 0 : Nat) : Int), .int .u64 ((65536 + nd false 1 : Nat) : Int), .int .u64 ((65536 + nd false 2 : Nat) : Int), .int .u64 ((65536 + nd false 3 : Nat) : Int), .int .u64 ((65536 + nd false 4 : Nat) : Int), .int .u64 ((65536 + nd false 5 : Nat) : Int), .int .u64 ((65536 + nd false 6 : Nat) : Int), .int .i64 (wd false : Int), .int .u64 ((65536 + hd true : Nat) : Int), .int .u64 ((65536 + nd true 0 : Nat) : Int), .int .u64 ((65536 + nd true 1 : Nat) : Int), .int .u64 ((65536 + nd true 2 : Nat) : Int), .int .u64 ((65536 + nd true 3 : Nat) : Int), .int .u64 ((65536 + nd true 4 : Nat) : Int), .int .u64 ((65536 + nd true 5 : Nat) : Int), .int .u64 ((65536 + nd true 6 : Nat) : Int), .int .i64 (wd true : Int)] 74), (k5, C [.int .u8 kd, .int .u8 th, .int .u64 x, .int .u64 y] 43)] w := (by repeat (first | exact Mem.nil | refine Mem.cons hh.mem (by repeat (first | exact find_head | apply find_tail)) ?_ | refine Mem.consR hh (by assumption) (by simp) ?_))
                  refine d_take (i := 0) hl rfl (by kernel_rfl) (by kernel_rfl) (by kernel_rfl) (by kernel_rfl) (by kernel_rfl) rfl trivial (fun _ _ _ h => h) hM (fun w hC => r_move hl rfl) rfl ?_
                  clear hl a; intro a hl
                  refine d_take (i := 1) hl rfl (by kernel_rfl) (by kernel_rfl) (by kernel_rfl) (by kernel_rfl) (by kernel_rfl) rfl trivial (fun _ _ _ h => h) hM (fun w hC => r_nilCheck hl rfl) rfl ?_
                  clear hl a; intro a hl
                  refine d_take (i := 2) hl rfl (by kernel_rfl) (by kernel_rfl) (by kernel_rfl) (by kernel_rfl) (by kernel_rfl) rfl trivial (fun _ _ _ h => h) hM (fun w hC => r_field hl rfl fld74_3) rfl ?_
                  clear hl a; intro a hl
                  refine d_take (i := 3) hl rfl (by kernel_rfl) (by kernel_rfl) (by kernel_rfl) (by kernel_rfl) (by kernel_rfl) rfl trivial (fun _ _ _ h => h) hM (fun w hC => r_loadCA hl rfl agg72 hC (by repeat (first | exact find_head | apply find_tail)) (by first | (simp only [List.getElem?_cons_zero, List.getElem?_cons_succ, Value.cells, List.take_zero, List.take_succ_cons, List.take_nil, List.drop_zero, List.drop_succ_cons, List.drop_nil, List.length_cons, List.length_nil, List.cons_append, List.nil_append, List.append_nil, Nat.zero_add, Nat.add_zero, Nat.reduceAdd, Nat.reduceBEq, Nat.reduceEqDiff, Nat.ble, BEq.rfl, Bool.and_true, Bool.and_self, cond_true, beq_self_eq_true]; rfl)) (by first | rfl | (simp; done))) rfl ?_
                  clear hl a; intro a hl
                  refine d_take (i := 4) hl rfl (by kernel_rfl) (by kernel_rfl) (by kernel_rfl) (by kernel_rfl) (by kernel_rfl) rfl trivial (fun _ _ _ h => h) hM (fun w hC => r_move hl rfl) rfl ?_
                  clear hl a; intro a hl
                  refine d_take (i := 5) hl rfl (by kernel_rfl) (by kernel_rfl) (by kernel_rfl) (by kernel_rfl) (by kernel_rfl) rfl trivial (fun _ _ _ h => h) hM (fun w hC => r_field hl rfl fld43_3) rfl ?_
                  clear hl a; intro a hl
                  refine d_take (i := 6) hl rfl (by kernel_rfl) (by kernel_rfl) (by kernel_rfl) (by kernel_rfl) (by kernel_rfl) rfl trivial (fun _ _ _ h => h) hM (fun w hC => r_loadC hl rfl one37 hC (by repeat (first | exact find_head | apply find_tail)) (by first | rfl)) rfl ?_
                  clear hl a; intro a hl
                  refine d_one (i := 7) (by kernel_rfl) rfl ?_
                  try clear hM
                  refine id (w_call hl hh rfl trivial rfl cal42 rfl (takeDueP_spec t y) (by repeat (first | exact keeps_nil | apply keeps_cons (by repeat (first | exact find_head | apply find_tail)) (by first  | rfl) | exact keeps_self | exact keeps_left | exact keeps_right | exact keeps_swap | apply keeps_mv)) trivial ?_)
                  clear hl hh a w; intro vc Fc a w hR hl hh
                  obtain hR := hR
                  try simp only [List.cons_append, List.nil_append] at hh
                  have hh3 := hh.comm; clear hh; have hh := hh3; clear hh3
                  simp only [List.cons_append, List.nil_append] at hh
                  refine d_step (fun h => absurd h (by decide)) ?_
                  refine d_takeL (i := 8) hl rfl (by kernel_rfl) (by kernel_rfl) (by kernel_rfl) (by kernel_rfl) (by kernel_rfl) rfl trivial (fun _ _ _ h => h) (fun w => r_assign hl rfl) rfl ?_
                  clear hl a; intro a hl
                  refine d_done (by kernel_rfl) ?_
                  try clear hM
                  have hl2 := hl.add (t := 6) (hl.nil) rfl; clear hl; have hl := hl2; clear hl2
                  refine then_normal ?_
                  refine wp_ret ?_
                  refine blk_ret ?_
                  refine then_ret ?_
                  refine f_ret1 (F' := (wb, C [.pointer (some ⟨b, 0, none⟩), .pointer (some ⟨kb, 0, none⟩), .int .u64 ((65536 + hd false : Nat) : Int), .int .u64 ((65536 + nd false 0 : Nat) : Int), .int .u64 ((65536 + nd false 1 : Nat) : Int), .int .u64 ((65536 + nd false 2 : Nat) : Int), .int .u64 ((65536 + nd false 3 : Nat) : Int), .int .u64 ((65536 + nd false 4 : Nat) : Int), .int .u64 ((65536 + nd false 5 : Nat) : Int), .int .u64 ((65536 + nd false 6 : Nat) : Int), .int .i64 (wd false : Int), .int .u64 ((65536 + hd true : Nat) : Int), .int .u64 ((65536 + nd true 0 : Nat) : Int), .int .u64 ((65536 + nd true 1 : Nat) : Int), .int .u64 ((65536 + nd true 2 : Nat) : Int), .int .u64 ((65536 + nd true 3 : Nat) : Int), .int .u64 ((65536 + nd true 4 : Nat) : Int), .int .u64 ((65536 + nd true 5 : Nat) : Int), .int .u64 ((65536 + nd true 6 : Nat) : Int), .int .i64 (wd true : Int)] 74) :: Fc) hl hh rfl rfl (by repeat (first | exact keeps_nil | apply keeps_cons (by repeat (first | exact find_head | apply find_tail)) (by first  | rfl) | exact keeps_self | exact keeps_left | exact keeps_right | exact keeps_swap | apply keeps_mv)) ?_
                  exact ⟨Fc, .inr ⟨by omega, by (obtain rfl : kd = 7 := hc7); exact hR⟩, rfl⟩
                · intro hc7
                  try simp only [decide_eq_true_eq, decide_eq_false_iff_not, Bool.not_eq_true', Bool.not_eq_false', Bool.not_eq_true, Bool.not_eq_false, Bool.and_eq_true, Bool.or_eq_true, Bool.and_eq_false_iff, Bool.or_eq_false_iff, Bool.not_not, ne_eq, Int.not_lt, Int.not_le, Decidable.not_not, beq_iff_eq, bne_iff_ne] at hc7
                  refine wp_skip ?_
                  refine blk_normal ?_
                  refine then_normal ?_
                  refine c_seq ?_
                  refine c_region ?_
                  refine wl (wl_val hl rfl trivial (r_assign hl rfl) ?_)
                  clear hl a; intro a hl
                  refine w_nil ?_
                  have hl2 := hl.add (t := 6) (hl.nil) rfl; clear hl; have hl := hl2; clear hl2
                  refine then_normal ?_
                  refine wp_ret ?_
                  refine f_ret1 (F' := [(wb, C [.pointer (some ⟨b, 0, none⟩), .pointer (some ⟨kb, 0, none⟩), .int .u64 ((65536 + hd false : Nat) : Int), .int .u64 ((65536 + nd false 0 : Nat) : Int), .int .u64 ((65536 + nd false 1 : Nat) : Int), .int .u64 ((65536 + nd false 2 : Nat) : Int), .int .u64 ((65536 + nd false 3 : Nat) : Int), .int .u64 ((65536 + nd false 4 : Nat) : Int), .int .u64 ((65536 + nd false 5 : Nat) : Int), .int .u64 ((65536 + nd false 6 : Nat) : Int), .int .i64 (wd false : Int), .int .u64 ((65536 + hd true : Nat) : Int), .int .u64 ((65536 + nd true 0 : Nat) : Int), .int .u64 ((65536 + nd true 1 : Nat) : Int), .int .u64 ((65536 + nd true 2 : Nat) : Int), .int .u64 ((65536 + nd true 3 : Nat) : Int), .int .u64 ((65536 + nd true 4 : Nat) : Int), .int .u64 ((65536 + nd true 5 : Nat) : Int), .int .u64 ((65536 + nd true 6 : Nat) : Int), .int .i64 (wd true : Int)] 74)]) hl hh rfl rfl (by repeat (first | exact keeps_nil | apply keeps_cons (by repeat (first | exact find_head | apply find_tail)) (by first  | rfl) | exact keeps_self | exact keeps_left | exact keeps_right | exact keeps_swap | apply keeps_mv)) ?_
                  exact ⟨[], .inl ⟨by omega, rfl, rfl⟩, rfl⟩

set_option maxHeartbeats 1000000 in
theorem callOf_spec (kd th x y : Int) : Sp Tryz.prog 27 #[.agg ⟨[.int .u8 kd, .int .u8 th, .int .u64 x, .int .u64 y]⟩] [] (fun v F' => v = .agg ⟨[.int .u8 kd, .int .u64 (cvOf kd x), .int .u64 (cpOf kd y)]⟩ ∧ F' = []) := by
  refine f_enter (args := [.agg ⟨[.int .u8 kd, .int .u8 th, .int .u64 x, .int .u64 y]⟩]) Tryz.func27 rfl Tryz.ntmps27 rfl ?_
  intro w0 w a hpre hl hh
  simp only [slotsFrom, Nat.reduceAdd] at hl
  refine c_seq ?_
  refine c_region ?_
  refine wl (w_box hl hh rfl trivial rfl rfl ?_)
  clear hl hh a w; intro k1 a w hl hh
  refine wl (w_alloc hl hh rfl trivial zero60 rfl ?_)
  clear hl hh a w; intro k2 a w hl hh
  refine w_nil ?_
  have hl2 := hl.add (t := 1) (hl.add (t := 2) (hl.nil) rfl) rfl; clear hl; have hl := hl2; clear hl2
  refine then_normal ?_
  refine c_seq ?_
  refine c_region ?_
  refine wl (wl_val hl rfl trivial (r_field hl rfl fld43_0) ?_)
  clear hl a; intro a hl
  refine wl (w_load hl hh rfl trivial one35 rfl (by repeat (first | exact find_head | apply find_tail)) (by first | rfl) ?_)
  clear hl a; intro a hl
  refine wl (wl_val hl rfl trivial (r_build hl rfl zero60 bld60 (by simp only [fillL, setL, List.getElem?_cons_zero, List.getElem?_cons_succ, Value.cells, List.take_zero, List.take_succ_cons, List.take_nil, List.drop_zero, List.drop_succ_cons, List.drop_nil, List.length_cons, List.length_nil, List.cons_append, List.nil_append, List.append_nil, Nat.zero_add, Nat.add_zero, Nat.reduceAdd, Nat.reduceBEq, Nat.reduceEqDiff, Nat.ble, BEq.rfl, Bool.and_true, Bool.and_self, cond_true, beq_self_eq_true]; rfl)) ?_)
  clear hl a; intro a hl
  refine wl (w_alloc hl hh rfl trivial zero60 rfl ?_)
  clear hl hh a w; intro k3 a w hl hh
  refine wl (w_storeA hl hh trivial agg60 rfl rfl (by repeat (first | exact find_head | apply find_tail)) (by first | rfl | (simp; done)) (by first | (simp; done) | (simp; omega)) (by first | rfl | (simp; done)) (by first | (simp only [setL, List.getElem?_cons_zero, List.getElem?_cons_succ, Value.cells, List.take_zero, List.take_succ_cons, List.take_nil, List.drop_zero, List.drop_succ_cons, List.drop_nil, List.length_cons, List.length_nil, List.cons_append, List.nil_append, List.append_nil, Nat.zero_add, Nat.add_zero, Nat.reduceAdd, Nat.reduceBEq, Nat.reduceEqDiff, Nat.ble, BEq.rfl, Bool.and_true, Bool.and_self, cond_true, beq_self_eq_true]; rfl)) ?_)
  clear hh w; intro w hh
  refine w_nil ?_
  have hl2 := hl.add (t := 1) (hl.add (t := 2) (hl.add (t := 3) (hl.nil) rfl) rfl) rfl; clear hl; have hl := hl2; clear hl2
  refine then_normal ?_
  refine c_seq ?_
  refine c_seq ?_
  refine c_region ?_
  refine wl (wl_val hl rfl trivial (r_field hl rfl fld43_0) ?_)
  clear hl a; intro a hl
  refine wl (w_load hl hh rfl trivial one35 rfl (by repeat (first | exact find_head | apply find_tail)) (by first | rfl) ?_)
  clear hl a; intro a hl
  refine w_nil ?_
  have hl2 := hl.add (t := 1) (hl.add (t := 2) (hl.add (t := 3) (hl.add (t := 8) (hl.nil) rfl) rfl) rfl) rfl; clear hl; have hl := hl2; clear hl2
  refine then_normal ?_
  refine wp_block ?_
  refine c_seq ?_
  refine c_seq ?_
  refine c_region ?_
  refine wl (wl_val hl rfl trivial (r_eql hl rfl rfl) ?_)
  clear hl a; intro a hl
  refine wl (wl_val hl rfl trivial (r_assign hl rfl) ?_)
  clear hl a; intro a hl
  refine w_nil ?_
  have hl2 := hl.add (t := 1) (hl.add (t := 2) (hl.add (t := 3) (hl.add (t := 8) (hl.add (t := 9) (hl.nil) rfl) rfl) rfl) rfl) rfl; clear hl; have hl := hl2; clear hl2
  refine then_normal ?_
  refine c_cond hl rfl ?_ ?_
  · intro hc0
    try simp only [decide_eq_true_eq, decide_eq_false_iff_not, Bool.not_eq_true', Bool.not_eq_false', Bool.not_eq_true, Bool.not_eq_false, Bool.and_eq_true, Bool.or_eq_true, Bool.and_eq_false_iff, Bool.or_eq_false_iff, Bool.not_not, ne_eq, Int.not_lt, Int.not_le, Decidable.not_not, beq_iff_eq, bne_iff_ne] at hc0
    refine wp_skip ?_
    refine then_normal ?_
    refine c_cond hl rfl ?_ ?_
    · intro hc1
      try simp only [decide_eq_true_eq, decide_eq_false_iff_not, Bool.not_eq_true', Bool.not_eq_false', Bool.not_eq_true, Bool.not_eq_false, Bool.and_eq_true, Bool.or_eq_true, Bool.and_eq_false_iff, Bool.or_eq_false_iff, Bool.not_not, ne_eq, Int.not_lt, Int.not_le, Decidable.not_not, beq_iff_eq, bne_iff_ne] at hc1
      refine c_region ?_
      refine wl (wl_val hl rfl trivial (r_field hl rfl fld43_2) ?_)
      clear hl a; intro a hl
      refine wl (w_load hl hh rfl trivial one37 rfl (by repeat (first | exact find_head | apply find_tail)) (by first | rfl) ?_)
      clear hl a; intro a hl
      refine wl (wl_val hl rfl trivial (r_field hl rfl fld60_1) ?_)
      clear hl a; intro a hl
      refine wl (w_store hl hh trivial one37 rfl rfl (by repeat (first | exact find_head | apply find_tail)) (by first | (simp; done) | (simp; omega)) (by first | rfl | assumption | (apply Row.one; assumption)) (by first | (simp only [setL, List.getElem?_cons_zero, List.getElem?_cons_succ, Value.cells, List.take_zero, List.take_succ_cons, List.take_nil, List.drop_zero, List.drop_succ_cons, List.drop_nil, List.length_cons, List.length_nil, List.cons_append, List.nil_append, List.append_nil, Nat.zero_add, Nat.add_zero, Nat.reduceAdd, Nat.reduceBEq, Nat.reduceEqDiff, Nat.ble, BEq.rfl, Bool.and_true, Bool.and_self, cond_true, beq_self_eq_true]; rfl)) ?_)
      clear hh w; intro w hh
      refine w_nil ?_
      have hl2 := hl.add (t := 2) (hl.add (t := 3) (hl.nil) rfl) rfl; clear hl; have hl := hl2; clear hl2
      refine blk_normal ?_
      refine then_normal ?_
      refine c_seq ?_
      refine c_region ?_
      refine wl (w_loadA hl hh rfl trivial agg60 rfl (by repeat (first | exact find_head | apply find_tail)) (by first | (simp only [List.getElem?_cons_zero, List.getElem?_cons_succ, Value.cells, List.take_zero, List.take_succ_cons, List.take_nil, List.drop_zero, List.drop_succ_cons, List.drop_nil, List.length_cons, List.length_nil, List.cons_append, List.nil_append, List.append_nil, Nat.zero_add, Nat.add_zero, Nat.reduceAdd, Nat.reduceBEq, Nat.reduceEqDiff, Nat.ble, BEq.rfl, Bool.and_true, Bool.and_self, cond_true, beq_self_eq_true]; rfl)) (by first | rfl | (simp; done)) ?_)
      clear hl a; intro a hl
      refine wl (w_storeA hl hh trivial agg60 rfl rfl (by repeat (first | exact find_head | apply find_tail)) (by first | rfl | (simp; done)) (by first | (simp; done) | (simp; omega)) (by first | rfl | (simp; done)) (by first | (simp only [setL, List.getElem?_cons_zero, List.getElem?_cons_succ, Value.cells, List.take_zero, List.take_succ_cons, List.take_nil, List.drop_zero, List.drop_succ_cons, List.drop_nil, List.length_cons, List.length_nil, List.cons_append, List.nil_append, List.append_nil, Nat.zero_add, Nat.add_zero, Nat.reduceAdd, Nat.reduceBEq, Nat.reduceEqDiff, Nat.ble, BEq.rfl, Bool.and_true, Bool.and_self, cond_true, beq_self_eq_true]; rfl)) ?_)
      clear hh w; intro w hh
      refine w_nil ?_
      have hl2 := hl.add (t := 2) (hl.nil) rfl; clear hl; have hl := hl2; clear hl2
      refine then_normal ?_
      refine wp_ret ?_
      refine f_retC (F' := []) hl hh rfl rfl agg60 (by repeat (first | exact find_head | apply find_tail)) (by first | rfl | (simp; done)) (by repeat (first | exact keeps_nil | apply keeps_cons (by repeat (first | exact find_head | apply find_tail)) (by first  | rfl) | exact keeps_self | apply keeps_mv)) ?_
      first | (exfalso; omega) | exact ⟨by unfold cvOf cpOf; (repeat (first | rw [if_pos (by omega)] | rw [if_neg (by omega)])), rfl⟩
    · intro hc1
      try simp only [decide_eq_true_eq, decide_eq_false_iff_not, Bool.not_eq_true', Bool.not_eq_false', Bool.not_eq_true, Bool.not_eq_false, Bool.and_eq_true, Bool.or_eq_true, Bool.and_eq_false_iff, Bool.or_eq_false_iff, Bool.not_not, ne_eq, Int.not_lt, Int.not_le, Decidable.not_not, beq_iff_eq, bne_iff_ne] at hc1
      refine c_seq ?_
      refine c_region ?_
      refine wl (wl_val hl rfl trivial (r_eql hl rfl rfl) ?_)
      clear hl a; intro a hl
      refine wl (wl_val hl rfl trivial (r_assign hl rfl) ?_)
      clear hl a; intro a hl
      refine w_nil ?_
      have hl2 := hl.add (t := 1) (hl.add (t := 2) (hl.add (t := 3) (hl.add (t := 8) (hl.add (t := 15) (hl.nil) rfl) rfl) rfl) rfl) rfl; clear hl; have hl := hl2; clear hl2
      refine then_normal ?_
      refine c_cond hl rfl ?_ ?_
      · intro hc2
        try simp only [decide_eq_true_eq, decide_eq_false_iff_not, Bool.not_eq_true', Bool.not_eq_false', Bool.not_eq_true, Bool.not_eq_false, Bool.and_eq_true, Bool.or_eq_true, Bool.and_eq_false_iff, Bool.or_eq_false_iff, Bool.not_not, ne_eq, Int.not_lt, Int.not_le, Decidable.not_not, beq_iff_eq, bne_iff_ne] at hc2
        refine c_draw [(k1, C [.int .u8 kd, .int .u8 th, .int .u64 x, .int .u64 y] 43)] [6, 7] mixed hh ?_
        clear hh w; intro w hh
        have hM : Mem [(k1, C [.int .u8 kd, .int .u8 th, .int .u64 x, .int .u64 y] 43)] w := (by repeat (first | exact Mem.nil | refine Mem.cons hh.mem (by repeat (first | exact find_head | apply find_tail)) ?_ | refine Mem.consR hh (by assumption) (by simp) ?_))
        refine d_take (i := 0) hl rfl (by kernel_rfl) (by kernel_rfl) (by kernel_rfl) (by kernel_rfl) (by kernel_rfl) rfl trivial (fun _ _ _ h => h) hM (fun w hC => r_field hl rfl fld43_2) rfl ?_
        clear hl a; intro a hl
        refine d_take (i := 1) hl rfl (by kernel_rfl) (by kernel_rfl) (by kernel_rfl) (by kernel_rfl) (by kernel_rfl) rfl trivial (fun _ _ _ h => h) hM (fun w hC => r_loadC hl rfl one37 hC (by repeat (first | exact find_head | apply find_tail)) (by first | rfl)) rfl ?_
        clear hl a; intro a hl
        refine d_take (i := 2) hl rfl (by kernel_rfl) (by kernel_rfl) (by kernel_rfl) (by kernel_rfl) (by kernel_rfl) rfl trivial (fun _ _ _ h => h) hM (fun w hC => r_field hl rfl fld43_3) rfl ?_
        clear hl a; intro a hl
        refine d_take (i := 3) hl rfl (by kernel_rfl) (by kernel_rfl) (by kernel_rfl) (by kernel_rfl) (by kernel_rfl) rfl trivial (fun _ _ _ h => h) hM (fun w hC => r_loadC hl rfl one37 hC (by repeat (first | exact find_head | apply find_tail)) (by first | rfl)) rfl ?_
        clear hl a; intro a hl
        refine d_take (i := 4) hl rfl (by kernel_rfl) (by kernel_rfl) (by kernel_rfl) (by kernel_rfl) (by kernel_rfl) rfl trivial (fun _ _ _ h => h) hM (fun w hC => r_field hl rfl fld60_1) rfl ?_
        clear hl a; intro a hl
        refine d_one (i := 5) (by kernel_rfl) rfl ?_
        try clear hM
        refine id (w_store hl hh trivial one37 rfl rfl (by repeat (first | exact find_head | apply find_tail)) (by first | (simp; done) | (simp; omega)) (by first | rfl | assumption | (apply Row.one; assumption)) (by first | (simp only [setL, List.getElem?_cons_zero, List.getElem?_cons_succ, Value.cells, List.take_zero, List.take_succ_cons, List.take_nil, List.drop_zero, List.drop_succ_cons, List.drop_nil, List.length_cons, List.length_nil, List.cons_append, List.nil_append, List.append_nil, Nat.zero_add, Nat.add_zero, Nat.reduceAdd, Nat.reduceBEq, Nat.reduceEqDiff, Nat.ble, BEq.rfl, Bool.and_true, Bool.and_self, cond_true, beq_self_eq_true]; rfl)) ?_)
        clear hh w; intro w hh
        have hM : Mem [(k1, C [.int .u8 kd, .int .u8 th, .int .u64 x, .int .u64 y] 43)] w := (by repeat (first | exact Mem.nil | refine Mem.cons hh.mem (by repeat (first | exact find_head | apply find_tail)) ?_ | refine Mem.consR hh (by assumption) (by simp) ?_))
        refine d_step (fun _ => hM) ?_
        refine d_takeL (i := 6) hl rfl (by kernel_rfl) (by kernel_rfl) (by kernel_rfl) (by kernel_rfl) (by kernel_rfl) rfl trivial (fun _ _ _ h => h) (fun w => r_field hl rfl fld60_2) rfl ?_
        clear hl a; intro a hl
        refine d_one (i := 7) (by kernel_rfl) rfl ?_
        try clear hM
        refine id (w_store hl hh trivial one37 rfl rfl (by repeat (first | exact find_head | apply find_tail)) (by first | (simp; done) | (simp; omega)) (by first | rfl | assumption | (apply Row.one; assumption)) (by first | (simp only [setL, List.getElem?_cons_zero, List.getElem?_cons_succ, Value.cells, List.take_zero, List.take_succ_cons, List.take_nil, List.drop_zero, List.drop_succ_cons, List.drop_nil, List.length_cons, List.length_nil, List.cons_append, List.nil_append, List.append_nil, Nat.zero_add, Nat.add_zero, Nat.reduceAdd, Nat.reduceBEq, Nat.reduceEqDiff, Nat.ble, BEq.rfl, Bool.and_true, Bool.and_self, cond_true, beq_self_eq_true]; rfl)) ?_)
        clear hh w; intro w hh
        refine d_step (fun h => absurd h (by decide)) ?_
        refine d_done (by kernel_rfl) ?_
        try clear hM
        have hl2 := hl.add (t := 2) (hl.add (t := 3) (hl.nil) rfl) rfl; clear hl; have hl := hl2; clear hl2
        refine blk_normal ?_
        refine then_normal ?_
        refine c_seq ?_
        refine c_region ?_
        refine wl (w_loadA hl hh rfl trivial agg60 rfl (by repeat (first | exact find_head | apply find_tail)) (by first | (simp only [List.getElem?_cons_zero, List.getElem?_cons_succ, Value.cells, List.take_zero, List.take_succ_cons, List.take_nil, List.drop_zero, List.drop_succ_cons, List.drop_nil, List.length_cons, List.length_nil, List.cons_append, List.nil_append, List.append_nil, Nat.zero_add, Nat.add_zero, Nat.reduceAdd, Nat.reduceBEq, Nat.reduceEqDiff, Nat.ble, BEq.rfl, Bool.and_true, Bool.and_self, cond_true, beq_self_eq_true]; rfl)) (by first | rfl | (simp; done)) ?_)
        clear hl a; intro a hl
        refine wl (w_storeA hl hh trivial agg60 rfl rfl (by repeat (first | exact find_head | apply find_tail)) (by first | rfl | (simp; done)) (by first | (simp; done) | (simp; omega)) (by first | rfl | (simp; done)) (by first | (simp only [setL, List.getElem?_cons_zero, List.getElem?_cons_succ, Value.cells, List.take_zero, List.take_succ_cons, List.take_nil, List.drop_zero, List.drop_succ_cons, List.drop_nil, List.length_cons, List.length_nil, List.cons_append, List.nil_append, List.append_nil, Nat.zero_add, Nat.add_zero, Nat.reduceAdd, Nat.reduceBEq, Nat.reduceEqDiff, Nat.ble, BEq.rfl, Bool.and_true, Bool.and_self, cond_true, beq_self_eq_true]; rfl)) ?_)
        clear hh w; intro w hh
        refine w_nil ?_
        have hl2 := hl.add (t := 2) (hl.nil) rfl; clear hl; have hl := hl2; clear hl2
        refine then_normal ?_
        refine wp_ret ?_
        refine f_retC (F' := []) hl hh rfl rfl agg60 (by repeat (first | exact find_head | apply find_tail)) (by first | rfl | (simp; done)) (by repeat (first | exact keeps_nil | apply keeps_cons (by repeat (first | exact find_head | apply find_tail)) (by first  | rfl) | exact keeps_self | apply keeps_mv)) ?_
        first | (exfalso; omega) | exact ⟨by unfold cvOf cpOf; (repeat (first | rw [if_pos (by omega)] | rw [if_neg (by omega)])), rfl⟩
      · intro hc2
        try simp only [decide_eq_true_eq, decide_eq_false_iff_not, Bool.not_eq_true', Bool.not_eq_false', Bool.not_eq_true, Bool.not_eq_false, Bool.and_eq_true, Bool.or_eq_true, Bool.and_eq_false_iff, Bool.or_eq_false_iff, Bool.not_not, ne_eq, Int.not_lt, Int.not_le, Decidable.not_not, beq_iff_eq, bne_iff_ne] at hc2
        refine c_seq ?_
        refine c_region ?_
        refine wl (wl_val hl rfl trivial (r_eql hl rfl rfl) ?_)
        clear hl a; intro a hl
        refine wl (wl_val hl rfl trivial (r_assign hl rfl) ?_)
        clear hl a; intro a hl
        refine w_nil ?_
        have hl2 := hl.add (t := 1) (hl.add (t := 2) (hl.add (t := 3) (hl.add (t := 23) (hl.nil) rfl) rfl) rfl) rfl; clear hl; have hl := hl2; clear hl2
        refine then_normal ?_
        refine c_cond hl rfl ?_ ?_
        · intro hc3
          try simp only [decide_eq_true_eq, decide_eq_false_iff_not, Bool.not_eq_true', Bool.not_eq_false', Bool.not_eq_true, Bool.not_eq_false, Bool.and_eq_true, Bool.or_eq_true, Bool.and_eq_false_iff, Bool.or_eq_false_iff, Bool.not_not, ne_eq, Int.not_lt, Int.not_le, Decidable.not_not, beq_iff_eq, bne_iff_ne] at hc3
          refine c_region ?_
          refine wl (wl_val hl rfl trivial (r_field hl rfl fld43_3) ?_)
          clear hl a; intro a hl
          refine wl (w_load hl hh rfl trivial one37 rfl (by repeat (first | exact find_head | apply find_tail)) (by first | rfl) ?_)
          clear hl a; intro a hl
          refine wl (wl_val hl rfl trivial (r_field hl rfl fld60_2) ?_)
          clear hl a; intro a hl
          refine wl (w_store hl hh trivial one37 rfl rfl (by repeat (first | exact find_head | apply find_tail)) (by first | (simp; done) | (simp; omega)) (by first | rfl | assumption | (apply Row.one; assumption)) (by first | (simp only [setL, List.getElem?_cons_zero, List.getElem?_cons_succ, Value.cells, List.take_zero, List.take_succ_cons, List.take_nil, List.drop_zero, List.drop_succ_cons, List.drop_nil, List.length_cons, List.length_nil, List.cons_append, List.nil_append, List.append_nil, Nat.zero_add, Nat.add_zero, Nat.reduceAdd, Nat.reduceBEq, Nat.reduceEqDiff, Nat.ble, BEq.rfl, Bool.and_true, Bool.and_self, cond_true, beq_self_eq_true]; rfl)) ?_)
          clear hh w; intro w hh
          refine w_nil ?_
          have hl2 := hl.add (t := 2) (hl.add (t := 3) (hl.nil) rfl) rfl; clear hl; have hl := hl2; clear hl2
          refine blk_normal ?_
          refine then_normal ?_
          refine c_seq ?_
          refine c_region ?_
          refine wl (w_loadA hl hh rfl trivial agg60 rfl (by repeat (first | exact find_head | apply find_tail)) (by first | (simp only [List.getElem?_cons_zero, List.getElem?_cons_succ, Value.cells, List.take_zero, List.take_succ_cons, List.take_nil, List.drop_zero, List.drop_succ_cons, List.drop_nil, List.length_cons, List.length_nil, List.cons_append, List.nil_append, List.append_nil, Nat.zero_add, Nat.add_zero, Nat.reduceAdd, Nat.reduceBEq, Nat.reduceEqDiff, Nat.ble, BEq.rfl, Bool.and_true, Bool.and_self, cond_true, beq_self_eq_true]; rfl)) (by first | rfl | (simp; done)) ?_)
          clear hl a; intro a hl
          refine wl (w_storeA hl hh trivial agg60 rfl rfl (by repeat (first | exact find_head | apply find_tail)) (by first | rfl | (simp; done)) (by first | (simp; done) | (simp; omega)) (by first | rfl | (simp; done)) (by first | (simp only [setL, List.getElem?_cons_zero, List.getElem?_cons_succ, Value.cells, List.take_zero, List.take_succ_cons, List.take_nil, List.drop_zero, List.drop_succ_cons, List.drop_nil, List.length_cons, List.length_nil, List.cons_append, List.nil_append, List.append_nil, Nat.zero_add, Nat.add_zero, Nat.reduceAdd, Nat.reduceBEq, Nat.reduceEqDiff, Nat.ble, BEq.rfl, Bool.and_true, Bool.and_self, cond_true, beq_self_eq_true]; rfl)) ?_)
          clear hh w; intro w hh
          refine w_nil ?_
          have hl2 := hl.add (t := 2) (hl.nil) rfl; clear hl; have hl := hl2; clear hl2
          refine then_normal ?_
          refine wp_ret ?_
          refine f_retC (F' := []) hl hh rfl rfl agg60 (by repeat (first | exact find_head | apply find_tail)) (by first | rfl | (simp; done)) (by repeat (first | exact keeps_nil | apply keeps_cons (by repeat (first | exact find_head | apply find_tail)) (by first  | rfl) | exact keeps_self | apply keeps_mv)) ?_
          first | (exfalso; omega) | exact ⟨by unfold cvOf cpOf; (repeat (first | rw [if_pos (by omega)] | rw [if_neg (by omega)])), rfl⟩
        · intro hc3
          try simp only [decide_eq_true_eq, decide_eq_false_iff_not, Bool.not_eq_true', Bool.not_eq_false', Bool.not_eq_true, Bool.not_eq_false, Bool.and_eq_true, Bool.or_eq_true, Bool.and_eq_false_iff, Bool.or_eq_false_iff, Bool.not_not, ne_eq, Int.not_lt, Int.not_le, Decidable.not_not, beq_iff_eq, bne_iff_ne] at hc3
          refine wp_skip ?_
          refine blk_normal ?_
          refine then_normal ?_
          refine c_seq ?_
          refine c_region ?_
          refine wl (w_loadA hl hh rfl trivial agg60 rfl (by repeat (first | exact find_head | apply find_tail)) (by first | (simp only [List.getElem?_cons_zero, List.getElem?_cons_succ, Value.cells, List.take_zero, List.take_succ_cons, List.take_nil, List.drop_zero, List.drop_succ_cons, List.drop_nil, List.length_cons, List.length_nil, List.cons_append, List.nil_append, List.append_nil, Nat.zero_add, Nat.add_zero, Nat.reduceAdd, Nat.reduceBEq, Nat.reduceEqDiff, Nat.ble, BEq.rfl, Bool.and_true, Bool.and_self, cond_true, beq_self_eq_true]; rfl)) (by first | rfl | (simp; done)) ?_)
          clear hl a; intro a hl
          refine wl (w_storeA hl hh trivial agg60 rfl rfl (by repeat (first | exact find_head | apply find_tail)) (by first | rfl | (simp; done)) (by first | (simp; done) | (simp; omega)) (by first | rfl | (simp; done)) (by first | (simp only [setL, List.getElem?_cons_zero, List.getElem?_cons_succ, Value.cells, List.take_zero, List.take_succ_cons, List.take_nil, List.drop_zero, List.drop_succ_cons, List.drop_nil, List.length_cons, List.length_nil, List.cons_append, List.nil_append, List.append_nil, Nat.zero_add, Nat.add_zero, Nat.reduceAdd, Nat.reduceBEq, Nat.reduceEqDiff, Nat.ble, BEq.rfl, Bool.and_true, Bool.and_self, cond_true, beq_self_eq_true]; rfl)) ?_)
          clear hh w; intro w hh
          refine w_nil ?_
          have hl2 := hl.add (t := 2) (hl.nil) rfl; clear hl; have hl := hl2; clear hl2
          refine then_normal ?_
          refine wp_ret ?_
          refine f_retC (F' := []) hl hh rfl rfl agg60 (by repeat (first | exact find_head | apply find_tail)) (by first | rfl | (simp; done)) (by repeat (first | exact keeps_nil | apply keeps_cons (by repeat (first | exact find_head | apply find_tail)) (by first  | rfl) | exact keeps_self | apply keeps_mv)) ?_
          first | (exfalso; omega) | exact ⟨by unfold cvOf cpOf; (repeat (first | rw [if_pos (by omega)] | rw [if_neg (by omega)])), rfl⟩
  · intro hc0
    try simp only [decide_eq_true_eq, decide_eq_false_iff_not, Bool.not_eq_true', Bool.not_eq_false', Bool.not_eq_true, Bool.not_eq_false, Bool.and_eq_true, Bool.or_eq_true, Bool.and_eq_false_iff, Bool.or_eq_false_iff, Bool.not_not, ne_eq, Int.not_lt, Int.not_le, Decidable.not_not, beq_iff_eq, bne_iff_ne] at hc0
    refine c_region ?_
    refine wl (wl_val hl rfl trivial (r_eql hl rfl rfl) ?_)
    clear hl a; intro a hl
    refine wl (wl_val hl rfl trivial (r_assign hl rfl) ?_)
    clear hl a; intro a hl
    refine w_nil ?_
    have hl2 := hl.add (t := 1) (hl.add (t := 2) (hl.add (t := 3) (hl.add (t := 8) (hl.add (t := 9) (hl.nil) rfl) rfl) rfl) rfl) rfl; clear hl; have hl := hl2; clear hl2
    refine then_normal ?_
    refine c_cond hl rfl ?_ ?_
    · intro hc1
      try simp only [decide_eq_true_eq, decide_eq_false_iff_not, Bool.not_eq_true', Bool.not_eq_false', Bool.not_eq_true, Bool.not_eq_false, Bool.and_eq_true, Bool.or_eq_true, Bool.and_eq_false_iff, Bool.or_eq_false_iff, Bool.not_not, ne_eq, Int.not_lt, Int.not_le, Decidable.not_not, beq_iff_eq, bne_iff_ne] at hc1
      refine c_region ?_
      refine wl (wl_val hl rfl trivial (r_field hl rfl fld43_2) ?_)
      clear hl a; intro a hl
      refine wl (w_load hl hh rfl trivial one37 rfl (by repeat (first | exact find_head | apply find_tail)) (by first | rfl) ?_)
      clear hl a; intro a hl
      refine wl (wl_val hl rfl trivial (r_field hl rfl fld60_1) ?_)
      clear hl a; intro a hl
      refine wl (w_store hl hh trivial one37 rfl rfl (by repeat (first | exact find_head | apply find_tail)) (by first | (simp; done) | (simp; omega)) (by first | rfl | assumption | (apply Row.one; assumption)) (by first | (simp only [setL, List.getElem?_cons_zero, List.getElem?_cons_succ, Value.cells, List.take_zero, List.take_succ_cons, List.take_nil, List.drop_zero, List.drop_succ_cons, List.drop_nil, List.length_cons, List.length_nil, List.cons_append, List.nil_append, List.append_nil, Nat.zero_add, Nat.add_zero, Nat.reduceAdd, Nat.reduceBEq, Nat.reduceEqDiff, Nat.ble, BEq.rfl, Bool.and_true, Bool.and_self, cond_true, beq_self_eq_true]; rfl)) ?_)
      clear hh w; intro w hh
      refine w_nil ?_
      have hl2 := hl.add (t := 2) (hl.add (t := 3) (hl.nil) rfl) rfl; clear hl; have hl := hl2; clear hl2
      refine blk_normal ?_
      refine then_normal ?_
      refine c_seq ?_
      refine c_region ?_
      refine wl (w_loadA hl hh rfl trivial agg60 rfl (by repeat (first | exact find_head | apply find_tail)) (by first | (simp only [List.getElem?_cons_zero, List.getElem?_cons_succ, Value.cells, List.take_zero, List.take_succ_cons, List.take_nil, List.drop_zero, List.drop_succ_cons, List.drop_nil, List.length_cons, List.length_nil, List.cons_append, List.nil_append, List.append_nil, Nat.zero_add, Nat.add_zero, Nat.reduceAdd, Nat.reduceBEq, Nat.reduceEqDiff, Nat.ble, BEq.rfl, Bool.and_true, Bool.and_self, cond_true, beq_self_eq_true]; rfl)) (by first | rfl | (simp; done)) ?_)
      clear hl a; intro a hl
      refine wl (w_storeA hl hh trivial agg60 rfl rfl (by repeat (first | exact find_head | apply find_tail)) (by first | rfl | (simp; done)) (by first | (simp; done) | (simp; omega)) (by first | rfl | (simp; done)) (by first | (simp only [setL, List.getElem?_cons_zero, List.getElem?_cons_succ, Value.cells, List.take_zero, List.take_succ_cons, List.take_nil, List.drop_zero, List.drop_succ_cons, List.drop_nil, List.length_cons, List.length_nil, List.cons_append, List.nil_append, List.append_nil, Nat.zero_add, Nat.add_zero, Nat.reduceAdd, Nat.reduceBEq, Nat.reduceEqDiff, Nat.ble, BEq.rfl, Bool.and_true, Bool.and_self, cond_true, beq_self_eq_true]; rfl)) ?_)
      clear hh w; intro w hh
      refine w_nil ?_
      have hl2 := hl.add (t := 2) (hl.nil) rfl; clear hl; have hl := hl2; clear hl2
      refine then_normal ?_
      refine wp_ret ?_
      refine f_retC (F' := []) hl hh rfl rfl agg60 (by repeat (first | exact find_head | apply find_tail)) (by first | rfl | (simp; done)) (by repeat (first | exact keeps_nil | apply keeps_cons (by repeat (first | exact find_head | apply find_tail)) (by first  | rfl) | exact keeps_self | apply keeps_mv)) ?_
      first | (exfalso; omega) | exact ⟨by unfold cvOf cpOf; (repeat (first | rw [if_pos (by omega)] | rw [if_neg (by omega)])), rfl⟩
    · intro hc1
      try simp only [decide_eq_true_eq, decide_eq_false_iff_not, Bool.not_eq_true', Bool.not_eq_false', Bool.not_eq_true, Bool.not_eq_false, Bool.and_eq_true, Bool.or_eq_true, Bool.and_eq_false_iff, Bool.or_eq_false_iff, Bool.not_not, ne_eq, Int.not_lt, Int.not_le, Decidable.not_not, beq_iff_eq, bne_iff_ne] at hc1
      refine c_seq ?_
      refine c_region ?_
      refine wl (wl_val hl rfl trivial (r_eql hl rfl rfl) ?_)
      clear hl a; intro a hl
      refine wl (wl_val hl rfl trivial (r_assign hl rfl) ?_)
      clear hl a; intro a hl
      refine w_nil ?_
      have hl2 := hl.add (t := 1) (hl.add (t := 2) (hl.add (t := 3) (hl.add (t := 8) (hl.add (t := 15) (hl.nil) rfl) rfl) rfl) rfl) rfl; clear hl; have hl := hl2; clear hl2
      refine then_normal ?_
      refine c_cond hl rfl ?_ ?_
      · intro hc2
        try simp only [decide_eq_true_eq, decide_eq_false_iff_not, Bool.not_eq_true', Bool.not_eq_false', Bool.not_eq_true, Bool.not_eq_false, Bool.and_eq_true, Bool.or_eq_true, Bool.and_eq_false_iff, Bool.or_eq_false_iff, Bool.not_not, ne_eq, Int.not_lt, Int.not_le, Decidable.not_not, beq_iff_eq, bne_iff_ne] at hc2
        refine c_draw [(k1, C [.int .u8 kd, .int .u8 th, .int .u64 x, .int .u64 y] 43)] [6, 7] mixed hh ?_
        clear hh w; intro w hh
        have hM : Mem [(k1, C [.int .u8 kd, .int .u8 th, .int .u64 x, .int .u64 y] 43)] w := (by repeat (first | exact Mem.nil | refine Mem.cons hh.mem (by repeat (first | exact find_head | apply find_tail)) ?_ | refine Mem.consR hh (by assumption) (by simp) ?_))
        refine d_take (i := 0) hl rfl (by kernel_rfl) (by kernel_rfl) (by kernel_rfl) (by kernel_rfl) (by kernel_rfl) rfl trivial (fun _ _ _ h => h) hM (fun w hC => r_field hl rfl fld43_2) rfl ?_
        clear hl a; intro a hl
        refine d_take (i := 1) hl rfl (by kernel_rfl) (by kernel_rfl) (by kernel_rfl) (by kernel_rfl) (by kernel_rfl) rfl trivial (fun _ _ _ h => h) hM (fun w hC => r_loadC hl rfl one37 hC (by repeat (first | exact find_head | apply find_tail)) (by first | rfl)) rfl ?_
        clear hl a; intro a hl
        refine d_take (i := 2) hl rfl (by kernel_rfl) (by kernel_rfl) (by kernel_rfl) (by kernel_rfl) (by kernel_rfl) rfl trivial (fun _ _ _ h => h) hM (fun w hC => r_field hl rfl fld43_3) rfl ?_
        clear hl a; intro a hl
        refine d_take (i := 3) hl rfl (by kernel_rfl) (by kernel_rfl) (by kernel_rfl) (by kernel_rfl) (by kernel_rfl) rfl trivial (fun _ _ _ h => h) hM (fun w hC => r_loadC hl rfl one37 hC (by repeat (first | exact find_head | apply find_tail)) (by first | rfl)) rfl ?_
        clear hl a; intro a hl
        refine d_take (i := 4) hl rfl (by kernel_rfl) (by kernel_rfl) (by kernel_rfl) (by kernel_rfl) (by kernel_rfl) rfl trivial (fun _ _ _ h => h) hM (fun w hC => r_field hl rfl fld60_1) rfl ?_
        clear hl a; intro a hl
        refine d_one (i := 5) (by kernel_rfl) rfl ?_
        try clear hM
        refine id (w_store hl hh trivial one37 rfl rfl (by repeat (first | exact find_head | apply find_tail)) (by first | (simp; done) | (simp; omega)) (by first | rfl | assumption | (apply Row.one; assumption)) (by first | (simp only [setL, List.getElem?_cons_zero, List.getElem?_cons_succ, Value.cells, List.take_zero, List.take_succ_cons, List.take_nil, List.drop_zero, List.drop_succ_cons, List.drop_nil, List.length_cons, List.length_nil, List.cons_append, List.nil_append, List.append_nil, Nat.zero_add, Nat.add_zero, Nat.reduceAdd, Nat.reduceBEq, Nat.reduceEqDiff, Nat.ble, BEq.rfl, Bool.and_true, Bool.and_self, cond_true, beq_self_eq_true]; rfl)) ?_)
        clear hh w; intro w hh
        have hM : Mem [(k1, C [.int .u8 kd, .int .u8 th, .int .u64 x, .int .u64 y] 43)] w := (by repeat (first | exact Mem.nil | refine Mem.cons hh.mem (by repeat (first | exact find_head | apply find_tail)) ?_ | refine Mem.consR hh (by assumption) (by simp) ?_))
        refine d_step (fun _ => hM) ?_
        refine d_takeL (i := 6) hl rfl (by kernel_rfl) (by kernel_rfl) (by kernel_rfl) (by kernel_rfl) (by kernel_rfl) rfl trivial (fun _ _ _ h => h) (fun w => r_field hl rfl fld60_2) rfl ?_
        clear hl a; intro a hl
        refine d_one (i := 7) (by kernel_rfl) rfl ?_
        try clear hM
        refine id (w_store hl hh trivial one37 rfl rfl (by repeat (first | exact find_head | apply find_tail)) (by first | (simp; done) | (simp; omega)) (by first | rfl | assumption | (apply Row.one; assumption)) (by first | (simp only [setL, List.getElem?_cons_zero, List.getElem?_cons_succ, Value.cells, List.take_zero, List.take_succ_cons, List.take_nil, List.drop_zero, List.drop_succ_cons, List.drop_nil, List.length_cons, List.length_nil, List.cons_append, List.nil_append, List.append_nil, Nat.zero_add, Nat.add_zero, Nat.reduceAdd, Nat.reduceBEq, Nat.reduceEqDiff, Nat.ble, BEq.rfl, Bool.and_true, Bool.and_self, cond_true, beq_self_eq_true]; rfl)) ?_)
        clear hh w; intro w hh
        refine d_step (fun h => absurd h (by decide)) ?_
        refine d_done (by kernel_rfl) ?_
        try clear hM
        have hl2 := hl.add (t := 2) (hl.add (t := 3) (hl.nil) rfl) rfl; clear hl; have hl := hl2; clear hl2
        refine blk_normal ?_
        refine then_normal ?_
        refine c_seq ?_
        refine c_region ?_
        refine wl (w_loadA hl hh rfl trivial agg60 rfl (by repeat (first | exact find_head | apply find_tail)) (by first | (simp only [List.getElem?_cons_zero, List.getElem?_cons_succ, Value.cells, List.take_zero, List.take_succ_cons, List.take_nil, List.drop_zero, List.drop_succ_cons, List.drop_nil, List.length_cons, List.length_nil, List.cons_append, List.nil_append, List.append_nil, Nat.zero_add, Nat.add_zero, Nat.reduceAdd, Nat.reduceBEq, Nat.reduceEqDiff, Nat.ble, BEq.rfl, Bool.and_true, Bool.and_self, cond_true, beq_self_eq_true]; rfl)) (by first | rfl | (simp; done)) ?_)
        clear hl a; intro a hl
        refine wl (w_storeA hl hh trivial agg60 rfl rfl (by repeat (first | exact find_head | apply find_tail)) (by first | rfl | (simp; done)) (by first | (simp; done) | (simp; omega)) (by first | rfl | (simp; done)) (by first | (simp only [setL, List.getElem?_cons_zero, List.getElem?_cons_succ, Value.cells, List.take_zero, List.take_succ_cons, List.take_nil, List.drop_zero, List.drop_succ_cons, List.drop_nil, List.length_cons, List.length_nil, List.cons_append, List.nil_append, List.append_nil, Nat.zero_add, Nat.add_zero, Nat.reduceAdd, Nat.reduceBEq, Nat.reduceEqDiff, Nat.ble, BEq.rfl, Bool.and_true, Bool.and_self, cond_true, beq_self_eq_true]; rfl)) ?_)
        clear hh w; intro w hh
        refine w_nil ?_
        have hl2 := hl.add (t := 2) (hl.nil) rfl; clear hl; have hl := hl2; clear hl2
        refine then_normal ?_
        refine wp_ret ?_
        refine f_retC (F' := []) hl hh rfl rfl agg60 (by repeat (first | exact find_head | apply find_tail)) (by first | rfl | (simp; done)) (by repeat (first | exact keeps_nil | apply keeps_cons (by repeat (first | exact find_head | apply find_tail)) (by first  | rfl) | exact keeps_self | apply keeps_mv)) ?_
        first | (exfalso; omega) | exact ⟨by unfold cvOf cpOf; (repeat (first | rw [if_pos (by omega)] | rw [if_neg (by omega)])), rfl⟩
      · intro hc2
        try simp only [decide_eq_true_eq, decide_eq_false_iff_not, Bool.not_eq_true', Bool.not_eq_false', Bool.not_eq_true, Bool.not_eq_false, Bool.and_eq_true, Bool.or_eq_true, Bool.and_eq_false_iff, Bool.or_eq_false_iff, Bool.not_not, ne_eq, Int.not_lt, Int.not_le, Decidable.not_not, beq_iff_eq, bne_iff_ne] at hc2
        refine c_seq ?_
        refine c_region ?_
        refine wl (wl_val hl rfl trivial (r_eql hl rfl rfl) ?_)
        clear hl a; intro a hl
        refine wl (wl_val hl rfl trivial (r_assign hl rfl) ?_)
        clear hl a; intro a hl
        refine w_nil ?_
        have hl2 := hl.add (t := 1) (hl.add (t := 2) (hl.add (t := 3) (hl.add (t := 23) (hl.nil) rfl) rfl) rfl) rfl; clear hl; have hl := hl2; clear hl2
        refine then_normal ?_
        refine c_cond hl rfl ?_ ?_
        · intro hc3
          try simp only [decide_eq_true_eq, decide_eq_false_iff_not, Bool.not_eq_true', Bool.not_eq_false', Bool.not_eq_true, Bool.not_eq_false, Bool.and_eq_true, Bool.or_eq_true, Bool.and_eq_false_iff, Bool.or_eq_false_iff, Bool.not_not, ne_eq, Int.not_lt, Int.not_le, Decidable.not_not, beq_iff_eq, bne_iff_ne] at hc3
          refine c_region ?_
          refine wl (wl_val hl rfl trivial (r_field hl rfl fld43_3) ?_)
          clear hl a; intro a hl
          refine wl (w_load hl hh rfl trivial one37 rfl (by repeat (first | exact find_head | apply find_tail)) (by first | rfl) ?_)
          clear hl a; intro a hl
          refine wl (wl_val hl rfl trivial (r_field hl rfl fld60_2) ?_)
          clear hl a; intro a hl
          refine wl (w_store hl hh trivial one37 rfl rfl (by repeat (first | exact find_head | apply find_tail)) (by first | (simp; done) | (simp; omega)) (by first | rfl | assumption | (apply Row.one; assumption)) (by first | (simp only [setL, List.getElem?_cons_zero, List.getElem?_cons_succ, Value.cells, List.take_zero, List.take_succ_cons, List.take_nil, List.drop_zero, List.drop_succ_cons, List.drop_nil, List.length_cons, List.length_nil, List.cons_append, List.nil_append, List.append_nil, Nat.zero_add, Nat.add_zero, Nat.reduceAdd, Nat.reduceBEq, Nat.reduceEqDiff, Nat.ble, BEq.rfl, Bool.and_true, Bool.and_self, cond_true, beq_self_eq_true]; rfl)) ?_)
          clear hh w; intro w hh
          refine w_nil ?_
          have hl2 := hl.add (t := 2) (hl.add (t := 3) (hl.nil) rfl) rfl; clear hl; have hl := hl2; clear hl2
          refine blk_normal ?_
          refine then_normal ?_
          refine c_seq ?_
          refine c_region ?_
          refine wl (w_loadA hl hh rfl trivial agg60 rfl (by repeat (first | exact find_head | apply find_tail)) (by first | (simp only [List.getElem?_cons_zero, List.getElem?_cons_succ, Value.cells, List.take_zero, List.take_succ_cons, List.take_nil, List.drop_zero, List.drop_succ_cons, List.drop_nil, List.length_cons, List.length_nil, List.cons_append, List.nil_append, List.append_nil, Nat.zero_add, Nat.add_zero, Nat.reduceAdd, Nat.reduceBEq, Nat.reduceEqDiff, Nat.ble, BEq.rfl, Bool.and_true, Bool.and_self, cond_true, beq_self_eq_true]; rfl)) (by first | rfl | (simp; done)) ?_)
          clear hl a; intro a hl
          refine wl (w_storeA hl hh trivial agg60 rfl rfl (by repeat (first | exact find_head | apply find_tail)) (by first | rfl | (simp; done)) (by first | (simp; done) | (simp; omega)) (by first | rfl | (simp; done)) (by first | (simp only [setL, List.getElem?_cons_zero, List.getElem?_cons_succ, Value.cells, List.take_zero, List.take_succ_cons, List.take_nil, List.drop_zero, List.drop_succ_cons, List.drop_nil, List.length_cons, List.length_nil, List.cons_append, List.nil_append, List.append_nil, Nat.zero_add, Nat.add_zero, Nat.reduceAdd, Nat.reduceBEq, Nat.reduceEqDiff, Nat.ble, BEq.rfl, Bool.and_true, Bool.and_self, cond_true, beq_self_eq_true]; rfl)) ?_)
          clear hh w; intro w hh
          refine w_nil ?_
          have hl2 := hl.add (t := 2) (hl.nil) rfl; clear hl; have hl := hl2; clear hl2
          refine then_normal ?_
          refine wp_ret ?_
          refine f_retC (F' := []) hl hh rfl rfl agg60 (by repeat (first | exact find_head | apply find_tail)) (by first | rfl | (simp; done)) (by repeat (first | exact keeps_nil | apply keeps_cons (by repeat (first | exact find_head | apply find_tail)) (by first  | rfl) | exact keeps_self | apply keeps_mv)) ?_
          first | (exfalso; omega) | exact ⟨by unfold cvOf cpOf; (repeat (first | rw [if_pos (by omega)] | rw [if_neg (by omega)])), rfl⟩
        · intro hc3
          try simp only [decide_eq_true_eq, decide_eq_false_iff_not, Bool.not_eq_true', Bool.not_eq_false', Bool.not_eq_true, Bool.not_eq_false, Bool.and_eq_true, Bool.or_eq_true, Bool.and_eq_false_iff, Bool.or_eq_false_iff, Bool.not_not, ne_eq, Int.not_lt, Int.not_le, Decidable.not_not, beq_iff_eq, bne_iff_ne] at hc3
          refine wp_skip ?_
          refine blk_normal ?_
          refine then_normal ?_
          refine c_seq ?_
          refine c_region ?_
          refine wl (w_loadA hl hh rfl trivial agg60 rfl (by repeat (first | exact find_head | apply find_tail)) (by first | (simp only [List.getElem?_cons_zero, List.getElem?_cons_succ, Value.cells, List.take_zero, List.take_succ_cons, List.take_nil, List.drop_zero, List.drop_succ_cons, List.drop_nil, List.length_cons, List.length_nil, List.cons_append, List.nil_append, List.append_nil, Nat.zero_add, Nat.add_zero, Nat.reduceAdd, Nat.reduceBEq, Nat.reduceEqDiff, Nat.ble, BEq.rfl, Bool.and_true, Bool.and_self, cond_true, beq_self_eq_true]; rfl)) (by first | rfl | (simp; done)) ?_)
          clear hl a; intro a hl
          refine wl (w_storeA hl hh trivial agg60 rfl rfl (by repeat (first | exact find_head | apply find_tail)) (by first | rfl | (simp; done)) (by first | (simp; done) | (simp; omega)) (by first | rfl | (simp; done)) (by first | (simp only [setL, List.getElem?_cons_zero, List.getElem?_cons_succ, Value.cells, List.take_zero, List.take_succ_cons, List.take_nil, List.drop_zero, List.drop_succ_cons, List.drop_nil, List.length_cons, List.length_nil, List.cons_append, List.nil_append, List.append_nil, Nat.zero_add, Nat.add_zero, Nat.reduceAdd, Nat.reduceBEq, Nat.reduceEqDiff, Nat.ble, BEq.rfl, Bool.and_true, Bool.and_self, cond_true, beq_self_eq_true]; rfl)) ?_)
          clear hh w; intro w hh
          refine w_nil ?_
          have hl2 := hl.add (t := 2) (hl.nil) rfl; clear hl; have hl := hl2; clear hl2
          refine then_normal ?_
          refine wp_ret ?_
          refine f_retC (F' := []) hl hh rfl rfl agg60 (by repeat (first | exact find_head | apply find_tail)) (by first | rfl | (simp; done)) (by repeat (first | exact keeps_nil | apply keeps_cons (by repeat (first | exact find_head | apply find_tail)) (by first  | rfl) | exact keeps_self | apply keeps_mv)) ?_
          first | (exfalso; omega) | exact ⟨by unfold cvOf cpOf; (repeat (first | rw [if_pos (by omega)] | rw [if_neg (by omega)])), rfl⟩
end Go.Proofs.Qxb6500914aGreat

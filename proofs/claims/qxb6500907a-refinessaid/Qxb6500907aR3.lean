import Derived.Test.Qxb6500907aR1
namespace Go.Proofs.Qxb6500907a
open Go.Eng
set_option linter.unusedVariables false
set_option linter.unusedSimpArgs false

set_option maxHeartbeats 4000000 in
theorem line6 (p : Option Addr) (cap : Nat) (x0 x1 x2 x3 x4 x5 : ByteArray) (E : List (Nat × Obj)) (hR : Row (.slice p 6 cap) 6 [.string x0, .string x1, .string x2, .string x3, .string x4, .string x5] 1 9 E) (hs : ∀ u, u ∈ [x0, x1, x2, x3, x4, x5] → u.size ≤ 9223372036854775807) : SpK Try.prog 44 #[.slice p 6 cap] (Mem E) [] (fun v F' => LnR (ln6 x0 x1 x2 x3 x4 x5) v ∧ F' = []) := by
  refine f_enter (args := [.slice p 6 cap]) Try.func44 rfl Try.ntmps44 rfl ?_
  intro w0 w a hpre hl hh
  obtain ⟨b, junk, rfl, hjl, hjc, rfl⟩ := row_pos hR (by decide)
  have hm := hpre _ _ (List.mem_singleton.2 rfl)
  have hdx0 := dvM_g x0
  have hdx1 := dvM_g x1
  have hdx2 := dvM_g x2
  have hdx3 := dvM_g x3
  have hdx4 := dvM_g x4
  have hdx5 := dvM_g x5
  simp only [slotsFrom, Nat.reduceAdd] at hl
  refine c_seq ?_
  refine c_region ?_
  refine wl (w_alloc hl hh rfl trivial zero57 rfl ?_)
  clear hl hh a w; intro k2 a w hl hh
  refine wl (wl_val hl rfl trivial (r_assign hl rfl) ?_)
  clear hl a; intro a hl
  refine w_nil ?_
  have hl2 := hl.add (t := 0) (hl.add (t := 2) (hl.nil) rfl) rfl; clear hl; have hl := hl2; clear hl2
  refine then_normal ?_
  refine c_seq ?_
  refine c_region ?_
  refine wl (w_alloc hl hh rfl trivial zero57 rfl ?_)
  clear hl hh a w; intro k4 a w hl hh
  refine w_nil ?_
  have hl2 := hl.add (t := 0) (hl.add (t := 2) (hl.add (t := 4) (hl.nil) rfl) rfl) rfl; clear hl; have hl := hl2; clear hl2
  refine then_normal ?_
  refine c_seq ?_
  refine c_region ?_
  refine wl (w_makeSliceN (c := 6) hl hh rfl trivial app135 zero4 rfl rfl (by omega) (by decide) ?_)
  clear hl hh a w; intro k11 jk11 a w hjk11 hl hh
  refine wl (wl_val hl rfl trivial (r_assign hl rfl) ?_)
  clear hl a; intro a hl
  refine w_nil ?_
  have hl2 := hl.add (t := 0) (hl.add (t := 2) (hl.add (t := 4) (hl.add (t := 5) (hl.nil) rfl) rfl) rfl) rfl; clear hl; have hl := hl2; clear hl2
  obtain rfl := mk6 hjk11
  refine then_normal ?_
  refine c_seq ?_
  refine wp_block ?_
  refine c_seq ?_
  refine c_region ?_
  refine wl (wl_val hl rfl trivial (r_move hl rfl) ?_)
  clear hl a; intro a hl
  refine wl (wl_val hl rfl trivial (r_lenS hl rfl slc101) ?_)
  clear hl a; intro a hl
  refine wl (wl_val hl rfl trivial (r_eql hl rfl rfl) ?_)
  clear hl a; intro a hl
  refine wl (wl_val hl rfl trivial (r_move hl rfl) ?_)
  clear hl a; intro a hl
  refine sl_split (t := 16) hl rfl ?_ ?_
  · intro hg1; clear hl; intro hl
    try simp only [decide_eq_true_eq, decide_eq_false_iff_not, Bool.not_eq_true', Bool.not_eq_false', Bool.not_eq_true, Bool.not_eq_false, Bool.and_eq_true, Bool.or_eq_true, Bool.and_eq_false_iff, Bool.or_eq_false_iff, Bool.not_not, ne_eq, Int.not_lt, Int.not_le, Decidable.not_not, beq_iff_eq, bne_iff_ne] at hg1
    exfalso; first | omega | (simp at *; done)
  · intro hg1; clear hl; intro hl
    try simp only [decide_eq_true_eq, decide_eq_false_iff_not, Bool.not_eq_true', Bool.not_eq_false', Bool.not_eq_true, Bool.not_eq_false, Bool.and_eq_true, Bool.or_eq_true, Bool.and_eq_false_iff, Bool.or_eq_false_iff, Bool.not_not, ne_eq, Int.not_lt, Int.not_le, Decidable.not_not, beq_iff_eq, bne_iff_ne] at hg1
    refine wl (wl_skip hl rfl ⟨_, _, rfl, rfl, rfl⟩ ?_)
    clear hl a; intro a hl
    refine wl (wl_skip hl rfl ⟨_, _, rfl, rfl, rfl⟩ ?_)
    clear hl a; intro a hl
    refine wl (wl_skip hl rfl ⟨_, _, rfl, rfl, rfl⟩ ?_)
    clear hl a; intro a hl
    refine wl (wl_skip hl rfl ⟨_, _, rfl, rfl, rfl⟩ ?_)
    clear hl a; intro a hl
    refine wl (wl_val hl rfl trivial (r_pickF hl rfl rfl) ?_)
    clear hl a; intro a hl
    refine wl (wl_val hl rfl trivial (r_move hl rfl) ?_)
    clear hl a; intro a hl
    refine wl (wl_skip hl rfl ⟨_, _, rfl, rfl, rfl⟩ ?_)
    clear hl a; intro a hl
    refine wl (wl_skip hl rfl ⟨_, _, rfl, rfl, rfl⟩ ?_)
    clear hl a; intro a hl
    refine wl (wl_skip hl rfl ⟨_, _, rfl, rfl, rfl⟩ ?_)
    clear hl a; intro a hl
    refine wl (wl_skip hl rfl ⟨_, _, rfl, rfl, rfl⟩ ?_)
    clear hl a; intro a hl
    refine wl (wl_val hl rfl trivial (r_pickF hl rfl rfl) ?_)
    clear hl a; intro a hl
    refine wl (wl_val hl rfl trivial (r_move hl rfl) ?_)
    clear hl a; intro a hl
    refine wl (wl_skip hl rfl ⟨_, _, rfl, rfl, rfl⟩ ?_)
    clear hl a; intro a hl
    refine wl (wl_skip hl rfl ⟨_, _, rfl, rfl, rfl⟩ ?_)
    clear hl a; intro a hl
    refine wl (wl_skip hl rfl ⟨_, _, rfl, rfl, rfl⟩ ?_)
    clear hl a; intro a hl
    refine wl (wl_skip hl rfl ⟨_, _, rfl, rfl, rfl⟩ ?_)
    clear hl a; intro a hl
    refine wl (wl_val hl rfl trivial (r_pickF hl rfl rfl) ?_)
    clear hl a; intro a hl
    refine wl (wl_val hl rfl trivial (r_assign hl rfl) ?_)
    clear hl a; intro a hl
    refine w_nil ?_
    have hl2 := hl.add (t := 0) (hl.add (t := 2) (hl.add (t := 4) (hl.add (t := 5) (hl.add (t := 12) (hl.nil) rfl) rfl) rfl) rfl) rfl; clear hl; have hl := hl2; clear hl2
    refine then_normal ?_
    refine c_condF hl rfl ?_
    refine c_seq ?_
    refine c_region ?_
    refine wl (wl_val hl rfl trivial (r_move hl rfl) ?_)
    clear hl a; intro a hl
    refine wl (wl_val hl rfl trivial (r_lenS hl rfl slc101) ?_)
    clear hl a; intro a hl
    refine wl (wl_val hl rfl trivial (r_eql hl rfl rfl) ?_)
    clear hl a; intro a hl
    refine wl (wl_val hl rfl trivial (r_move hl rfl) ?_)
    clear hl a; intro a hl
    refine sl_split (t := 91) hl rfl ?_ ?_
    · intro hg2; clear hl; intro hl
      try simp only [decide_eq_true_eq, decide_eq_false_iff_not, Bool.not_eq_true', Bool.not_eq_false', Bool.not_eq_true, Bool.not_eq_false, Bool.and_eq_true, Bool.or_eq_true, Bool.and_eq_false_iff, Bool.or_eq_false_iff, Bool.not_not, ne_eq, Int.not_lt, Int.not_le, Decidable.not_not, beq_iff_eq, bne_iff_ne] at hg2
      exfalso; first | omega | (simp at *; done)
    · intro hg2; clear hl; intro hl
      try simp only [decide_eq_true_eq, decide_eq_false_iff_not, Bool.not_eq_true', Bool.not_eq_false', Bool.not_eq_true, Bool.not_eq_false, Bool.and_eq_true, Bool.or_eq_true, Bool.and_eq_false_iff, Bool.or_eq_false_iff, Bool.not_not, ne_eq, Int.not_lt, Int.not_le, Decidable.not_not, beq_iff_eq, bne_iff_ne] at hg2
      refine wl (wl_skip hl rfl ⟨_, _, rfl, rfl, rfl⟩ ?_)
      clear hl a; intro a hl
      refine wl (wl_skip hl rfl ⟨_, _, rfl, rfl, rfl⟩ ?_)
      clear hl a; intro a hl
      refine wl (wl_skip hl rfl ⟨_, _, rfl, rfl, rfl⟩ ?_)
      clear hl a; intro a hl
      refine wl (wl_skip hl rfl ⟨_, _, rfl, rfl, rfl⟩ ?_)
      clear hl a; intro a hl
      refine wl (wl_val hl rfl trivial (r_pickF hl rfl rfl) ?_)
      clear hl a; intro a hl
      refine wl (wl_val hl rfl trivial (r_move hl rfl) ?_)
      clear hl a; intro a hl
      refine wl (wl_skip hl rfl ⟨_, _, rfl, rfl, rfl⟩ ?_)
      clear hl a; intro a hl
      refine wl (wl_skip hl rfl ⟨_, _, rfl, rfl, rfl⟩ ?_)
      clear hl a; intro a hl
      refine wl (wl_skip hl rfl ⟨_, _, rfl, rfl, rfl⟩ ?_)
      clear hl a; intro a hl
      refine wl (wl_skip hl rfl ⟨_, _, rfl, rfl, rfl⟩ ?_)
      clear hl a; intro a hl
      refine wl (wl_val hl rfl trivial (r_pickF hl rfl rfl) ?_)
      clear hl a; intro a hl
      refine wl (wl_val hl rfl trivial (r_move hl rfl) ?_)
      clear hl a; intro a hl
      refine wl (wl_skip hl rfl ⟨_, _, rfl, rfl, rfl⟩ ?_)
      clear hl a; intro a hl
      refine wl (wl_skip hl rfl ⟨_, _, rfl, rfl, rfl⟩ ?_)
      clear hl a; intro a hl
      refine wl (wl_skip hl rfl ⟨_, _, rfl, rfl, rfl⟩ ?_)
      clear hl a; intro a hl
      refine wl (wl_skip hl rfl ⟨_, _, rfl, rfl, rfl⟩ ?_)
      clear hl a; intro a hl
      refine wl (wl_val hl rfl trivial (r_pickF hl rfl rfl) ?_)
      clear hl a; intro a hl
      refine wl (wl_val hl rfl trivial (r_assign hl rfl) ?_)
      clear hl a; intro a hl
      refine w_nil ?_
      have hl2 := hl.add (t := 0) (hl.add (t := 2) (hl.add (t := 4) (hl.add (t := 5) (hl.add (t := 87) (hl.nil) rfl) rfl) rfl) rfl) rfl; clear hl; have hl := hl2; clear hl2
      refine then_normal ?_
      refine c_condF hl rfl ?_
      refine c_seq ?_
      refine c_region ?_
      refine wl (wl_val hl rfl trivial (r_move hl rfl) ?_)
      clear hl a; intro a hl
      refine wl (wl_val hl rfl trivial (r_lenS hl rfl slc101) ?_)
      clear hl a; intro a hl
      refine wl (wl_val hl rfl trivial (r_eql hl rfl rfl) ?_)
      clear hl a; intro a hl
      refine wl (wl_val hl rfl trivial (r_move hl rfl) ?_)
      clear hl a; intro a hl
      refine sl_split (t := 152) hl rfl ?_ ?_
      · intro hg3; clear hl; intro hl
        try simp only [decide_eq_true_eq, decide_eq_false_iff_not, Bool.not_eq_true', Bool.not_eq_false', Bool.not_eq_true, Bool.not_eq_false, Bool.and_eq_true, Bool.or_eq_true, Bool.and_eq_false_iff, Bool.or_eq_false_iff, Bool.not_not, ne_eq, Int.not_lt, Int.not_le, Decidable.not_not, beq_iff_eq, bne_iff_ne] at hg3
        refine wl (wl_val hl rfl ⟨_, _, rfl, rfl, rfl⟩ (r_move hl rfl) ?_)
        clear hl a; intro a hl
        refine wl (wl_val hl rfl ⟨_, _, rfl, rfl, rfl⟩ (r_indexS hl rfl rfl slc101 (by omega) (by omega) (by first | (simp only [Int.reduceToNat]; rfl) | exact toNat_add1 _ | exact toNat_add2 _ _ | exact toNat_emod _ _ | exact Int.toNat_natCast _ | rfl)) ?_)
        clear hl a; intro a hl
        first | refine wl (w_load hl hh rfl ⟨_, _, rfl, rfl, rfl⟩ one9 rfl (by repeat (first | exact find_head | apply find_tail)) (by first | rfl) ?_) | refine wl (w_loadR hl hh rfl ⟨_, _, rfl, rfl, rfl⟩ one9 rfl hm (by simp) rfl ?_)
        clear hl a; intro a hl
        refine wl (wl_val hl rfl ⟨_, _, rfl, rfl, rfl⟩ (r_eql_string hl rfl rfl) ?_)
        clear hl a; intro a hl
        refine wl (wl_val hl rfl trivial (r_pickT hl rfl rfl) ?_)
        clear hl a; intro a hl
        refine wl (wl_val hl rfl trivial (r_move hl rfl) ?_)
        clear hl a; intro a hl
        refine sl_split (t := 158) hl rfl ?_ ?_
        · intro hg4; clear hl; intro hl
          try simp only [decide_eq_true_eq, decide_eq_false_iff_not, Bool.not_eq_true', Bool.not_eq_false', Bool.not_eq_true, Bool.not_eq_false, Bool.and_eq_true, Bool.or_eq_true, Bool.and_eq_false_iff, Bool.or_eq_false_iff, Bool.not_not, ne_eq, Int.not_lt, Int.not_le, Decidable.not_not, beq_iff_eq, bne_iff_ne] at hg4
          refine wl (wl_val hl rfl ⟨_, _, rfl, rfl, rfl⟩ (r_move hl rfl) ?_)
          clear hl a; intro a hl
          refine wl (wl_val hl rfl ⟨_, _, rfl, rfl, rfl⟩ (r_indexS hl rfl rfl slc101 (by omega) (by omega) (by first | (simp only [Int.reduceToNat]; rfl) | exact toNat_add1 _ | exact toNat_add2 _ _ | exact toNat_emod _ _ | exact Int.toNat_natCast _ | rfl)) ?_)
          clear hl a; intro a hl
          first | refine wl (w_load hl hh rfl ⟨_, _, rfl, rfl, rfl⟩ one9 rfl (by repeat (first | exact find_head | apply find_tail)) (by first | rfl) ?_) | refine wl (w_loadR hl hh rfl ⟨_, _, rfl, rfl, rfl⟩ one9 rfl hm (by simp) rfl ?_)
          clear hl a; intro a hl
          refine wl (wl_val hl rfl ⟨_, _, rfl, rfl, rfl⟩ (r_eql_string hl rfl rfl) ?_)
          clear hl a; intro a hl
          refine wl (wl_val hl rfl trivial (r_pickT hl rfl rfl) ?_)
          clear hl a; intro a hl
          refine wl (wl_val hl rfl trivial (r_assign hl rfl) ?_)
          clear hl a; intro a hl
          refine w_nil ?_
          have hl2 := hl.add (t := 0) (hl.add (t := 2) (hl.add (t := 4) (hl.add (t := 5) (hl.add (t := 148) (hl.nil) rfl) rfl) rfl) rfl) rfl; clear hl; have hl := hl2; clear hl2
          refine then_normal ?_
          refine c_cond hl rfl ?_ ?_
          · intro hc2
            try simp only [decide_eq_true_eq, decide_eq_false_iff_not, Bool.not_eq_true', Bool.not_eq_false', Bool.not_eq_true, Bool.not_eq_false, Bool.and_eq_true, Bool.or_eq_true, Bool.and_eq_false_iff, Bool.or_eq_false_iff, Bool.not_not, ne_eq, Int.not_lt, Int.not_le, Decidable.not_not, beq_iff_eq, bne_iff_ne] at hc2
            have hln := ln6_y (x0 := x0) (x1 := x1) (x2 := x2) (x3 := x3) (x4 := x4) (x5 := x5) (by assumption) (by assumption)
            refine c_seq ?_
            refine c_region ?_
            refine wl (wl_val hl rfl trivial (r_field hl rfl fld57_0) ?_)
            clear hl a; intro a hl
            refine wl (w_store hl hh trivial one49 rfl rfl (by repeat (first | exact find_head | apply find_tail)) (by first | (simp; done) | (simp; omega)) (by first | rfl | assumption | (apply Row.one; assumption)) (by first | (simp only [setL, List.getElem?_cons_zero, List.getElem?_cons_succ, Value.cells, List.take_zero, List.take_succ_cons, List.take_nil, List.drop_zero, List.drop_succ_cons, List.drop_nil, List.length_cons, List.length_nil, List.cons_append, List.nil_append, List.append_nil, Nat.zero_add, Nat.add_zero, Nat.reduceAdd, Nat.reduceBEq, Nat.reduceEqDiff, Nat.ble, BEq.rfl, Bool.and_true, Bool.and_self, cond_true, beq_self_eq_true]; rfl)) ?_)
            clear hh w; intro w hh
            refine w_nil ?_
            have hl2 := hl.add (t := 0) (hl.add (t := 2) (hl.add (t := 4) (hl.add (t := 5) (hl.nil) rfl) rfl) rfl) rfl; clear hl; have hl := hl2; clear hl2
            refine then_normal ?_
            refine c_seq ?_
            refine c_region ?_
            refine wl (wl_val hl rfl trivial (r_move hl rfl) ?_)
            clear hl a; intro a hl
            refine wl (wl_val hl rfl trivial (r_move hl rfl) ?_)
            clear hl a; intro a hl
            refine wl (wl_val hl rfl trivial (r_indexS hl rfl rfl slc101 (by omega) (by omega) (by first | (simp only [Int.reduceToNat]; rfl) | exact toNat_add1 _ | exact toNat_add2 _ _ | exact toNat_emod _ _ | exact Int.toNat_natCast _ | rfl)) ?_)
            clear hl a; intro a hl
            first | refine wl (w_load hl hh rfl trivial one9 rfl (by repeat (first | exact find_head | apply find_tail)) (by first | rfl) ?_) | refine wl (w_loadR hl hh rfl trivial one9 rfl hm (by simp) rfl ?_)
            clear hl a; intro a hl
            refine wl (w_call hl hh rfl trivial rfl cal61 rfl (deviceM x2 (hs x2 (by simp))) (by repeat (first | exact keeps_nil | apply keeps_cons (by repeat (first | exact find_head | apply find_tail)) (by first  | rfl) | exact keeps_self | exact keeps_left | exact keeps_right | exact keeps_swap | apply keeps_mv)) trivial ?_)
            clear hl hh a w; intro vc Fc a w hR hl hh
            obtain ⟨rfl, rfl⟩ := hR
            try simp only [List.cons_append, List.nil_append] at hh
            refine wl (wl_val hl rfl trivial (r_move hl rfl) ?_)
            clear hl a; intro a hl
            refine wl (wl_val hl rfl trivial (r_extract hl rfl (by simp only [List.getElem?_toArray, List.getElem?_cons_zero, List.getElem?_cons_succ]; rfl)) ?_)
            clear hl a; intro a hl
            refine wl (wl_val hl rfl trivial (r_extract hl rfl (by simp only [List.getElem?_toArray, List.getElem?_cons_zero, List.getElem?_cons_succ]; rfl)) ?_)
            clear hl a; intro a hl
            refine wl (wl_val hl rfl trivial (r_field hl rfl fld57_1) ?_)
            clear hl a; intro a hl
            refine wl (w_store hl hh trivial one5 rfl rfl (by repeat (first | exact find_head | apply find_tail)) (by first | (simp; done) | (simp; omega)) (by first | rfl | assumption | (apply Row.one; assumption)) (by first | (simp only [setL, List.getElem?_cons_zero, List.getElem?_cons_succ, Value.cells, List.take_zero, List.take_succ_cons, List.take_nil, List.drop_zero, List.drop_succ_cons, List.drop_nil, List.length_cons, List.length_nil, List.cons_append, List.nil_append, List.append_nil, Nat.zero_add, Nat.add_zero, Nat.reduceAdd, Nat.reduceBEq, Nat.reduceEqDiff, Nat.ble, BEq.rfl, Bool.and_true, Bool.and_self, cond_true, beq_self_eq_true]; rfl)) ?_)
            clear hh w; intro w hh
            refine wl (wl_val hl rfl trivial (r_indexS hl rfl rfl slc135 (by omega) (by omega) (by first | (simp only [Int.reduceToNat]; rfl) | exact toNat_add1 _ | exact toNat_add2 _ _ | exact toNat_emod _ _ | exact Int.toNat_natCast _ | rfl)) ?_)
            clear hl a; intro a hl
            refine wl (w_store hl hh trivial one4 rfl rfl (by repeat (first | exact find_head | apply find_tail)) (by first | (simp; done) | (simp; omega)) (by first | rfl | assumption | (apply Row.one; assumption)) (by first | (simp only [setL, List.getElem?_cons_zero, List.getElem?_cons_succ, Value.cells, List.take_zero, List.take_succ_cons, List.take_nil, List.drop_zero, List.drop_succ_cons, List.drop_nil, List.length_cons, List.length_nil, List.cons_append, List.nil_append, List.append_nil, Nat.zero_add, Nat.add_zero, Nat.reduceAdd, Nat.reduceBEq, Nat.reduceEqDiff, Nat.ble, BEq.rfl, Bool.and_true, Bool.and_self, cond_true, beq_self_eq_true]; rfl)) ?_)
            clear hh w; intro w hh
            refine w_nil ?_
            have hl2 := hl.add (t := 0) (hl.add (t := 2) (hl.add (t := 4) (hl.add (t := 5) (hl.nil) rfl) rfl) rfl) rfl; clear hl; have hl := hl2; clear hl2
            refine then_normal ?_
            refine c_seq ?_
            refine c_draw [(b, C ([.string x0, .string x1, .string x2, .string x3, .string x4, .string x5] ++ junk) 9)] [17, 18] mixed hh ?_
            clear hh w; intro w hh
            have hM : Mem [(b, C ([.string x0, .string x1, .string x2, .string x3, .string x4, .string x5] ++ junk) 9)] w := (by (repeat (first | exact Mem.nil | refine Mem.consR hh (by assumption) (by simp) ?_ | refine Mem.cons hh.mem (by (repeat (first | exact find_head | apply find_tail)); done) ?_ | fail)); done)
            refine d_take (i := 0) hl rfl (by kernel_rfl) (by kernel_rfl) (by kernel_rfl) (by kernel_rfl) (by kernel_rfl) rfl trivial (fun _ _ _ h => h) hM (fun w hC => r_move hl rfl) rfl ?_
            clear hl a; intro a hl
            refine d_take (i := 1) hl rfl (by kernel_rfl) (by kernel_rfl) (by kernel_rfl) (by kernel_rfl) (by kernel_rfl) rfl trivial (fun _ _ _ h => h) hM (fun w hC => r_move hl rfl) rfl ?_
            clear hl a; intro a hl
            refine d_take (i := 2) hl rfl (by kernel_rfl) (by kernel_rfl) (by kernel_rfl) (by kernel_rfl) (by kernel_rfl) rfl trivial (fun _ _ _ h => h) hM (fun w hC => r_indexS hl rfl rfl slc101 (by omega) (by omega) (by first | (simp only [Int.reduceToNat]; rfl) | exact toNat_add1 _ | exact toNat_add2 _ _ | exact toNat_emod _ _ | exact Int.toNat_natCast _ | rfl)) rfl ?_
            clear hl a; intro a hl
            refine d_take (i := 3) hl rfl (by kernel_rfl) (by kernel_rfl) (by kernel_rfl) (by kernel_rfl) (by kernel_rfl) rfl trivial (fun _ _ _ h => h) hM (fun w hC => r_loadC hl rfl one9 hC (by repeat (first | exact find_head | apply find_tail)) (by first | rfl)) rfl ?_
            clear hl a; intro a hl
            refine d_take (i := 4) hl rfl (by kernel_rfl) (by kernel_rfl) (by kernel_rfl) (by kernel_rfl) (by kernel_rfl) rfl trivial (fun _ _ _ h => h) hM (fun w hC => r_move hl rfl) rfl ?_
            clear hl a; intro a hl
            refine d_take (i := 5) hl rfl (by kernel_rfl) (by kernel_rfl) (by kernel_rfl) (by kernel_rfl) (by kernel_rfl) rfl trivial (fun _ _ _ h => h) hM (fun w hC => r_indexS hl rfl rfl slc101 (by omega) (by omega) (by first | (simp only [Int.reduceToNat]; rfl) | exact toNat_add1 _ | exact toNat_add2 _ _ | exact toNat_emod _ _ | exact Int.toNat_natCast _ | rfl)) rfl ?_
            clear hl a; intro a hl
            refine d_take (i := 6) hl rfl (by kernel_rfl) (by kernel_rfl) (by kernel_rfl) (by kernel_rfl) (by kernel_rfl) rfl trivial (fun _ _ _ h => h) hM (fun w hC => r_loadC hl rfl one9 hC (by repeat (first | exact find_head | apply find_tail)) (by first | rfl)) rfl ?_
            clear hl a; intro a hl
            refine d_take (i := 7) hl rfl (by kernel_rfl) (by kernel_rfl) (by kernel_rfl) (by kernel_rfl) (by kernel_rfl) rfl trivial (fun _ _ _ h => h) hM (fun w hC => r_move hl rfl) rfl ?_
            clear hl a; intro a hl
            refine d_take (i := 8) hl rfl (by kernel_rfl) (by kernel_rfl) (by kernel_rfl) (by kernel_rfl) (by kernel_rfl) rfl trivial (fun _ _ _ h => h) hM (fun w hC => r_indexS hl rfl rfl slc101 (by omega) (by omega) (by first | (simp only [Int.reduceToNat]; rfl) | exact toNat_add1 _ | exact toNat_add2 _ _ | exact toNat_emod _ _ | exact Int.toNat_natCast _ | rfl)) rfl ?_
            clear hl a; intro a hl
            refine d_take (i := 9) hl rfl (by kernel_rfl) (by kernel_rfl) (by kernel_rfl) (by kernel_rfl) (by kernel_rfl) rfl trivial (fun _ _ _ h => h) hM (fun w hC => r_loadC hl rfl one9 hC (by repeat (first | exact find_head | apply find_tail)) (by first | rfl)) rfl ?_
            clear hl a; intro a hl
            refine d_one (i := 10) (by kernel_rfl) rfl ?_
            try clear hM
            refine id (w_call hl hh rfl trivial rfl cal62 rfl (prefixM x3 x4 x5 (hs x3 (by simp)) (hs x5 (by simp))) (by repeat (first | exact keeps_nil | apply keeps_cons (by repeat (first | exact find_head | apply find_tail)) (by first  | rfl) | exact keeps_self | exact keeps_left | exact keeps_right | exact keeps_swap | apply keeps_mv)) trivial ?_)
            clear hl hh a w; intro vc Fc a w hR hl hh
            obtain ⟨rfl, rfl⟩ := hR
            try simp only [List.cons_append, List.nil_append] at hh
            have hn1 := nmW_g (w := x3) (mx := 255) (by decide); have hn2 := nmW_g (w := x5) (mx := 8) (by decide)
            have hM : Mem [(b, C ([.string x0, .string x1, .string x2, .string x3, .string x4, .string x5] ++ junk) 9)] w := (by (repeat (first | exact Mem.nil | refine Mem.consR hh (by assumption) (by simp) ?_ | refine Mem.cons hh.mem (by (repeat (first | exact find_head | apply find_tail)); done) ?_ | fail)); done)
            refine d_step (fun _ => hM) ?_
            refine d_take (i := 11) hl rfl (by kernel_rfl) (by kernel_rfl) (by kernel_rfl) (by kernel_rfl) (by kernel_rfl) rfl trivial (fun _ _ _ h => h) hM (fun w hC => r_move hl rfl) rfl ?_
            clear hl a; intro a hl
            refine d_take (i := 12) hl rfl (by kernel_rfl) (by kernel_rfl) (by kernel_rfl) (by kernel_rfl) (by kernel_rfl) rfl trivial (fun _ _ _ h => h) hM (fun w hC => r_extract hl rfl (by simp only [List.getElem?_toArray, List.getElem?_cons_zero, List.getElem?_cons_succ]; rfl)) rfl ?_
            clear hl a; intro a hl
            refine d_take (i := 13) hl rfl (by kernel_rfl) (by kernel_rfl) (by kernel_rfl) (by kernel_rfl) (by kernel_rfl) rfl trivial (fun _ _ _ h => h) hM (fun w hC => r_extract hl rfl (by simp only [List.getElem?_toArray, List.getElem?_cons_zero, List.getElem?_cons_succ]; rfl)) rfl ?_
            clear hl a; intro a hl
            refine d_take (i := 14) hl rfl (by kernel_rfl) (by kernel_rfl) (by kernel_rfl) (by kernel_rfl) (by kernel_rfl) rfl trivial (fun _ _ _ h => h) hM (fun w hC => r_field hl rfl fld57_5) rfl ?_
            clear hl a; intro a hl
            refine d_take (i := 15) hl rfl (by kernel_rfl) (by kernel_rfl) (by kernel_rfl) (by kernel_rfl) (by kernel_rfl) rfl trivial (fun _ _ _ h => h) hM (fun w hC => r_field hl rfl fld53_0) rfl ?_
            clear hl a; intro a hl
            refine d_one (i := 16) (by kernel_rfl) rfl ?_
            try clear hM
            refine id (w_storeA hl hh trivial agg51 rfl rfl (by repeat (first | exact find_head | apply find_tail)) (by first | rfl | (simp; done)) (by first | (simp; done) | (simp; omega)) (by first | rfl | (simp; done)) (by first | (simp only [setL, List.getElem?_cons_zero, List.getElem?_cons_succ, Value.cells, List.take_zero, List.take_succ_cons, List.take_nil, List.drop_zero, List.drop_succ_cons, List.drop_nil, List.length_cons, List.length_nil, List.cons_append, List.nil_append, List.append_nil, Nat.zero_add, Nat.add_zero, Nat.reduceAdd, Nat.reduceBEq, Nat.reduceEqDiff, Nat.ble, BEq.rfl, Bool.and_true, Bool.and_self, cond_true, beq_self_eq_true]; rfl)) ?_)
            clear hh w; intro w hh
            have hM : Mem [(b, C ([.string x0, .string x1, .string x2, .string x3, .string x4, .string x5] ++ junk) 9)] w := (by (repeat (first | exact Mem.nil | refine Mem.consR hh (by assumption) (by simp) ?_ | refine Mem.cons hh.mem (by (repeat (first | exact find_head | apply find_tail)); done) ?_ | fail)); done)
            refine d_step (fun _ => hM) ?_
            refine d_takeL (i := 17) hl rfl (by kernel_rfl) (by kernel_rfl) (by kernel_rfl) (by kernel_rfl) (by kernel_rfl) rfl trivial (fun _ _ _ h => h) (fun w => r_indexS hl rfl rfl slc135 (by omega) (by omega) (by first | (simp only [Int.reduceToNat]; rfl) | exact toNat_add1 _ | exact toNat_add2 _ _ | exact toNat_emod _ _ | exact Int.toNat_natCast _ | rfl)) rfl ?_
            clear hl a; intro a hl
            refine d_one (i := 18) (by kernel_rfl) rfl ?_
            try clear hM
            refine id (w_store hl hh trivial one4 rfl rfl (by repeat (first | exact find_head | apply find_tail)) (by first | (simp; done) | (simp; omega)) (by first | rfl | assumption | (apply Row.one; assumption)) (by first | (simp only [setL, List.getElem?_cons_zero, List.getElem?_cons_succ, Value.cells, List.take_zero, List.take_succ_cons, List.take_nil, List.drop_zero, List.drop_succ_cons, List.drop_nil, List.length_cons, List.length_nil, List.cons_append, List.nil_append, List.append_nil, Nat.zero_add, Nat.add_zero, Nat.reduceAdd, Nat.reduceBEq, Nat.reduceEqDiff, Nat.ble, BEq.rfl, Bool.and_true, Bool.and_self, cond_true, beq_self_eq_true]; rfl)) ?_)
            clear hh w; intro w hh
            refine d_step (fun h => absurd h (by decide)) ?_
            refine d_done (by kernel_rfl) ?_
            try clear hM
            have hl2 := hl.add (t := 2) (hl.add (t := 4) (hl.add (t := 5) (hl.nil) rfl) rfl) rfl; clear hl; have hl := hl2; clear hl2
            refine then_normal ?_
            refine c_seq ?_
            refine c_draw [(k4, C [.int .u8 1, .int .u8 ((dvM x2).getD 0), .int .u8 0, .int .u8 0, .bool false, .int .u8 ((nmW x3 255).getD 0), .int .u8 ((nmW x5 8).getD 0), .int .u8 0, .bool false, .int .u8 0, .int .u8 0, .int .u8 0] 57), (k11, C [.bool (dvM x2).isSome, .bool (pfM x3 x4 x5), .bool false, .bool false, .bool false, .bool false] 4)] [10] mixed hh ?_
            clear hh w; intro w hh
            have hM : Mem [(k4, C [.int .u8 1, .int .u8 ((dvM x2).getD 0), .int .u8 0, .int .u8 0, .bool false, .int .u8 ((nmW x3 255).getD 0), .int .u8 ((nmW x5 8).getD 0), .int .u8 0, .bool false, .int .u8 0, .int .u8 0, .int .u8 0] 57), (k11, C [.bool (dvM x2).isSome, .bool (pfM x3 x4 x5), .bool false, .bool false, .bool false, .bool false] 4)] w := (by (repeat (first | exact Mem.nil | refine Mem.consR hh (by assumption) (by simp) ?_ | refine Mem.cons hh.mem (by (repeat (first | exact find_head | apply find_tail)); done) ?_ | fail)); done)
            refine d_take (i := 0) hl rfl (by kernel_rfl) (by kernel_rfl) (by kernel_rfl) (by kernel_rfl) (by kernel_rfl) rfl trivial (fun _ _ _ h => h) hM (fun w hC => r_loadCA hl rfl agg57 hC (by repeat (first | exact find_head | apply find_tail)) (by first | (simp only [List.getElem?_cons_zero, List.getElem?_cons_succ, Value.cells, List.take_zero, List.take_succ_cons, List.take_nil, List.drop_zero, List.drop_succ_cons, List.drop_nil, List.length_cons, List.length_nil, List.cons_append, List.nil_append, List.append_nil, Nat.zero_add, Nat.add_zero, Nat.reduceAdd, Nat.reduceBEq, Nat.reduceEqDiff, Nat.ble, BEq.rfl, Bool.and_true, Bool.and_self, cond_true, beq_self_eq_true]; rfl)) (by first | rfl | (simp; done))) rfl ?_
            clear hl a; intro a hl
            refine d_take (i := 1) hl rfl (by kernel_rfl) (by kernel_rfl) (by kernel_rfl) (by kernel_rfl) (by kernel_rfl) rfl trivial (fun _ _ _ h => h) hM (fun w hC => r_move hl rfl) rfl ?_
            clear hl a; intro a hl
            refine d_take (i := 2) hl rfl (by kernel_rfl) (by kernel_rfl) (by kernel_rfl) (by kernel_rfl) (by kernel_rfl) rfl trivial (fun _ _ _ h => h) hM (fun w hC => r_indexS hl rfl rfl slc135 (by omega) (by omega) (by first | (simp only [Int.reduceToNat]; rfl) | exact toNat_add1 _ | exact toNat_add2 _ _ | exact toNat_emod _ _ | exact Int.toNat_natCast _ | rfl)) rfl ?_
            clear hl a; intro a hl
            refine d_take (i := 3) hl rfl (by kernel_rfl) (by kernel_rfl) (by kernel_rfl) (by kernel_rfl) (by kernel_rfl) rfl trivial (fun _ _ _ h => h) hM (fun w hC => r_loadC hl rfl one4 hC (by repeat (first | exact find_head | apply find_tail)) (by first | rfl)) rfl ?_
            clear hl a; intro a hl
            refine d_take (i := 4) hl rfl (by kernel_rfl) (by kernel_rfl) (by kernel_rfl) (by kernel_rfl) (by kernel_rfl) rfl trivial (fun _ _ _ h => h) hM (fun w hC => r_move hl rfl) rfl ?_
            clear hl a; intro a hl
            refine sl_split (t := 196) hl rfl ?_ ?_
            · intro hg5; clear hl; intro hl
              try simp only [decide_eq_true_eq, decide_eq_false_iff_not, Bool.not_eq_true', Bool.not_eq_false', Bool.not_eq_true, Bool.not_eq_false, Bool.and_eq_true, Bool.or_eq_true, Bool.and_eq_false_iff, Bool.or_eq_false_iff, Bool.not_not, ne_eq, Int.not_lt, Int.not_le, Decidable.not_not, beq_iff_eq, bne_iff_ne] at hg5
              refine d_take (i := 5) hl rfl (by kernel_rfl) (by kernel_rfl) (by kernel_rfl) (by kernel_rfl) (by kernel_rfl) rfl ⟨_, _, rfl, rfl, rfl⟩ (fun _ _ _ h => h) hM (fun w hC => r_move hl rfl) rfl ?_
              clear hl a; intro a hl
              refine d_take (i := 6) hl rfl (by kernel_rfl) (by kernel_rfl) (by kernel_rfl) (by kernel_rfl) (by kernel_rfl) rfl ⟨_, _, rfl, rfl, rfl⟩ (fun _ _ _ h => h) hM (fun w hC => r_indexS hl rfl rfl slc135 (by omega) (by omega) (by first | (simp only [Int.reduceToNat]; rfl) | exact toNat_add1 _ | exact toNat_add2 _ _ | exact toNat_emod _ _ | exact Int.toNat_natCast _ | rfl)) rfl ?_
              clear hl a; intro a hl
              refine d_take (i := 7) hl rfl (by kernel_rfl) (by kernel_rfl) (by kernel_rfl) (by kernel_rfl) (by kernel_rfl) rfl ⟨_, _, rfl, rfl, rfl⟩ (fun _ _ _ h => h) hM (fun w hC => r_loadC hl rfl one4 hC (by repeat (first | exact find_head | apply find_tail)) (by first | rfl)) rfl ?_
              clear hl a; intro a hl
              refine d_take (i := 8) hl rfl (by kernel_rfl) (by kernel_rfl) (by kernel_rfl) (by kernel_rfl) (by kernel_rfl) rfl trivial (fun _ _ _ h => h) hM (fun w hC => r_pickT hl rfl rfl) rfl ?_
              clear hl a; intro a hl
              refine d_one (i := 9) (by kernel_rfl) rfl ?_
              try clear hM
              refine id (w_storeA hl hh trivial agg57 rfl rfl (by repeat (first | exact find_head | apply find_tail)) (by first | rfl | (simp; done)) (by first | (simp; done) | (simp; omega)) (by first | rfl | (simp; done)) (by first | (simp only [setL, List.getElem?_cons_zero, List.getElem?_cons_succ, Value.cells, List.take_zero, List.take_succ_cons, List.take_nil, List.drop_zero, List.drop_succ_cons, List.drop_nil, List.length_cons, List.length_nil, List.cons_append, List.nil_append, List.append_nil, Nat.zero_add, Nat.add_zero, Nat.reduceAdd, Nat.reduceBEq, Nat.reduceEqDiff, Nat.ble, BEq.rfl, Bool.and_true, Bool.and_self, cond_true, beq_self_eq_true]; rfl)) ?_)
              clear hh w; intro w hh
              have hM : Mem [(k4, C [.int .u8 1, .int .u8 ((dvM x2).getD 0), .int .u8 0, .int .u8 0, .bool false, .int .u8 ((nmW x3 255).getD 0), .int .u8 ((nmW x5 8).getD 0), .int .u8 0, .bool false, .int .u8 0, .int .u8 0, .int .u8 0] 57), (k11, C [.bool (dvM x2).isSome, .bool (pfM x3 x4 x5), .bool false, .bool false, .bool false, .bool false] 4)] w := (by (repeat (first | exact Mem.nil | refine Mem.consR hh (by assumption) (by simp) ?_ | refine Mem.cons hh.mem (by (repeat (first | exact find_head | apply find_tail)); done) ?_ | fail)); done)
              refine d_step (fun _ => hM) ?_
              refine d_takeL (i := 10) hl rfl (by kernel_rfl) (by kernel_rfl) (by kernel_rfl) (by kernel_rfl) (by kernel_rfl) rfl trivial (fun _ _ _ h => h) (fun w => r_assign hl rfl) rfl ?_
              clear hl a; intro a hl
              refine d_done (by kernel_rfl) ?_
              try clear hM
              have hl2 := hl.add (t := 2) (hl.add (t := 3) (hl.nil) rfl) rfl; clear hl; have hl := hl2; clear hl2
              refine then_normal ?_
              refine wp_ret ?_
              refine blk_ret ?_
              refine then_ret ?_
              refine f_retCT (F' := []) hl hh rfl rfl agg57 (by repeat (first | exact find_head | apply find_tail)) (by first | rfl | exact arrL_length _ _ | (simp; done)) rfl (by repeat (first | exact keeps_nil | apply keeps_cons (by repeat (first | exact find_head | apply find_tail)) (by first  | rfl) | exact keeps_self | exact keeps_left | exact keeps_right | exact keeps_swap | apply keeps_mv)) ?_
              refine ⟨?_, rfl⟩
              rw [hln]
              refine ln_if (c := ⟨1, dvG x2, 0, 0, false, nmG x3 255, nmG x5 8, 0, false, 0, 0, 0⟩) (by constructor <;> (simp only [dvG, nmG]; omega)) ?_
              simp only [Ch.vals, dvG, nmG]
              first | rfl | (simp only [*, Bool.false_and, Bool.and_false, Bool.true_and]; done)
            · intro hg5; clear hl; intro hl
              try simp only [decide_eq_true_eq, decide_eq_false_iff_not, Bool.not_eq_true', Bool.not_eq_false', Bool.not_eq_true, Bool.not_eq_false, Bool.and_eq_true, Bool.or_eq_true, Bool.and_eq_false_iff, Bool.or_eq_false_iff, Bool.not_not, ne_eq, Int.not_lt, Int.not_le, Decidable.not_not, beq_iff_eq, bne_iff_ne] at hg5
              refine d_skip (i := 5) hl rfl (by kernel_rfl) (by kernel_rfl) (by kernel_rfl) (by kernel_rfl) (by kernel_rfl) rfl ⟨_, _, rfl, rfl, rfl⟩ (fun _ _ _ h => h) hM ?_
              clear hl a; intro a hl
              refine d_skip (i := 6) hl rfl (by kernel_rfl) (by kernel_rfl) (by kernel_rfl) (by kernel_rfl) (by kernel_rfl) rfl ⟨_, _, rfl, rfl, rfl⟩ (fun _ _ _ h => h) hM ?_
              clear hl a; intro a hl
              refine d_skip (i := 7) hl rfl (by kernel_rfl) (by kernel_rfl) (by kernel_rfl) (by kernel_rfl) (by kernel_rfl) rfl ⟨_, _, rfl, rfl, rfl⟩ (fun _ _ _ h => h) hM ?_
              clear hl a; intro a hl
              refine d_take (i := 8) hl rfl (by kernel_rfl) (by kernel_rfl) (by kernel_rfl) (by kernel_rfl) (by kernel_rfl) rfl trivial (fun _ _ _ h => h) hM (fun w hC => r_pickF hl rfl rfl) rfl ?_
              clear hl a; intro a hl
              refine d_one (i := 9) (by kernel_rfl) rfl ?_
              try clear hM
              refine id (w_storeA hl hh trivial agg57 rfl rfl (by repeat (first | exact find_head | apply find_tail)) (by first | rfl | (simp; done)) (by first | (simp; done) | (simp; omega)) (by first | rfl | (simp; done)) (by first | (simp only [setL, List.getElem?_cons_zero, List.getElem?_cons_succ, Value.cells, List.take_zero, List.take_succ_cons, List.take_nil, List.drop_zero, List.drop_succ_cons, List.drop_nil, List.length_cons, List.length_nil, List.cons_append, List.nil_append, List.append_nil, Nat.zero_add, Nat.add_zero, Nat.reduceAdd, Nat.reduceBEq, Nat.reduceEqDiff, Nat.ble, BEq.rfl, Bool.and_true, Bool.and_self, cond_true, beq_self_eq_true]; rfl)) ?_)
              clear hh w; intro w hh
              have hM : Mem [(k4, C [.int .u8 1, .int .u8 ((dvM x2).getD 0), .int .u8 0, .int .u8 0, .bool false, .int .u8 ((nmW x3 255).getD 0), .int .u8 ((nmW x5 8).getD 0), .int .u8 0, .bool false, .int .u8 0, .int .u8 0, .int .u8 0] 57), (k11, C [.bool (dvM x2).isSome, .bool (pfM x3 x4 x5), .bool false, .bool false, .bool false, .bool false] 4)] w := (by (repeat (first | exact Mem.nil | refine Mem.consR hh (by assumption) (by simp) ?_ | refine Mem.cons hh.mem (by (repeat (first | exact find_head | apply find_tail)); done) ?_ | fail)); done)
              refine d_step (fun _ => hM) ?_
              refine d_takeL (i := 10) hl rfl (by kernel_rfl) (by kernel_rfl) (by kernel_rfl) (by kernel_rfl) (by kernel_rfl) rfl trivial (fun _ _ _ h => h) (fun w => r_assign hl rfl) rfl ?_
              clear hl a; intro a hl
              refine d_done (by kernel_rfl) ?_
              try clear hM
              have hl2 := hl.add (t := 2) (hl.add (t := 3) (hl.nil) rfl) rfl; clear hl; have hl := hl2; clear hl2
              refine then_normal ?_
              refine wp_ret ?_
              refine blk_ret ?_
              refine then_ret ?_
              refine f_retCT (F' := []) hl hh rfl rfl agg57 (by repeat (first | exact find_head | apply find_tail)) (by first | rfl | exact arrL_length _ _ | (simp; done)) rfl (by repeat (first | exact keeps_nil | apply keeps_cons (by repeat (first | exact find_head | apply find_tail)) (by first  | rfl) | exact keeps_self | exact keeps_left | exact keeps_right | exact keeps_swap | apply keeps_mv)) ?_
              refine ⟨?_, rfl⟩
              rw [hln]
              refine ln_if (c := ⟨1, dvG x2, 0, 0, false, nmG x3 255, nmG x5 8, 0, false, 0, 0, 0⟩) (by constructor <;> (simp only [dvG, nmG]; omega)) ?_
              simp only [Ch.vals, dvG, nmG]
              first | rfl | (simp only [*, Bool.false_and, Bool.and_false, Bool.true_and]; done)
          · intro hc2
            try simp only [decide_eq_true_eq, decide_eq_false_iff_not, Bool.not_eq_true', Bool.not_eq_false', Bool.not_eq_true, Bool.not_eq_false, Bool.and_eq_true, Bool.or_eq_true, Bool.and_eq_false_iff, Bool.or_eq_false_iff, Bool.not_not, ne_eq, Int.not_lt, Int.not_le, Decidable.not_not, beq_iff_eq, bne_iff_ne] at hc2
            have hln := ln6_n (x0 := x0) (x1 := x1) (x2 := x2) (x3 := x3) (x4 := x4) (x5 := x5) (by first | exact .inl (by assumption) | exact .inr (by assumption))
            refine c_seq ?_
            refine c_region ?_
            refine wl (wl_val hl rfl trivial (r_move hl rfl) ?_)
            clear hl a; intro a hl
            refine wl (wl_val hl rfl trivial (r_lenS hl rfl slc101) ?_)
            clear hl a; intro a hl
            refine wl (wl_val hl rfl trivial (r_eql hl rfl rfl) ?_)
            clear hl a; intro a hl
            refine wl (wl_val hl rfl trivial (r_move hl rfl) ?_)
            clear hl a; intro a hl
            refine sl_split (t := 205) hl rfl ?_ ?_
            · intro hg6; clear hl; intro hl
              try simp only [decide_eq_true_eq, decide_eq_false_iff_not, Bool.not_eq_true', Bool.not_eq_false', Bool.not_eq_true, Bool.not_eq_false, Bool.and_eq_true, Bool.or_eq_true, Bool.and_eq_false_iff, Bool.or_eq_false_iff, Bool.not_not, ne_eq, Int.not_lt, Int.not_le, Decidable.not_not, beq_iff_eq, bne_iff_ne] at hg6
              exfalso; first | omega | (simp at *; done)
            · intro hg6; clear hl; intro hl
              try simp only [decide_eq_true_eq, decide_eq_false_iff_not, Bool.not_eq_true', Bool.not_eq_false', Bool.not_eq_true, Bool.not_eq_false, Bool.and_eq_true, Bool.or_eq_true, Bool.and_eq_false_iff, Bool.or_eq_false_iff, Bool.not_not, ne_eq, Int.not_lt, Int.not_le, Decidable.not_not, beq_iff_eq, bne_iff_ne] at hg6
              refine wl (wl_skip hl rfl ⟨_, _, rfl, rfl, rfl⟩ ?_)
              clear hl a; intro a hl
              refine wl (wl_skip hl rfl ⟨_, _, rfl, rfl, rfl⟩ ?_)
              clear hl a; intro a hl
              refine wl (wl_skip hl rfl ⟨_, _, rfl, rfl, rfl⟩ ?_)
              clear hl a; intro a hl
              refine wl (wl_skip hl rfl ⟨_, _, rfl, rfl, rfl⟩ ?_)
              clear hl a; intro a hl
              refine wl (wl_val hl rfl trivial (r_pickF hl rfl rfl) ?_)
              clear hl a; intro a hl
              refine wl (wl_val hl rfl trivial (r_move hl rfl) ?_)
              clear hl a; intro a hl
              refine wl (wl_skip hl rfl ⟨_, _, rfl, rfl, rfl⟩ ?_)
              clear hl a; intro a hl
              refine wl (wl_skip hl rfl ⟨_, _, rfl, rfl, rfl⟩ ?_)
              clear hl a; intro a hl
              refine wl (wl_skip hl rfl ⟨_, _, rfl, rfl, rfl⟩ ?_)
              clear hl a; intro a hl
              refine wl (wl_skip hl rfl ⟨_, _, rfl, rfl, rfl⟩ ?_)
              clear hl a; intro a hl
              refine wl (wl_val hl rfl trivial (r_pickF hl rfl rfl) ?_)
              clear hl a; intro a hl
              refine wl (wl_val hl rfl trivial (r_move hl rfl) ?_)
              clear hl a; intro a hl
              refine wl (wl_skip hl rfl ⟨_, _, rfl, rfl, rfl⟩ ?_)
              clear hl a; intro a hl
              refine wl (wl_skip hl rfl ⟨_, _, rfl, rfl, rfl⟩ ?_)
              clear hl a; intro a hl
              refine wl (wl_skip hl rfl ⟨_, _, rfl, rfl, rfl⟩ ?_)
              clear hl a; intro a hl
              refine wl (wl_skip hl rfl ⟨_, _, rfl, rfl, rfl⟩ ?_)
              clear hl a; intro a hl
              refine wl (wl_val hl rfl trivial (r_pickF hl rfl rfl) ?_)
              clear hl a; intro a hl
              refine wl (wl_val hl rfl trivial (r_assign hl rfl) ?_)
              clear hl a; intro a hl
              refine w_nil ?_
              have hl2 := hl.add (t := 0) (hl.add (t := 2) (hl.add (t := 4) (hl.add (t := 5) (hl.add (t := 201) (hl.nil) rfl) rfl) rfl) rfl) rfl; clear hl; have hl := hl2; clear hl2
              refine then_normal ?_
              refine c_condF hl rfl ?_
              refine c_seq ?_
              refine c_region ?_
              refine wl (wl_val hl rfl trivial (r_move hl rfl) ?_)
              clear hl a; intro a hl
              refine wl (wl_val hl rfl trivial (r_lenS hl rfl slc101) ?_)
              clear hl a; intro a hl
              refine wl (wl_val hl rfl trivial (r_eql hl rfl rfl) ?_)
              clear hl a; intro a hl
              refine wl (wl_val hl rfl trivial (r_move hl rfl) ?_)
              clear hl a; intro a hl
              refine sl_split (t := 325) hl rfl ?_ ?_
              · intro hg7; clear hl; intro hl
                try simp only [decide_eq_true_eq, decide_eq_false_iff_not, Bool.not_eq_true', Bool.not_eq_false', Bool.not_eq_true, Bool.not_eq_false, Bool.and_eq_true, Bool.or_eq_true, Bool.and_eq_false_iff, Bool.or_eq_false_iff, Bool.not_not, ne_eq, Int.not_lt, Int.not_le, Decidable.not_not, beq_iff_eq, bne_iff_ne] at hg7
                exfalso; first | omega | (simp at *; done)
              · intro hg7; clear hl; intro hl
                try simp only [decide_eq_true_eq, decide_eq_false_iff_not, Bool.not_eq_true', Bool.not_eq_false', Bool.not_eq_true, Bool.not_eq_false, Bool.and_eq_true, Bool.or_eq_true, Bool.and_eq_false_iff, Bool.or_eq_false_iff, Bool.not_not, ne_eq, Int.not_lt, Int.not_le, Decidable.not_not, beq_iff_eq, bne_iff_ne] at hg7
                refine wl (wl_skip hl rfl ⟨_, _, rfl, rfl, rfl⟩ ?_)
                clear hl a; intro a hl
                refine wl (wl_skip hl rfl ⟨_, _, rfl, rfl, rfl⟩ ?_)
                clear hl a; intro a hl
                refine wl (wl_skip hl rfl ⟨_, _, rfl, rfl, rfl⟩ ?_)
                clear hl a; intro a hl
                refine wl (wl_skip hl rfl ⟨_, _, rfl, rfl, rfl⟩ ?_)
                clear hl a; intro a hl
                refine wl (wl_val hl rfl trivial (r_pickF hl rfl rfl) ?_)
                clear hl a; intro a hl
                refine wl (wl_val hl rfl trivial (r_move hl rfl) ?_)
                clear hl a; intro a hl
                refine wl (wl_skip hl rfl ⟨_, _, rfl, rfl, rfl⟩ ?_)
                clear hl a; intro a hl
                refine wl (wl_skip hl rfl ⟨_, _, rfl, rfl, rfl⟩ ?_)
                clear hl a; intro a hl
                refine wl (wl_skip hl rfl ⟨_, _, rfl, rfl, rfl⟩ ?_)
                clear hl a; intro a hl
                refine wl (wl_skip hl rfl ⟨_, _, rfl, rfl, rfl⟩ ?_)
                clear hl a; intro a hl
                refine wl (wl_val hl rfl trivial (r_pickF hl rfl rfl) ?_)
                clear hl a; intro a hl
                refine wl (wl_val hl rfl trivial (r_assign hl rfl) ?_)
                clear hl a; intro a hl
                refine w_nil ?_
                have hl2 := hl.add (t := 0) (hl.add (t := 2) (hl.add (t := 4) (hl.add (t := 5) (hl.add (t := 321) (hl.nil) rfl) rfl) rfl) rfl) rfl; clear hl; have hl := hl2; clear hl2
                refine then_normal ?_
                refine c_condF hl rfl ?_
                refine c_seq ?_
                refine c_region ?_
                refine wl (wl_val hl rfl trivial (r_move hl rfl) ?_)
                clear hl a; intro a hl
                refine wl (wl_val hl rfl trivial (r_lenS hl rfl slc101) ?_)
                clear hl a; intro a hl
                refine wl (wl_val hl rfl trivial (r_eql hl rfl rfl) ?_)
                clear hl a; intro a hl
                refine wl (wl_val hl rfl trivial (r_move hl rfl) ?_)
                clear hl a; intro a hl
                refine sl_split (t := 369) hl rfl ?_ ?_
                · intro hg8; clear hl; intro hl
                  try simp only [decide_eq_true_eq, decide_eq_false_iff_not, Bool.not_eq_true', Bool.not_eq_false', Bool.not_eq_true, Bool.not_eq_false, Bool.and_eq_true, Bool.or_eq_true, Bool.and_eq_false_iff, Bool.or_eq_false_iff, Bool.not_not, ne_eq, Int.not_lt, Int.not_le, Decidable.not_not, beq_iff_eq, bne_iff_ne] at hg8
                  exfalso; first | omega | (simp at *; done)
                · intro hg8; clear hl; intro hl
                  try simp only [decide_eq_true_eq, decide_eq_false_iff_not, Bool.not_eq_true', Bool.not_eq_false', Bool.not_eq_true, Bool.not_eq_false, Bool.and_eq_true, Bool.or_eq_true, Bool.and_eq_false_iff, Bool.or_eq_false_iff, Bool.not_not, ne_eq, Int.not_lt, Int.not_le, Decidable.not_not, beq_iff_eq, bne_iff_ne] at hg8
                  refine wl (wl_skip hl rfl ⟨_, _, rfl, rfl, rfl⟩ ?_)
                  clear hl a; intro a hl
                  refine wl (wl_skip hl rfl ⟨_, _, rfl, rfl, rfl⟩ ?_)
                  clear hl a; intro a hl
                  refine wl (wl_skip hl rfl ⟨_, _, rfl, rfl, rfl⟩ ?_)
                  clear hl a; intro a hl
                  refine wl (wl_skip hl rfl ⟨_, _, rfl, rfl, rfl⟩ ?_)
                  clear hl a; intro a hl
                  refine wl (wl_skip hl rfl ⟨_, _, rfl, rfl, rfl⟩ ?_)
                  clear hl a; intro a hl
                  refine wl (wl_skipU hl rfl ⟨_, _, rfl, rfl, rfl⟩ ?_)
                  clear hl a; intro a hl
                  refine wl (wl_skipU hl rfl ⟨_, _, rfl, rfl, rfl⟩ ?_)
                  clear hl a; intro a hl
                  refine wl (wl_skipU hl rfl ⟨_, _, rfl, rfl, rfl⟩ ?_)
                  clear hl a; intro a hl
                  refine wl (wl_skipU hl rfl ⟨_, _, rfl, rfl, rfl⟩ ?_)
                  clear hl a; intro a hl
                  refine wl (wl_skip hl rfl ⟨_, _, rfl, rfl, rfl⟩ ?_)
                  clear hl a; intro a hl
                  refine wl (wl_val hl rfl trivial (r_pickF hl rfl rfl) ?_)
                  clear hl a; intro a hl
                  refine wl (wl_val hl rfl trivial (r_assign hl rfl) ?_)
                  clear hl a; intro a hl
                  refine w_nil ?_
                  have hl2 := hl.add (t := 0) (hl.add (t := 2) (hl.add (t := 4) (hl.add (t := 5) (hl.add (t := 365) (hl.nil) rfl) rfl) rfl) rfl) rfl; clear hl; have hl := hl2; clear hl2
                  refine then_normal ?_
                  refine c_condF hl rfl ?_
                  refine wp_skip ?_
                  refine blk_normal ?_
                  refine then_normal ?_
                  refine c_seq ?_
                  refine c_region ?_
                  refine wl (w_loadA hl hh rfl trivial agg57 rfl (by repeat (first | exact find_head | apply find_tail)) (by first | (simp only [List.getElem?_cons_zero, List.getElem?_cons_succ, Value.cells, List.take_zero, List.take_succ_cons, List.take_nil, List.drop_zero, List.drop_succ_cons, List.drop_nil, List.length_cons, List.length_nil, List.cons_append, List.nil_append, List.append_nil, Nat.zero_add, Nat.add_zero, Nat.reduceAdd, Nat.reduceBEq, Nat.reduceEqDiff, Nat.ble, BEq.rfl, Bool.and_true, Bool.and_self, cond_true, beq_self_eq_true]; rfl)) (by first | rfl | (simp; done)) ?_)
                  clear hl a; intro a hl
                  refine wl (w_storeA hl hh trivial agg57 rfl rfl (by repeat (first | exact find_head | apply find_tail)) (by first | rfl | (simp; done)) (by first | (simp; done) | (simp; omega)) (by first | rfl | (simp; done)) (by first | (simp only [setL, List.getElem?_cons_zero, List.getElem?_cons_succ, Value.cells, List.take_zero, List.take_succ_cons, List.take_nil, List.drop_zero, List.drop_succ_cons, List.drop_nil, List.length_cons, List.length_nil, List.cons_append, List.nil_append, List.append_nil, Nat.zero_add, Nat.add_zero, Nat.reduceAdd, Nat.reduceBEq, Nat.reduceEqDiff, Nat.ble, BEq.rfl, Bool.and_true, Bool.and_self, cond_true, beq_self_eq_true]; rfl)) ?_)
                  clear hh w; intro w hh
                  refine wl (wl_val hl rfl trivial (r_assign hl rfl) ?_)
                  clear hl a; intro a hl
                  refine w_nil ?_
                  have hl2 := hl.add (t := 2) (hl.add (t := 3) (hl.nil) rfl) rfl; clear hl; have hl := hl2; clear hl2
                  refine then_normal ?_
                  refine wp_ret ?_
                  refine f_retCT (F' := []) hl hh rfl rfl agg57 (by repeat (first | exact find_head | apply find_tail)) (by first | rfl | exact arrL_length _ _ | (simp; done)) rfl (by repeat (first | exact keeps_nil | apply keeps_cons (by repeat (first | exact find_head | apply find_tail)) (by first  | rfl) | exact keeps_self | exact keeps_left | exact keeps_right | exact keeps_swap | apply keeps_mv)) ?_
                  exact ⟨ln_no (kd := 0) hln (by decide) ⟨0, 0, 0, 0, false, 0, 0, 0, false, 0, 0, 0⟩ (by constructor <;> decide) rfl, rfl⟩
        · intro hg4; clear hl; intro hl
          try simp only [decide_eq_true_eq, decide_eq_false_iff_not, Bool.not_eq_true', Bool.not_eq_false', Bool.not_eq_true, Bool.not_eq_false, Bool.and_eq_true, Bool.or_eq_true, Bool.and_eq_false_iff, Bool.or_eq_false_iff, Bool.not_not, ne_eq, Int.not_lt, Int.not_le, Decidable.not_not, beq_iff_eq, bne_iff_ne] at hg4
          refine wl (wl_skip hl rfl ⟨_, _, rfl, rfl, rfl⟩ ?_)
          clear hl a; intro a hl
          refine wl (wl_skip hl rfl ⟨_, _, rfl, rfl, rfl⟩ ?_)
          clear hl a; intro a hl
          refine wl (wl_skip hl rfl ⟨_, _, rfl, rfl, rfl⟩ ?_)
          clear hl a; intro a hl
          refine wl (wl_skip hl rfl ⟨_, _, rfl, rfl, rfl⟩ ?_)
          clear hl a; intro a hl
          refine wl (wl_val hl rfl trivial (r_pickF hl rfl rfl) ?_)
          clear hl a; intro a hl
          refine wl (wl_val hl rfl trivial (r_assign hl rfl) ?_)
          clear hl a; intro a hl
          refine w_nil ?_
          have hl2 := hl.add (t := 0) (hl.add (t := 2) (hl.add (t := 4) (hl.add (t := 5) (hl.add (t := 148) (hl.nil) rfl) rfl) rfl) rfl) rfl; clear hl; have hl := hl2; clear hl2
          refine then_normal ?_
          refine c_condF hl rfl ?_
          have hln := ln6_n (x0 := x0) (x1 := x1) (x2 := x2) (x3 := x3) (x4 := x4) (x5 := x5) (by first | exact .inl (by assumption) | exact .inr (by assumption))
          refine c_seq ?_
          refine c_region ?_
          refine wl (wl_val hl rfl trivial (r_move hl rfl) ?_)
          clear hl a; intro a hl
          refine wl (wl_val hl rfl trivial (r_lenS hl rfl slc101) ?_)
          clear hl a; intro a hl
          refine wl (wl_val hl rfl trivial (r_eql hl rfl rfl) ?_)
          clear hl a; intro a hl
          refine wl (wl_val hl rfl trivial (r_move hl rfl) ?_)
          clear hl a; intro a hl
          refine sl_split (t := 205) hl rfl ?_ ?_
          · intro hg9; clear hl; intro hl
            try simp only [decide_eq_true_eq, decide_eq_false_iff_not, Bool.not_eq_true', Bool.not_eq_false', Bool.not_eq_true, Bool.not_eq_false, Bool.and_eq_true, Bool.or_eq_true, Bool.and_eq_false_iff, Bool.or_eq_false_iff, Bool.not_not, ne_eq, Int.not_lt, Int.not_le, Decidable.not_not, beq_iff_eq, bne_iff_ne] at hg9
            exfalso; first | omega | (simp at *; done)
          · intro hg9; clear hl; intro hl
            try simp only [decide_eq_true_eq, decide_eq_false_iff_not, Bool.not_eq_true', Bool.not_eq_false', Bool.not_eq_true, Bool.not_eq_false, Bool.and_eq_true, Bool.or_eq_true, Bool.and_eq_false_iff, Bool.or_eq_false_iff, Bool.not_not, ne_eq, Int.not_lt, Int.not_le, Decidable.not_not, beq_iff_eq, bne_iff_ne] at hg9
            refine wl (wl_skip hl rfl ⟨_, _, rfl, rfl, rfl⟩ ?_)
            clear hl a; intro a hl
            refine wl (wl_skip hl rfl ⟨_, _, rfl, rfl, rfl⟩ ?_)
            clear hl a; intro a hl
            refine wl (wl_skip hl rfl ⟨_, _, rfl, rfl, rfl⟩ ?_)
            clear hl a; intro a hl
            refine wl (wl_skip hl rfl ⟨_, _, rfl, rfl, rfl⟩ ?_)
            clear hl a; intro a hl
            refine wl (wl_val hl rfl trivial (r_pickF hl rfl rfl) ?_)
            clear hl a; intro a hl
            refine wl (wl_val hl rfl trivial (r_move hl rfl) ?_)
            clear hl a; intro a hl
            refine wl (wl_skip hl rfl ⟨_, _, rfl, rfl, rfl⟩ ?_)
            clear hl a; intro a hl
            refine wl (wl_skip hl rfl ⟨_, _, rfl, rfl, rfl⟩ ?_)
            clear hl a; intro a hl
            refine wl (wl_skip hl rfl ⟨_, _, rfl, rfl, rfl⟩ ?_)
            clear hl a; intro a hl
            refine wl (wl_skip hl rfl ⟨_, _, rfl, rfl, rfl⟩ ?_)
            clear hl a; intro a hl
            refine wl (wl_val hl rfl trivial (r_pickF hl rfl rfl) ?_)
            clear hl a; intro a hl
            refine wl (wl_val hl rfl trivial (r_move hl rfl) ?_)
            clear hl a; intro a hl
            refine wl (wl_skip hl rfl ⟨_, _, rfl, rfl, rfl⟩ ?_)
            clear hl a; intro a hl
            refine wl (wl_skip hl rfl ⟨_, _, rfl, rfl, rfl⟩ ?_)
            clear hl a; intro a hl
            refine wl (wl_skip hl rfl ⟨_, _, rfl, rfl, rfl⟩ ?_)
            clear hl a; intro a hl
            refine wl (wl_skip hl rfl ⟨_, _, rfl, rfl, rfl⟩ ?_)
            clear hl a; intro a hl
            refine wl (wl_val hl rfl trivial (r_pickF hl rfl rfl) ?_)
            clear hl a; intro a hl
            refine wl (wl_val hl rfl trivial (r_assign hl rfl) ?_)
            clear hl a; intro a hl
            refine w_nil ?_
            have hl2 := hl.add (t := 0) (hl.add (t := 2) (hl.add (t := 4) (hl.add (t := 5) (hl.add (t := 201) (hl.nil) rfl) rfl) rfl) rfl) rfl; clear hl; have hl := hl2; clear hl2
            refine then_normal ?_
            refine c_condF hl rfl ?_
            refine c_seq ?_
            refine c_region ?_
            refine wl (wl_val hl rfl trivial (r_move hl rfl) ?_)
            clear hl a; intro a hl
            refine wl (wl_val hl rfl trivial (r_lenS hl rfl slc101) ?_)
            clear hl a; intro a hl
            refine wl (wl_val hl rfl trivial (r_eql hl rfl rfl) ?_)
            clear hl a; intro a hl
            refine wl (wl_val hl rfl trivial (r_move hl rfl) ?_)
            clear hl a; intro a hl
            refine sl_split (t := 325) hl rfl ?_ ?_
            · intro hg10; clear hl; intro hl
              try simp only [decide_eq_true_eq, decide_eq_false_iff_not, Bool.not_eq_true', Bool.not_eq_false', Bool.not_eq_true, Bool.not_eq_false, Bool.and_eq_true, Bool.or_eq_true, Bool.and_eq_false_iff, Bool.or_eq_false_iff, Bool.not_not, ne_eq, Int.not_lt, Int.not_le, Decidable.not_not, beq_iff_eq, bne_iff_ne] at hg10
              exfalso; first | omega | (simp at *; done)
            · intro hg10; clear hl; intro hl
              try simp only [decide_eq_true_eq, decide_eq_false_iff_not, Bool.not_eq_true', Bool.not_eq_false', Bool.not_eq_true, Bool.not_eq_false, Bool.and_eq_true, Bool.or_eq_true, Bool.and_eq_false_iff, Bool.or_eq_false_iff, Bool.not_not, ne_eq, Int.not_lt, Int.not_le, Decidable.not_not, beq_iff_eq, bne_iff_ne] at hg10
              refine wl (wl_skip hl rfl ⟨_, _, rfl, rfl, rfl⟩ ?_)
              clear hl a; intro a hl
              refine wl (wl_skip hl rfl ⟨_, _, rfl, rfl, rfl⟩ ?_)
              clear hl a; intro a hl
              refine wl (wl_skip hl rfl ⟨_, _, rfl, rfl, rfl⟩ ?_)
              clear hl a; intro a hl
              refine wl (wl_skip hl rfl ⟨_, _, rfl, rfl, rfl⟩ ?_)
              clear hl a; intro a hl
              refine wl (wl_val hl rfl trivial (r_pickF hl rfl rfl) ?_)
              clear hl a; intro a hl
              refine wl (wl_val hl rfl trivial (r_move hl rfl) ?_)
              clear hl a; intro a hl
              refine wl (wl_skip hl rfl ⟨_, _, rfl, rfl, rfl⟩ ?_)
              clear hl a; intro a hl
              refine wl (wl_skip hl rfl ⟨_, _, rfl, rfl, rfl⟩ ?_)
              clear hl a; intro a hl
              refine wl (wl_skip hl rfl ⟨_, _, rfl, rfl, rfl⟩ ?_)
              clear hl a; intro a hl
              refine wl (wl_skip hl rfl ⟨_, _, rfl, rfl, rfl⟩ ?_)
              clear hl a; intro a hl
              refine wl (wl_val hl rfl trivial (r_pickF hl rfl rfl) ?_)
              clear hl a; intro a hl
              refine wl (wl_val hl rfl trivial (r_assign hl rfl) ?_)
              clear hl a; intro a hl
              refine w_nil ?_
              have hl2 := hl.add (t := 0) (hl.add (t := 2) (hl.add (t := 4) (hl.add (t := 5) (hl.add (t := 321) (hl.nil) rfl) rfl) rfl) rfl) rfl; clear hl; have hl := hl2; clear hl2
              refine then_normal ?_
              refine c_condF hl rfl ?_
              refine c_seq ?_
              refine c_region ?_
              refine wl (wl_val hl rfl trivial (r_move hl rfl) ?_)
              clear hl a; intro a hl
              refine wl (wl_val hl rfl trivial (r_lenS hl rfl slc101) ?_)
              clear hl a; intro a hl
              refine wl (wl_val hl rfl trivial (r_eql hl rfl rfl) ?_)
              clear hl a; intro a hl
              refine wl (wl_val hl rfl trivial (r_move hl rfl) ?_)
              clear hl a; intro a hl
              refine sl_split (t := 369) hl rfl ?_ ?_
              · intro hg11; clear hl; intro hl
                try simp only [decide_eq_true_eq, decide_eq_false_iff_not, Bool.not_eq_true', Bool.not_eq_false', Bool.not_eq_true, Bool.not_eq_false, Bool.and_eq_true, Bool.or_eq_true, Bool.and_eq_false_iff, Bool.or_eq_false_iff, Bool.not_not, ne_eq, Int.not_lt, Int.not_le, Decidable.not_not, beq_iff_eq, bne_iff_ne] at hg11
                exfalso; first | omega | (simp at *; done)
              · intro hg11; clear hl; intro hl
                try simp only [decide_eq_true_eq, decide_eq_false_iff_not, Bool.not_eq_true', Bool.not_eq_false', Bool.not_eq_true, Bool.not_eq_false, Bool.and_eq_true, Bool.or_eq_true, Bool.and_eq_false_iff, Bool.or_eq_false_iff, Bool.not_not, ne_eq, Int.not_lt, Int.not_le, Decidable.not_not, beq_iff_eq, bne_iff_ne] at hg11
                refine wl (wl_skip hl rfl ⟨_, _, rfl, rfl, rfl⟩ ?_)
                clear hl a; intro a hl
                refine wl (wl_skip hl rfl ⟨_, _, rfl, rfl, rfl⟩ ?_)
                clear hl a; intro a hl
                refine wl (wl_skip hl rfl ⟨_, _, rfl, rfl, rfl⟩ ?_)
                clear hl a; intro a hl
                refine wl (wl_skip hl rfl ⟨_, _, rfl, rfl, rfl⟩ ?_)
                clear hl a; intro a hl
                refine wl (wl_skip hl rfl ⟨_, _, rfl, rfl, rfl⟩ ?_)
                clear hl a; intro a hl
                refine wl (wl_skipU hl rfl ⟨_, _, rfl, rfl, rfl⟩ ?_)
                clear hl a; intro a hl
                refine wl (wl_skipU hl rfl ⟨_, _, rfl, rfl, rfl⟩ ?_)
                clear hl a; intro a hl
                refine wl (wl_skipU hl rfl ⟨_, _, rfl, rfl, rfl⟩ ?_)
                clear hl a; intro a hl
                refine wl (wl_skipU hl rfl ⟨_, _, rfl, rfl, rfl⟩ ?_)
                clear hl a; intro a hl
                refine wl (wl_skip hl rfl ⟨_, _, rfl, rfl, rfl⟩ ?_)
                clear hl a; intro a hl
                refine wl (wl_val hl rfl trivial (r_pickF hl rfl rfl) ?_)
                clear hl a; intro a hl
                refine wl (wl_val hl rfl trivial (r_assign hl rfl) ?_)
                clear hl a; intro a hl
                refine w_nil ?_
                have hl2 := hl.add (t := 0) (hl.add (t := 2) (hl.add (t := 4) (hl.add (t := 5) (hl.add (t := 365) (hl.nil) rfl) rfl) rfl) rfl) rfl; clear hl; have hl := hl2; clear hl2
                refine then_normal ?_
                refine c_condF hl rfl ?_
                refine wp_skip ?_
                refine blk_normal ?_
                refine then_normal ?_
                refine c_seq ?_
                refine c_region ?_
                refine wl (w_loadA hl hh rfl trivial agg57 rfl (by repeat (first | exact find_head | apply find_tail)) (by first | (simp only [List.getElem?_cons_zero, List.getElem?_cons_succ, Value.cells, List.take_zero, List.take_succ_cons, List.take_nil, List.drop_zero, List.drop_succ_cons, List.drop_nil, List.length_cons, List.length_nil, List.cons_append, List.nil_append, List.append_nil, Nat.zero_add, Nat.add_zero, Nat.reduceAdd, Nat.reduceBEq, Nat.reduceEqDiff, Nat.ble, BEq.rfl, Bool.and_true, Bool.and_self, cond_true, beq_self_eq_true]; rfl)) (by first | rfl | (simp; done)) ?_)
                clear hl a; intro a hl
                refine wl (w_storeA hl hh trivial agg57 rfl rfl (by repeat (first | exact find_head | apply find_tail)) (by first | rfl | (simp; done)) (by first | (simp; done) | (simp; omega)) (by first | rfl | (simp; done)) (by first | (simp only [setL, List.getElem?_cons_zero, List.getElem?_cons_succ, Value.cells, List.take_zero, List.take_succ_cons, List.take_nil, List.drop_zero, List.drop_succ_cons, List.drop_nil, List.length_cons, List.length_nil, List.cons_append, List.nil_append, List.append_nil, Nat.zero_add, Nat.add_zero, Nat.reduceAdd, Nat.reduceBEq, Nat.reduceEqDiff, Nat.ble, BEq.rfl, Bool.and_true, Bool.and_self, cond_true, beq_self_eq_true]; rfl)) ?_)
                clear hh w; intro w hh
                refine wl (wl_val hl rfl trivial (r_assign hl rfl) ?_)
                clear hl a; intro a hl
                refine w_nil ?_
                have hl2 := hl.add (t := 2) (hl.add (t := 3) (hl.nil) rfl) rfl; clear hl; have hl := hl2; clear hl2
                refine then_normal ?_
                refine wp_ret ?_
                refine f_retCT (F' := []) hl hh rfl rfl agg57 (by repeat (first | exact find_head | apply find_tail)) (by first | rfl | exact arrL_length _ _ | (simp; done)) rfl (by repeat (first | exact keeps_nil | apply keeps_cons (by repeat (first | exact find_head | apply find_tail)) (by first  | rfl) | exact keeps_self | exact keeps_left | exact keeps_right | exact keeps_swap | apply keeps_mv)) ?_
                exact ⟨ln_no (kd := 0) hln (by decide) ⟨0, 0, 0, 0, false, 0, 0, 0, false, 0, 0, 0⟩ (by constructor <;> decide) rfl, rfl⟩
      · intro hg3; clear hl; intro hl
        try simp only [decide_eq_true_eq, decide_eq_false_iff_not, Bool.not_eq_true', Bool.not_eq_false', Bool.not_eq_true, Bool.not_eq_false, Bool.and_eq_true, Bool.or_eq_true, Bool.and_eq_false_iff, Bool.or_eq_false_iff, Bool.not_not, ne_eq, Int.not_lt, Int.not_le, Decidable.not_not, beq_iff_eq, bne_iff_ne] at hg3
        exfalso; first | omega | (simp at *; done)
end Go.Proofs.Qxb6500907a

import Derived.Test.Qxb6500907aR8
namespace Go.Proofs.Qxb6500907a
open Go.Eng
set_option linter.unusedVariables false
set_option linter.unusedSimpArgs false
theorem cal64 : callable Try.prog 64 = true := by kernel_rfl
theorem cal65 : callable Try.prog 65 = true := by kernel_rfl
set_option maxHeartbeats 4000000 in
theorem wellM0 (kd dv pr ix : Int) (up : Bool) (ra rl via : Int) (pm : Bool) (da dl cl : Int) (h : Ch.ok ⟨kd, dv, pr, ix, up, ra, rl, via, pm, da, dl, cl⟩) : Sp Try.prog 45 #[.agg ⟨[.int .u8 kd, .int .u8 dv, .int .u8 pr, .int .u8 ix, .bool up, .int .u8 ra, .int .u8 rl, .int .u8 via, .bool pm, .int .u8 da, .int .u8 dl, .int .u8 cl]⟩] [] (fun v F' => v = .bool (wfF ⟨kd, dv, pr, ix, up, ra, rl, via, pm, da, dl, cl⟩) ∧ F' = []) := by
  refine f_enter (args := [.agg ⟨[.int .u8 kd, .int .u8 dv, .int .u8 pr, .int .u8 ix, .bool up, .int .u8 ra, .int .u8 rl, .int .u8 via, .bool pm, .int .u8 da, .int .u8 dl, .int .u8 cl]⟩]) Try.func45 rfl Try.ntmps45 rfl ?_
  intro w0 w a hpre hl hh
  obtain ⟨h1, h2, h3, h4, h5, h6, h7, h8, h9, h10⟩ := h; simp only at h1 h2 h3 h4 h5 h6 h7 h8 h9 h10
  let cc : Ch := ⟨kd, dv, pr, ix, up, ra, rl, via, pm, da, dl, cl⟩
  simp only [slotsFrom, Nat.reduceAdd] at hl
  refine c_seq ?_
  refine c_region ?_
  refine wl (w_box hl hh rfl trivial rfl rfl ?_)
  clear hl hh a w; intro k1 a w hl hh
  refine wl (wl_val hl rfl trivial (r_assign hl rfl) ?_)
  clear hl a; intro a hl
  refine w_nil ?_
  have hl2 := hl.add (t := 1) (hl.nil) rfl; clear hl; have hl := hl2; clear hl2
  refine then_normal ?_
  refine c_seq ?_
  refine c_region ?_
  refine wl (wl_val hl rfl trivial (r_field hl rfl fld57_2) ?_)
  clear hl a; intro a hl
  refine wl (w_load hl hh rfl trivial one5 rfl (by repeat (first | exact find_head | apply find_tail)) (by first | rfl) ?_)
  clear hl a; intro a hl
  refine wl (wl_val hl rfl trivial (r_eql hl rfl rfl) ?_)
  clear hl a; intro a hl
  refine wl (wl_val hl rfl trivial (r_move hl rfl) ?_)
  clear hl a; intro a hl
  refine sl_split (t := 10) hl rfl ?_ ?_
  · intro hg1; clear hl; intro hl
    try simp only [decide_eq_true_eq, decide_eq_false_iff_not, Bool.not_eq_true', Bool.not_eq_false', Bool.not_eq_true, Bool.not_eq_false, Bool.and_eq_true, Bool.or_eq_true, Bool.and_eq_false_iff, Bool.or_eq_false_iff, Bool.not_not, ne_eq, Int.not_lt, Int.not_le, Decidable.not_not, beq_iff_eq, bne_iff_ne] at hg1
    refine wl (wl_val hl rfl ⟨_, _, rfl, rfl, rfl⟩ (r_field hl rfl fld57_4) ?_)
    clear hl a; intro a hl
    refine wl (w_load hl hh rfl ⟨_, _, rfl, rfl, rfl⟩ one4 rfl (by repeat (first | exact find_head | apply find_tail)) (by first | rfl) ?_)
    clear hl a; intro a hl
    refine wl (wl_val hl rfl ⟨_, _, rfl, rfl, rfl⟩ (r_not hl rfl) ?_)
    clear hl a; intro a hl
    refine wl (wl_val hl rfl trivial (r_pickT hl rfl rfl) ?_)
    clear hl a; intro a hl
    refine wl (wl_val hl rfl trivial (r_assign hl rfl) ?_)
    clear hl a; intro a hl
    refine w_nil ?_
    have hl2 := hl.add (t := 1) (hl.add (t := 3) (hl.nil) rfl) rfl; clear hl; have hl := hl2; clear hl2
    refine then_normal ?_
    refine c_seq ?_
    refine c_region ?_
    refine wl (wl_val hl rfl trivial (r_field hl rfl fld57_5) ?_)
    clear hl a; intro a hl
    refine wl (w_loadA hl hh rfl trivial agg53 rfl (by repeat (first | exact find_head | apply find_tail)) (by first | (simp only [List.getElem?_cons_zero, List.getElem?_cons_succ, Value.cells, List.take_zero, List.take_succ_cons, List.take_nil, List.drop_zero, List.drop_succ_cons, List.drop_nil, List.length_cons, List.length_nil, List.cons_append, List.nil_append, List.append_nil, Nat.zero_add, Nat.add_zero, Nat.reduceAdd, Nat.reduceBEq, Nat.reduceEqDiff, Nat.ble, BEq.rfl, Bool.and_true, Bool.and_self, cond_true, beq_self_eq_true]; rfl)) (by first | rfl | (simp; done)) ?_)
    clear hl a; intro a hl
    refine wl (wl_val hl rfl trivial (r_build hl rfl zero53 bld53 (by simp only [fillL, setL, List.getElem?_cons_zero, List.getElem?_cons_succ, Value.cells, List.take_zero, List.take_succ_cons, List.take_nil, List.drop_zero, List.drop_succ_cons, List.drop_nil, List.length_cons, List.length_nil, List.cons_append, List.nil_append, List.append_nil, Nat.zero_add, Nat.add_zero, Nat.reduceAdd, Nat.reduceBEq, Nat.reduceEqDiff, Nat.ble, BEq.rfl, Bool.and_true, Bool.and_self, cond_true, beq_self_eq_true]; rfl)) ?_)
    clear hl a; intro a hl
    refine wl (wl_val hl rfl trivial (r_eqlA hl rfl rfl eqf53 shp53 (by simp only [unlitL, unlit]; rfl) (by simp only [unlitL, unlit]; rfl) (by first | exact ⟨trivial⟩ | (refine ⟨?_⟩; simp [LitsOk, litOk, Fits]; done) | (refine ⟨?_⟩; simp [LitsOk, litOk, Fits]; omega)) (by first | exact ⟨trivial⟩ | (refine ⟨?_⟩; simp [LitsOk, litOk, Fits]; done) | (refine ⟨?_⟩; simp [LitsOk, litOk, Fits]; omega))) ?_)
    clear hl a; intro a hl
    refine wl (wl_val hl rfl trivial (r_assign hl rfl) ?_)
    clear hl a; intro a hl
    refine w_nil ?_
    have hl2 := hl.add (t := 1) (hl.add (t := 3) (hl.add (t := 4) (hl.nil) rfl) rfl) rfl; clear hl; have hl := hl2; clear hl2
    refine then_normal ?_
    refine c_seq ?_
    refine c_region ?_
    refine wl (wl_val hl rfl trivial (r_field hl rfl fld57_6) ?_)
    clear hl a; intro a hl
    refine wl (w_loadA hl hh rfl trivial agg55 rfl (by repeat (first | exact find_head | apply find_tail)) (by first | (simp only [List.getElem?_cons_zero, List.getElem?_cons_succ, Value.cells, List.take_zero, List.take_succ_cons, List.take_nil, List.drop_zero, List.drop_succ_cons, List.drop_nil, List.length_cons, List.length_nil, List.cons_append, List.nil_append, List.append_nil, Nat.zero_add, Nat.add_zero, Nat.reduceAdd, Nat.reduceBEq, Nat.reduceEqDiff, Nat.ble, BEq.rfl, Bool.and_true, Bool.and_self, cond_true, beq_self_eq_true]; rfl)) (by first | rfl | (simp; done)) ?_)
    clear hl a; intro a hl
    refine wl (wl_val hl rfl trivial (r_build hl rfl zero55 bld55 (by simp only [fillL, setL, List.getElem?_cons_zero, List.getElem?_cons_succ, Value.cells, List.take_zero, List.take_succ_cons, List.take_nil, List.drop_zero, List.drop_succ_cons, List.drop_nil, List.length_cons, List.length_nil, List.cons_append, List.nil_append, List.append_nil, Nat.zero_add, Nat.add_zero, Nat.reduceAdd, Nat.reduceBEq, Nat.reduceEqDiff, Nat.ble, BEq.rfl, Bool.and_true, Bool.and_self, cond_true, beq_self_eq_true]; rfl)) ?_)
    clear hl a; intro a hl
    refine wl (wl_val hl rfl trivial (r_eqlA hl rfl rfl eqf55 shp55 (by simp only [unlitL, unlit]; rfl) (by simp only [unlitL, unlit]; rfl) (by first | exact ⟨trivial⟩ | (refine ⟨?_⟩; simp [LitsOk, litOk, Fits]; done) | (refine ⟨?_⟩; simp [LitsOk, litOk, Fits]; omega)) (by first | exact ⟨trivial⟩ | (refine ⟨?_⟩; simp [LitsOk, litOk, Fits]; done) | (refine ⟨?_⟩; simp [LitsOk, litOk, Fits]; omega))) ?_)
    clear hl a; intro a hl
    refine wl (wl_val hl rfl trivial (r_assign hl rfl) ?_)
    clear hl a; intro a hl
    refine w_nil ?_
    have hl2 := hl.add (t := 1) (hl.add (t := 3) (hl.add (t := 4) (hl.add (t := 5) (hl.nil) rfl) rfl) rfl) rfl; clear hl; have hl := hl2; clear hl2
    refine then_normal ?_
    refine c_seq ?_
    refine c_seq ?_
    refine c_region ?_
    refine wl (wl_val hl rfl trivial (r_field hl rfl fld57_0) ?_)
    clear hl a; intro a hl
    refine wl (w_load hl hh rfl trivial one49 rfl (by repeat (first | exact find_head | apply find_tail)) (by first | rfl) ?_)
    clear hl a; intro a hl
    refine w_nil ?_
    have hl2 := hl.add (t := 1) (hl.add (t := 3) (hl.add (t := 4) (hl.add (t := 5) (hl.add (t := 24) (hl.nil) rfl) rfl) rfl) rfl) rfl; clear hl; have hl := hl2; clear hl2
    refine then_normal ?_
    refine wp_block ?_
    refine c_seq ?_
    refine c_region ?_
    refine wl (wl_val hl rfl trivial (r_eql hl rfl rfl) ?_)
    clear hl a; intro a hl
    refine wl (wl_val hl rfl trivial (r_assign hl rfl) ?_)
    clear hl a; intro a hl
    refine w_nil ?_
    have hl2 := hl.add (t := 1) (hl.add (t := 3) (hl.add (t := 4) (hl.add (t := 5) (hl.add (t := 24) (hl.add (t := 25) (hl.nil) rfl) rfl) rfl) rfl) rfl) rfl; clear hl; have hl := hl2; clear hl2
    refine then_normal ?_
    refine c_cond hl rfl ?_ ?_
    · intro hc0
      try simp only [decide_eq_true_eq, decide_eq_false_iff_not, Bool.not_eq_true', Bool.not_eq_false', Bool.not_eq_true, Bool.not_eq_false, Bool.and_eq_true, Bool.or_eq_true, Bool.and_eq_false_iff, Bool.or_eq_false_iff, Bool.not_not, ne_eq, Int.not_lt, Int.not_le, Decidable.not_not, beq_iff_eq, bne_iff_ne] at hc0
      refine c_seq ?_
      refine c_region ?_
      refine wl (wl_val hl rfl trivial (r_field hl rfl fld57_5) ?_)
      clear hl a; intro a hl
      refine wl (wl_val hl rfl trivial (r_field hl rfl fld53_1) ?_)
      clear hl a; intro a hl
      refine wl (w_load hl hh rfl trivial one5 rfl (by repeat (first | exact find_head | apply find_tail)) (by first | rfl) ?_)
      clear hl a; intro a hl
      refine wl (wl_val hl rfl trivial (r_eql hl rfl rfl) ?_)
      clear hl a; intro a hl
      refine wl (wl_val hl rfl trivial (r_move hl rfl) ?_)
      clear hl a; intro a hl
      refine sl_split (t := 31) hl rfl ?_ ?_
      · intro hg2; clear hl; intro hl
        try simp only [decide_eq_true_eq, decide_eq_false_iff_not, Bool.not_eq_true', Bool.not_eq_false', Bool.not_eq_true, Bool.not_eq_false, Bool.and_eq_true, Bool.or_eq_true, Bool.and_eq_false_iff, Bool.or_eq_false_iff, Bool.not_not, ne_eq, Int.not_lt, Int.not_le, Decidable.not_not, beq_iff_eq, bne_iff_ne] at hg2
        refine wl (wl_skip hl rfl ⟨_, _, rfl, rfl, rfl⟩ ?_)
        clear hl a; intro a hl
        refine wl (wl_skip hl rfl ⟨_, _, rfl, rfl, rfl⟩ ?_)
        clear hl a; intro a hl
        refine wl (wl_skip hl rfl ⟨_, _, rfl, rfl, rfl⟩ ?_)
        clear hl a; intro a hl
        refine wl (wl_skip hl rfl ⟨_, _, rfl, rfl, rfl⟩ ?_)
        clear hl a; intro a hl
        refine wl (wl_skip hl rfl ⟨_, _, rfl, rfl, rfl⟩ ?_)
        clear hl a; intro a hl
        refine wl (wl_skipU hl rfl ⟨_, _, rfl, rfl, rfl⟩ ?_)
        clear hl a; intro a hl
        refine wl (wl_skipU hl rfl ⟨_, _, rfl, rfl, rfl⟩ ?_)
        clear hl a; intro a hl
        refine wl (wl_skipU hl rfl ⟨_, _, rfl, rfl, rfl⟩ ?_)
        clear hl a; intro a hl
        refine wl (wl_skipU hl rfl ⟨_, _, rfl, rfl, rfl⟩ ?_)
        clear hl a; intro a hl
        refine wl (wl_skipU hl rfl ⟨_, _, rfl, rfl, rfl⟩ ?_)
        clear hl a; intro a hl
        refine wl (wl_skipU hl rfl ⟨_, _, rfl, rfl, rfl⟩ ?_)
        clear hl a; intro a hl
        refine wl (wl_skip hl rfl ⟨_, _, rfl, rfl, rfl⟩ ?_)
        clear hl a; intro a hl
        refine wl (wl_val hl rfl trivial (r_pickT hl rfl rfl) ?_)
        clear hl a; intro a hl
        refine wl (wl_val hl rfl trivial (r_assign hl rfl) ?_)
        clear hl a; intro a hl
        refine w_nil ?_
        have hl2 := hl.add (t := 1) (hl.add (t := 3) (hl.add (t := 5) (hl.add (t := 6) (hl.nil) rfl) rfl) rfl) rfl; clear hl; have hl := hl2; clear hl2
        refine then_normal ?_
        refine c_seq ?_
        refine c_region ?_
        refine wl (wl_val hl rfl trivial (r_field hl rfl fld57_1) ?_)
        clear hl a; intro a hl
        refine wl (w_load hl hh rfl trivial one5 rfl (by repeat (first | exact find_head | apply find_tail)) (by first | rfl) ?_)
        clear hl a; intro a hl
        refine wl (w_call hl hh rfl trivial rfl cal64 rfl (isDeviceM _) (by repeat (first | exact keeps_nil | apply keeps_cons (by repeat (first | exact find_head | apply find_tail)) (by first  | rfl) | exact keeps_self | apply keeps_mv)) trivial ?_)
        clear hl hh a w; intro vc Fc a w hR hl hh
        obtain ⟨rfl, rfl⟩ := hR
        try simp only [List.cons_append, List.nil_append] at hh
        refine wl (wl_val hl rfl trivial (r_move hl rfl) ?_)
        clear hl a; intro a hl
        refine sl_split (t := 48) hl rfl ?_ ?_
        · intro hg3; clear hl; intro hl
          try simp only [decide_eq_true_eq, decide_eq_false_iff_not, Bool.not_eq_true', Bool.not_eq_false', Bool.not_eq_true, Bool.not_eq_false, Bool.and_eq_true, Bool.or_eq_true, Bool.and_eq_false_iff, Bool.or_eq_false_iff, Bool.not_not, ne_eq, Int.not_lt, Int.not_le, Decidable.not_not, beq_iff_eq, bne_iff_ne] at hg3
          refine wl (wl_val hl rfl ⟨_, _, rfl, rfl, rfl⟩ (r_field hl rfl fld57_5) ?_)
          clear hl a; intro a hl
          refine wl (wl_val hl rfl ⟨_, _, rfl, rfl, rfl⟩ (r_field hl rfl fld53_0) ?_)
          clear hl a; intro a hl
          refine wl (w_loadA hl hh rfl ⟨_, _, rfl, rfl, rfl⟩ agg51 rfl (by repeat (first | exact find_head | apply find_tail)) (by first | (simp only [List.getElem?_cons_zero, List.getElem?_cons_succ, Value.cells, List.take_zero, List.take_succ_cons, List.take_nil, List.drop_zero, List.drop_succ_cons, List.drop_nil, List.length_cons, List.length_nil, List.cons_append, List.nil_append, List.append_nil, Nat.zero_add, Nat.add_zero, Nat.reduceAdd, Nat.reduceBEq, Nat.reduceEqDiff, Nat.ble, BEq.rfl, Bool.and_true, Bool.and_self, cond_true, beq_self_eq_true]; rfl)) (by first | rfl | (simp; done)) ?_)
          clear hl a; intro a hl
          refine wl (w_call hl hh rfl ⟨_, _, rfl, rfl, rfl⟩ rfl cal65 rfl (isPrefixM _ _ (by omega) (by omega) (by omega) (by omega)) (by repeat (first | exact keeps_nil | apply keeps_cons (by repeat (first | exact find_head | apply find_tail)) (by first  | rfl) | exact keeps_self | apply keeps_mv)) trivial ?_)
          clear hl hh a w; intro vc Fc a w hR hl hh
          obtain ⟨rfl, rfl⟩ := hR
          try simp only [List.cons_append, List.nil_append] at hh
          refine wl (wl_val hl rfl trivial (r_pickT hl rfl rfl) ?_)
          clear hl a; intro a hl
          refine wl (wl_val hl rfl trivial (r_move hl rfl) ?_)
          clear hl a; intro a hl
          refine sl_split (t := 54) hl rfl ?_ ?_
          · intro hg4; clear hl; intro hl
            try simp only [decide_eq_true_eq, decide_eq_false_iff_not, Bool.not_eq_true', Bool.not_eq_false', Bool.not_eq_true, Bool.not_eq_false, Bool.and_eq_true, Bool.or_eq_true, Bool.and_eq_false_iff, Bool.or_eq_false_iff, Bool.not_not, ne_eq, Int.not_lt, Int.not_le, Decidable.not_not, beq_iff_eq, bne_iff_ne] at hg4
            refine wl (wl_val hl rfl ⟨_, _, rfl, rfl, rfl⟩ (r_move hl rfl) ?_)
            clear hl a; intro a hl
            refine wl (wl_val hl rfl trivial (r_pickT hl rfl rfl) ?_)
            clear hl a; intro a hl
            refine wl (wl_val hl rfl trivial (r_move hl rfl) ?_)
            clear hl a; intro a hl
            refine wl (wl_val hl rfl ⟨_, _, rfl, rfl, rfl⟩ (r_move hl rfl) ?_)
            clear hl a; intro a hl
            refine wl (wl_val hl rfl trivial (r_pickT hl rfl rfl) ?_)
            clear hl a; intro a hl
            refine wl (wl_val hl rfl trivial (r_move hl rfl) ?_)
            clear hl a; intro a hl
            refine sl_split (t := 60) hl rfl ?_ ?_
            · intro hg5; clear hl; intro hl
              try simp only [decide_eq_true_eq, decide_eq_false_iff_not, Bool.not_eq_true', Bool.not_eq_false', Bool.not_eq_true, Bool.not_eq_false, Bool.and_eq_true, Bool.or_eq_true, Bool.and_eq_false_iff, Bool.or_eq_false_iff, Bool.not_not, ne_eq, Int.not_lt, Int.not_le, Decidable.not_not, beq_iff_eq, bne_iff_ne] at hg5
              refine wl (wl_val hl rfl ⟨_, _, rfl, rfl, rfl⟩ (r_move hl rfl) ?_)
              clear hl a; intro a hl
              refine wl (wl_val hl rfl trivial (r_pickT hl rfl rfl) ?_)
              clear hl a; intro a hl
              refine wl (wl_val hl rfl trivial (r_move hl rfl) ?_)
              clear hl a; intro a hl
              refine sl_split (t := 63) hl rfl ?_ ?_
              · intro hg6; clear hl; intro hl
                try simp only [decide_eq_true_eq, decide_eq_false_iff_not, Bool.not_eq_true', Bool.not_eq_false', Bool.not_eq_true, Bool.not_eq_false, Bool.and_eq_true, Bool.or_eq_true, Bool.and_eq_false_iff, Bool.or_eq_false_iff, Bool.not_not, ne_eq, Int.not_lt, Int.not_le, Decidable.not_not, beq_iff_eq, bne_iff_ne] at hg6
                refine wl (wl_val hl rfl ⟨_, _, rfl, rfl, rfl⟩ (r_field hl rfl fld57_3) ?_)
                clear hl a; intro a hl
                refine wl (w_load hl hh rfl ⟨_, _, rfl, rfl, rfl⟩ one5 rfl (by repeat (first | exact find_head | apply find_tail)) (by first | rfl) ?_)
                clear hl a; intro a hl
                refine wl (wl_val hl rfl ⟨_, _, rfl, rfl, rfl⟩ (r_eql hl rfl rfl) ?_)
                clear hl a; intro a hl
                refine wl (wl_val hl rfl trivial (r_pickT hl rfl rfl) ?_)
                clear hl a; intro a hl
                refine wl (wl_val hl rfl trivial (r_assign hl rfl) ?_)
                clear hl a; intro a hl
                refine w_nil ?_
                have hl2 := hl.add (t := 2) (hl.nil) rfl; clear hl; have hl := hl2; clear hl2
                refine then_normal ?_
                refine wp_ret ?_
                refine blk_ret ?_
                refine then_ret ?_
                refine f_ret1 (F' := []) hl hh rfl rfl (by repeat (first | exact keeps_nil | apply keeps_cons (by repeat (first | exact find_head | apply find_tail)) (by first  | rfl) | exact keeps_self | apply keeps_mv)) ?_
                first | (exfalso; omega) | exact ⟨congrArg Value.bool (by unfold wfF; simp only; (repeat (first | rw [if_pos (by omega)] | rw [if_neg (by omega)])); (try simp only [noPr, nxV]); (first | rw [show noRl ⟨kd, dv, pr, ix, up, ra, rl, via, pm, da, dl, cl⟩ = true by assumption] | rw [show noRl ⟨kd, dv, pr, ix, up, ra, rl, via, pm, da, dl, cl⟩ = false by assumption] | skip); (first | rw [show noRt ⟨kd, dv, pr, ix, up, ra, rl, via, pm, da, dl, cl⟩ = true by assumption] | rw [show noRt ⟨kd, dv, pr, ix, up, ra, rl, via, pm, da, dl, cl⟩ = false by assumption] | skip); (first | rw [show gpF ra rl = true by assumption] | rw [show gpF ra rl = false by assumption] | skip); (first | rw [show gpF da dl = true by assumption] | rw [show gpF da dl = false by assumption] | skip); (first | rw [show decide (dv < 16) = true from decide_eq_true (by omega)] | rw [show decide (dv < 16) = false from decide_eq_false (by omega)] | skip); (first | rw [show decide (via = 16) = true from decide_eq_true (by omega)] | rw [show decide (via = 16) = false from decide_eq_false (by omega)] | skip); (first | rw [show decide (via < 16) = true from decide_eq_true (by omega)] | rw [show decide (via < 16) = false from decide_eq_false (by omega)] | skip); (first | rw [show decide (via = dv) = true from decide_eq_true (by omega)] | rw [show decide (via = dv) = false from decide_eq_false (by omega)] | skip); (first | rw [show decide (via = 0) = true from decide_eq_true (by omega)] | rw [show decide (via = 0) = false from decide_eq_false (by omega)] | skip); (first | rw [show decide (pr = 0) = true from decide_eq_true (by omega)] | rw [show decide (pr = 0) = false from decide_eq_false (by omega)] | skip); (first | rw [show decide (pr < 16) = true from decide_eq_true (by omega)] | rw [show decide (pr < 16) = false from decide_eq_false (by omega)] | skip); (first | rw [show decide (dv < pr) = true from decide_eq_true (by omega)] | rw [show decide (dv < pr) = false from decide_eq_false (by omega)] | skip); (first | rw [show decide (dv = pr) = true from decide_eq_true (by omega)] | rw [show decide (dv = pr) = false from decide_eq_false (by omega)] | skip); (first | rw [show decide (cl ≤ 16) = true from decide_eq_true (by omega)] | rw [show decide (cl ≤ 16) = false from decide_eq_false (by omega)] | skip); (first | rw [show decide (ix < 64) = true from decide_eq_true (by omega)] | rw [show decide (ix < 64) = false from decide_eq_false (by omega)] | skip); first | rfl | (simp only [Bool.true_and, Bool.and_true, Bool.false_and, Bool.and_false, Bool.true_or, Bool.false_or, Bool.or_false, Bool.or_true, Bool.not_true, Bool.not_false]; first | done | rfl | ((repeat (first | rw [show up = true by assumption] | rw [show up = false by assumption] | rw [show decide (ix = 0) = true from decide_eq_true (by omega)] | rw [show decide (ix = 0) = false from decide_eq_false (by omega)])); rfl))), rfl⟩
              · intro hg6; clear hl; intro hl
                try simp only [decide_eq_true_eq, decide_eq_false_iff_not, Bool.not_eq_true', Bool.not_eq_false', Bool.not_eq_true, Bool.not_eq_false, Bool.and_eq_true, Bool.or_eq_true, Bool.and_eq_false_iff, Bool.or_eq_false_iff, Bool.not_not, ne_eq, Int.not_lt, Int.not_le, Decidable.not_not, beq_iff_eq, bne_iff_ne] at hg6
                refine wl (wl_skip hl rfl ⟨_, _, rfl, rfl, rfl⟩ ?_)
                clear hl a; intro a hl
                refine wl (wl_skip hl rfl ⟨_, _, rfl, rfl, rfl⟩ ?_)
                clear hl a; intro a hl
                refine wl (wl_skip hl rfl ⟨_, _, rfl, rfl, rfl⟩ ?_)
                clear hl a; intro a hl
                refine wl (wl_val hl rfl trivial (r_pickF hl rfl rfl) ?_)
                clear hl a; intro a hl
                refine wl (wl_val hl rfl trivial (r_assign hl rfl) ?_)
                clear hl a; intro a hl
                refine w_nil ?_
                have hl2 := hl.add (t := 2) (hl.nil) rfl; clear hl; have hl := hl2; clear hl2
                refine then_normal ?_
                refine wp_ret ?_
                refine blk_ret ?_
                refine then_ret ?_
                refine f_ret1 (F' := []) hl hh rfl rfl (by repeat (first | exact keeps_nil | apply keeps_cons (by repeat (first | exact find_head | apply find_tail)) (by first  | rfl) | exact keeps_self | apply keeps_mv)) ?_
                first | (exfalso; omega) | exact ⟨congrArg Value.bool (by unfold wfF; simp only; (repeat (first | rw [if_pos (by omega)] | rw [if_neg (by omega)])); (try simp only [noPr, nxV]); (first | rw [show noRl ⟨kd, dv, pr, ix, up, ra, rl, via, pm, da, dl, cl⟩ = true by assumption] | rw [show noRl ⟨kd, dv, pr, ix, up, ra, rl, via, pm, da, dl, cl⟩ = false by assumption] | skip); (first | rw [show noRt ⟨kd, dv, pr, ix, up, ra, rl, via, pm, da, dl, cl⟩ = true by assumption] | rw [show noRt ⟨kd, dv, pr, ix, up, ra, rl, via, pm, da, dl, cl⟩ = false by assumption] | skip); (first | rw [show gpF ra rl = true by assumption] | rw [show gpF ra rl = false by assumption] | skip); (first | rw [show gpF da dl = true by assumption] | rw [show gpF da dl = false by assumption] | skip); (first | rw [show decide (dv < 16) = true from decide_eq_true (by omega)] | rw [show decide (dv < 16) = false from decide_eq_false (by omega)] | skip); (first | rw [show decide (via = 16) = true from decide_eq_true (by omega)] | rw [show decide (via = 16) = false from decide_eq_false (by omega)] | skip); (first | rw [show decide (via < 16) = true from decide_eq_true (by omega)] | rw [show decide (via < 16) = false from decide_eq_false (by omega)] | skip); (first | rw [show decide (via = dv) = true from decide_eq_true (by omega)] | rw [show decide (via = dv) = false from decide_eq_false (by omega)] | skip); (first | rw [show decide (via = 0) = true from decide_eq_true (by omega)] | rw [show decide (via = 0) = false from decide_eq_false (by omega)] | skip); (first | rw [show decide (pr = 0) = true from decide_eq_true (by omega)] | rw [show decide (pr = 0) = false from decide_eq_false (by omega)] | skip); (first | rw [show decide (pr < 16) = true from decide_eq_true (by omega)] | rw [show decide (pr < 16) = false from decide_eq_false (by omega)] | skip); (first | rw [show decide (dv < pr) = true from decide_eq_true (by omega)] | rw [show decide (dv < pr) = false from decide_eq_false (by omega)] | skip); (first | rw [show decide (dv = pr) = true from decide_eq_true (by omega)] | rw [show decide (dv = pr) = false from decide_eq_false (by omega)] | skip); (first | rw [show decide (cl ≤ 16) = true from decide_eq_true (by omega)] | rw [show decide (cl ≤ 16) = false from decide_eq_false (by omega)] | skip); (first | rw [show decide (ix < 64) = true from decide_eq_true (by omega)] | rw [show decide (ix < 64) = false from decide_eq_false (by omega)] | skip); first | rfl | (simp only [Bool.true_and, Bool.and_true, Bool.false_and, Bool.and_false, Bool.true_or, Bool.false_or, Bool.or_false, Bool.or_true, Bool.not_true, Bool.not_false]; first | done | rfl | ((repeat (first | rw [show up = true by assumption] | rw [show up = false by assumption] | rw [show decide (ix = 0) = true from decide_eq_true (by omega)] | rw [show decide (ix = 0) = false from decide_eq_false (by omega)])); rfl))), rfl⟩
            · intro hg5; clear hl; intro hl
              try simp only [decide_eq_true_eq, decide_eq_false_iff_not, Bool.not_eq_true', Bool.not_eq_false', Bool.not_eq_true, Bool.not_eq_false, Bool.and_eq_true, Bool.or_eq_true, Bool.and_eq_false_iff, Bool.or_eq_false_iff, Bool.not_not, ne_eq, Int.not_lt, Int.not_le, Decidable.not_not, beq_iff_eq, bne_iff_ne] at hg5
              refine wl (wl_skip hl rfl ⟨_, _, rfl, rfl, rfl⟩ ?_)
              clear hl a; intro a hl
              refine wl (wl_val hl rfl trivial (r_pickF hl rfl rfl) ?_)
              clear hl a; intro a hl
              refine wl (wl_val hl rfl trivial (r_move hl rfl) ?_)
              clear hl a; intro a hl
              refine wl (wl_skip hl rfl ⟨_, _, rfl, rfl, rfl⟩ ?_)
              clear hl a; intro a hl
              refine wl (wl_skip hl rfl ⟨_, _, rfl, rfl, rfl⟩ ?_)
              clear hl a; intro a hl
              refine wl (wl_skip hl rfl ⟨_, _, rfl, rfl, rfl⟩ ?_)
              clear hl a; intro a hl
              refine wl (wl_val hl rfl trivial (r_pickF hl rfl rfl) ?_)
              clear hl a; intro a hl
              refine wl (wl_val hl rfl trivial (r_assign hl rfl) ?_)
              clear hl a; intro a hl
              refine w_nil ?_
              have hl2 := hl.add (t := 2) (hl.nil) rfl; clear hl; have hl := hl2; clear hl2
              refine then_normal ?_
              refine wp_ret ?_
              refine blk_ret ?_
              refine then_ret ?_
              refine f_ret1 (F' := []) hl hh rfl rfl (by repeat (first | exact keeps_nil | apply keeps_cons (by repeat (first | exact find_head | apply find_tail)) (by first  | rfl) | exact keeps_self | apply keeps_mv)) ?_
              first | (exfalso; omega) | exact ⟨congrArg Value.bool (by unfold wfF; simp only; (repeat (first | rw [if_pos (by omega)] | rw [if_neg (by omega)])); (try simp only [noPr, nxV]); (first | rw [show noRl ⟨kd, dv, pr, ix, up, ra, rl, via, pm, da, dl, cl⟩ = true by assumption] | rw [show noRl ⟨kd, dv, pr, ix, up, ra, rl, via, pm, da, dl, cl⟩ = false by assumption] | skip); (first | rw [show noRt ⟨kd, dv, pr, ix, up, ra, rl, via, pm, da, dl, cl⟩ = true by assumption] | rw [show noRt ⟨kd, dv, pr, ix, up, ra, rl, via, pm, da, dl, cl⟩ = false by assumption] | skip); (first | rw [show gpF ra rl = true by assumption] | rw [show gpF ra rl = false by assumption] | skip); (first | rw [show gpF da dl = true by assumption] | rw [show gpF da dl = false by assumption] | skip); (first | rw [show decide (dv < 16) = true from decide_eq_true (by omega)] | rw [show decide (dv < 16) = false from decide_eq_false (by omega)] | skip); (first | rw [show decide (via = 16) = true from decide_eq_true (by omega)] | rw [show decide (via = 16) = false from decide_eq_false (by omega)] | skip); (first | rw [show decide (via < 16) = true from decide_eq_true (by omega)] | rw [show decide (via < 16) = false from decide_eq_false (by omega)] | skip); (first | rw [show decide (via = dv) = true from decide_eq_true (by omega)] | rw [show decide (via = dv) = false from decide_eq_false (by omega)] | skip); (first | rw [show decide (via = 0) = true from decide_eq_true (by omega)] | rw [show decide (via = 0) = false from decide_eq_false (by omega)] | skip); (first | rw [show decide (pr = 0) = true from decide_eq_true (by omega)] | rw [show decide (pr = 0) = false from decide_eq_false (by omega)] | skip); (first | rw [show decide (pr < 16) = true from decide_eq_true (by omega)] | rw [show decide (pr < 16) = false from decide_eq_false (by omega)] | skip); (first | rw [show decide (dv < pr) = true from decide_eq_true (by omega)] | rw [show decide (dv < pr) = false from decide_eq_false (by omega)] | skip); (first | rw [show decide (dv = pr) = true from decide_eq_true (by omega)] | rw [show decide (dv = pr) = false from decide_eq_false (by omega)] | skip); (first | rw [show decide (cl ≤ 16) = true from decide_eq_true (by omega)] | rw [show decide (cl ≤ 16) = false from decide_eq_false (by omega)] | skip); (first | rw [show decide (ix < 64) = true from decide_eq_true (by omega)] | rw [show decide (ix < 64) = false from decide_eq_false (by omega)] | skip); first | rfl | (simp only [Bool.true_and, Bool.and_true, Bool.false_and, Bool.and_false, Bool.true_or, Bool.false_or, Bool.or_false, Bool.or_true, Bool.not_true, Bool.not_false]; first | done | rfl | ((repeat (first | rw [show up = true by assumption] | rw [show up = false by assumption] | rw [show decide (ix = 0) = true from decide_eq_true (by omega)] | rw [show decide (ix = 0) = false from decide_eq_false (by omega)])); rfl))), rfl⟩
          · intro hg4; clear hl; intro hl
            try simp only [decide_eq_true_eq, decide_eq_false_iff_not, Bool.not_eq_true', Bool.not_eq_false', Bool.not_eq_true, Bool.not_eq_false, Bool.and_eq_true, Bool.or_eq_true, Bool.and_eq_false_iff, Bool.or_eq_false_iff, Bool.not_not, ne_eq, Int.not_lt, Int.not_le, Decidable.not_not, beq_iff_eq, bne_iff_ne] at hg4
            refine wl (wl_skip hl rfl ⟨_, _, rfl, rfl, rfl⟩ ?_)
            clear hl a; intro a hl
            refine wl (wl_val hl rfl trivial (r_pickF hl rfl rfl) ?_)
            clear hl a; intro a hl
            refine wl (wl_val hl rfl trivial (r_move hl rfl) ?_)
            clear hl a; intro a hl
            refine wl (wl_skip hl rfl ⟨_, _, rfl, rfl, rfl⟩ ?_)
            clear hl a; intro a hl
            refine wl (wl_val hl rfl trivial (r_pickF hl rfl rfl) ?_)
            clear hl a; intro a hl
            refine wl (wl_val hl rfl trivial (r_move hl rfl) ?_)
            clear hl a; intro a hl
            refine wl (wl_skip hl rfl ⟨_, _, rfl, rfl, rfl⟩ ?_)
            clear hl a; intro a hl
            refine wl (wl_val hl rfl trivial (r_pickF hl rfl rfl) ?_)
            clear hl a; intro a hl
            refine wl (wl_val hl rfl trivial (r_move hl rfl) ?_)
            clear hl a; intro a hl
            refine wl (wl_skip hl rfl ⟨_, _, rfl, rfl, rfl⟩ ?_)
            clear hl a; intro a hl
            refine wl (wl_skip hl rfl ⟨_, _, rfl, rfl, rfl⟩ ?_)
            clear hl a; intro a hl
            refine wl (wl_skip hl rfl ⟨_, _, rfl, rfl, rfl⟩ ?_)
            clear hl a; intro a hl
            refine wl (wl_val hl rfl trivial (r_pickF hl rfl rfl) ?_)
            clear hl a; intro a hl
            refine wl (wl_val hl rfl trivial (r_assign hl rfl) ?_)
            clear hl a; intro a hl
            refine w_nil ?_
            have hl2 := hl.add (t := 2) (hl.nil) rfl; clear hl; have hl := hl2; clear hl2
            refine then_normal ?_
            refine wp_ret ?_
            refine blk_ret ?_
            refine then_ret ?_
            refine f_ret1 (F' := []) hl hh rfl rfl (by repeat (first | exact keeps_nil | apply keeps_cons (by repeat (first | exact find_head | apply find_tail)) (by first  | rfl) | exact keeps_self | apply keeps_mv)) ?_
            first | (exfalso; omega) | exact ⟨congrArg Value.bool (by unfold wfF; simp only; (repeat (first | rw [if_pos (by omega)] | rw [if_neg (by omega)])); (try simp only [noPr, nxV]); (first | rw [show noRl ⟨kd, dv, pr, ix, up, ra, rl, via, pm, da, dl, cl⟩ = true by assumption] | rw [show noRl ⟨kd, dv, pr, ix, up, ra, rl, via, pm, da, dl, cl⟩ = false by assumption] | skip); (first | rw [show noRt ⟨kd, dv, pr, ix, up, ra, rl, via, pm, da, dl, cl⟩ = true by assumption] | rw [show noRt ⟨kd, dv, pr, ix, up, ra, rl, via, pm, da, dl, cl⟩ = false by assumption] | skip); (first | rw [show gpF ra rl = true by assumption] | rw [show gpF ra rl = false by assumption] | skip); (first | rw [show gpF da dl = true by assumption] | rw [show gpF da dl = false by assumption] | skip); (first | rw [show decide (dv < 16) = true from decide_eq_true (by omega)] | rw [show decide (dv < 16) = false from decide_eq_false (by omega)] | skip); (first | rw [show decide (via = 16) = true from decide_eq_true (by omega)] | rw [show decide (via = 16) = false from decide_eq_false (by omega)] | skip); (first | rw [show decide (via < 16) = true from decide_eq_true (by omega)] | rw [show decide (via < 16) = false from decide_eq_false (by omega)] | skip); (first | rw [show decide (via = dv) = true from decide_eq_true (by omega)] | rw [show decide (via = dv) = false from decide_eq_false (by omega)] | skip); (first | rw [show decide (via = 0) = true from decide_eq_true (by omega)] | rw [show decide (via = 0) = false from decide_eq_false (by omega)] | skip); (first | rw [show decide (pr = 0) = true from decide_eq_true (by omega)] | rw [show decide (pr = 0) = false from decide_eq_false (by omega)] | skip); (first | rw [show decide (pr < 16) = true from decide_eq_true (by omega)] | rw [show decide (pr < 16) = false from decide_eq_false (by omega)] | skip); (first | rw [show decide (dv < pr) = true from decide_eq_true (by omega)] | rw [show decide (dv < pr) = false from decide_eq_false (by omega)] | skip); (first | rw [show decide (dv = pr) = true from decide_eq_true (by omega)] | rw [show decide (dv = pr) = false from decide_eq_false (by omega)] | skip); (first | rw [show decide (cl ≤ 16) = true from decide_eq_true (by omega)] | rw [show decide (cl ≤ 16) = false from decide_eq_false (by omega)] | skip); (first | rw [show decide (ix < 64) = true from decide_eq_true (by omega)] | rw [show decide (ix < 64) = false from decide_eq_false (by omega)] | skip); first | rfl | (simp only [Bool.true_and, Bool.and_true, Bool.false_and, Bool.and_false, Bool.true_or, Bool.false_or, Bool.or_false, Bool.or_true, Bool.not_true, Bool.not_false]; first | done | rfl | ((repeat (first | rw [show up = true by assumption] | rw [show up = false by assumption] | rw [show decide (ix = 0) = true from decide_eq_true (by omega)] | rw [show decide (ix = 0) = false from decide_eq_false (by omega)])); rfl))), rfl⟩
        · intro hg3; clear hl; intro hl
          try simp only [decide_eq_true_eq, decide_eq_false_iff_not, Bool.not_eq_true', Bool.not_eq_false', Bool.not_eq_true, Bool.not_eq_false, Bool.and_eq_true, Bool.or_eq_true, Bool.and_eq_false_iff, Bool.or_eq_false_iff, Bool.not_not, ne_eq, Int.not_lt, Int.not_le, Decidable.not_not, beq_iff_eq, bne_iff_ne] at hg3
          refine wl (wl_skip hl rfl ⟨_, _, rfl, rfl, rfl⟩ ?_)
          clear hl a; intro a hl
          refine wl (wl_skip hl rfl ⟨_, _, rfl, rfl, rfl⟩ ?_)
          clear hl a; intro a hl
          refine wl (wl_skip hl rfl ⟨_, _, rfl, rfl, rfl⟩ ?_)
          clear hl a; intro a hl
          refine wl (wl_skip hl rfl ⟨_, _, rfl, rfl, rfl⟩ ?_)
          clear hl a; intro a hl
          refine wl (wl_val hl rfl trivial (r_pickF hl rfl rfl) ?_)
          clear hl a; intro a hl
          refine wl (wl_val hl rfl trivial (r_move hl rfl) ?_)
          clear hl a; intro a hl
          refine wl (wl_skip hl rfl ⟨_, _, rfl, rfl, rfl⟩ ?_)
          clear hl a; intro a hl
          refine wl (wl_val hl rfl trivial (r_pickF hl rfl rfl) ?_)
          clear hl a; intro a hl
          refine wl (wl_val hl rfl trivial (r_move hl rfl) ?_)
          clear hl a; intro a hl
          refine wl (wl_skip hl rfl ⟨_, _, rfl, rfl, rfl⟩ ?_)
          clear hl a; intro a hl
          refine wl (wl_val hl rfl trivial (r_pickF hl rfl rfl) ?_)
          clear hl a; intro a hl
          refine wl (wl_val hl rfl trivial (r_move hl rfl) ?_)
          clear hl a; intro a hl
          refine wl (wl_skip hl rfl ⟨_, _, rfl, rfl, rfl⟩ ?_)
          clear hl a; intro a hl
          refine wl (wl_val hl rfl trivial (r_pickF hl rfl rfl) ?_)
          clear hl a; intro a hl
          refine wl (wl_val hl rfl trivial (r_move hl rfl) ?_)
          clear hl a; intro a hl
          refine wl (wl_skip hl rfl ⟨_, _, rfl, rfl, rfl⟩ ?_)
          clear hl a; intro a hl
          refine wl (wl_skip hl rfl ⟨_, _, rfl, rfl, rfl⟩ ?_)
          clear hl a; intro a hl
          refine wl (wl_skip hl rfl ⟨_, _, rfl, rfl, rfl⟩ ?_)
          clear hl a; intro a hl
          refine wl (wl_val hl rfl trivial (r_pickF hl rfl rfl) ?_)
          clear hl a; intro a hl
          refine wl (wl_val hl rfl trivial (r_assign hl rfl) ?_)
          clear hl a; intro a hl
          refine w_nil ?_
          have hl2 := hl.add (t := 2) (hl.nil) rfl; clear hl; have hl := hl2; clear hl2
          refine then_normal ?_
          refine wp_ret ?_
          refine blk_ret ?_
          refine then_ret ?_
          refine f_ret1 (F' := []) hl hh rfl rfl (by repeat (first | exact keeps_nil | apply keeps_cons (by repeat (first | exact find_head | apply find_tail)) (by first  | rfl) | exact keeps_self | apply keeps_mv)) ?_
          first | (exfalso; omega) | exact ⟨congrArg Value.bool (by unfold wfF; simp only; (repeat (first | rw [if_pos (by omega)] | rw [if_neg (by omega)])); (try simp only [noPr, nxV]); (first | rw [show noRl ⟨kd, dv, pr, ix, up, ra, rl, via, pm, da, dl, cl⟩ = true by assumption] | rw [show noRl ⟨kd, dv, pr, ix, up, ra, rl, via, pm, da, dl, cl⟩ = false by assumption] | skip); (first | rw [show noRt ⟨kd, dv, pr, ix, up, ra, rl, via, pm, da, dl, cl⟩ = true by assumption] | rw [show noRt ⟨kd, dv, pr, ix, up, ra, rl, via, pm, da, dl, cl⟩ = false by assumption] | skip); (first | rw [show gpF ra rl = true by assumption] | rw [show gpF ra rl = false by assumption] | skip); (first | rw [show gpF da dl = true by assumption] | rw [show gpF da dl = false by assumption] | skip); (first | rw [show decide (dv < 16) = true from decide_eq_true (by omega)] | rw [show decide (dv < 16) = false from decide_eq_false (by omega)] | skip); (first | rw [show decide (via = 16) = true from decide_eq_true (by omega)] | rw [show decide (via = 16) = false from decide_eq_false (by omega)] | skip); (first | rw [show decide (via < 16) = true from decide_eq_true (by omega)] | rw [show decide (via < 16) = false from decide_eq_false (by omega)] | skip); (first | rw [show decide (via = dv) = true from decide_eq_true (by omega)] | rw [show decide (via = dv) = false from decide_eq_false (by omega)] | skip); (first | rw [show decide (via = 0) = true from decide_eq_true (by omega)] | rw [show decide (via = 0) = false from decide_eq_false (by omega)] | skip); (first | rw [show decide (pr = 0) = true from decide_eq_true (by omega)] | rw [show decide (pr = 0) = false from decide_eq_false (by omega)] | skip); (first | rw [show decide (pr < 16) = true from decide_eq_true (by omega)] | rw [show decide (pr < 16) = false from decide_eq_false (by omega)] | skip); (first | rw [show decide (dv < pr) = true from decide_eq_true (by omega)] | rw [show decide (dv < pr) = false from decide_eq_false (by omega)] | skip); (first | rw [show decide (dv = pr) = true from decide_eq_true (by omega)] | rw [show decide (dv = pr) = false from decide_eq_false (by omega)] | skip); (first | rw [show decide (cl ≤ 16) = true from decide_eq_true (by omega)] | rw [show decide (cl ≤ 16) = false from decide_eq_false (by omega)] | skip); (first | rw [show decide (ix < 64) = true from decide_eq_true (by omega)] | rw [show decide (ix < 64) = false from decide_eq_false (by omega)] | skip); first | rfl | (simp only [Bool.true_and, Bool.and_true, Bool.false_and, Bool.and_false, Bool.true_or, Bool.false_or, Bool.or_false, Bool.or_true, Bool.not_true, Bool.not_false]; first | done | rfl | ((repeat (first | rw [show up = true by assumption] | rw [show up = false by assumption] | rw [show decide (ix = 0) = true from decide_eq_true (by omega)] | rw [show decide (ix = 0) = false from decide_eq_false (by omega)])); rfl))), rfl⟩
      · intro hg2; clear hl; intro hl
        try simp only [decide_eq_true_eq, decide_eq_false_iff_not, Bool.not_eq_true', Bool.not_eq_false', Bool.not_eq_true, Bool.not_eq_false, Bool.and_eq_true, Bool.or_eq_true, Bool.and_eq_false_iff, Bool.or_eq_false_iff, Bool.not_not, ne_eq, Int.not_lt, Int.not_le, Decidable.not_not, beq_iff_eq, bne_iff_ne] at hg2
        refine wl (wl_val hl rfl ⟨_, _, rfl, rfl, rfl⟩ (r_field hl rfl fld57_5) ?_)
        clear hl a; intro a hl
        refine wl (wl_val hl rfl ⟨_, _, rfl, rfl, rfl⟩ (r_field hl rfl fld53_1) ?_)
        clear hl a; intro a hl
        refine wl (w_load hl hh rfl ⟨_, _, rfl, rfl, rfl⟩ one5 rfl (by repeat (first | exact find_head | apply find_tail)) (by first | rfl) ?_)
        clear hl a; intro a hl
        refine wl (w_call hl hh rfl ⟨_, _, rfl, rfl, rfl⟩ rfl cal64 rfl (isDeviceM _) (by repeat (first | exact keeps_nil | apply keeps_cons (by repeat (first | exact find_head | apply find_tail)) (by first  | rfl) | exact keeps_self | apply keeps_mv)) trivial ?_)
        clear hl hh a w; intro vc Fc a w hR hl hh
        obtain ⟨rfl, rfl⟩ := hR
        try simp only [List.cons_append, List.nil_append] at hh
        refine wl (wl_val hl rfl ⟨_, _, rfl, rfl, rfl⟩ (r_move hl rfl) ?_)
        clear hl a; intro a hl
        refine sl_split (t := 36) hl rfl ?_ ?_
        · intro hg7; clear hl; intro hl
          try simp only [decide_eq_true_eq, decide_eq_false_iff_not, Bool.not_eq_true', Bool.not_eq_false', Bool.not_eq_true, Bool.not_eq_false, Bool.and_eq_true, Bool.or_eq_true, Bool.and_eq_false_iff, Bool.or_eq_false_iff, Bool.not_not, ne_eq, Int.not_lt, Int.not_le, Decidable.not_not, beq_iff_eq, bne_iff_ne] at hg7
          refine wl (wl_val hl rfl ⟨_, _, rfl, rfl, rfl⟩ (r_field hl rfl fld57_5) ?_)
          clear hl a; intro a hl
          refine wl (wl_val hl rfl ⟨_, _, rfl, rfl, rfl⟩ (r_field hl rfl fld53_1) ?_)
          clear hl a; intro a hl
          refine wl (w_load hl hh rfl ⟨_, _, rfl, rfl, rfl⟩ one5 rfl (by repeat (first | exact find_head | apply find_tail)) (by first | rfl) ?_)
          clear hl a; intro a hl
          refine wl (wl_val hl rfl ⟨_, _, rfl, rfl, rfl⟩ (r_field hl rfl fld57_1) ?_)
          clear hl a; intro a hl
          refine wl (w_load hl hh rfl ⟨_, _, rfl, rfl, rfl⟩ one5 rfl (by repeat (first | exact find_head | apply find_tail)) (by first | rfl) ?_)
          clear hl a; intro a hl
          refine wl (wl_val hl rfl ⟨_, _, rfl, rfl, rfl⟩ (r_neq hl rfl rfl) ?_)
          clear hl a; intro a hl
          refine wl (wl_val hl rfl ⟨_, _, rfl, rfl, rfl⟩ (r_pickT hl rfl rfl) ?_)
          clear hl a; intro a hl
          refine wl (wl_val hl rfl trivial (r_pickF hl rfl rfl) ?_)
          clear hl a; intro a hl
          refine wl (wl_val hl rfl trivial (r_assign hl rfl) ?_)
          clear hl a; intro a hl
          refine w_nil ?_
          have hl2 := hl.add (t := 1) (hl.add (t := 3) (hl.add (t := 5) (hl.add (t := 6) (hl.nil) rfl) rfl) rfl) rfl; clear hl; have hl := hl2; clear hl2
          refine then_normal ?_
          refine c_seq ?_
          refine c_region ?_
          refine wl (wl_val hl rfl trivial (r_field hl rfl fld57_1) ?_)
          clear hl a; intro a hl
          refine wl (w_load hl hh rfl trivial one5 rfl (by repeat (first | exact find_head | apply find_tail)) (by first | rfl) ?_)
          clear hl a; intro a hl
          refine wl (w_call hl hh rfl trivial rfl cal64 rfl (isDeviceM _) (by repeat (first | exact keeps_nil | apply keeps_cons (by repeat (first | exact find_head | apply find_tail)) (by first  | rfl) | exact keeps_self | apply keeps_mv)) trivial ?_)
          clear hl hh a w; intro vc Fc a w hR hl hh
          obtain ⟨rfl, rfl⟩ := hR
          try simp only [List.cons_append, List.nil_append] at hh
          refine wl (wl_val hl rfl trivial (r_move hl rfl) ?_)
          clear hl a; intro a hl
          refine sl_split (t := 48) hl rfl ?_ ?_
          · intro hg8; clear hl; intro hl
            try simp only [decide_eq_true_eq, decide_eq_false_iff_not, Bool.not_eq_true', Bool.not_eq_false', Bool.not_eq_true, Bool.not_eq_false, Bool.and_eq_true, Bool.or_eq_true, Bool.and_eq_false_iff, Bool.or_eq_false_iff, Bool.not_not, ne_eq, Int.not_lt, Int.not_le, Decidable.not_not, beq_iff_eq, bne_iff_ne] at hg8
            refine wl (wl_val hl rfl ⟨_, _, rfl, rfl, rfl⟩ (r_field hl rfl fld57_5) ?_)
            clear hl a; intro a hl
            refine wl (wl_val hl rfl ⟨_, _, rfl, rfl, rfl⟩ (r_field hl rfl fld53_0) ?_)
            clear hl a; intro a hl
            refine wl (w_loadA hl hh rfl ⟨_, _, rfl, rfl, rfl⟩ agg51 rfl (by repeat (first | exact find_head | apply find_tail)) (by first | (simp only [List.getElem?_cons_zero, List.getElem?_cons_succ, Value.cells, List.take_zero, List.take_succ_cons, List.take_nil, List.drop_zero, List.drop_succ_cons, List.drop_nil, List.length_cons, List.length_nil, List.cons_append, List.nil_append, List.append_nil, Nat.zero_add, Nat.add_zero, Nat.reduceAdd, Nat.reduceBEq, Nat.reduceEqDiff, Nat.ble, BEq.rfl, Bool.and_true, Bool.and_self, cond_true, beq_self_eq_true]; rfl)) (by first | rfl | (simp; done)) ?_)
            clear hl a; intro a hl
            refine wl (w_call hl hh rfl ⟨_, _, rfl, rfl, rfl⟩ rfl cal65 rfl (isPrefixM _ _ (by omega) (by omega) (by omega) (by omega)) (by repeat (first | exact keeps_nil | apply keeps_cons (by repeat (first | exact find_head | apply find_tail)) (by first  | rfl) | exact keeps_self | apply keeps_mv)) trivial ?_)
            clear hl hh a w; intro vc Fc a w hR hl hh
            obtain ⟨rfl, rfl⟩ := hR
            try simp only [List.cons_append, List.nil_append] at hh
            refine wl (wl_val hl rfl trivial (r_pickT hl rfl rfl) ?_)
            clear hl a; intro a hl
            refine wl (wl_val hl rfl trivial (r_move hl rfl) ?_)
            clear hl a; intro a hl
            refine sl_split (t := 54) hl rfl ?_ ?_
            · intro hg9; clear hl; intro hl
              try simp only [decide_eq_true_eq, decide_eq_false_iff_not, Bool.not_eq_true', Bool.not_eq_false', Bool.not_eq_true, Bool.not_eq_false, Bool.and_eq_true, Bool.or_eq_true, Bool.and_eq_false_iff, Bool.or_eq_false_iff, Bool.not_not, ne_eq, Int.not_lt, Int.not_le, Decidable.not_not, beq_iff_eq, bne_iff_ne] at hg9
              refine wl (wl_val hl rfl ⟨_, _, rfl, rfl, rfl⟩ (r_move hl rfl) ?_)
              clear hl a; intro a hl
              refine wl (wl_val hl rfl trivial (r_pickT hl rfl rfl) ?_)
              clear hl a; intro a hl
              refine wl (wl_val hl rfl trivial (r_move hl rfl) ?_)
              clear hl a; intro a hl
              refine sl_split (t := 57) hl rfl ?_ ?_
              · intro hg10; clear hl; intro hl
                try simp only [decide_eq_true_eq, decide_eq_false_iff_not, Bool.not_eq_true', Bool.not_eq_false', Bool.not_eq_true, Bool.not_eq_false, Bool.and_eq_true, Bool.or_eq_true, Bool.and_eq_false_iff, Bool.or_eq_false_iff, Bool.not_not, ne_eq, Int.not_lt, Int.not_le, Decidable.not_not, beq_iff_eq, bne_iff_ne] at hg10
                refine wl (wl_val hl rfl ⟨_, _, rfl, rfl, rfl⟩ (r_move hl rfl) ?_)
                clear hl a; intro a hl
                refine wl (wl_val hl rfl trivial (r_pickT hl rfl rfl) ?_)
                clear hl a; intro a hl
                refine wl (wl_val hl rfl trivial (r_move hl rfl) ?_)
                clear hl a; intro a hl
                refine sl_split (t := 60) hl rfl ?_ ?_
                · intro hg11; clear hl; intro hl
                  try simp only [decide_eq_true_eq, decide_eq_false_iff_not, Bool.not_eq_true', Bool.not_eq_false', Bool.not_eq_true, Bool.not_eq_false, Bool.and_eq_true, Bool.or_eq_true, Bool.and_eq_false_iff, Bool.or_eq_false_iff, Bool.not_not, ne_eq, Int.not_lt, Int.not_le, Decidable.not_not, beq_iff_eq, bne_iff_ne] at hg11
                  refine wl (wl_val hl rfl ⟨_, _, rfl, rfl, rfl⟩ (r_move hl rfl) ?_)
                  clear hl a; intro a hl
                  refine wl (wl_val hl rfl trivial (r_pickT hl rfl rfl) ?_)
                  clear hl a; intro a hl
                  refine wl (wl_val hl rfl trivial (r_move hl rfl) ?_)
                  clear hl a; intro a hl
                  refine sl_split (t := 63) hl rfl ?_ ?_
                  · intro hg12; clear hl; intro hl
                    try simp only [decide_eq_true_eq, decide_eq_false_iff_not, Bool.not_eq_true', Bool.not_eq_false', Bool.not_eq_true, Bool.not_eq_false, Bool.and_eq_true, Bool.or_eq_true, Bool.and_eq_false_iff, Bool.or_eq_false_iff, Bool.not_not, ne_eq, Int.not_lt, Int.not_le, Decidable.not_not, beq_iff_eq, bne_iff_ne] at hg12
                    refine wl (wl_val hl rfl ⟨_, _, rfl, rfl, rfl⟩ (r_field hl rfl fld57_3) ?_)
                    clear hl a; intro a hl
                    refine wl (w_load hl hh rfl ⟨_, _, rfl, rfl, rfl⟩ one5 rfl (by repeat (first | exact find_head | apply find_tail)) (by first | rfl) ?_)
                    clear hl a; intro a hl
                    refine wl (wl_val hl rfl ⟨_, _, rfl, rfl, rfl⟩ (r_eql hl rfl rfl) ?_)
                    clear hl a; intro a hl
                    refine wl (wl_val hl rfl trivial (r_pickT hl rfl rfl) ?_)
                    clear hl a; intro a hl
                    refine wl (wl_val hl rfl trivial (r_assign hl rfl) ?_)
                    clear hl a; intro a hl
                    refine w_nil ?_
                    have hl2 := hl.add (t := 2) (hl.nil) rfl; clear hl; have hl := hl2; clear hl2
                    refine then_normal ?_
                    refine wp_ret ?_
                    refine blk_ret ?_
                    refine then_ret ?_
                    refine f_ret1 (F' := []) hl hh rfl rfl (by repeat (first | exact keeps_nil | apply keeps_cons (by repeat (first | exact find_head | apply find_tail)) (by first  | rfl) | exact keeps_self | apply keeps_mv)) ?_
                    first | (exfalso; omega) | exact ⟨congrArg Value.bool (by unfold wfF; simp only; (repeat (first | rw [if_pos (by omega)] | rw [if_neg (by omega)])); (try simp only [noPr, nxV]); (first | rw [show noRl ⟨kd, dv, pr, ix, up, ra, rl, via, pm, da, dl, cl⟩ = true by assumption] | rw [show noRl ⟨kd, dv, pr, ix, up, ra, rl, via, pm, da, dl, cl⟩ = false by assumption] | skip); (first | rw [show noRt ⟨kd, dv, pr, ix, up, ra, rl, via, pm, da, dl, cl⟩ = true by assumption] | rw [show noRt ⟨kd, dv, pr, ix, up, ra, rl, via, pm, da, dl, cl⟩ = false by assumption] | skip); (first | rw [show gpF ra rl = true by assumption] | rw [show gpF ra rl = false by assumption] | skip); (first | rw [show gpF da dl = true by assumption] | rw [show gpF da dl = false by assumption] | skip); (first | rw [show decide (dv < 16) = true from decide_eq_true (by omega)] | rw [show decide (dv < 16) = false from decide_eq_false (by omega)] | skip); (first | rw [show decide (via = 16) = true from decide_eq_true (by omega)] | rw [show decide (via = 16) = false from decide_eq_false (by omega)] | skip); (first | rw [show decide (via < 16) = true from decide_eq_true (by omega)] | rw [show decide (via < 16) = false from decide_eq_false (by omega)] | skip); (first | rw [show decide (via = dv) = true from decide_eq_true (by omega)] | rw [show decide (via = dv) = false from decide_eq_false (by omega)] | skip); (first | rw [show decide (via = 0) = true from decide_eq_true (by omega)] | rw [show decide (via = 0) = false from decide_eq_false (by omega)] | skip); (first | rw [show decide (pr = 0) = true from decide_eq_true (by omega)] | rw [show decide (pr = 0) = false from decide_eq_false (by omega)] | skip); (first | rw [show decide (pr < 16) = true from decide_eq_true (by omega)] | rw [show decide (pr < 16) = false from decide_eq_false (by omega)] | skip); (first | rw [show decide (dv < pr) = true from decide_eq_true (by omega)] | rw [show decide (dv < pr) = false from decide_eq_false (by omega)] | skip); (first | rw [show decide (dv = pr) = true from decide_eq_true (by omega)] | rw [show decide (dv = pr) = false from decide_eq_false (by omega)] | skip); (first | rw [show decide (cl ≤ 16) = true from decide_eq_true (by omega)] | rw [show decide (cl ≤ 16) = false from decide_eq_false (by omega)] | skip); (first | rw [show decide (ix < 64) = true from decide_eq_true (by omega)] | rw [show decide (ix < 64) = false from decide_eq_false (by omega)] | skip); first | rfl | (simp only [Bool.true_and, Bool.and_true, Bool.false_and, Bool.and_false, Bool.true_or, Bool.false_or, Bool.or_false, Bool.or_true, Bool.not_true, Bool.not_false]; first | done | rfl | ((repeat (first | rw [show up = true by assumption] | rw [show up = false by assumption] | rw [show decide (ix = 0) = true from decide_eq_true (by omega)] | rw [show decide (ix = 0) = false from decide_eq_false (by omega)])); rfl))), rfl⟩
                  · intro hg12; clear hl; intro hl
                    try simp only [decide_eq_true_eq, decide_eq_false_iff_not, Bool.not_eq_true', Bool.not_eq_false', Bool.not_eq_true, Bool.not_eq_false, Bool.and_eq_true, Bool.or_eq_true, Bool.and_eq_false_iff, Bool.or_eq_false_iff, Bool.not_not, ne_eq, Int.not_lt, Int.not_le, Decidable.not_not, beq_iff_eq, bne_iff_ne] at hg12
                    refine wl (wl_skip hl rfl ⟨_, _, rfl, rfl, rfl⟩ ?_)
                    clear hl a; intro a hl
                    refine wl (wl_skip hl rfl ⟨_, _, rfl, rfl, rfl⟩ ?_)
                    clear hl a; intro a hl
                    refine wl (wl_skip hl rfl ⟨_, _, rfl, rfl, rfl⟩ ?_)
                    clear hl a; intro a hl
                    refine wl (wl_val hl rfl trivial (r_pickF hl rfl rfl) ?_)
                    clear hl a; intro a hl
                    refine wl (wl_val hl rfl trivial (r_assign hl rfl) ?_)
                    clear hl a; intro a hl
                    refine w_nil ?_
                    have hl2 := hl.add (t := 2) (hl.nil) rfl; clear hl; have hl := hl2; clear hl2
                    refine then_normal ?_
                    refine wp_ret ?_
                    refine blk_ret ?_
                    refine then_ret ?_
                    refine f_ret1 (F' := []) hl hh rfl rfl (by repeat (first | exact keeps_nil | apply keeps_cons (by repeat (first | exact find_head | apply find_tail)) (by first  | rfl) | exact keeps_self | apply keeps_mv)) ?_
                    first | (exfalso; omega) | exact ⟨congrArg Value.bool (by unfold wfF; simp only; (repeat (first | rw [if_pos (by omega)] | rw [if_neg (by omega)])); (try simp only [noPr, nxV]); (first | rw [show noRl ⟨kd, dv, pr, ix, up, ra, rl, via, pm, da, dl, cl⟩ = true by assumption] | rw [show noRl ⟨kd, dv, pr, ix, up, ra, rl, via, pm, da, dl, cl⟩ = false by assumption] | skip); (first | rw [show noRt ⟨kd, dv, pr, ix, up, ra, rl, via, pm, da, dl, cl⟩ = true by assumption] | rw [show noRt ⟨kd, dv, pr, ix, up, ra, rl, via, pm, da, dl, cl⟩ = false by assumption] | skip); (first | rw [show gpF ra rl = true by assumption] | rw [show gpF ra rl = false by assumption] | skip); (first | rw [show gpF da dl = true by assumption] | rw [show gpF da dl = false by assumption] | skip); (first | rw [show decide (dv < 16) = true from decide_eq_true (by omega)] | rw [show decide (dv < 16) = false from decide_eq_false (by omega)] | skip); (first | rw [show decide (via = 16) = true from decide_eq_true (by omega)] | rw [show decide (via = 16) = false from decide_eq_false (by omega)] | skip); (first | rw [show decide (via < 16) = true from decide_eq_true (by omega)] | rw [show decide (via < 16) = false from decide_eq_false (by omega)] | skip); (first | rw [show decide (via = dv) = true from decide_eq_true (by omega)] | rw [show decide (via = dv) = false from decide_eq_false (by omega)] | skip); (first | rw [show decide (via = 0) = true from decide_eq_true (by omega)] | rw [show decide (via = 0) = false from decide_eq_false (by omega)] | skip); (first | rw [show decide (pr = 0) = true from decide_eq_true (by omega)] | rw [show decide (pr = 0) = false from decide_eq_false (by omega)] | skip); (first | rw [show decide (pr < 16) = true from decide_eq_true (by omega)] | rw [show decide (pr < 16) = false from decide_eq_false (by omega)] | skip); (first | rw [show decide (dv < pr) = true from decide_eq_true (by omega)] | rw [show decide (dv < pr) = false from decide_eq_false (by omega)] | skip); (first | rw [show decide (dv = pr) = true from decide_eq_true (by omega)] | rw [show decide (dv = pr) = false from decide_eq_false (by omega)] | skip); (first | rw [show decide (cl ≤ 16) = true from decide_eq_true (by omega)] | rw [show decide (cl ≤ 16) = false from decide_eq_false (by omega)] | skip); (first | rw [show decide (ix < 64) = true from decide_eq_true (by omega)] | rw [show decide (ix < 64) = false from decide_eq_false (by omega)] | skip); first | rfl | (simp only [Bool.true_and, Bool.and_true, Bool.false_and, Bool.and_false, Bool.true_or, Bool.false_or, Bool.or_false, Bool.or_true, Bool.not_true, Bool.not_false]; first | done | rfl | ((repeat (first | rw [show up = true by assumption] | rw [show up = false by assumption] | rw [show decide (ix = 0) = true from decide_eq_true (by omega)] | rw [show decide (ix = 0) = false from decide_eq_false (by omega)])); rfl))), rfl⟩
                · intro hg11; clear hl; intro hl
                  try simp only [decide_eq_true_eq, decide_eq_false_iff_not, Bool.not_eq_true', Bool.not_eq_false', Bool.not_eq_true, Bool.not_eq_false, Bool.and_eq_true, Bool.or_eq_true, Bool.and_eq_false_iff, Bool.or_eq_false_iff, Bool.not_not, ne_eq, Int.not_lt, Int.not_le, Decidable.not_not, beq_iff_eq, bne_iff_ne] at hg11
                  refine wl (wl_skip hl rfl ⟨_, _, rfl, rfl, rfl⟩ ?_)
                  clear hl a; intro a hl
                  refine wl (wl_val hl rfl trivial (r_pickF hl rfl rfl) ?_)
                  clear hl a; intro a hl
                  refine wl (wl_val hl rfl trivial (r_move hl rfl) ?_)
                  clear hl a; intro a hl
                  refine wl (wl_skip hl rfl ⟨_, _, rfl, rfl, rfl⟩ ?_)
                  clear hl a; intro a hl
                  refine wl (wl_skip hl rfl ⟨_, _, rfl, rfl, rfl⟩ ?_)
                  clear hl a; intro a hl
                  refine wl (wl_skip hl rfl ⟨_, _, rfl, rfl, rfl⟩ ?_)
                  clear hl a; intro a hl
                  refine wl (wl_val hl rfl trivial (r_pickF hl rfl rfl) ?_)
                  clear hl a; intro a hl
                  refine wl (wl_val hl rfl trivial (r_assign hl rfl) ?_)
                  clear hl a; intro a hl
                  refine w_nil ?_
                  have hl2 := hl.add (t := 2) (hl.nil) rfl; clear hl; have hl := hl2; clear hl2
                  refine then_normal ?_
                  refine wp_ret ?_
                  refine blk_ret ?_
                  refine then_ret ?_
                  refine f_ret1 (F' := []) hl hh rfl rfl (by repeat (first | exact keeps_nil | apply keeps_cons (by repeat (first | exact find_head | apply find_tail)) (by first  | rfl) | exact keeps_self | apply keeps_mv)) ?_
                  first | (exfalso; omega) | exact ⟨congrArg Value.bool (by unfold wfF; simp only; (repeat (first | rw [if_pos (by omega)] | rw [if_neg (by omega)])); (try simp only [noPr, nxV]); (first | rw [show noRl ⟨kd, dv, pr, ix, up, ra, rl, via, pm, da, dl, cl⟩ = true by assumption] | rw [show noRl ⟨kd, dv, pr, ix, up, ra, rl, via, pm, da, dl, cl⟩ = false by assumption] | skip); (first | rw [show noRt ⟨kd, dv, pr, ix, up, ra, rl, via, pm, da, dl, cl⟩ = true by assumption] | rw [show noRt ⟨kd, dv, pr, ix, up, ra, rl, via, pm, da, dl, cl⟩ = false by assumption] | skip); (first | rw [show gpF ra rl = true by assumption] | rw [show gpF ra rl = false by assumption] | skip); (first | rw [show gpF da dl = true by assumption] | rw [show gpF da dl = false by assumption] | skip); (first | rw [show decide (dv < 16) = true from decide_eq_true (by omega)] | rw [show decide (dv < 16) = false from decide_eq_false (by omega)] | skip); (first | rw [show decide (via = 16) = true from decide_eq_true (by omega)] | rw [show decide (via = 16) = false from decide_eq_false (by omega)] | skip); (first | rw [show decide (via < 16) = true from decide_eq_true (by omega)] | rw [show decide (via < 16) = false from decide_eq_false (by omega)] | skip); (first | rw [show decide (via = dv) = true from decide_eq_true (by omega)] | rw [show decide (via = dv) = false from decide_eq_false (by omega)] | skip); (first | rw [show decide (via = 0) = true from decide_eq_true (by omega)] | rw [show decide (via = 0) = false from decide_eq_false (by omega)] | skip); (first | rw [show decide (pr = 0) = true from decide_eq_true (by omega)] | rw [show decide (pr = 0) = false from decide_eq_false (by omega)] | skip); (first | rw [show decide (pr < 16) = true from decide_eq_true (by omega)] | rw [show decide (pr < 16) = false from decide_eq_false (by omega)] | skip); (first | rw [show decide (dv < pr) = true from decide_eq_true (by omega)] | rw [show decide (dv < pr) = false from decide_eq_false (by omega)] | skip); (first | rw [show decide (dv = pr) = true from decide_eq_true (by omega)] | rw [show decide (dv = pr) = false from decide_eq_false (by omega)] | skip); (first | rw [show decide (cl ≤ 16) = true from decide_eq_true (by omega)] | rw [show decide (cl ≤ 16) = false from decide_eq_false (by omega)] | skip); (first | rw [show decide (ix < 64) = true from decide_eq_true (by omega)] | rw [show decide (ix < 64) = false from decide_eq_false (by omega)] | skip); first | rfl | (simp only [Bool.true_and, Bool.and_true, Bool.false_and, Bool.and_false, Bool.true_or, Bool.false_or, Bool.or_false, Bool.or_true, Bool.not_true, Bool.not_false]; first | done | rfl | ((repeat (first | rw [show up = true by assumption] | rw [show up = false by assumption] | rw [show decide (ix = 0) = true from decide_eq_true (by omega)] | rw [show decide (ix = 0) = false from decide_eq_false (by omega)])); rfl))), rfl⟩
              · intro hg10; clear hl; intro hl
                try simp only [decide_eq_true_eq, decide_eq_false_iff_not, Bool.not_eq_true', Bool.not_eq_false', Bool.not_eq_true, Bool.not_eq_false, Bool.and_eq_true, Bool.or_eq_true, Bool.and_eq_false_iff, Bool.or_eq_false_iff, Bool.not_not, ne_eq, Int.not_lt, Int.not_le, Decidable.not_not, beq_iff_eq, bne_iff_ne] at hg10
                refine wl (wl_skip hl rfl ⟨_, _, rfl, rfl, rfl⟩ ?_)
                clear hl a; intro a hl
                refine wl (wl_val hl rfl trivial (r_pickF hl rfl rfl) ?_)
                clear hl a; intro a hl
                refine wl (wl_val hl rfl trivial (r_move hl rfl) ?_)
                clear hl a; intro a hl
                refine wl (wl_skip hl rfl ⟨_, _, rfl, rfl, rfl⟩ ?_)
                clear hl a; intro a hl
                refine wl (wl_val hl rfl trivial (r_pickF hl rfl rfl) ?_)
                clear hl a; intro a hl
                refine wl (wl_val hl rfl trivial (r_move hl rfl) ?_)
                clear hl a; intro a hl
                refine wl (wl_skip hl rfl ⟨_, _, rfl, rfl, rfl⟩ ?_)
                clear hl a; intro a hl
                refine wl (wl_skip hl rfl ⟨_, _, rfl, rfl, rfl⟩ ?_)
                clear hl a; intro a hl
                refine wl (wl_skip hl rfl ⟨_, _, rfl, rfl, rfl⟩ ?_)
                clear hl a; intro a hl
                refine wl (wl_val hl rfl trivial (r_pickF hl rfl rfl) ?_)
                clear hl a; intro a hl
                refine wl (wl_val hl rfl trivial (r_assign hl rfl) ?_)
                clear hl a; intro a hl
                refine w_nil ?_
                have hl2 := hl.add (t := 2) (hl.nil) rfl; clear hl; have hl := hl2; clear hl2
                refine then_normal ?_
                refine wp_ret ?_
                refine blk_ret ?_
                refine then_ret ?_
                refine f_ret1 (F' := []) hl hh rfl rfl (by repeat (first | exact keeps_nil | apply keeps_cons (by repeat (first | exact find_head | apply find_tail)) (by first  | rfl) | exact keeps_self | apply keeps_mv)) ?_
                first | (exfalso; omega) | exact ⟨congrArg Value.bool (by unfold wfF; simp only; (repeat (first | rw [if_pos (by omega)] | rw [if_neg (by omega)])); (try simp only [noPr, nxV]); (first | rw [show noRl ⟨kd, dv, pr, ix, up, ra, rl, via, pm, da, dl, cl⟩ = true by assumption] | rw [show noRl ⟨kd, dv, pr, ix, up, ra, rl, via, pm, da, dl, cl⟩ = false by assumption] | skip); (first | rw [show noRt ⟨kd, dv, pr, ix, up, ra, rl, via, pm, da, dl, cl⟩ = true by assumption] | rw [show noRt ⟨kd, dv, pr, ix, up, ra, rl, via, pm, da, dl, cl⟩ = false by assumption] | skip); (first | rw [show gpF ra rl = true by assumption] | rw [show gpF ra rl = false by assumption] | skip); (first | rw [show gpF da dl = true by assumption] | rw [show gpF da dl = false by assumption] | skip); (first | rw [show decide (dv < 16) = true from decide_eq_true (by omega)] | rw [show decide (dv < 16) = false from decide_eq_false (by omega)] | skip); (first | rw [show decide (via = 16) = true from decide_eq_true (by omega)] | rw [show decide (via = 16) = false from decide_eq_false (by omega)] | skip); (first | rw [show decide (via < 16) = true from decide_eq_true (by omega)] | rw [show decide (via < 16) = false from decide_eq_false (by omega)] | skip); (first | rw [show decide (via = dv) = true from decide_eq_true (by omega)] | rw [show decide (via = dv) = false from decide_eq_false (by omega)] | skip); (first | rw [show decide (via = 0) = true from decide_eq_true (by omega)] | rw [show decide (via = 0) = false from decide_eq_false (by omega)] | skip); (first | rw [show decide (pr = 0) = true from decide_eq_true (by omega)] | rw [show decide (pr = 0) = false from decide_eq_false (by omega)] | skip); (first | rw [show decide (pr < 16) = true from decide_eq_true (by omega)] | rw [show decide (pr < 16) = false from decide_eq_false (by omega)] | skip); (first | rw [show decide (dv < pr) = true from decide_eq_true (by omega)] | rw [show decide (dv < pr) = false from decide_eq_false (by omega)] | skip); (first | rw [show decide (dv = pr) = true from decide_eq_true (by omega)] | rw [show decide (dv = pr) = false from decide_eq_false (by omega)] | skip); (first | rw [show decide (cl ≤ 16) = true from decide_eq_true (by omega)] | rw [show decide (cl ≤ 16) = false from decide_eq_false (by omega)] | skip); (first | rw [show decide (ix < 64) = true from decide_eq_true (by omega)] | rw [show decide (ix < 64) = false from decide_eq_false (by omega)] | skip); first | rfl | (simp only [Bool.true_and, Bool.and_true, Bool.false_and, Bool.and_false, Bool.true_or, Bool.false_or, Bool.or_false, Bool.or_true, Bool.not_true, Bool.not_false]; first | done | rfl | ((repeat (first | rw [show up = true by assumption] | rw [show up = false by assumption] | rw [show decide (ix = 0) = true from decide_eq_true (by omega)] | rw [show decide (ix = 0) = false from decide_eq_false (by omega)])); rfl))), rfl⟩
            · intro hg9; clear hl; intro hl
              try simp only [decide_eq_true_eq, decide_eq_false_iff_not, Bool.not_eq_true', Bool.not_eq_false', Bool.not_eq_true, Bool.not_eq_false, Bool.and_eq_true, Bool.or_eq_true, Bool.and_eq_false_iff, Bool.or_eq_false_iff, Bool.not_not, ne_eq, Int.not_lt, Int.not_le, Decidable.not_not, beq_iff_eq, bne_iff_ne] at hg9
              refine wl (wl_skip hl rfl ⟨_, _, rfl, rfl, rfl⟩ ?_)
              clear hl a; intro a hl
              refine wl (wl_val hl rfl trivial (r_pickF hl rfl rfl) ?_)
              clear hl a; intro a hl
              refine wl (wl_val hl rfl trivial (r_move hl rfl) ?_)
              clear hl a; intro a hl
              refine wl (wl_skip hl rfl ⟨_, _, rfl, rfl, rfl⟩ ?_)
              clear hl a; intro a hl
              refine wl (wl_val hl rfl trivial (r_pickF hl rfl rfl) ?_)
              clear hl a; intro a hl
              refine wl (wl_val hl rfl trivial (r_move hl rfl) ?_)
              clear hl a; intro a hl
              refine wl (wl_skip hl rfl ⟨_, _, rfl, rfl, rfl⟩ ?_)
              clear hl a; intro a hl
              refine wl (wl_val hl rfl trivial (r_pickF hl rfl rfl) ?_)
              clear hl a; intro a hl
              refine wl (wl_val hl rfl trivial (r_move hl rfl) ?_)
              clear hl a; intro a hl
              refine wl (wl_skip hl rfl ⟨_, _, rfl, rfl, rfl⟩ ?_)
              clear hl a; intro a hl
              refine wl (wl_skip hl rfl ⟨_, _, rfl, rfl, rfl⟩ ?_)
              clear hl a; intro a hl
              refine wl (wl_skip hl rfl ⟨_, _, rfl, rfl, rfl⟩ ?_)
              clear hl a; intro a hl
              refine wl (wl_val hl rfl trivial (r_pickF hl rfl rfl) ?_)
              clear hl a; intro a hl
              refine wl (wl_val hl rfl trivial (r_assign hl rfl) ?_)
              clear hl a; intro a hl
              refine w_nil ?_
              have hl2 := hl.add (t := 2) (hl.nil) rfl; clear hl; have hl := hl2; clear hl2
              refine then_normal ?_
              refine wp_ret ?_
              refine blk_ret ?_
              refine then_ret ?_
              refine f_ret1 (F' := []) hl hh rfl rfl (by repeat (first | exact keeps_nil | apply keeps_cons (by repeat (first | exact find_head | apply find_tail)) (by first  | rfl) | exact keeps_self | apply keeps_mv)) ?_
              first | (exfalso; omega) | exact ⟨congrArg Value.bool (by unfold wfF; simp only; (repeat (first | rw [if_pos (by omega)] | rw [if_neg (by omega)])); (try simp only [noPr, nxV]); (first | rw [show noRl ⟨kd, dv, pr, ix, up, ra, rl, via, pm, da, dl, cl⟩ = true by assumption] | rw [show noRl ⟨kd, dv, pr, ix, up, ra, rl, via, pm, da, dl, cl⟩ = false by assumption] | skip); (first | rw [show noRt ⟨kd, dv, pr, ix, up, ra, rl, via, pm, da, dl, cl⟩ = true by assumption] | rw [show noRt ⟨kd, dv, pr, ix, up, ra, rl, via, pm, da, dl, cl⟩ = false by assumption] | skip); (first | rw [show gpF ra rl = true by assumption] | rw [show gpF ra rl = false by assumption] | skip); (first | rw [show gpF da dl = true by assumption] | rw [show gpF da dl = false by assumption] | skip); (first | rw [show decide (dv < 16) = true from decide_eq_true (by omega)] | rw [show decide (dv < 16) = false from decide_eq_false (by omega)] | skip); (first | rw [show decide (via = 16) = true from decide_eq_true (by omega)] | rw [show decide (via = 16) = false from decide_eq_false (by omega)] | skip); (first | rw [show decide (via < 16) = true from decide_eq_true (by omega)] | rw [show decide (via < 16) = false from decide_eq_false (by omega)] | skip); (first | rw [show decide (via = dv) = true from decide_eq_true (by omega)] | rw [show decide (via = dv) = false from decide_eq_false (by omega)] | skip); (first | rw [show decide (via = 0) = true from decide_eq_true (by omega)] | rw [show decide (via = 0) = false from decide_eq_false (by omega)] | skip); (first | rw [show decide (pr = 0) = true from decide_eq_true (by omega)] | rw [show decide (pr = 0) = false from decide_eq_false (by omega)] | skip); (first | rw [show decide (pr < 16) = true from decide_eq_true (by omega)] | rw [show decide (pr < 16) = false from decide_eq_false (by omega)] | skip); (first | rw [show decide (dv < pr) = true from decide_eq_true (by omega)] | rw [show decide (dv < pr) = false from decide_eq_false (by omega)] | skip); (first | rw [show decide (dv = pr) = true from decide_eq_true (by omega)] | rw [show decide (dv = pr) = false from decide_eq_false (by omega)] | skip); (first | rw [show decide (cl ≤ 16) = true from decide_eq_true (by omega)] | rw [show decide (cl ≤ 16) = false from decide_eq_false (by omega)] | skip); (first | rw [show decide (ix < 64) = true from decide_eq_true (by omega)] | rw [show decide (ix < 64) = false from decide_eq_false (by omega)] | skip); first | rfl | (simp only [Bool.true_and, Bool.and_true, Bool.false_and, Bool.and_false, Bool.true_or, Bool.false_or, Bool.or_false, Bool.or_true, Bool.not_true, Bool.not_false]; first | done | rfl | ((repeat (first | rw [show up = true by assumption] | rw [show up = false by assumption] | rw [show decide (ix = 0) = true from decide_eq_true (by omega)] | rw [show decide (ix = 0) = false from decide_eq_false (by omega)])); rfl))), rfl⟩
          · intro hg8; clear hl; intro hl
            try simp only [decide_eq_true_eq, decide_eq_false_iff_not, Bool.not_eq_true', Bool.not_eq_false', Bool.not_eq_true, Bool.not_eq_false, Bool.and_eq_true, Bool.or_eq_true, Bool.and_eq_false_iff, Bool.or_eq_false_iff, Bool.not_not, ne_eq, Int.not_lt, Int.not_le, Decidable.not_not, beq_iff_eq, bne_iff_ne] at hg8
            refine wl (wl_skip hl rfl ⟨_, _, rfl, rfl, rfl⟩ ?_)
            clear hl a; intro a hl
            refine wl (wl_skip hl rfl ⟨_, _, rfl, rfl, rfl⟩ ?_)
            clear hl a; intro a hl
            refine wl (wl_skip hl rfl ⟨_, _, rfl, rfl, rfl⟩ ?_)
            clear hl a; intro a hl
            refine wl (wl_skip hl rfl ⟨_, _, rfl, rfl, rfl⟩ ?_)
            clear hl a; intro a hl
            refine wl (wl_val hl rfl trivial (r_pickF hl rfl rfl) ?_)
            clear hl a; intro a hl
            refine wl (wl_val hl rfl trivial (r_move hl rfl) ?_)
            clear hl a; intro a hl
            refine wl (wl_skip hl rfl ⟨_, _, rfl, rfl, rfl⟩ ?_)
            clear hl a; intro a hl
            refine wl (wl_val hl rfl trivial (r_pickF hl rfl rfl) ?_)
            clear hl a; intro a hl
            refine wl (wl_val hl rfl trivial (r_move hl rfl) ?_)
            clear hl a; intro a hl
            refine wl (wl_skip hl rfl ⟨_, _, rfl, rfl, rfl⟩ ?_)
            clear hl a; intro a hl
            refine wl (wl_val hl rfl trivial (r_pickF hl rfl rfl) ?_)
            clear hl a; intro a hl
            refine wl (wl_val hl rfl trivial (r_move hl rfl) ?_)
            clear hl a; intro a hl
            refine wl (wl_skip hl rfl ⟨_, _, rfl, rfl, rfl⟩ ?_)
            clear hl a; intro a hl
            refine wl (wl_val hl rfl trivial (r_pickF hl rfl rfl) ?_)
            clear hl a; intro a hl
            refine wl (wl_val hl rfl trivial (r_move hl rfl) ?_)
            clear hl a; intro a hl
            refine wl (wl_skip hl rfl ⟨_, _, rfl, rfl, rfl⟩ ?_)
            clear hl a; intro a hl
            refine wl (wl_skip hl rfl ⟨_, _, rfl, rfl, rfl⟩ ?_)
            clear hl a; intro a hl
            refine wl (wl_skip hl rfl ⟨_, _, rfl, rfl, rfl⟩ ?_)
            clear hl a; intro a hl
            refine wl (wl_val hl rfl trivial (r_pickF hl rfl rfl) ?_)
            clear hl a; intro a hl
            refine wl (wl_val hl rfl trivial (r_assign hl rfl) ?_)
            clear hl a; intro a hl
            refine w_nil ?_
            have hl2 := hl.add (t := 2) (hl.nil) rfl; clear hl; have hl := hl2; clear hl2
            refine then_normal ?_
            refine wp_ret ?_
            refine blk_ret ?_
            refine then_ret ?_
            refine f_ret1 (F' := []) hl hh rfl rfl (by repeat (first | exact keeps_nil | apply keeps_cons (by repeat (first | exact find_head | apply find_tail)) (by first  | rfl) | exact keeps_self | apply keeps_mv)) ?_
            first | (exfalso; omega) | exact ⟨congrArg Value.bool (by unfold wfF; simp only; (repeat (first | rw [if_pos (by omega)] | rw [if_neg (by omega)])); (try simp only [noPr, nxV]); (first | rw [show noRl ⟨kd, dv, pr, ix, up, ra, rl, via, pm, da, dl, cl⟩ = true by assumption] | rw [show noRl ⟨kd, dv, pr, ix, up, ra, rl, via, pm, da, dl, cl⟩ = false by assumption] | skip); (first | rw [show noRt ⟨kd, dv, pr, ix, up, ra, rl, via, pm, da, dl, cl⟩ = true by assumption] | rw [show noRt ⟨kd, dv, pr, ix, up, ra, rl, via, pm, da, dl, cl⟩ = false by assumption] | skip); (first | rw [show gpF ra rl = true by assumption] | rw [show gpF ra rl = false by assumption] | skip); (first | rw [show gpF da dl = true by assumption] | rw [show gpF da dl = false by assumption] | skip); (first | rw [show decide (dv < 16) = true from decide_eq_true (by omega)] | rw [show decide (dv < 16) = false from decide_eq_false (by omega)] | skip); (first | rw [show decide (via = 16) = true from decide_eq_true (by omega)] | rw [show decide (via = 16) = false from decide_eq_false (by omega)] | skip); (first | rw [show decide (via < 16) = true from decide_eq_true (by omega)] | rw [show decide (via < 16) = false from decide_eq_false (by omega)] | skip); (first | rw [show decide (via = dv) = true from decide_eq_true (by omega)] | rw [show decide (via = dv) = false from decide_eq_false (by omega)] | skip); (first | rw [show decide (via = 0) = true from decide_eq_true (by omega)] | rw [show decide (via = 0) = false from decide_eq_false (by omega)] | skip); (first | rw [show decide (pr = 0) = true from decide_eq_true (by omega)] | rw [show decide (pr = 0) = false from decide_eq_false (by omega)] | skip); (first | rw [show decide (pr < 16) = true from decide_eq_true (by omega)] | rw [show decide (pr < 16) = false from decide_eq_false (by omega)] | skip); (first | rw [show decide (dv < pr) = true from decide_eq_true (by omega)] | rw [show decide (dv < pr) = false from decide_eq_false (by omega)] | skip); (first | rw [show decide (dv = pr) = true from decide_eq_true (by omega)] | rw [show decide (dv = pr) = false from decide_eq_false (by omega)] | skip); (first | rw [show decide (cl ≤ 16) = true from decide_eq_true (by omega)] | rw [show decide (cl ≤ 16) = false from decide_eq_false (by omega)] | skip); (first | rw [show decide (ix < 64) = true from decide_eq_true (by omega)] | rw [show decide (ix < 64) = false from decide_eq_false (by omega)] | skip); first | rfl | (simp only [Bool.true_and, Bool.and_true, Bool.false_and, Bool.and_false, Bool.true_or, Bool.false_or, Bool.or_false, Bool.or_true, Bool.not_true, Bool.not_false]; first | done | rfl | ((repeat (first | rw [show up = true by assumption] | rw [show up = false by assumption] | rw [show decide (ix = 0) = true from decide_eq_true (by omega)] | rw [show decide (ix = 0) = false from decide_eq_false (by omega)])); rfl))), rfl⟩
        · intro hg7; clear hl; intro hl
          try simp only [decide_eq_true_eq, decide_eq_false_iff_not, Bool.not_eq_true', Bool.not_eq_false', Bool.not_eq_true, Bool.not_eq_false, Bool.and_eq_true, Bool.or_eq_true, Bool.and_eq_false_iff, Bool.or_eq_false_iff, Bool.not_not, ne_eq, Int.not_lt, Int.not_le, Decidable.not_not, beq_iff_eq, bne_iff_ne] at hg7
          refine wl (wl_skip hl rfl ⟨_, _, rfl, rfl, rfl⟩ ?_)
          clear hl a; intro a hl
          refine wl (wl_skip hl rfl ⟨_, _, rfl, rfl, rfl⟩ ?_)
          clear hl a; intro a hl
          refine wl (wl_skip hl rfl ⟨_, _, rfl, rfl, rfl⟩ ?_)
          clear hl a; intro a hl
          refine wl (wl_skip hl rfl ⟨_, _, rfl, rfl, rfl⟩ ?_)
          clear hl a; intro a hl
          refine wl (wl_skip hl rfl ⟨_, _, rfl, rfl, rfl⟩ ?_)
          clear hl a; intro a hl
          refine wl (wl_skip hl rfl ⟨_, _, rfl, rfl, rfl⟩ ?_)
          clear hl a; intro a hl
          refine wl (wl_val hl rfl ⟨_, _, rfl, rfl, rfl⟩ (r_pickF hl rfl rfl) ?_)
          clear hl a; intro a hl
          refine wl (wl_val hl rfl trivial (r_pickF hl rfl rfl) ?_)
          clear hl a; intro a hl
          refine wl (wl_val hl rfl trivial (r_assign hl rfl) ?_)
          clear hl a; intro a hl
          refine w_nil ?_
          have hl2 := hl.add (t := 1) (hl.add (t := 3) (hl.add (t := 5) (hl.add (t := 6) (hl.nil) rfl) rfl) rfl) rfl; clear hl; have hl := hl2; clear hl2
          refine then_normal ?_
          refine c_seq ?_
          refine c_region ?_
          refine wl (wl_val hl rfl trivial (r_field hl rfl fld57_1) ?_)
          clear hl a; intro a hl
          refine wl (w_load hl hh rfl trivial one5 rfl (by repeat (first | exact find_head | apply find_tail)) (by first | rfl) ?_)
          clear hl a; intro a hl
          refine wl (w_call hl hh rfl trivial rfl cal64 rfl (isDeviceM _) (by repeat (first | exact keeps_nil | apply keeps_cons (by repeat (first | exact find_head | apply find_tail)) (by first  | rfl) | exact keeps_self | apply keeps_mv)) trivial ?_)
          clear hl hh a w; intro vc Fc a w hR hl hh
          obtain ⟨rfl, rfl⟩ := hR
          try simp only [List.cons_append, List.nil_append] at hh
          refine wl (wl_val hl rfl trivial (r_move hl rfl) ?_)
          clear hl a; intro a hl
          refine sl_split (t := 48) hl rfl ?_ ?_
          · intro hg13; clear hl; intro hl
            try simp only [decide_eq_true_eq, decide_eq_false_iff_not, Bool.not_eq_true', Bool.not_eq_false', Bool.not_eq_true, Bool.not_eq_false, Bool.and_eq_true, Bool.or_eq_true, Bool.and_eq_false_iff, Bool.or_eq_false_iff, Bool.not_not, ne_eq, Int.not_lt, Int.not_le, Decidable.not_not, beq_iff_eq, bne_iff_ne] at hg13
            refine wl (wl_val hl rfl ⟨_, _, rfl, rfl, rfl⟩ (r_field hl rfl fld57_5) ?_)
            clear hl a; intro a hl
            refine wl (wl_val hl rfl ⟨_, _, rfl, rfl, rfl⟩ (r_field hl rfl fld53_0) ?_)
            clear hl a; intro a hl
            refine wl (w_loadA hl hh rfl ⟨_, _, rfl, rfl, rfl⟩ agg51 rfl (by repeat (first | exact find_head | apply find_tail)) (by first | (simp only [List.getElem?_cons_zero, List.getElem?_cons_succ, Value.cells, List.take_zero, List.take_succ_cons, List.take_nil, List.drop_zero, List.drop_succ_cons, List.drop_nil, List.length_cons, List.length_nil, List.cons_append, List.nil_append, List.append_nil, Nat.zero_add, Nat.add_zero, Nat.reduceAdd, Nat.reduceBEq, Nat.reduceEqDiff, Nat.ble, BEq.rfl, Bool.and_true, Bool.and_self, cond_true, beq_self_eq_true]; rfl)) (by first | rfl | (simp; done)) ?_)
            clear hl a; intro a hl
            refine wl (w_call hl hh rfl ⟨_, _, rfl, rfl, rfl⟩ rfl cal65 rfl (isPrefixM _ _ (by omega) (by omega) (by omega) (by omega)) (by repeat (first | exact keeps_nil | apply keeps_cons (by repeat (first | exact find_head | apply find_tail)) (by first  | rfl) | exact keeps_self | apply keeps_mv)) trivial ?_)
            clear hl hh a w; intro vc Fc a w hR hl hh
            obtain ⟨rfl, rfl⟩ := hR
            try simp only [List.cons_append, List.nil_append] at hh
            refine wl (wl_val hl rfl trivial (r_pickT hl rfl rfl) ?_)
            clear hl a; intro a hl
            refine wl (wl_val hl rfl trivial (r_move hl rfl) ?_)
            clear hl a; intro a hl
            refine sl_split (t := 54) hl rfl ?_ ?_
            · intro hg14; clear hl; intro hl
              try simp only [decide_eq_true_eq, decide_eq_false_iff_not, Bool.not_eq_true', Bool.not_eq_false', Bool.not_eq_true, Bool.not_eq_false, Bool.and_eq_true, Bool.or_eq_true, Bool.and_eq_false_iff, Bool.or_eq_false_iff, Bool.not_not, ne_eq, Int.not_lt, Int.not_le, Decidable.not_not, beq_iff_eq, bne_iff_ne] at hg14
              refine wl (wl_val hl rfl ⟨_, _, rfl, rfl, rfl⟩ (r_move hl rfl) ?_)
              clear hl a; intro a hl
              refine wl (wl_val hl rfl trivial (r_pickT hl rfl rfl) ?_)
              clear hl a; intro a hl
              refine wl (wl_val hl rfl trivial (r_move hl rfl) ?_)
              clear hl a; intro a hl
              refine wl (wl_skip hl rfl ⟨_, _, rfl, rfl, rfl⟩ ?_)
              clear hl a; intro a hl
              refine wl (wl_val hl rfl trivial (r_pickF hl rfl rfl) ?_)
              clear hl a; intro a hl
              refine wl (wl_val hl rfl trivial (r_move hl rfl) ?_)
              clear hl a; intro a hl
              refine wl (wl_skip hl rfl ⟨_, _, rfl, rfl, rfl⟩ ?_)
              clear hl a; intro a hl
              refine wl (wl_val hl rfl trivial (r_pickF hl rfl rfl) ?_)
              clear hl a; intro a hl
              refine wl (wl_val hl rfl trivial (r_move hl rfl) ?_)
              clear hl a; intro a hl
              refine wl (wl_skip hl rfl ⟨_, _, rfl, rfl, rfl⟩ ?_)
              clear hl a; intro a hl
              refine wl (wl_skip hl rfl ⟨_, _, rfl, rfl, rfl⟩ ?_)
              clear hl a; intro a hl
              refine wl (wl_skip hl rfl ⟨_, _, rfl, rfl, rfl⟩ ?_)
              clear hl a; intro a hl
              refine wl (wl_val hl rfl trivial (r_pickF hl rfl rfl) ?_)
              clear hl a; intro a hl
              refine wl (wl_val hl rfl trivial (r_assign hl rfl) ?_)
              clear hl a; intro a hl
              refine w_nil ?_
              have hl2 := hl.add (t := 2) (hl.nil) rfl; clear hl; have hl := hl2; clear hl2
              refine then_normal ?_
              refine wp_ret ?_
              refine blk_ret ?_
              refine then_ret ?_
              refine f_ret1 (F' := []) hl hh rfl rfl (by repeat (first | exact keeps_nil | apply keeps_cons (by repeat (first | exact find_head | apply find_tail)) (by first  | rfl) | exact keeps_self | apply keeps_mv)) ?_
              first | (exfalso; omega) | exact ⟨congrArg Value.bool (by unfold wfF; simp only; (repeat (first | rw [if_pos (by omega)] | rw [if_neg (by omega)])); (try simp only [noPr, nxV]); (first | rw [show noRl ⟨kd, dv, pr, ix, up, ra, rl, via, pm, da, dl, cl⟩ = true by assumption] | rw [show noRl ⟨kd, dv, pr, ix, up, ra, rl, via, pm, da, dl, cl⟩ = false by assumption] | skip); (first | rw [show noRt ⟨kd, dv, pr, ix, up, ra, rl, via, pm, da, dl, cl⟩ = true by assumption] | rw [show noRt ⟨kd, dv, pr, ix, up, ra, rl, via, pm, da, dl, cl⟩ = false by assumption] | skip); (first | rw [show gpF ra rl = true by assumption] | rw [show gpF ra rl = false by assumption] | skip); (first | rw [show gpF da dl = true by assumption] | rw [show gpF da dl = false by assumption] | skip); (first | rw [show decide (dv < 16) = true from decide_eq_true (by omega)] | rw [show decide (dv < 16) = false from decide_eq_false (by omega)] | skip); (first | rw [show decide (via = 16) = true from decide_eq_true (by omega)] | rw [show decide (via = 16) = false from decide_eq_false (by omega)] | skip); (first | rw [show decide (via < 16) = true from decide_eq_true (by omega)] | rw [show decide (via < 16) = false from decide_eq_false (by omega)] | skip); (first | rw [show decide (via = dv) = true from decide_eq_true (by omega)] | rw [show decide (via = dv) = false from decide_eq_false (by omega)] | skip); (first | rw [show decide (via = 0) = true from decide_eq_true (by omega)] | rw [show decide (via = 0) = false from decide_eq_false (by omega)] | skip); (first | rw [show decide (pr = 0) = true from decide_eq_true (by omega)] | rw [show decide (pr = 0) = false from decide_eq_false (by omega)] | skip); (first | rw [show decide (pr < 16) = true from decide_eq_true (by omega)] | rw [show decide (pr < 16) = false from decide_eq_false (by omega)] | skip); (first | rw [show decide (dv < pr) = true from decide_eq_true (by omega)] | rw [show decide (dv < pr) = false from decide_eq_false (by omega)] | skip); (first | rw [show decide (dv = pr) = true from decide_eq_true (by omega)] | rw [show decide (dv = pr) = false from decide_eq_false (by omega)] | skip); (first | rw [show decide (cl ≤ 16) = true from decide_eq_true (by omega)] | rw [show decide (cl ≤ 16) = false from decide_eq_false (by omega)] | skip); (first | rw [show decide (ix < 64) = true from decide_eq_true (by omega)] | rw [show decide (ix < 64) = false from decide_eq_false (by omega)] | skip); first | rfl | (simp only [Bool.true_and, Bool.and_true, Bool.false_and, Bool.and_false, Bool.true_or, Bool.false_or, Bool.or_false, Bool.or_true, Bool.not_true, Bool.not_false]; first | done | rfl | ((repeat (first | rw [show up = true by assumption] | rw [show up = false by assumption] | rw [show decide (ix = 0) = true from decide_eq_true (by omega)] | rw [show decide (ix = 0) = false from decide_eq_false (by omega)])); rfl))), rfl⟩
            · intro hg14; clear hl; intro hl
              try simp only [decide_eq_true_eq, decide_eq_false_iff_not, Bool.not_eq_true', Bool.not_eq_false', Bool.not_eq_true, Bool.not_eq_false, Bool.and_eq_true, Bool.or_eq_true, Bool.and_eq_false_iff, Bool.or_eq_false_iff, Bool.not_not, ne_eq, Int.not_lt, Int.not_le, Decidable.not_not, beq_iff_eq, bne_iff_ne] at hg14
              refine wl (wl_skip hl rfl ⟨_, _, rfl, rfl, rfl⟩ ?_)
              clear hl a; intro a hl
              refine wl (wl_val hl rfl trivial (r_pickF hl rfl rfl) ?_)
              clear hl a; intro a hl
              refine wl (wl_val hl rfl trivial (r_move hl rfl) ?_)
              clear hl a; intro a hl
              refine wl (wl_skip hl rfl ⟨_, _, rfl, rfl, rfl⟩ ?_)
              clear hl a; intro a hl
              refine wl (wl_val hl rfl trivial (r_pickF hl rfl rfl) ?_)
              clear hl a; intro a hl
              refine wl (wl_val hl rfl trivial (r_move hl rfl) ?_)
              clear hl a; intro a hl
              refine wl (wl_skip hl rfl ⟨_, _, rfl, rfl, rfl⟩ ?_)
              clear hl a; intro a hl
              refine wl (wl_val hl rfl trivial (r_pickF hl rfl rfl) ?_)
              clear hl a; intro a hl
              refine wl (wl_val hl rfl trivial (r_move hl rfl) ?_)
              clear hl a; intro a hl
              refine wl (wl_skip hl rfl ⟨_, _, rfl, rfl, rfl⟩ ?_)
              clear hl a; intro a hl
              refine wl (wl_skip hl rfl ⟨_, _, rfl, rfl, rfl⟩ ?_)
              clear hl a; intro a hl
              refine wl (wl_skip hl rfl ⟨_, _, rfl, rfl, rfl⟩ ?_)
              clear hl a; intro a hl
              refine wl (wl_val hl rfl trivial (r_pickF hl rfl rfl) ?_)
              clear hl a; intro a hl
              refine wl (wl_val hl rfl trivial (r_assign hl rfl) ?_)
              clear hl a; intro a hl
              refine w_nil ?_
              have hl2 := hl.add (t := 2) (hl.nil) rfl; clear hl; have hl := hl2; clear hl2
              refine then_normal ?_
              refine wp_ret ?_
              refine blk_ret ?_
              refine then_ret ?_
              refine f_ret1 (F' := []) hl hh rfl rfl (by repeat (first | exact keeps_nil | apply keeps_cons (by repeat (first | exact find_head | apply find_tail)) (by first  | rfl) | exact keeps_self | apply keeps_mv)) ?_
              first | (exfalso; omega) | exact ⟨congrArg Value.bool (by unfold wfF; simp only; (repeat (first | rw [if_pos (by omega)] | rw [if_neg (by omega)])); (try simp only [noPr, nxV]); (first | rw [show noRl ⟨kd, dv, pr, ix, up, ra, rl, via, pm, da, dl, cl⟩ = true by assumption] | rw [show noRl ⟨kd, dv, pr, ix, up, ra, rl, via, pm, da, dl, cl⟩ = false by assumption] | skip); (first | rw [show noRt ⟨kd, dv, pr, ix, up, ra, rl, via, pm, da, dl, cl⟩ = true by assumption] | rw [show noRt ⟨kd, dv, pr, ix, up, ra, rl, via, pm, da, dl, cl⟩ = false by assumption] | skip); (first | rw [show gpF ra rl = true by assumption] | rw [show gpF ra rl = false by assumption] | skip); (first | rw [show gpF da dl = true by assumption] | rw [show gpF da dl = false by assumption] | skip); (first | rw [show decide (dv < 16) = true from decide_eq_true (by omega)] | rw [show decide (dv < 16) = false from decide_eq_false (by omega)] | skip); (first | rw [show decide (via = 16) = true from decide_eq_true (by omega)] | rw [show decide (via = 16) = false from decide_eq_false (by omega)] | skip); (first | rw [show decide (via < 16) = true from decide_eq_true (by omega)] | rw [show decide (via < 16) = false from decide_eq_false (by omega)] | skip); (first | rw [show decide (via = dv) = true from decide_eq_true (by omega)] | rw [show decide (via = dv) = false from decide_eq_false (by omega)] | skip); (first | rw [show decide (via = 0) = true from decide_eq_true (by omega)] | rw [show decide (via = 0) = false from decide_eq_false (by omega)] | skip); (first | rw [show decide (pr = 0) = true from decide_eq_true (by omega)] | rw [show decide (pr = 0) = false from decide_eq_false (by omega)] | skip); (first | rw [show decide (pr < 16) = true from decide_eq_true (by omega)] | rw [show decide (pr < 16) = false from decide_eq_false (by omega)] | skip); (first | rw [show decide (dv < pr) = true from decide_eq_true (by omega)] | rw [show decide (dv < pr) = false from decide_eq_false (by omega)] | skip); (first | rw [show decide (dv = pr) = true from decide_eq_true (by omega)] | rw [show decide (dv = pr) = false from decide_eq_false (by omega)] | skip); (first | rw [show decide (cl ≤ 16) = true from decide_eq_true (by omega)] | rw [show decide (cl ≤ 16) = false from decide_eq_false (by omega)] | skip); (first | rw [show decide (ix < 64) = true from decide_eq_true (by omega)] | rw [show decide (ix < 64) = false from decide_eq_false (by omega)] | skip); first | rfl | (simp only [Bool.true_and, Bool.and_true, Bool.false_and, Bool.and_false, Bool.true_or, Bool.false_or, Bool.or_false, Bool.or_true, Bool.not_true, Bool.not_false]; first | done | rfl | ((repeat (first | rw [show up = true by assumption] | rw [show up = false by assumption] | rw [show decide (ix = 0) = true from decide_eq_true (by omega)] | rw [show decide (ix = 0) = false from decide_eq_false (by omega)])); rfl))), rfl⟩
          · intro hg13; clear hl; intro hl
            try simp only [decide_eq_true_eq, decide_eq_false_iff_not, Bool.not_eq_true', Bool.not_eq_false', Bool.not_eq_true, Bool.not_eq_false, Bool.and_eq_true, Bool.or_eq_true, Bool.and_eq_false_iff, Bool.or_eq_false_iff, Bool.not_not, ne_eq, Int.not_lt, Int.not_le, Decidable.not_not, beq_iff_eq, bne_iff_ne] at hg13
            refine wl (wl_skip hl rfl ⟨_, _, rfl, rfl, rfl⟩ ?_)
            clear hl a; intro a hl
            refine wl (wl_skip hl rfl ⟨_, _, rfl, rfl, rfl⟩ ?_)
            clear hl a; intro a hl
            refine wl (wl_skip hl rfl ⟨_, _, rfl, rfl, rfl⟩ ?_)
            clear hl a; intro a hl
            refine wl (wl_skip hl rfl ⟨_, _, rfl, rfl, rfl⟩ ?_)
            clear hl a; intro a hl
            refine wl (wl_val hl rfl trivial (r_pickF hl rfl rfl) ?_)
            clear hl a; intro a hl
            refine wl (wl_val hl rfl trivial (r_move hl rfl) ?_)
            clear hl a; intro a hl
            refine wl (wl_skip hl rfl ⟨_, _, rfl, rfl, rfl⟩ ?_)
            clear hl a; intro a hl
            refine wl (wl_val hl rfl trivial (r_pickF hl rfl rfl) ?_)
            clear hl a; intro a hl
            refine wl (wl_val hl rfl trivial (r_move hl rfl) ?_)
            clear hl a; intro a hl
            refine wl (wl_skip hl rfl ⟨_, _, rfl, rfl, rfl⟩ ?_)
            clear hl a; intro a hl
            refine wl (wl_val hl rfl trivial (r_pickF hl rfl rfl) ?_)
            clear hl a; intro a hl
            refine wl (wl_val hl rfl trivial (r_move hl rfl) ?_)
            clear hl a; intro a hl
            refine wl (wl_skip hl rfl ⟨_, _, rfl, rfl, rfl⟩ ?_)
            clear hl a; intro a hl
            refine wl (wl_val hl rfl trivial (r_pickF hl rfl rfl) ?_)
            clear hl a; intro a hl
            refine wl (wl_val hl rfl trivial (r_move hl rfl) ?_)
            clear hl a; intro a hl
            refine wl (wl_skip hl rfl ⟨_, _, rfl, rfl, rfl⟩ ?_)
            clear hl a; intro a hl
            refine wl (wl_skip hl rfl ⟨_, _, rfl, rfl, rfl⟩ ?_)
            clear hl a; intro a hl
            refine wl (wl_skip hl rfl ⟨_, _, rfl, rfl, rfl⟩ ?_)
            clear hl a; intro a hl
            refine wl (wl_val hl rfl trivial (r_pickF hl rfl rfl) ?_)
            clear hl a; intro a hl
            refine wl (wl_val hl rfl trivial (r_assign hl rfl) ?_)
            clear hl a; intro a hl
            refine w_nil ?_
            have hl2 := hl.add (t := 2) (hl.nil) rfl; clear hl; have hl := hl2; clear hl2
            refine then_normal ?_
            refine wp_ret ?_
            refine blk_ret ?_
            refine then_ret ?_
            refine f_ret1 (F' := []) hl hh rfl rfl (by repeat (first | exact keeps_nil | apply keeps_cons (by repeat (first | exact find_head | apply find_tail)) (by first  | rfl) | exact keeps_self | apply keeps_mv)) ?_
            first | (exfalso; omega) | exact ⟨congrArg Value.bool (by unfold wfF; simp only; (repeat (first | rw [if_pos (by omega)] | rw [if_neg (by omega)])); (try simp only [noPr, nxV]); (first | rw [show noRl ⟨kd, dv, pr, ix, up, ra, rl, via, pm, da, dl, cl⟩ = true by assumption] | rw [show noRl ⟨kd, dv, pr, ix, up, ra, rl, via, pm, da, dl, cl⟩ = false by assumption] | skip); (first | rw [show noRt ⟨kd, dv, pr, ix, up, ra, rl, via, pm, da, dl, cl⟩ = true by assumption] | rw [show noRt ⟨kd, dv, pr, ix, up, ra, rl, via, pm, da, dl, cl⟩ = false by assumption] | skip); (first | rw [show gpF ra rl = true by assumption] | rw [show gpF ra rl = false by assumption] | skip); (first | rw [show gpF da dl = true by assumption] | rw [show gpF da dl = false by assumption] | skip); (first | rw [show decide (dv < 16) = true from decide_eq_true (by omega)] | rw [show decide (dv < 16) = false from decide_eq_false (by omega)] | skip); (first | rw [show decide (via = 16) = true from decide_eq_true (by omega)] | rw [show decide (via = 16) = false from decide_eq_false (by omega)] | skip); (first | rw [show decide (via < 16) = true from decide_eq_true (by omega)] | rw [show decide (via < 16) = false from decide_eq_false (by omega)] | skip); (first | rw [show decide (via = dv) = true from decide_eq_true (by omega)] | rw [show decide (via = dv) = false from decide_eq_false (by omega)] | skip); (first | rw [show decide (via = 0) = true from decide_eq_true (by omega)] | rw [show decide (via = 0) = false from decide_eq_false (by omega)] | skip); (first | rw [show decide (pr = 0) = true from decide_eq_true (by omega)] | rw [show decide (pr = 0) = false from decide_eq_false (by omega)] | skip); (first | rw [show decide (pr < 16) = true from decide_eq_true (by omega)] | rw [show decide (pr < 16) = false from decide_eq_false (by omega)] | skip); (first | rw [show decide (dv < pr) = true from decide_eq_true (by omega)] | rw [show decide (dv < pr) = false from decide_eq_false (by omega)] | skip); (first | rw [show decide (dv = pr) = true from decide_eq_true (by omega)] | rw [show decide (dv = pr) = false from decide_eq_false (by omega)] | skip); (first | rw [show decide (cl ≤ 16) = true from decide_eq_true (by omega)] | rw [show decide (cl ≤ 16) = false from decide_eq_false (by omega)] | skip); (first | rw [show decide (ix < 64) = true from decide_eq_true (by omega)] | rw [show decide (ix < 64) = false from decide_eq_false (by omega)] | skip); first | rfl | (simp only [Bool.true_and, Bool.and_true, Bool.false_and, Bool.and_false, Bool.true_or, Bool.false_or, Bool.or_false, Bool.or_true, Bool.not_true, Bool.not_false]; first | done | rfl | ((repeat (first | rw [show up = true by assumption] | rw [show up = false by assumption] | rw [show decide (ix = 0) = true from decide_eq_true (by omega)] | rw [show decide (ix = 0) = false from decide_eq_false (by omega)])); rfl))), rfl⟩
    · intro hc0
      try simp only [decide_eq_true_eq, decide_eq_false_iff_not, Bool.not_eq_true', Bool.not_eq_false', Bool.not_eq_true, Bool.not_eq_false, Bool.and_eq_true, Bool.or_eq_true, Bool.and_eq_false_iff, Bool.or_eq_false_iff, Bool.not_not, ne_eq, Int.not_lt, Int.not_le, Decidable.not_not, beq_iff_eq, bne_iff_ne] at hc0
      refine c_seq ?_
      refine c_region ?_
      refine wl (wl_val hl rfl trivial (r_eql hl rfl rfl) ?_)
      clear hl a; intro a hl
      refine wl (wl_val hl rfl trivial (r_assign hl rfl) ?_)
      clear hl a; intro a hl
      refine w_nil ?_
      have hl2 := hl.add (t := 1) (hl.add (t := 3) (hl.add (t := 4) (hl.add (t := 5) (hl.add (t := 24) (hl.add (t := 68) (hl.nil) rfl) rfl) rfl) rfl) rfl) rfl; clear hl; have hl := hl2; clear hl2
      refine then_normal ?_
      refine c_cond hl rfl ?_ ?_
      · intro hc1
        try simp only [decide_eq_true_eq, decide_eq_false_iff_not, Bool.not_eq_true', Bool.not_eq_false', Bool.not_eq_true, Bool.not_eq_false, Bool.and_eq_true, Bool.or_eq_true, Bool.and_eq_false_iff, Bool.or_eq_false_iff, Bool.not_not, ne_eq, Int.not_lt, Int.not_le, Decidable.not_not, beq_iff_eq, bne_iff_ne] at hc1
        refine c_seq ?_
        refine c_region ?_
        refine wl (wl_val hl rfl trivial (r_field hl rfl fld57_1) ?_)
        clear hl a; intro a hl
        refine wl (w_load hl hh rfl trivial one5 rfl (by repeat (first | exact find_head | apply find_tail)) (by first | rfl) ?_)
        clear hl a; intro a hl
        refine wl (w_call hl hh rfl trivial rfl cal64 rfl (isDeviceM _) (by repeat (first | exact keeps_nil | apply keeps_cons (by repeat (first | exact find_head | apply find_tail)) (by first  | rfl) | exact keeps_self | apply keeps_mv)) trivial ?_)
        clear hl hh a w; intro vc Fc a w hR hl hh
        obtain ⟨rfl, rfl⟩ := hR
        try simp only [List.cons_append, List.nil_append] at hh
        refine wl (wl_val hl rfl trivial (r_move hl rfl) ?_)
        clear hl a; intro a hl
        refine sl_split (t := 73) hl rfl ?_ ?_
        · intro hg15; clear hl; intro hl
          try simp only [decide_eq_true_eq, decide_eq_false_iff_not, Bool.not_eq_true', Bool.not_eq_false', Bool.not_eq_true, Bool.not_eq_false, Bool.and_eq_true, Bool.or_eq_true, Bool.and_eq_false_iff, Bool.or_eq_false_iff, Bool.not_not, ne_eq, Int.not_lt, Int.not_le, Decidable.not_not, beq_iff_eq, bne_iff_ne] at hg15
          refine wl (wl_val hl rfl ⟨_, _, rfl, rfl, rfl⟩ (r_field hl rfl fld57_5) ?_)
          clear hl a; intro a hl
          refine wl (wl_val hl rfl ⟨_, _, rfl, rfl, rfl⟩ (r_field hl rfl fld53_0) ?_)
          clear hl a; intro a hl
          refine wl (w_loadA hl hh rfl ⟨_, _, rfl, rfl, rfl⟩ agg51 rfl (by repeat (first | exact find_head | apply find_tail)) (by first | (simp only [List.getElem?_cons_zero, List.getElem?_cons_succ, Value.cells, List.take_zero, List.take_succ_cons, List.take_nil, List.drop_zero, List.drop_succ_cons, List.drop_nil, List.length_cons, List.length_nil, List.cons_append, List.nil_append, List.append_nil, Nat.zero_add, Nat.add_zero, Nat.reduceAdd, Nat.reduceBEq, Nat.reduceEqDiff, Nat.ble, BEq.rfl, Bool.and_true, Bool.and_self, cond_true, beq_self_eq_true]; rfl)) (by first | rfl | (simp; done)) ?_)
          clear hl a; intro a hl
          refine wl (w_call hl hh rfl ⟨_, _, rfl, rfl, rfl⟩ rfl cal65 rfl (isPrefixM _ _ (by omega) (by omega) (by omega) (by omega)) (by repeat (first | exact keeps_nil | apply keeps_cons (by repeat (first | exact find_head | apply find_tail)) (by first  | rfl) | exact keeps_self | apply keeps_mv)) trivial ?_)
          clear hl hh a w; intro vc Fc a w hR hl hh
          obtain ⟨rfl, rfl⟩ := hR
          try simp only [List.cons_append, List.nil_append] at hh
          refine wl (wl_val hl rfl trivial (r_pickT hl rfl rfl) ?_)
          clear hl a; intro a hl
          refine wl (wl_val hl rfl trivial (r_move hl rfl) ?_)
          clear hl a; intro a hl
          refine sl_split (t := 79) hl rfl ?_ ?_
          · intro hg16; clear hl; intro hl
            try simp only [decide_eq_true_eq, decide_eq_false_iff_not, Bool.not_eq_true', Bool.not_eq_false', Bool.not_eq_true, Bool.not_eq_false, Bool.and_eq_true, Bool.or_eq_true, Bool.and_eq_false_iff, Bool.or_eq_false_iff, Bool.not_not, ne_eq, Int.not_lt, Int.not_le, Decidable.not_not, beq_iff_eq, bne_iff_ne] at hg16
            refine wl (wl_val hl rfl ⟨_, _, rfl, rfl, rfl⟩ (r_field hl rfl fld57_5) ?_)
            clear hl a; intro a hl
            refine wl (wl_val hl rfl ⟨_, _, rfl, rfl, rfl⟩ (r_field hl rfl fld53_1) ?_)
            clear hl a; intro a hl
            refine wl (w_load hl hh rfl ⟨_, _, rfl, rfl, rfl⟩ one5 rfl (by repeat (first | exact find_head | apply find_tail)) (by first | rfl) ?_)
            clear hl a; intro a hl
            refine wl (wl_val hl rfl ⟨_, _, rfl, rfl, rfl⟩ (r_eql hl rfl rfl) ?_)
            clear hl a; intro a hl
            refine wl (wl_val hl rfl trivial (r_pickT hl rfl rfl) ?_)
            clear hl a; intro a hl
            refine wl (wl_val hl rfl trivial (r_move hl rfl) ?_)
            clear hl a; intro a hl
            refine sl_split (t := 85) hl rfl ?_ ?_
            · intro hg17; clear hl; intro hl
              try simp only [decide_eq_true_eq, decide_eq_false_iff_not, Bool.not_eq_true', Bool.not_eq_false', Bool.not_eq_true, Bool.not_eq_false, Bool.and_eq_true, Bool.or_eq_true, Bool.and_eq_false_iff, Bool.or_eq_false_iff, Bool.not_not, ne_eq, Int.not_lt, Int.not_le, Decidable.not_not, beq_iff_eq, bne_iff_ne] at hg17
              refine wl (wl_val hl rfl ⟨_, _, rfl, rfl, rfl⟩ (r_move hl rfl) ?_)
              clear hl a; intro a hl
              refine wl (wl_val hl rfl trivial (r_pickT hl rfl rfl) ?_)
              clear hl a; intro a hl
              refine wl (wl_val hl rfl trivial (r_move hl rfl) ?_)
              clear hl a; intro a hl
              refine sl_split (t := 88) hl rfl ?_ ?_
              · intro hg18; clear hl; intro hl
                try simp only [decide_eq_true_eq, decide_eq_false_iff_not, Bool.not_eq_true', Bool.not_eq_false', Bool.not_eq_true, Bool.not_eq_false, Bool.and_eq_true, Bool.or_eq_true, Bool.and_eq_false_iff, Bool.or_eq_false_iff, Bool.not_not, ne_eq, Int.not_lt, Int.not_le, Decidable.not_not, beq_iff_eq, bne_iff_ne] at hg18
                refine wl (wl_val hl rfl ⟨_, _, rfl, rfl, rfl⟩ (r_move hl rfl) ?_)
                clear hl a; intro a hl
                refine wl (wl_val hl rfl trivial (r_pickT hl rfl rfl) ?_)
                clear hl a; intro a hl
                refine wl (wl_val hl rfl trivial (r_move hl rfl) ?_)
                clear hl a; intro a hl
                refine sl_split (t := 91) hl rfl ?_ ?_
                · intro hg19; clear hl; intro hl
                  try simp only [decide_eq_true_eq, decide_eq_false_iff_not, Bool.not_eq_true', Bool.not_eq_false', Bool.not_eq_true, Bool.not_eq_false, Bool.and_eq_true, Bool.or_eq_true, Bool.and_eq_false_iff, Bool.or_eq_false_iff, Bool.not_not, ne_eq, Int.not_lt, Int.not_le, Decidable.not_not, beq_iff_eq, bne_iff_ne] at hg19
                  refine wl (wl_val hl rfl ⟨_, _, rfl, rfl, rfl⟩ (r_field hl rfl fld57_3) ?_)
                  clear hl a; intro a hl
                  refine wl (w_load hl hh rfl ⟨_, _, rfl, rfl, rfl⟩ one5 rfl (by repeat (first | exact find_head | apply find_tail)) (by first | rfl) ?_)
                  clear hl a; intro a hl
                  refine wl (wl_val hl rfl ⟨_, _, rfl, rfl, rfl⟩ (r_eql hl rfl rfl) ?_)
                  clear hl a; intro a hl
                  refine wl (wl_val hl rfl trivial (r_pickT hl rfl rfl) ?_)
                  clear hl a; intro a hl
                  refine wl (wl_val hl rfl trivial (r_assign hl rfl) ?_)
                  clear hl a; intro a hl
                  refine w_nil ?_
                  have hl2 := hl.add (t := 2) (hl.nil) rfl; clear hl; have hl := hl2; clear hl2
                  refine then_normal ?_
                  refine wp_ret ?_
                  refine blk_ret ?_
                  refine then_ret ?_
                  refine f_ret1 (F' := []) hl hh rfl rfl (by repeat (first | exact keeps_nil | apply keeps_cons (by repeat (first | exact find_head | apply find_tail)) (by first  | rfl) | exact keeps_self | apply keeps_mv)) ?_
                  first | (exfalso; omega) | exact ⟨congrArg Value.bool (by unfold wfF; simp only; (repeat (first | rw [if_pos (by omega)] | rw [if_neg (by omega)])); (try simp only [noPr, nxV]); (first | rw [show noRl ⟨kd, dv, pr, ix, up, ra, rl, via, pm, da, dl, cl⟩ = true by assumption] | rw [show noRl ⟨kd, dv, pr, ix, up, ra, rl, via, pm, da, dl, cl⟩ = false by assumption] | skip); (first | rw [show noRt ⟨kd, dv, pr, ix, up, ra, rl, via, pm, da, dl, cl⟩ = true by assumption] | rw [show noRt ⟨kd, dv, pr, ix, up, ra, rl, via, pm, da, dl, cl⟩ = false by assumption] | skip); (first | rw [show gpF ra rl = true by assumption] | rw [show gpF ra rl = false by assumption] | skip); (first | rw [show gpF da dl = true by assumption] | rw [show gpF da dl = false by assumption] | skip); (first | rw [show decide (dv < 16) = true from decide_eq_true (by omega)] | rw [show decide (dv < 16) = false from decide_eq_false (by omega)] | skip); (first | rw [show decide (via = 16) = true from decide_eq_true (by omega)] | rw [show decide (via = 16) = false from decide_eq_false (by omega)] | skip); (first | rw [show decide (via < 16) = true from decide_eq_true (by omega)] | rw [show decide (via < 16) = false from decide_eq_false (by omega)] | skip); (first | rw [show decide (via = dv) = true from decide_eq_true (by omega)] | rw [show decide (via = dv) = false from decide_eq_false (by omega)] | skip); (first | rw [show decide (via = 0) = true from decide_eq_true (by omega)] | rw [show decide (via = 0) = false from decide_eq_false (by omega)] | skip); (first | rw [show decide (pr = 0) = true from decide_eq_true (by omega)] | rw [show decide (pr = 0) = false from decide_eq_false (by omega)] | skip); (first | rw [show decide (pr < 16) = true from decide_eq_true (by omega)] | rw [show decide (pr < 16) = false from decide_eq_false (by omega)] | skip); (first | rw [show decide (dv < pr) = true from decide_eq_true (by omega)] | rw [show decide (dv < pr) = false from decide_eq_false (by omega)] | skip); (first | rw [show decide (dv = pr) = true from decide_eq_true (by omega)] | rw [show decide (dv = pr) = false from decide_eq_false (by omega)] | skip); (first | rw [show decide (cl ≤ 16) = true from decide_eq_true (by omega)] | rw [show decide (cl ≤ 16) = false from decide_eq_false (by omega)] | skip); (first | rw [show decide (ix < 64) = true from decide_eq_true (by omega)] | rw [show decide (ix < 64) = false from decide_eq_false (by omega)] | skip); first | rfl | (simp only [Bool.true_and, Bool.and_true, Bool.false_and, Bool.and_false, Bool.true_or, Bool.false_or, Bool.or_false, Bool.or_true, Bool.not_true, Bool.not_false]; first | done | rfl | ((repeat (first | rw [show up = true by assumption] | rw [show up = false by assumption] | rw [show decide (ix = 0) = true from decide_eq_true (by omega)] | rw [show decide (ix = 0) = false from decide_eq_false (by omega)])); rfl))), rfl⟩
                · intro hg19; clear hl; intro hl
                  try simp only [decide_eq_true_eq, decide_eq_false_iff_not, Bool.not_eq_true', Bool.not_eq_false', Bool.not_eq_true, Bool.not_eq_false, Bool.and_eq_true, Bool.or_eq_true, Bool.and_eq_false_iff, Bool.or_eq_false_iff, Bool.not_not, ne_eq, Int.not_lt, Int.not_le, Decidable.not_not, beq_iff_eq, bne_iff_ne] at hg19
                  refine wl (wl_skip hl rfl ⟨_, _, rfl, rfl, rfl⟩ ?_)
                  clear hl a; intro a hl
                  refine wl (wl_skip hl rfl ⟨_, _, rfl, rfl, rfl⟩ ?_)
                  clear hl a; intro a hl
                  refine wl (wl_skip hl rfl ⟨_, _, rfl, rfl, rfl⟩ ?_)
                  clear hl a; intro a hl
                  refine wl (wl_val hl rfl trivial (r_pickF hl rfl rfl) ?_)
                  clear hl a; intro a hl
                  refine wl (wl_val hl rfl trivial (r_assign hl rfl) ?_)
                  clear hl a; intro a hl
                  refine w_nil ?_
                  have hl2 := hl.add (t := 2) (hl.nil) rfl; clear hl; have hl := hl2; clear hl2
                  refine then_normal ?_
                  refine wp_ret ?_
                  refine blk_ret ?_
                  refine then_ret ?_
                  refine f_ret1 (F' := []) hl hh rfl rfl (by repeat (first | exact keeps_nil | apply keeps_cons (by repeat (first | exact find_head | apply find_tail)) (by first  | rfl) | exact keeps_self | apply keeps_mv)) ?_
                  first | (exfalso; omega) | exact ⟨congrArg Value.bool (by unfold wfF; simp only; (repeat (first | rw [if_pos (by omega)] | rw [if_neg (by omega)])); (try simp only [noPr, nxV]); (first | rw [show noRl ⟨kd, dv, pr, ix, up, ra, rl, via, pm, da, dl, cl⟩ = true by assumption] | rw [show noRl ⟨kd, dv, pr, ix, up, ra, rl, via, pm, da, dl, cl⟩ = false by assumption] | skip); (first | rw [show noRt ⟨kd, dv, pr, ix, up, ra, rl, via, pm, da, dl, cl⟩ = true by assumption] | rw [show noRt ⟨kd, dv, pr, ix, up, ra, rl, via, pm, da, dl, cl⟩ = false by assumption] | skip); (first | rw [show gpF ra rl = true by assumption] | rw [show gpF ra rl = false by assumption] | skip); (first | rw [show gpF da dl = true by assumption] | rw [show gpF da dl = false by assumption] | skip); (first | rw [show decide (dv < 16) = true from decide_eq_true (by omega)] | rw [show decide (dv < 16) = false from decide_eq_false (by omega)] | skip); (first | rw [show decide (via = 16) = true from decide_eq_true (by omega)] | rw [show decide (via = 16) = false from decide_eq_false (by omega)] | skip); (first | rw [show decide (via < 16) = true from decide_eq_true (by omega)] | rw [show decide (via < 16) = false from decide_eq_false (by omega)] | skip); (first | rw [show decide (via = dv) = true from decide_eq_true (by omega)] | rw [show decide (via = dv) = false from decide_eq_false (by omega)] | skip); (first | rw [show decide (via = 0) = true from decide_eq_true (by omega)] | rw [show decide (via = 0) = false from decide_eq_false (by omega)] | skip); (first | rw [show decide (pr = 0) = true from decide_eq_true (by omega)] | rw [show decide (pr = 0) = false from decide_eq_false (by omega)] | skip); (first | rw [show decide (pr < 16) = true from decide_eq_true (by omega)] | rw [show decide (pr < 16) = false from decide_eq_false (by omega)] | skip); (first | rw [show decide (dv < pr) = true from decide_eq_true (by omega)] | rw [show decide (dv < pr) = false from decide_eq_false (by omega)] | skip); (first | rw [show decide (dv = pr) = true from decide_eq_true (by omega)] | rw [show decide (dv = pr) = false from decide_eq_false (by omega)] | skip); (first | rw [show decide (cl ≤ 16) = true from decide_eq_true (by omega)] | rw [show decide (cl ≤ 16) = false from decide_eq_false (by omega)] | skip); (first | rw [show decide (ix < 64) = true from decide_eq_true (by omega)] | rw [show decide (ix < 64) = false from decide_eq_false (by omega)] | skip); first | rfl | (simp only [Bool.true_and, Bool.and_true, Bool.false_and, Bool.and_false, Bool.true_or, Bool.false_or, Bool.or_false, Bool.or_true, Bool.not_true, Bool.not_false]; first | done | rfl | ((repeat (first | rw [show up = true by assumption] | rw [show up = false by assumption] | rw [show decide (ix = 0) = true from decide_eq_true (by omega)] | rw [show decide (ix = 0) = false from decide_eq_false (by omega)])); rfl))), rfl⟩
              · intro hg18; clear hl; intro hl
                try simp only [decide_eq_true_eq, decide_eq_false_iff_not, Bool.not_eq_true', Bool.not_eq_false', Bool.not_eq_true, Bool.not_eq_false, Bool.and_eq_true, Bool.or_eq_true, Bool.and_eq_false_iff, Bool.or_eq_false_iff, Bool.not_not, ne_eq, Int.not_lt, Int.not_le, Decidable.not_not, beq_iff_eq, bne_iff_ne] at hg18
                refine wl (wl_skip hl rfl ⟨_, _, rfl, rfl, rfl⟩ ?_)
                clear hl a; intro a hl
                refine wl (wl_val hl rfl trivial (r_pickF hl rfl rfl) ?_)
                clear hl a; intro a hl
                refine wl (wl_val hl rfl trivial (r_move hl rfl) ?_)
                clear hl a; intro a hl
                refine wl (wl_skip hl rfl ⟨_, _, rfl, rfl, rfl⟩ ?_)
                clear hl a; intro a hl
                refine wl (wl_skip hl rfl ⟨_, _, rfl, rfl, rfl⟩ ?_)
                clear hl a; intro a hl
                refine wl (wl_skip hl rfl ⟨_, _, rfl, rfl, rfl⟩ ?_)
                clear hl a; intro a hl
                refine wl (wl_val hl rfl trivial (r_pickF hl rfl rfl) ?_)
                clear hl a; intro a hl
                refine wl (wl_val hl rfl trivial (r_assign hl rfl) ?_)
                clear hl a; intro a hl
                refine w_nil ?_
                have hl2 := hl.add (t := 2) (hl.nil) rfl; clear hl; have hl := hl2; clear hl2
                refine then_normal ?_
                refine wp_ret ?_
                refine blk_ret ?_
                refine then_ret ?_
                refine f_ret1 (F' := []) hl hh rfl rfl (by repeat (first | exact keeps_nil | apply keeps_cons (by repeat (first | exact find_head | apply find_tail)) (by first  | rfl) | exact keeps_self | apply keeps_mv)) ?_
                first | (exfalso; omega) | exact ⟨congrArg Value.bool (by unfold wfF; simp only; (repeat (first | rw [if_pos (by omega)] | rw [if_neg (by omega)])); (try simp only [noPr, nxV]); (first | rw [show noRl ⟨kd, dv, pr, ix, up, ra, rl, via, pm, da, dl, cl⟩ = true by assumption] | rw [show noRl ⟨kd, dv, pr, ix, up, ra, rl, via, pm, da, dl, cl⟩ = false by assumption] | skip); (first | rw [show noRt ⟨kd, dv, pr, ix, up, ra, rl, via, pm, da, dl, cl⟩ = true by assumption] | rw [show noRt ⟨kd, dv, pr, ix, up, ra, rl, via, pm, da, dl, cl⟩ = false by assumption] | skip); (first | rw [show gpF ra rl = true by assumption] | rw [show gpF ra rl = false by assumption] | skip); (first | rw [show gpF da dl = true by assumption] | rw [show gpF da dl = false by assumption] | skip); (first | rw [show decide (dv < 16) = true from decide_eq_true (by omega)] | rw [show decide (dv < 16) = false from decide_eq_false (by omega)] | skip); (first | rw [show decide (via = 16) = true from decide_eq_true (by omega)] | rw [show decide (via = 16) = false from decide_eq_false (by omega)] | skip); (first | rw [show decide (via < 16) = true from decide_eq_true (by omega)] | rw [show decide (via < 16) = false from decide_eq_false (by omega)] | skip); (first | rw [show decide (via = dv) = true from decide_eq_true (by omega)] | rw [show decide (via = dv) = false from decide_eq_false (by omega)] | skip); (first | rw [show decide (via = 0) = true from decide_eq_true (by omega)] | rw [show decide (via = 0) = false from decide_eq_false (by omega)] | skip); (first | rw [show decide (pr = 0) = true from decide_eq_true (by omega)] | rw [show decide (pr = 0) = false from decide_eq_false (by omega)] | skip); (first | rw [show decide (pr < 16) = true from decide_eq_true (by omega)] | rw [show decide (pr < 16) = false from decide_eq_false (by omega)] | skip); (first | rw [show decide (dv < pr) = true from decide_eq_true (by omega)] | rw [show decide (dv < pr) = false from decide_eq_false (by omega)] | skip); (first | rw [show decide (dv = pr) = true from decide_eq_true (by omega)] | rw [show decide (dv = pr) = false from decide_eq_false (by omega)] | skip); (first | rw [show decide (cl ≤ 16) = true from decide_eq_true (by omega)] | rw [show decide (cl ≤ 16) = false from decide_eq_false (by omega)] | skip); (first | rw [show decide (ix < 64) = true from decide_eq_true (by omega)] | rw [show decide (ix < 64) = false from decide_eq_false (by omega)] | skip); first | rfl | (simp only [Bool.true_and, Bool.and_true, Bool.false_and, Bool.and_false, Bool.true_or, Bool.false_or, Bool.or_false, Bool.or_true, Bool.not_true, Bool.not_false]; first | done | rfl | ((repeat (first | rw [show up = true by assumption] | rw [show up = false by assumption] | rw [show decide (ix = 0) = true from decide_eq_true (by omega)] | rw [show decide (ix = 0) = false from decide_eq_false (by omega)])); rfl))), rfl⟩
            · intro hg17; clear hl; intro hl
              try simp only [decide_eq_true_eq, decide_eq_false_iff_not, Bool.not_eq_true', Bool.not_eq_false', Bool.not_eq_true, Bool.not_eq_false, Bool.and_eq_true, Bool.or_eq_true, Bool.and_eq_false_iff, Bool.or_eq_false_iff, Bool.not_not, ne_eq, Int.not_lt, Int.not_le, Decidable.not_not, beq_iff_eq, bne_iff_ne] at hg17
              refine wl (wl_skip hl rfl ⟨_, _, rfl, rfl, rfl⟩ ?_)
              clear hl a; intro a hl
              refine wl (wl_val hl rfl trivial (r_pickF hl rfl rfl) ?_)
              clear hl a; intro a hl
              refine wl (wl_val hl rfl trivial (r_move hl rfl) ?_)
              clear hl a; intro a hl
              refine wl (wl_skip hl rfl ⟨_, _, rfl, rfl, rfl⟩ ?_)
              clear hl a; intro a hl
              refine wl (wl_val hl rfl trivial (r_pickF hl rfl rfl) ?_)
              clear hl a; intro a hl
              refine wl (wl_val hl rfl trivial (r_move hl rfl) ?_)
              clear hl a; intro a hl
              refine wl (wl_skip hl rfl ⟨_, _, rfl, rfl, rfl⟩ ?_)
              clear hl a; intro a hl
              refine wl (wl_skip hl rfl ⟨_, _, rfl, rfl, rfl⟩ ?_)
              clear hl a; intro a hl
              refine wl (wl_skip hl rfl ⟨_, _, rfl, rfl, rfl⟩ ?_)
              clear hl a; intro a hl
              refine wl (wl_val hl rfl trivial (r_pickF hl rfl rfl) ?_)
              clear hl a; intro a hl
              refine wl (wl_val hl rfl trivial (r_assign hl rfl) ?_)
              clear hl a; intro a hl
              refine w_nil ?_
              have hl2 := hl.add (t := 2) (hl.nil) rfl; clear hl; have hl := hl2; clear hl2
              refine then_normal ?_
              refine wp_ret ?_
              refine blk_ret ?_
              refine then_ret ?_
              refine f_ret1 (F' := []) hl hh rfl rfl (by repeat (first | exact keeps_nil | apply keeps_cons (by repeat (first | exact find_head | apply find_tail)) (by first  | rfl) | exact keeps_self | apply keeps_mv)) ?_
              first | (exfalso; omega) | exact ⟨congrArg Value.bool (by unfold wfF; simp only; (repeat (first | rw [if_pos (by omega)] | rw [if_neg (by omega)])); (try simp only [noPr, nxV]); (first | rw [show noRl ⟨kd, dv, pr, ix, up, ra, rl, via, pm, da, dl, cl⟩ = true by assumption] | rw [show noRl ⟨kd, dv, pr, ix, up, ra, rl, via, pm, da, dl, cl⟩ = false by assumption] | skip); (first | rw [show noRt ⟨kd, dv, pr, ix, up, ra, rl, via, pm, da, dl, cl⟩ = true by assumption] | rw [show noRt ⟨kd, dv, pr, ix, up, ra, rl, via, pm, da, dl, cl⟩ = false by assumption] | skip); (first | rw [show gpF ra rl = true by assumption] | rw [show gpF ra rl = false by assumption] | skip); (first | rw [show gpF da dl = true by assumption] | rw [show gpF da dl = false by assumption] | skip); (first | rw [show decide (dv < 16) = true from decide_eq_true (by omega)] | rw [show decide (dv < 16) = false from decide_eq_false (by omega)] | skip); (first | rw [show decide (via = 16) = true from decide_eq_true (by omega)] | rw [show decide (via = 16) = false from decide_eq_false (by omega)] | skip); (first | rw [show decide (via < 16) = true from decide_eq_true (by omega)] | rw [show decide (via < 16) = false from decide_eq_false (by omega)] | skip); (first | rw [show decide (via = dv) = true from decide_eq_true (by omega)] | rw [show decide (via = dv) = false from decide_eq_false (by omega)] | skip); (first | rw [show decide (via = 0) = true from decide_eq_true (by omega)] | rw [show decide (via = 0) = false from decide_eq_false (by omega)] | skip); (first | rw [show decide (pr = 0) = true from decide_eq_true (by omega)] | rw [show decide (pr = 0) = false from decide_eq_false (by omega)] | skip); (first | rw [show decide (pr < 16) = true from decide_eq_true (by omega)] | rw [show decide (pr < 16) = false from decide_eq_false (by omega)] | skip); (first | rw [show decide (dv < pr) = true from decide_eq_true (by omega)] | rw [show decide (dv < pr) = false from decide_eq_false (by omega)] | skip); (first | rw [show decide (dv = pr) = true from decide_eq_true (by omega)] | rw [show decide (dv = pr) = false from decide_eq_false (by omega)] | skip); (first | rw [show decide (cl ≤ 16) = true from decide_eq_true (by omega)] | rw [show decide (cl ≤ 16) = false from decide_eq_false (by omega)] | skip); (first | rw [show decide (ix < 64) = true from decide_eq_true (by omega)] | rw [show decide (ix < 64) = false from decide_eq_false (by omega)] | skip); first | rfl | (simp only [Bool.true_and, Bool.and_true, Bool.false_and, Bool.and_false, Bool.true_or, Bool.false_or, Bool.or_false, Bool.or_true, Bool.not_true, Bool.not_false]; first | done | rfl | ((repeat (first | rw [show up = true by assumption] | rw [show up = false by assumption] | rw [show decide (ix = 0) = true from decide_eq_true (by omega)] | rw [show decide (ix = 0) = false from decide_eq_false (by omega)])); rfl))), rfl⟩
          · intro hg16; clear hl; intro hl
            try simp only [decide_eq_true_eq, decide_eq_false_iff_not, Bool.not_eq_true', Bool.not_eq_false', Bool.not_eq_true, Bool.not_eq_false, Bool.and_eq_true, Bool.or_eq_true, Bool.and_eq_false_iff, Bool.or_eq_false_iff, Bool.not_not, ne_eq, Int.not_lt, Int.not_le, Decidable.not_not, beq_iff_eq, bne_iff_ne] at hg16
            refine wl (wl_skip hl rfl ⟨_, _, rfl, rfl, rfl⟩ ?_)
            clear hl a; intro a hl
            refine wl (wl_skip hl rfl ⟨_, _, rfl, rfl, rfl⟩ ?_)
            clear hl a; intro a hl
            refine wl (wl_skip hl rfl ⟨_, _, rfl, rfl, rfl⟩ ?_)
            clear hl a; intro a hl
            refine wl (wl_skip hl rfl ⟨_, _, rfl, rfl, rfl⟩ ?_)
            clear hl a; intro a hl
            refine wl (wl_val hl rfl trivial (r_pickF hl rfl rfl) ?_)
            clear hl a; intro a hl
            refine wl (wl_val hl rfl trivial (r_move hl rfl) ?_)
            clear hl a; intro a hl
            refine wl (wl_skip hl rfl ⟨_, _, rfl, rfl, rfl⟩ ?_)
            clear hl a; intro a hl
            refine wl (wl_val hl rfl trivial (r_pickF hl rfl rfl) ?_)
            clear hl a; intro a hl
            refine wl (wl_val hl rfl trivial (r_move hl rfl) ?_)
            clear hl a; intro a hl
            refine wl (wl_skip hl rfl ⟨_, _, rfl, rfl, rfl⟩ ?_)
            clear hl a; intro a hl
            refine wl (wl_val hl rfl trivial (r_pickF hl rfl rfl) ?_)
            clear hl a; intro a hl
            refine wl (wl_val hl rfl trivial (r_move hl rfl) ?_)
            clear hl a; intro a hl
            refine wl (wl_skip hl rfl ⟨_, _, rfl, rfl, rfl⟩ ?_)
            clear hl a; intro a hl
            refine wl (wl_skip hl rfl ⟨_, _, rfl, rfl, rfl⟩ ?_)
            clear hl a; intro a hl
            refine wl (wl_skip hl rfl ⟨_, _, rfl, rfl, rfl⟩ ?_)
            clear hl a; intro a hl
            refine wl (wl_val hl rfl trivial (r_pickF hl rfl rfl) ?_)
            clear hl a; intro a hl
            refine wl (wl_val hl rfl trivial (r_assign hl rfl) ?_)
            clear hl a; intro a hl
            refine w_nil ?_
            have hl2 := hl.add (t := 2) (hl.nil) rfl; clear hl; have hl := hl2; clear hl2
            refine then_normal ?_
            refine wp_ret ?_
            refine blk_ret ?_
            refine then_ret ?_
            refine f_ret1 (F' := []) hl hh rfl rfl (by repeat (first | exact keeps_nil | apply keeps_cons (by repeat (first | exact find_head | apply find_tail)) (by first  | rfl) | exact keeps_self | apply keeps_mv)) ?_
            first | (exfalso; omega) | exact ⟨congrArg Value.bool (by unfold wfF; simp only; (repeat (first | rw [if_pos (by omega)] | rw [if_neg (by omega)])); (try simp only [noPr, nxV]); (first | rw [show noRl ⟨kd, dv, pr, ix, up, ra, rl, via, pm, da, dl, cl⟩ = true by assumption] | rw [show noRl ⟨kd, dv, pr, ix, up, ra, rl, via, pm, da, dl, cl⟩ = false by assumption] | skip); (first | rw [show noRt ⟨kd, dv, pr, ix, up, ra, rl, via, pm, da, dl, cl⟩ = true by assumption] | rw [show noRt ⟨kd, dv, pr, ix, up, ra, rl, via, pm, da, dl, cl⟩ = false by assumption] | skip); (first | rw [show gpF ra rl = true by assumption] | rw [show gpF ra rl = false by assumption] | skip); (first | rw [show gpF da dl = true by assumption] | rw [show gpF da dl = false by assumption] | skip); (first | rw [show decide (dv < 16) = true from decide_eq_true (by omega)] | rw [show decide (dv < 16) = false from decide_eq_false (by omega)] | skip); (first | rw [show decide (via = 16) = true from decide_eq_true (by omega)] | rw [show decide (via = 16) = false from decide_eq_false (by omega)] | skip); (first | rw [show decide (via < 16) = true from decide_eq_true (by omega)] | rw [show decide (via < 16) = false from decide_eq_false (by omega)] | skip); (first | rw [show decide (via = dv) = true from decide_eq_true (by omega)] | rw [show decide (via = dv) = false from decide_eq_false (by omega)] | skip); (first | rw [show decide (via = 0) = true from decide_eq_true (by omega)] | rw [show decide (via = 0) = false from decide_eq_false (by omega)] | skip); (first | rw [show decide (pr = 0) = true from decide_eq_true (by omega)] | rw [show decide (pr = 0) = false from decide_eq_false (by omega)] | skip); (first | rw [show decide (pr < 16) = true from decide_eq_true (by omega)] | rw [show decide (pr < 16) = false from decide_eq_false (by omega)] | skip); (first | rw [show decide (dv < pr) = true from decide_eq_true (by omega)] | rw [show decide (dv < pr) = false from decide_eq_false (by omega)] | skip); (first | rw [show decide (dv = pr) = true from decide_eq_true (by omega)] | rw [show decide (dv = pr) = false from decide_eq_false (by omega)] | skip); (first | rw [show decide (cl ≤ 16) = true from decide_eq_true (by omega)] | rw [show decide (cl ≤ 16) = false from decide_eq_false (by omega)] | skip); (first | rw [show decide (ix < 64) = true from decide_eq_true (by omega)] | rw [show decide (ix < 64) = false from decide_eq_false (by omega)] | skip); first | rfl | (simp only [Bool.true_and, Bool.and_true, Bool.false_and, Bool.and_false, Bool.true_or, Bool.false_or, Bool.or_false, Bool.or_true, Bool.not_true, Bool.not_false]; first | done | rfl | ((repeat (first | rw [show up = true by assumption] | rw [show up = false by assumption] | rw [show decide (ix = 0) = true from decide_eq_true (by omega)] | rw [show decide (ix = 0) = false from decide_eq_false (by omega)])); rfl))), rfl⟩
        · intro hg15; clear hl; intro hl
          try simp only [decide_eq_true_eq, decide_eq_false_iff_not, Bool.not_eq_true', Bool.not_eq_false', Bool.not_eq_true, Bool.not_eq_false, Bool.and_eq_true, Bool.or_eq_true, Bool.and_eq_false_iff, Bool.or_eq_false_iff, Bool.not_not, ne_eq, Int.not_lt, Int.not_le, Decidable.not_not, beq_iff_eq, bne_iff_ne] at hg15
          refine wl (wl_skip hl rfl ⟨_, _, rfl, rfl, rfl⟩ ?_)
          clear hl a; intro a hl
          refine wl (wl_skip hl rfl ⟨_, _, rfl, rfl, rfl⟩ ?_)
          clear hl a; intro a hl
          refine wl (wl_skip hl rfl ⟨_, _, rfl, rfl, rfl⟩ ?_)
          clear hl a; intro a hl
          refine wl (wl_skip hl rfl ⟨_, _, rfl, rfl, rfl⟩ ?_)
          clear hl a; intro a hl
          refine wl (wl_val hl rfl trivial (r_pickF hl rfl rfl) ?_)
          clear hl a; intro a hl
          refine wl (wl_val hl rfl trivial (r_move hl rfl) ?_)
          clear hl a; intro a hl
          refine wl (wl_skip hl rfl ⟨_, _, rfl, rfl, rfl⟩ ?_)
          clear hl a; intro a hl
          refine wl (wl_skip hl rfl ⟨_, _, rfl, rfl, rfl⟩ ?_)
          clear hl a; intro a hl
          refine wl (wl_skip hl rfl ⟨_, _, rfl, rfl, rfl⟩ ?_)
          clear hl a; intro a hl
          refine wl (wl_skip hl rfl ⟨_, _, rfl, rfl, rfl⟩ ?_)
          clear hl a; intro a hl
          refine wl (wl_val hl rfl trivial (r_pickF hl rfl rfl) ?_)
          clear hl a; intro a hl
          refine wl (wl_val hl rfl trivial (r_move hl rfl) ?_)
          clear hl a; intro a hl
          refine wl (wl_skip hl rfl ⟨_, _, rfl, rfl, rfl⟩ ?_)
          clear hl a; intro a hl
          refine wl (wl_val hl rfl trivial (r_pickF hl rfl rfl) ?_)
          clear hl a; intro a hl
          refine wl (wl_val hl rfl trivial (r_move hl rfl) ?_)
          clear hl a; intro a hl
          refine wl (wl_skip hl rfl ⟨_, _, rfl, rfl, rfl⟩ ?_)
          clear hl a; intro a hl
          refine wl (wl_val hl rfl trivial (r_pickF hl rfl rfl) ?_)
          clear hl a; intro a hl
          refine wl (wl_val hl rfl trivial (r_move hl rfl) ?_)
          clear hl a; intro a hl
          refine wl (wl_skip hl rfl ⟨_, _, rfl, rfl, rfl⟩ ?_)
          clear hl a; intro a hl
          refine wl (wl_skip hl rfl ⟨_, _, rfl, rfl, rfl⟩ ?_)
          clear hl a; intro a hl
          refine wl (wl_skip hl rfl ⟨_, _, rfl, rfl, rfl⟩ ?_)
          clear hl a; intro a hl
          refine wl (wl_val hl rfl trivial (r_pickF hl rfl rfl) ?_)
          clear hl a; intro a hl
          refine wl (wl_val hl rfl trivial (r_assign hl rfl) ?_)
          clear hl a; intro a hl
          refine w_nil ?_
          have hl2 := hl.add (t := 2) (hl.nil) rfl; clear hl; have hl := hl2; clear hl2
          refine then_normal ?_
          refine wp_ret ?_
          refine blk_ret ?_
          refine then_ret ?_
          refine f_ret1 (F' := []) hl hh rfl rfl (by repeat (first | exact keeps_nil | apply keeps_cons (by repeat (first | exact find_head | apply find_tail)) (by first  | rfl) | exact keeps_self | apply keeps_mv)) ?_
          first | (exfalso; omega) | exact ⟨congrArg Value.bool (by unfold wfF; simp only; (repeat (first | rw [if_pos (by omega)] | rw [if_neg (by omega)])); (try simp only [noPr, nxV]); (first | rw [show noRl ⟨kd, dv, pr, ix, up, ra, rl, via, pm, da, dl, cl⟩ = true by assumption] | rw [show noRl ⟨kd, dv, pr, ix, up, ra, rl, via, pm, da, dl, cl⟩ = false by assumption] | skip); (first | rw [show noRt ⟨kd, dv, pr, ix, up, ra, rl, via, pm, da, dl, cl⟩ = true by assumption] | rw [show noRt ⟨kd, dv, pr, ix, up, ra, rl, via, pm, da, dl, cl⟩ = false by assumption] | skip); (first | rw [show gpF ra rl = true by assumption] | rw [show gpF ra rl = false by assumption] | skip); (first | rw [show gpF da dl = true by assumption] | rw [show gpF da dl = false by assumption] | skip); (first | rw [show decide (dv < 16) = true from decide_eq_true (by omega)] | rw [show decide (dv < 16) = false from decide_eq_false (by omega)] | skip); (first | rw [show decide (via = 16) = true from decide_eq_true (by omega)] | rw [show decide (via = 16) = false from decide_eq_false (by omega)] | skip); (first | rw [show decide (via < 16) = true from decide_eq_true (by omega)] | rw [show decide (via < 16) = false from decide_eq_false (by omega)] | skip); (first | rw [show decide (via = dv) = true from decide_eq_true (by omega)] | rw [show decide (via = dv) = false from decide_eq_false (by omega)] | skip); (first | rw [show decide (via = 0) = true from decide_eq_true (by omega)] | rw [show decide (via = 0) = false from decide_eq_false (by omega)] | skip); (first | rw [show decide (pr = 0) = true from decide_eq_true (by omega)] | rw [show decide (pr = 0) = false from decide_eq_false (by omega)] | skip); (first | rw [show decide (pr < 16) = true from decide_eq_true (by omega)] | rw [show decide (pr < 16) = false from decide_eq_false (by omega)] | skip); (first | rw [show decide (dv < pr) = true from decide_eq_true (by omega)] | rw [show decide (dv < pr) = false from decide_eq_false (by omega)] | skip); (first | rw [show decide (dv = pr) = true from decide_eq_true (by omega)] | rw [show decide (dv = pr) = false from decide_eq_false (by omega)] | skip); (first | rw [show decide (cl ≤ 16) = true from decide_eq_true (by omega)] | rw [show decide (cl ≤ 16) = false from decide_eq_false (by omega)] | skip); (first | rw [show decide (ix < 64) = true from decide_eq_true (by omega)] | rw [show decide (ix < 64) = false from decide_eq_false (by omega)] | skip); first | rfl | (simp only [Bool.true_and, Bool.and_true, Bool.false_and, Bool.and_false, Bool.true_or, Bool.false_or, Bool.or_false, Bool.or_true, Bool.not_true, Bool.not_false]; first | done | rfl | ((repeat (first | rw [show up = true by assumption] | rw [show up = false by assumption] | rw [show decide (ix = 0) = true from decide_eq_true (by omega)] | rw [show decide (ix = 0) = false from decide_eq_false (by omega)])); rfl))), rfl⟩
      · intro hc1
        try simp only [decide_eq_true_eq, decide_eq_false_iff_not, Bool.not_eq_true', Bool.not_eq_false', Bool.not_eq_true, Bool.not_eq_false, Bool.and_eq_true, Bool.or_eq_true, Bool.and_eq_false_iff, Bool.or_eq_false_iff, Bool.not_not, ne_eq, Int.not_lt, Int.not_le, Decidable.not_not, beq_iff_eq, bne_iff_ne] at hc1
        refine c_seq ?_
        refine c_region ?_
        refine wl (wl_val hl rfl trivial (r_eql hl rfl rfl) ?_)
        clear hl a; intro a hl
        refine wl (wl_val hl rfl trivial (r_assign hl rfl) ?_)
        clear hl a; intro a hl
        refine w_nil ?_
        have hl2 := hl.add (t := 1) (hl.add (t := 3) (hl.add (t := 4) (hl.add (t := 5) (hl.add (t := 24) (hl.add (t := 96) (hl.nil) rfl) rfl) rfl) rfl) rfl) rfl; clear hl; have hl := hl2; clear hl2
        refine then_normal ?_
        refine c_cond hl rfl ?_ ?_
        · intro hc2
          try simp only [decide_eq_true_eq, decide_eq_false_iff_not, Bool.not_eq_true', Bool.not_eq_false', Bool.not_eq_true, Bool.not_eq_false, Bool.and_eq_true, Bool.or_eq_true, Bool.and_eq_false_iff, Bool.or_eq_false_iff, Bool.not_not, ne_eq, Int.not_lt, Int.not_le, Decidable.not_not, beq_iff_eq, bne_iff_ne] at hc2
          refine c_seq ?_
          refine c_region ?_
          refine wl (wl_val hl rfl trivial (r_field hl rfl fld57_1) ?_)
          clear hl a; intro a hl
          refine wl (w_load hl hh rfl trivial one5 rfl (by repeat (first | exact find_head | apply find_tail)) (by first | rfl) ?_)
          clear hl a; intro a hl
          refine wl (w_call hl hh rfl trivial rfl cal64 rfl (isDeviceM _) (by repeat (first | exact keeps_nil | apply keeps_cons (by repeat (first | exact find_head | apply find_tail)) (by first  | rfl) | exact keeps_self | apply keeps_mv)) trivial ?_)
          clear hl hh a w; intro vc Fc a w hR hl hh
          obtain ⟨rfl, rfl⟩ := hR
          try simp only [List.cons_append, List.nil_append] at hh
          refine wl (wl_val hl rfl trivial (r_move hl rfl) ?_)
          clear hl a; intro a hl
          refine sl_split (t := 101) hl rfl ?_ ?_
          · intro hg20; clear hl; intro hl
            try simp only [decide_eq_true_eq, decide_eq_false_iff_not, Bool.not_eq_true', Bool.not_eq_false', Bool.not_eq_true, Bool.not_eq_false, Bool.and_eq_true, Bool.or_eq_true, Bool.and_eq_false_iff, Bool.or_eq_false_iff, Bool.not_not, ne_eq, Int.not_lt, Int.not_le, Decidable.not_not, beq_iff_eq, bne_iff_ne] at hg20
            refine wl (wl_val hl rfl ⟨_, _, rfl, rfl, rfl⟩ (r_field hl rfl fld57_3) ?_)
            clear hl a; intro a hl
            refine wl (w_load hl hh rfl ⟨_, _, rfl, rfl, rfl⟩ one5 rfl (by repeat (first | exact find_head | apply find_tail)) (by first | rfl) ?_)
            clear hl a; intro a hl
            refine wl (wl_val hl rfl ⟨_, _, rfl, rfl, rfl⟩ (r_lss hl rfl rfl) ?_)
            clear hl a; intro a hl
            refine wl (wl_val hl rfl trivial (r_pickT hl rfl rfl) ?_)
            clear hl a; intro a hl
            refine wl (wl_val hl rfl trivial (r_move hl rfl) ?_)
            clear hl a; intro a hl
            refine sl_split (t := 106) hl rfl ?_ ?_
            · intro hg21; clear hl; intro hl
              try simp only [decide_eq_true_eq, decide_eq_false_iff_not, Bool.not_eq_true', Bool.not_eq_false', Bool.not_eq_true, Bool.not_eq_false, Bool.and_eq_true, Bool.or_eq_true, Bool.and_eq_false_iff, Bool.or_eq_false_iff, Bool.not_not, ne_eq, Int.not_lt, Int.not_le, Decidable.not_not, beq_iff_eq, bne_iff_ne] at hg21
              refine wl (wl_val hl rfl ⟨_, _, rfl, rfl, rfl⟩ (r_field hl rfl fld57_6) ?_)
              clear hl a; intro a hl
              refine wl (wl_val hl rfl ⟨_, _, rfl, rfl, rfl⟩ (r_field hl rfl fld55_1) ?_)
              clear hl a; intro a hl
              refine wl (w_loadA hl hh rfl ⟨_, _, rfl, rfl, rfl⟩ agg51 rfl (by repeat (first | exact find_head | apply find_tail)) (by first | (simp only [List.getElem?_cons_zero, List.getElem?_cons_succ, Value.cells, List.take_zero, List.take_succ_cons, List.take_nil, List.drop_zero, List.drop_succ_cons, List.drop_nil, List.length_cons, List.length_nil, List.cons_append, List.nil_append, List.append_nil, Nat.zero_add, Nat.add_zero, Nat.reduceAdd, Nat.reduceBEq, Nat.reduceEqDiff, Nat.ble, BEq.rfl, Bool.and_true, Bool.and_self, cond_true, beq_self_eq_true]; rfl)) (by first | rfl | (simp; done)) ?_)
              clear hl a; intro a hl
              refine wl (w_call hl hh rfl ⟨_, _, rfl, rfl, rfl⟩ rfl cal65 rfl (isPrefixM _ _ (by omega) (by omega) (by omega) (by omega)) (by repeat (first | exact keeps_nil | apply keeps_cons (by repeat (first | exact find_head | apply find_tail)) (by first  | rfl) | exact keeps_self | apply keeps_mv)) trivial ?_)
              clear hl hh a w; intro vc Fc a w hR hl hh
              obtain ⟨rfl, rfl⟩ := hR
              try simp only [List.cons_append, List.nil_append] at hh
              refine wl (wl_val hl rfl trivial (r_pickT hl rfl rfl) ?_)
              clear hl a; intro a hl
              refine wl (wl_val hl rfl trivial (r_move hl rfl) ?_)
              clear hl a; intro a hl
              refine sl_split (t := 112) hl rfl ?_ ?_
              · intro hg22; clear hl; intro hl
                try simp only [decide_eq_true_eq, decide_eq_false_iff_not, Bool.not_eq_true', Bool.not_eq_false', Bool.not_eq_true, Bool.not_eq_false, Bool.and_eq_true, Bool.or_eq_true, Bool.and_eq_false_iff, Bool.or_eq_false_iff, Bool.not_not, ne_eq, Int.not_lt, Int.not_le, Decidable.not_not, beq_iff_eq, bne_iff_ne] at hg22
                refine wl (wl_val hl rfl ⟨_, _, rfl, rfl, rfl⟩ (r_field hl rfl fld57_6) ?_)
                clear hl a; intro a hl
                refine wl (wl_val hl rfl ⟨_, _, rfl, rfl, rfl⟩ (r_field hl rfl fld55_2) ?_)
                clear hl a; intro a hl
                refine wl (w_load hl hh rfl ⟨_, _, rfl, rfl, rfl⟩ one5 rfl (by repeat (first | exact find_head | apply find_tail)) (by first | rfl) ?_)
                clear hl a; intro a hl
                refine wl (wl_val hl rfl ⟨_, _, rfl, rfl, rfl⟩ (r_leq hl rfl rfl) ?_)
                clear hl a; intro a hl
                refine wl (wl_val hl rfl trivial (r_pickT hl rfl rfl) ?_)
                clear hl a; intro a hl
                refine wl (wl_val hl rfl trivial (r_move hl rfl) ?_)
                clear hl a; intro a hl
                refine sl_split (t := 118) hl rfl ?_ ?_
                · intro hg23; clear hl; intro hl
                  try simp only [decide_eq_true_eq, decide_eq_false_iff_not, Bool.not_eq_true', Bool.not_eq_false', Bool.not_eq_true, Bool.not_eq_false, Bool.and_eq_true, Bool.or_eq_true, Bool.and_eq_false_iff, Bool.or_eq_false_iff, Bool.not_not, ne_eq, Int.not_lt, Int.not_le, Decidable.not_not, beq_iff_eq, bne_iff_ne] at hg23
                  refine wl (wl_val hl rfl ⟨_, _, rfl, rfl, rfl⟩ (r_move hl rfl) ?_)
                  clear hl a; intro a hl
                  refine wl (wl_val hl rfl trivial (r_pickT hl rfl rfl) ?_)
                  clear hl a; intro a hl
                  refine wl (wl_val hl rfl trivial (r_move hl rfl) ?_)
                  clear hl a; intro a hl
                  refine sl_split (t := 121) hl rfl ?_ ?_
                  · intro hg24; clear hl; intro hl
                    try simp only [decide_eq_true_eq, decide_eq_false_iff_not, Bool.not_eq_true', Bool.not_eq_false', Bool.not_eq_true, Bool.not_eq_false, Bool.and_eq_true, Bool.or_eq_true, Bool.and_eq_false_iff, Bool.or_eq_false_iff, Bool.not_not, ne_eq, Int.not_lt, Int.not_le, Decidable.not_not, beq_iff_eq, bne_iff_ne] at hg24
                    refine wl (wl_val hl rfl ⟨_, _, rfl, rfl, rfl⟩ (r_move hl rfl) ?_)
                    clear hl a; intro a hl
                    refine wl (wl_val hl rfl trivial (r_pickT hl rfl rfl) ?_)
                    clear hl a; intro a hl
                    refine wl (wl_val hl rfl trivial (r_assign hl rfl) ?_)
                    clear hl a; intro a hl
                    refine w_nil ?_
                    have hl2 := hl.add (t := 2) (hl.nil) rfl; clear hl; have hl := hl2; clear hl2
                    refine then_normal ?_
                    refine wp_ret ?_
                    refine blk_ret ?_
                    refine then_ret ?_
                    refine f_ret1 (F' := []) hl hh rfl rfl (by repeat (first | exact keeps_nil | apply keeps_cons (by repeat (first | exact find_head | apply find_tail)) (by first  | rfl) | exact keeps_self | apply keeps_mv)) ?_
                    first | (exfalso; omega) | exact ⟨congrArg Value.bool (by unfold wfF; simp only; (repeat (first | rw [if_pos (by omega)] | rw [if_neg (by omega)])); (try simp only [noPr, nxV]); (first | rw [show noRl ⟨kd, dv, pr, ix, up, ra, rl, via, pm, da, dl, cl⟩ = true by assumption] | rw [show noRl ⟨kd, dv, pr, ix, up, ra, rl, via, pm, da, dl, cl⟩ = false by assumption] | skip); (first | rw [show noRt ⟨kd, dv, pr, ix, up, ra, rl, via, pm, da, dl, cl⟩ = true by assumption] | rw [show noRt ⟨kd, dv, pr, ix, up, ra, rl, via, pm, da, dl, cl⟩ = false by assumption] | skip); (first | rw [show gpF ra rl = true by assumption] | rw [show gpF ra rl = false by assumption] | skip); (first | rw [show gpF da dl = true by assumption] | rw [show gpF da dl = false by assumption] | skip); (first | rw [show decide (dv < 16) = true from decide_eq_true (by omega)] | rw [show decide (dv < 16) = false from decide_eq_false (by omega)] | skip); (first | rw [show decide (via = 16) = true from decide_eq_true (by omega)] | rw [show decide (via = 16) = false from decide_eq_false (by omega)] | skip); (first | rw [show decide (via < 16) = true from decide_eq_true (by omega)] | rw [show decide (via < 16) = false from decide_eq_false (by omega)] | skip); (first | rw [show decide (via = dv) = true from decide_eq_true (by omega)] | rw [show decide (via = dv) = false from decide_eq_false (by omega)] | skip); (first | rw [show decide (via = 0) = true from decide_eq_true (by omega)] | rw [show decide (via = 0) = false from decide_eq_false (by omega)] | skip); (first | rw [show decide (pr = 0) = true from decide_eq_true (by omega)] | rw [show decide (pr = 0) = false from decide_eq_false (by omega)] | skip); (first | rw [show decide (pr < 16) = true from decide_eq_true (by omega)] | rw [show decide (pr < 16) = false from decide_eq_false (by omega)] | skip); (first | rw [show decide (dv < pr) = true from decide_eq_true (by omega)] | rw [show decide (dv < pr) = false from decide_eq_false (by omega)] | skip); (first | rw [show decide (dv = pr) = true from decide_eq_true (by omega)] | rw [show decide (dv = pr) = false from decide_eq_false (by omega)] | skip); (first | rw [show decide (cl ≤ 16) = true from decide_eq_true (by omega)] | rw [show decide (cl ≤ 16) = false from decide_eq_false (by omega)] | skip); (first | rw [show decide (ix < 64) = true from decide_eq_true (by omega)] | rw [show decide (ix < 64) = false from decide_eq_false (by omega)] | skip); first | rfl | (simp only [Bool.true_and, Bool.and_true, Bool.false_and, Bool.and_false, Bool.true_or, Bool.false_or, Bool.or_false, Bool.or_true, Bool.not_true, Bool.not_false]; first | done | rfl | ((repeat (first | rw [show up = true by assumption] | rw [show up = false by assumption] | rw [show decide (ix = 0) = true from decide_eq_true (by omega)] | rw [show decide (ix = 0) = false from decide_eq_false (by omega)])); rfl))), rfl⟩
                  · intro hg24; clear hl; intro hl
                    try simp only [decide_eq_true_eq, decide_eq_false_iff_not, Bool.not_eq_true', Bool.not_eq_false', Bool.not_eq_true, Bool.not_eq_false, Bool.and_eq_true, Bool.or_eq_true, Bool.and_eq_false_iff, Bool.or_eq_false_iff, Bool.not_not, ne_eq, Int.not_lt, Int.not_le, Decidable.not_not, beq_iff_eq, bne_iff_ne] at hg24
                    refine wl (wl_skip hl rfl ⟨_, _, rfl, rfl, rfl⟩ ?_)
                    clear hl a; intro a hl
                    refine wl (wl_val hl rfl trivial (r_pickF hl rfl rfl) ?_)
                    clear hl a; intro a hl
                    refine wl (wl_val hl rfl trivial (r_assign hl rfl) ?_)
                    clear hl a; intro a hl
                    refine w_nil ?_
                    have hl2 := hl.add (t := 2) (hl.nil) rfl; clear hl; have hl := hl2; clear hl2
                    refine then_normal ?_
                    refine wp_ret ?_
                    refine blk_ret ?_
                    refine then_ret ?_
                    refine f_ret1 (F' := []) hl hh rfl rfl (by repeat (first | exact keeps_nil | apply keeps_cons (by repeat (first | exact find_head | apply find_tail)) (by first  | rfl) | exact keeps_self | apply keeps_mv)) ?_
                    first | (exfalso; omega) | exact ⟨congrArg Value.bool (by unfold wfF; simp only; (repeat (first | rw [if_pos (by omega)] | rw [if_neg (by omega)])); (try simp only [noPr, nxV]); (first | rw [show noRl ⟨kd, dv, pr, ix, up, ra, rl, via, pm, da, dl, cl⟩ = true by assumption] | rw [show noRl ⟨kd, dv, pr, ix, up, ra, rl, via, pm, da, dl, cl⟩ = false by assumption] | skip); (first | rw [show noRt ⟨kd, dv, pr, ix, up, ra, rl, via, pm, da, dl, cl⟩ = true by assumption] | rw [show noRt ⟨kd, dv, pr, ix, up, ra, rl, via, pm, da, dl, cl⟩ = false by assumption] | skip); (first | rw [show gpF ra rl = true by assumption] | rw [show gpF ra rl = false by assumption] | skip); (first | rw [show gpF da dl = true by assumption] | rw [show gpF da dl = false by assumption] | skip); (first | rw [show decide (dv < 16) = true from decide_eq_true (by omega)] | rw [show decide (dv < 16) = false from decide_eq_false (by omega)] | skip); (first | rw [show decide (via = 16) = true from decide_eq_true (by omega)] | rw [show decide (via = 16) = false from decide_eq_false (by omega)] | skip); (first | rw [show decide (via < 16) = true from decide_eq_true (by omega)] | rw [show decide (via < 16) = false from decide_eq_false (by omega)] | skip); (first | rw [show decide (via = dv) = true from decide_eq_true (by omega)] | rw [show decide (via = dv) = false from decide_eq_false (by omega)] | skip); (first | rw [show decide (via = 0) = true from decide_eq_true (by omega)] | rw [show decide (via = 0) = false from decide_eq_false (by omega)] | skip); (first | rw [show decide (pr = 0) = true from decide_eq_true (by omega)] | rw [show decide (pr = 0) = false from decide_eq_false (by omega)] | skip); (first | rw [show decide (pr < 16) = true from decide_eq_true (by omega)] | rw [show decide (pr < 16) = false from decide_eq_false (by omega)] | skip); (first | rw [show decide (dv < pr) = true from decide_eq_true (by omega)] | rw [show decide (dv < pr) = false from decide_eq_false (by omega)] | skip); (first | rw [show decide (dv = pr) = true from decide_eq_true (by omega)] | rw [show decide (dv = pr) = false from decide_eq_false (by omega)] | skip); (first | rw [show decide (cl ≤ 16) = true from decide_eq_true (by omega)] | rw [show decide (cl ≤ 16) = false from decide_eq_false (by omega)] | skip); (first | rw [show decide (ix < 64) = true from decide_eq_true (by omega)] | rw [show decide (ix < 64) = false from decide_eq_false (by omega)] | skip); first | rfl | (simp only [Bool.true_and, Bool.and_true, Bool.false_and, Bool.and_false, Bool.true_or, Bool.false_or, Bool.or_false, Bool.or_true, Bool.not_true, Bool.not_false]; first | done | rfl | ((repeat (first | rw [show up = true by assumption] | rw [show up = false by assumption] | rw [show decide (ix = 0) = true from decide_eq_true (by omega)] | rw [show decide (ix = 0) = false from decide_eq_false (by omega)])); rfl))), rfl⟩
                · intro hg23; clear hl; intro hl
                  try simp only [decide_eq_true_eq, decide_eq_false_iff_not, Bool.not_eq_true', Bool.not_eq_false', Bool.not_eq_true, Bool.not_eq_false, Bool.and_eq_true, Bool.or_eq_true, Bool.and_eq_false_iff, Bool.or_eq_false_iff, Bool.not_not, ne_eq, Int.not_lt, Int.not_le, Decidable.not_not, beq_iff_eq, bne_iff_ne] at hg23
                  refine wl (wl_skip hl rfl ⟨_, _, rfl, rfl, rfl⟩ ?_)
                  clear hl a; intro a hl
                  refine wl (wl_val hl rfl trivial (r_pickF hl rfl rfl) ?_)
                  clear hl a; intro a hl
                  refine wl (wl_val hl rfl trivial (r_move hl rfl) ?_)
                  clear hl a; intro a hl
                  refine wl (wl_skip hl rfl ⟨_, _, rfl, rfl, rfl⟩ ?_)
                  clear hl a; intro a hl
                  refine wl (wl_val hl rfl trivial (r_pickF hl rfl rfl) ?_)
                  clear hl a; intro a hl
                  refine wl (wl_val hl rfl trivial (r_assign hl rfl) ?_)
                  clear hl a; intro a hl
                  refine w_nil ?_
                  have hl2 := hl.add (t := 2) (hl.nil) rfl; clear hl; have hl := hl2; clear hl2
                  refine then_normal ?_
                  refine wp_ret ?_
                  refine blk_ret ?_
                  refine then_ret ?_
                  refine f_ret1 (F' := []) hl hh rfl rfl (by repeat (first | exact keeps_nil | apply keeps_cons (by repeat (first | exact find_head | apply find_tail)) (by first  | rfl) | exact keeps_self | apply keeps_mv)) ?_
                  first | (exfalso; omega) | exact ⟨congrArg Value.bool (by unfold wfF; simp only; (repeat (first | rw [if_pos (by omega)] | rw [if_neg (by omega)])); (try simp only [noPr, nxV]); (first | rw [show noRl ⟨kd, dv, pr, ix, up, ra, rl, via, pm, da, dl, cl⟩ = true by assumption] | rw [show noRl ⟨kd, dv, pr, ix, up, ra, rl, via, pm, da, dl, cl⟩ = false by assumption] | skip); (first | rw [show noRt ⟨kd, dv, pr, ix, up, ra, rl, via, pm, da, dl, cl⟩ = true by assumption] | rw [show noRt ⟨kd, dv, pr, ix, up, ra, rl, via, pm, da, dl, cl⟩ = false by assumption] | skip); (first | rw [show gpF ra rl = true by assumption] | rw [show gpF ra rl = false by assumption] | skip); (first | rw [show gpF da dl = true by assumption] | rw [show gpF da dl = false by assumption] | skip); (first | rw [show decide (dv < 16) = true from decide_eq_true (by omega)] | rw [show decide (dv < 16) = false from decide_eq_false (by omega)] | skip); (first | rw [show decide (via = 16) = true from decide_eq_true (by omega)] | rw [show decide (via = 16) = false from decide_eq_false (by omega)] | skip); (first | rw [show decide (via < 16) = true from decide_eq_true (by omega)] | rw [show decide (via < 16) = false from decide_eq_false (by omega)] | skip); (first | rw [show decide (via = dv) = true from decide_eq_true (by omega)] | rw [show decide (via = dv) = false from decide_eq_false (by omega)] | skip); (first | rw [show decide (via = 0) = true from decide_eq_true (by omega)] | rw [show decide (via = 0) = false from decide_eq_false (by omega)] | skip); (first | rw [show decide (pr = 0) = true from decide_eq_true (by omega)] | rw [show decide (pr = 0) = false from decide_eq_false (by omega)] | skip); (first | rw [show decide (pr < 16) = true from decide_eq_true (by omega)] | rw [show decide (pr < 16) = false from decide_eq_false (by omega)] | skip); (first | rw [show decide (dv < pr) = true from decide_eq_true (by omega)] | rw [show decide (dv < pr) = false from decide_eq_false (by omega)] | skip); (first | rw [show decide (dv = pr) = true from decide_eq_true (by omega)] | rw [show decide (dv = pr) = false from decide_eq_false (by omega)] | skip); (first | rw [show decide (cl ≤ 16) = true from decide_eq_true (by omega)] | rw [show decide (cl ≤ 16) = false from decide_eq_false (by omega)] | skip); (first | rw [show decide (ix < 64) = true from decide_eq_true (by omega)] | rw [show decide (ix < 64) = false from decide_eq_false (by omega)] | skip); first | rfl | (simp only [Bool.true_and, Bool.and_true, Bool.false_and, Bool.and_false, Bool.true_or, Bool.false_or, Bool.or_false, Bool.or_true, Bool.not_true, Bool.not_false]; first | done | rfl | ((repeat (first | rw [show up = true by assumption] | rw [show up = false by assumption] | rw [show decide (ix = 0) = true from decide_eq_true (by omega)] | rw [show decide (ix = 0) = false from decide_eq_false (by omega)])); rfl))), rfl⟩
              · intro hg22; clear hl; intro hl
                try simp only [decide_eq_true_eq, decide_eq_false_iff_not, Bool.not_eq_true', Bool.not_eq_false', Bool.not_eq_true, Bool.not_eq_false, Bool.and_eq_true, Bool.or_eq_true, Bool.and_eq_false_iff, Bool.or_eq_false_iff, Bool.not_not, ne_eq, Int.not_lt, Int.not_le, Decidable.not_not, beq_iff_eq, bne_iff_ne] at hg22
                refine wl (wl_skip hl rfl ⟨_, _, rfl, rfl, rfl⟩ ?_)
                clear hl a; intro a hl
                refine wl (wl_skip hl rfl ⟨_, _, rfl, rfl, rfl⟩ ?_)
                clear hl a; intro a hl
                refine wl (wl_skip hl rfl ⟨_, _, rfl, rfl, rfl⟩ ?_)
                clear hl a; intro a hl
                refine wl (wl_skip hl rfl ⟨_, _, rfl, rfl, rfl⟩ ?_)
                clear hl a; intro a hl
                refine wl (wl_val hl rfl trivial (r_pickF hl rfl rfl) ?_)
                clear hl a; intro a hl
                refine wl (wl_val hl rfl trivial (r_move hl rfl) ?_)
                clear hl a; intro a hl
                refine wl (wl_skip hl rfl ⟨_, _, rfl, rfl, rfl⟩ ?_)
                clear hl a; intro a hl
                refine wl (wl_val hl rfl trivial (r_pickF hl rfl rfl) ?_)
                clear hl a; intro a hl
                refine wl (wl_val hl rfl trivial (r_move hl rfl) ?_)
                clear hl a; intro a hl
                refine wl (wl_skip hl rfl ⟨_, _, rfl, rfl, rfl⟩ ?_)
                clear hl a; intro a hl
                refine wl (wl_val hl rfl trivial (r_pickF hl rfl rfl) ?_)
                clear hl a; intro a hl
                refine wl (wl_val hl rfl trivial (r_assign hl rfl) ?_)
                clear hl a; intro a hl
                refine w_nil ?_
                have hl2 := hl.add (t := 2) (hl.nil) rfl; clear hl; have hl := hl2; clear hl2
                refine then_normal ?_
                refine wp_ret ?_
                refine blk_ret ?_
                refine then_ret ?_
                refine f_ret1 (F' := []) hl hh rfl rfl (by repeat (first | exact keeps_nil | apply keeps_cons (by repeat (first | exact find_head | apply find_tail)) (by first  | rfl) | exact keeps_self | apply keeps_mv)) ?_
                first | (exfalso; omega) | exact ⟨congrArg Value.bool (by unfold wfF; simp only; (repeat (first | rw [if_pos (by omega)] | rw [if_neg (by omega)])); (try simp only [noPr, nxV]); (first | rw [show noRl ⟨kd, dv, pr, ix, up, ra, rl, via, pm, da, dl, cl⟩ = true by assumption] | rw [show noRl ⟨kd, dv, pr, ix, up, ra, rl, via, pm, da, dl, cl⟩ = false by assumption] | skip); (first | rw [show noRt ⟨kd, dv, pr, ix, up, ra, rl, via, pm, da, dl, cl⟩ = true by assumption] | rw [show noRt ⟨kd, dv, pr, ix, up, ra, rl, via, pm, da, dl, cl⟩ = false by assumption] | skip); (first | rw [show gpF ra rl = true by assumption] | rw [show gpF ra rl = false by assumption] | skip); (first | rw [show gpF da dl = true by assumption] | rw [show gpF da dl = false by assumption] | skip); (first | rw [show decide (dv < 16) = true from decide_eq_true (by omega)] | rw [show decide (dv < 16) = false from decide_eq_false (by omega)] | skip); (first | rw [show decide (via = 16) = true from decide_eq_true (by omega)] | rw [show decide (via = 16) = false from decide_eq_false (by omega)] | skip); (first | rw [show decide (via < 16) = true from decide_eq_true (by omega)] | rw [show decide (via < 16) = false from decide_eq_false (by omega)] | skip); (first | rw [show decide (via = dv) = true from decide_eq_true (by omega)] | rw [show decide (via = dv) = false from decide_eq_false (by omega)] | skip); (first | rw [show decide (via = 0) = true from decide_eq_true (by omega)] | rw [show decide (via = 0) = false from decide_eq_false (by omega)] | skip); (first | rw [show decide (pr = 0) = true from decide_eq_true (by omega)] | rw [show decide (pr = 0) = false from decide_eq_false (by omega)] | skip); (first | rw [show decide (pr < 16) = true from decide_eq_true (by omega)] | rw [show decide (pr < 16) = false from decide_eq_false (by omega)] | skip); (first | rw [show decide (dv < pr) = true from decide_eq_true (by omega)] | rw [show decide (dv < pr) = false from decide_eq_false (by omega)] | skip); (first | rw [show decide (dv = pr) = true from decide_eq_true (by omega)] | rw [show decide (dv = pr) = false from decide_eq_false (by omega)] | skip); (first | rw [show decide (cl ≤ 16) = true from decide_eq_true (by omega)] | rw [show decide (cl ≤ 16) = false from decide_eq_false (by omega)] | skip); (first | rw [show decide (ix < 64) = true from decide_eq_true (by omega)] | rw [show decide (ix < 64) = false from decide_eq_false (by omega)] | skip); first | rfl | (simp only [Bool.true_and, Bool.and_true, Bool.false_and, Bool.and_false, Bool.true_or, Bool.false_or, Bool.or_false, Bool.or_true, Bool.not_true, Bool.not_false]; first | done | rfl | ((repeat (first | rw [show up = true by assumption] | rw [show up = false by assumption] | rw [show decide (ix = 0) = true from decide_eq_true (by omega)] | rw [show decide (ix = 0) = false from decide_eq_false (by omega)])); rfl))), rfl⟩
            · intro hg21; clear hl; intro hl
              try simp only [decide_eq_true_eq, decide_eq_false_iff_not, Bool.not_eq_true', Bool.not_eq_false', Bool.not_eq_true, Bool.not_eq_false, Bool.and_eq_true, Bool.or_eq_true, Bool.and_eq_false_iff, Bool.or_eq_false_iff, Bool.not_not, ne_eq, Int.not_lt, Int.not_le, Decidable.not_not, beq_iff_eq, bne_iff_ne] at hg21
              refine wl (wl_skip hl rfl ⟨_, _, rfl, rfl, rfl⟩ ?_)
              clear hl a; intro a hl
              refine wl (wl_skip hl rfl ⟨_, _, rfl, rfl, rfl⟩ ?_)
              clear hl a; intro a hl
              refine wl (wl_skip hl rfl ⟨_, _, rfl, rfl, rfl⟩ ?_)
              clear hl a; intro a hl
              refine wl (wl_skip hl rfl ⟨_, _, rfl, rfl, rfl⟩ ?_)
              clear hl a; intro a hl
              refine wl (wl_val hl rfl trivial (r_pickF hl rfl rfl) ?_)
              clear hl a; intro a hl
              refine wl (wl_val hl rfl trivial (r_move hl rfl) ?_)
              clear hl a; intro a hl
              refine wl (wl_skip hl rfl ⟨_, _, rfl, rfl, rfl⟩ ?_)
              clear hl a; intro a hl
              refine wl (wl_skip hl rfl ⟨_, _, rfl, rfl, rfl⟩ ?_)
              clear hl a; intro a hl
              refine wl (wl_skip hl rfl ⟨_, _, rfl, rfl, rfl⟩ ?_)
              clear hl a; intro a hl
              refine wl (wl_skip hl rfl ⟨_, _, rfl, rfl, rfl⟩ ?_)
              clear hl a; intro a hl
              refine wl (wl_val hl rfl trivial (r_pickF hl rfl rfl) ?_)
              clear hl a; intro a hl
              refine wl (wl_val hl rfl trivial (r_move hl rfl) ?_)
              clear hl a; intro a hl
              refine wl (wl_skip hl rfl ⟨_, _, rfl, rfl, rfl⟩ ?_)
              clear hl a; intro a hl
              refine wl (wl_val hl rfl trivial (r_pickF hl rfl rfl) ?_)
              clear hl a; intro a hl
              refine wl (wl_val hl rfl trivial (r_move hl rfl) ?_)
              clear hl a; intro a hl
              refine wl (wl_skip hl rfl ⟨_, _, rfl, rfl, rfl⟩ ?_)
              clear hl a; intro a hl
              refine wl (wl_val hl rfl trivial (r_pickF hl rfl rfl) ?_)
              clear hl a; intro a hl
              refine wl (wl_val hl rfl trivial (r_assign hl rfl) ?_)
              clear hl a; intro a hl
              refine w_nil ?_
              have hl2 := hl.add (t := 2) (hl.nil) rfl; clear hl; have hl := hl2; clear hl2
              refine then_normal ?_
              refine wp_ret ?_
              refine blk_ret ?_
              refine then_ret ?_
              refine f_ret1 (F' := []) hl hh rfl rfl (by repeat (first | exact keeps_nil | apply keeps_cons (by repeat (first | exact find_head | apply find_tail)) (by first  | rfl) | exact keeps_self | apply keeps_mv)) ?_
              first | (exfalso; omega) | exact ⟨congrArg Value.bool (by unfold wfF; simp only; (repeat (first | rw [if_pos (by omega)] | rw [if_neg (by omega)])); (try simp only [noPr, nxV]); (first | rw [show noRl ⟨kd, dv, pr, ix, up, ra, rl, via, pm, da, dl, cl⟩ = true by assumption] | rw [show noRl ⟨kd, dv, pr, ix, up, ra, rl, via, pm, da, dl, cl⟩ = false by assumption] | skip); (first | rw [show noRt ⟨kd, dv, pr, ix, up, ra, rl, via, pm, da, dl, cl⟩ = true by assumption] | rw [show noRt ⟨kd, dv, pr, ix, up, ra, rl, via, pm, da, dl, cl⟩ = false by assumption] | skip); (first | rw [show gpF ra rl = true by assumption] | rw [show gpF ra rl = false by assumption] | skip); (first | rw [show gpF da dl = true by assumption] | rw [show gpF da dl = false by assumption] | skip); (first | rw [show decide (dv < 16) = true from decide_eq_true (by omega)] | rw [show decide (dv < 16) = false from decide_eq_false (by omega)] | skip); (first | rw [show decide (via = 16) = true from decide_eq_true (by omega)] | rw [show decide (via = 16) = false from decide_eq_false (by omega)] | skip); (first | rw [show decide (via < 16) = true from decide_eq_true (by omega)] | rw [show decide (via < 16) = false from decide_eq_false (by omega)] | skip); (first | rw [show decide (via = dv) = true from decide_eq_true (by omega)] | rw [show decide (via = dv) = false from decide_eq_false (by omega)] | skip); (first | rw [show decide (via = 0) = true from decide_eq_true (by omega)] | rw [show decide (via = 0) = false from decide_eq_false (by omega)] | skip); (first | rw [show decide (pr = 0) = true from decide_eq_true (by omega)] | rw [show decide (pr = 0) = false from decide_eq_false (by omega)] | skip); (first | rw [show decide (pr < 16) = true from decide_eq_true (by omega)] | rw [show decide (pr < 16) = false from decide_eq_false (by omega)] | skip); (first | rw [show decide (dv < pr) = true from decide_eq_true (by omega)] | rw [show decide (dv < pr) = false from decide_eq_false (by omega)] | skip); (first | rw [show decide (dv = pr) = true from decide_eq_true (by omega)] | rw [show decide (dv = pr) = false from decide_eq_false (by omega)] | skip); (first | rw [show decide (cl ≤ 16) = true from decide_eq_true (by omega)] | rw [show decide (cl ≤ 16) = false from decide_eq_false (by omega)] | skip); (first | rw [show decide (ix < 64) = true from decide_eq_true (by omega)] | rw [show decide (ix < 64) = false from decide_eq_false (by omega)] | skip); first | rfl | (simp only [Bool.true_and, Bool.and_true, Bool.false_and, Bool.and_false, Bool.true_or, Bool.false_or, Bool.or_false, Bool.or_true, Bool.not_true, Bool.not_false]; first | done | rfl | ((repeat (first | rw [show up = true by assumption] | rw [show up = false by assumption] | rw [show decide (ix = 0) = true from decide_eq_true (by omega)] | rw [show decide (ix = 0) = false from decide_eq_false (by omega)])); rfl))), rfl⟩
          · intro hg20; clear hl; intro hl
            try simp only [decide_eq_true_eq, decide_eq_false_iff_not, Bool.not_eq_true', Bool.not_eq_false', Bool.not_eq_true, Bool.not_eq_false, Bool.and_eq_true, Bool.or_eq_true, Bool.and_eq_false_iff, Bool.or_eq_false_iff, Bool.not_not, ne_eq, Int.not_lt, Int.not_le, Decidable.not_not, beq_iff_eq, bne_iff_ne] at hg20
            refine wl (wl_skip hl rfl ⟨_, _, rfl, rfl, rfl⟩ ?_)
            clear hl a; intro a hl
            refine wl (wl_skip hl rfl ⟨_, _, rfl, rfl, rfl⟩ ?_)
            clear hl a; intro a hl
            refine wl (wl_skip hl rfl ⟨_, _, rfl, rfl, rfl⟩ ?_)
            clear hl a; intro a hl
            refine wl (wl_val hl rfl trivial (r_pickF hl rfl rfl) ?_)
            clear hl a; intro a hl
            refine wl (wl_val hl rfl trivial (r_move hl rfl) ?_)
            clear hl a; intro a hl
            refine wl (wl_skip hl rfl ⟨_, _, rfl, rfl, rfl⟩ ?_)
            clear hl a; intro a hl
            refine wl (wl_skip hl rfl ⟨_, _, rfl, rfl, rfl⟩ ?_)
            clear hl a; intro a hl
            refine wl (wl_skip hl rfl ⟨_, _, rfl, rfl, rfl⟩ ?_)
            clear hl a; intro a hl
            refine wl (wl_skip hl rfl ⟨_, _, rfl, rfl, rfl⟩ ?_)
            clear hl a; intro a hl
            refine wl (wl_val hl rfl trivial (r_pickF hl rfl rfl) ?_)
            clear hl a; intro a hl
            refine wl (wl_val hl rfl trivial (r_move hl rfl) ?_)
            clear hl a; intro a hl
            refine wl (wl_skip hl rfl ⟨_, _, rfl, rfl, rfl⟩ ?_)
            clear hl a; intro a hl
            refine wl (wl_skip hl rfl ⟨_, _, rfl, rfl, rfl⟩ ?_)
            clear hl a; intro a hl
            refine wl (wl_skip hl rfl ⟨_, _, rfl, rfl, rfl⟩ ?_)
            clear hl a; intro a hl
            refine wl (wl_skip hl rfl ⟨_, _, rfl, rfl, rfl⟩ ?_)
            clear hl a; intro a hl
            refine wl (wl_val hl rfl trivial (r_pickF hl rfl rfl) ?_)
            clear hl a; intro a hl
            refine wl (wl_val hl rfl trivial (r_move hl rfl) ?_)
            clear hl a; intro a hl
            refine wl (wl_skip hl rfl ⟨_, _, rfl, rfl, rfl⟩ ?_)
            clear hl a; intro a hl
            refine wl (wl_val hl rfl trivial (r_pickF hl rfl rfl) ?_)
            clear hl a; intro a hl
            refine wl (wl_val hl rfl trivial (r_move hl rfl) ?_)
            clear hl a; intro a hl
            refine wl (wl_skip hl rfl ⟨_, _, rfl, rfl, rfl⟩ ?_)
            clear hl a; intro a hl
            refine wl (wl_val hl rfl trivial (r_pickF hl rfl rfl) ?_)
            clear hl a; intro a hl
            refine wl (wl_val hl rfl trivial (r_assign hl rfl) ?_)
            clear hl a; intro a hl
            refine w_nil ?_
            have hl2 := hl.add (t := 2) (hl.nil) rfl; clear hl; have hl := hl2; clear hl2
            refine then_normal ?_
            refine wp_ret ?_
            refine blk_ret ?_
            refine then_ret ?_
            refine f_ret1 (F' := []) hl hh rfl rfl (by repeat (first | exact keeps_nil | apply keeps_cons (by repeat (first | exact find_head | apply find_tail)) (by first  | rfl) | exact keeps_self | apply keeps_mv)) ?_
            first | (exfalso; omega) | exact ⟨congrArg Value.bool (by unfold wfF; simp only; (repeat (first | rw [if_pos (by omega)] | rw [if_neg (by omega)])); (try simp only [noPr, nxV]); (first | rw [show noRl ⟨kd, dv, pr, ix, up, ra, rl, via, pm, da, dl, cl⟩ = true by assumption] | rw [show noRl ⟨kd, dv, pr, ix, up, ra, rl, via, pm, da, dl, cl⟩ = false by assumption] | skip); (first | rw [show noRt ⟨kd, dv, pr, ix, up, ra, rl, via, pm, da, dl, cl⟩ = true by assumption] | rw [show noRt ⟨kd, dv, pr, ix, up, ra, rl, via, pm, da, dl, cl⟩ = false by assumption] | skip); (first | rw [show gpF ra rl = true by assumption] | rw [show gpF ra rl = false by assumption] | skip); (first | rw [show gpF da dl = true by assumption] | rw [show gpF da dl = false by assumption] | skip); (first | rw [show decide (dv < 16) = true from decide_eq_true (by omega)] | rw [show decide (dv < 16) = false from decide_eq_false (by omega)] | skip); (first | rw [show decide (via = 16) = true from decide_eq_true (by omega)] | rw [show decide (via = 16) = false from decide_eq_false (by omega)] | skip); (first | rw [show decide (via < 16) = true from decide_eq_true (by omega)] | rw [show decide (via < 16) = false from decide_eq_false (by omega)] | skip); (first | rw [show decide (via = dv) = true from decide_eq_true (by omega)] | rw [show decide (via = dv) = false from decide_eq_false (by omega)] | skip); (first | rw [show decide (via = 0) = true from decide_eq_true (by omega)] | rw [show decide (via = 0) = false from decide_eq_false (by omega)] | skip); (first | rw [show decide (pr = 0) = true from decide_eq_true (by omega)] | rw [show decide (pr = 0) = false from decide_eq_false (by omega)] | skip); (first | rw [show decide (pr < 16) = true from decide_eq_true (by omega)] | rw [show decide (pr < 16) = false from decide_eq_false (by omega)] | skip); (first | rw [show decide (dv < pr) = true from decide_eq_true (by omega)] | rw [show decide (dv < pr) = false from decide_eq_false (by omega)] | skip); (first | rw [show decide (dv = pr) = true from decide_eq_true (by omega)] | rw [show decide (dv = pr) = false from decide_eq_false (by omega)] | skip); (first | rw [show decide (cl ≤ 16) = true from decide_eq_true (by omega)] | rw [show decide (cl ≤ 16) = false from decide_eq_false (by omega)] | skip); (first | rw [show decide (ix < 64) = true from decide_eq_true (by omega)] | rw [show decide (ix < 64) = false from decide_eq_false (by omega)] | skip); first | rfl | (simp only [Bool.true_and, Bool.and_true, Bool.false_and, Bool.and_false, Bool.true_or, Bool.false_or, Bool.or_false, Bool.or_true, Bool.not_true, Bool.not_false]; first | done | rfl | ((repeat (first | rw [show up = true by assumption] | rw [show up = false by assumption] | rw [show decide (ix = 0) = true from decide_eq_true (by omega)] | rw [show decide (ix = 0) = false from decide_eq_false (by omega)])); rfl))), rfl⟩
        · intro hc2
          try simp only [decide_eq_true_eq, decide_eq_false_iff_not, Bool.not_eq_true', Bool.not_eq_false', Bool.not_eq_true, Bool.not_eq_false, Bool.and_eq_true, Bool.or_eq_true, Bool.and_eq_false_iff, Bool.or_eq_false_iff, Bool.not_not, ne_eq, Int.not_lt, Int.not_le, Decidable.not_not, beq_iff_eq, bne_iff_ne] at hc2
          refine c_seq ?_
          refine c_region ?_
          refine wl (wl_val hl rfl trivial (r_eql hl rfl rfl) ?_)
          clear hl a; intro a hl
          refine wl (wl_val hl rfl trivial (r_assign hl rfl) ?_)
          clear hl a; intro a hl
          refine w_nil ?_
          have hl2 := hl.add (t := 1) (hl.add (t := 3) (hl.add (t := 4) (hl.add (t := 5) (hl.add (t := 24) (hl.add (t := 124) (hl.nil) rfl) rfl) rfl) rfl) rfl) rfl; clear hl; have hl := hl2; clear hl2
          refine then_normal ?_
          refine c_cond hl rfl ?_ ?_
          · intro hc3
            try simp only [decide_eq_true_eq, decide_eq_false_iff_not, Bool.not_eq_true', Bool.not_eq_false', Bool.not_eq_true, Bool.not_eq_false, Bool.and_eq_true, Bool.or_eq_true, Bool.and_eq_false_iff, Bool.or_eq_false_iff, Bool.not_not, ne_eq, Int.not_lt, Int.not_le, Decidable.not_not, beq_iff_eq, bne_iff_ne] at hc3
            refine c_seq ?_
            refine c_region ?_
            refine wl (wl_val hl rfl trivial (r_field hl rfl fld57_1) ?_)
            clear hl a; intro a hl
            refine wl (w_load hl hh rfl trivial one5 rfl (by repeat (first | exact find_head | apply find_tail)) (by first | rfl) ?_)
            clear hl a; intro a hl
            refine wl (w_call hl hh rfl trivial rfl cal64 rfl (isDeviceM _) (by repeat (first | exact keeps_nil | apply keeps_cons (by repeat (first | exact find_head | apply find_tail)) (by first  | rfl) | exact keeps_self | apply keeps_mv)) trivial ?_)
            clear hl hh a w; intro vc Fc a w hR hl hh
            obtain ⟨rfl, rfl⟩ := hR
            try simp only [List.cons_append, List.nil_append] at hh
            refine wl (wl_val hl rfl trivial (r_move hl rfl) ?_)
            clear hl a; intro a hl
            refine sl_split (t := 129) hl rfl ?_ ?_
            · intro hg25; clear hl; intro hl
              try simp only [decide_eq_true_eq, decide_eq_false_iff_not, Bool.not_eq_true', Bool.not_eq_false', Bool.not_eq_true, Bool.not_eq_false, Bool.and_eq_true, Bool.or_eq_true, Bool.and_eq_false_iff, Bool.or_eq_false_iff, Bool.not_not, ne_eq, Int.not_lt, Int.not_le, Decidable.not_not, beq_iff_eq, bne_iff_ne] at hg25
              refine wl (wl_val hl rfl ⟨_, _, rfl, rfl, rfl⟩ (r_field hl rfl fld57_3) ?_)
              clear hl a; intro a hl
              refine wl (w_load hl hh rfl ⟨_, _, rfl, rfl, rfl⟩ one5 rfl (by repeat (first | exact find_head | apply find_tail)) (by first | rfl) ?_)
              clear hl a; intro a hl
              refine wl (wl_val hl rfl ⟨_, _, rfl, rfl, rfl⟩ (r_lss hl rfl rfl) ?_)
              clear hl a; intro a hl
              refine wl (wl_val hl rfl trivial (r_pickT hl rfl rfl) ?_)
              clear hl a; intro a hl
              refine wl (wl_val hl rfl trivial (r_move hl rfl) ?_)
              clear hl a; intro a hl
              refine sl_split (t := 134) hl rfl ?_ ?_
              · intro hg26; clear hl; intro hl
                try simp only [decide_eq_true_eq, decide_eq_false_iff_not, Bool.not_eq_true', Bool.not_eq_false', Bool.not_eq_true, Bool.not_eq_false, Bool.and_eq_true, Bool.or_eq_true, Bool.and_eq_false_iff, Bool.or_eq_false_iff, Bool.not_not, ne_eq, Int.not_lt, Int.not_le, Decidable.not_not, beq_iff_eq, bne_iff_ne] at hg26
                refine wl (wl_val hl rfl ⟨_, _, rfl, rfl, rfl⟩ (r_move hl rfl) ?_)
                clear hl a; intro a hl
                refine wl (wl_val hl rfl trivial (r_pickT hl rfl rfl) ?_)
                clear hl a; intro a hl
                refine wl (wl_val hl rfl trivial (r_move hl rfl) ?_)
                clear hl a; intro a hl
                refine sl_split (t := 137) hl rfl ?_ ?_
                · intro hg27; clear hl; intro hl
                  try simp only [decide_eq_true_eq, decide_eq_false_iff_not, Bool.not_eq_true', Bool.not_eq_false', Bool.not_eq_true, Bool.not_eq_false, Bool.and_eq_true, Bool.or_eq_true, Bool.and_eq_false_iff, Bool.or_eq_false_iff, Bool.not_not, ne_eq, Int.not_lt, Int.not_le, Decidable.not_not, beq_iff_eq, bne_iff_ne] at hg27
                  refine wl (wl_val hl rfl ⟨_, _, rfl, rfl, rfl⟩ (r_move hl rfl) ?_)
                  clear hl a; intro a hl
                  refine wl (wl_val hl rfl trivial (r_pickT hl rfl rfl) ?_)
                  clear hl a; intro a hl
                  refine wl (wl_val hl rfl trivial (r_move hl rfl) ?_)
                  clear hl a; intro a hl
                  refine sl_split (t := 140) hl rfl ?_ ?_
                  · intro hg28; clear hl; intro hl
                    try simp only [decide_eq_true_eq, decide_eq_false_iff_not, Bool.not_eq_true', Bool.not_eq_false', Bool.not_eq_true, Bool.not_eq_false, Bool.and_eq_true, Bool.or_eq_true, Bool.and_eq_false_iff, Bool.or_eq_false_iff, Bool.not_not, ne_eq, Int.not_lt, Int.not_le, Decidable.not_not, beq_iff_eq, bne_iff_ne] at hg28
                    refine wl (wl_val hl rfl ⟨_, _, rfl, rfl, rfl⟩ (r_move hl rfl) ?_)
                    clear hl a; intro a hl
                    refine wl (wl_val hl rfl trivial (r_pickT hl rfl rfl) ?_)
                    clear hl a; intro a hl
                    refine wl (wl_val hl rfl trivial (r_assign hl rfl) ?_)
                    clear hl a; intro a hl
                    refine w_nil ?_
                    have hl2 := hl.add (t := 2) (hl.nil) rfl; clear hl; have hl := hl2; clear hl2
                    refine then_normal ?_
                    refine wp_ret ?_
                    refine blk_ret ?_
                    refine then_ret ?_
                    refine f_ret1 (F' := []) hl hh rfl rfl (by repeat (first | exact keeps_nil | apply keeps_cons (by repeat (first | exact find_head | apply find_tail)) (by first  | rfl) | exact keeps_self | apply keeps_mv)) ?_
                    first | (exfalso; omega) | exact ⟨congrArg Value.bool (by unfold wfF; simp only; (repeat (first | rw [if_pos (by omega)] | rw [if_neg (by omega)])); (try simp only [noPr, nxV]); (first | rw [show noRl ⟨kd, dv, pr, ix, up, ra, rl, via, pm, da, dl, cl⟩ = true by assumption] | rw [show noRl ⟨kd, dv, pr, ix, up, ra, rl, via, pm, da, dl, cl⟩ = false by assumption] | skip); (first | rw [show noRt ⟨kd, dv, pr, ix, up, ra, rl, via, pm, da, dl, cl⟩ = true by assumption] | rw [show noRt ⟨kd, dv, pr, ix, up, ra, rl, via, pm, da, dl, cl⟩ = false by assumption] | skip); (first | rw [show gpF ra rl = true by assumption] | rw [show gpF ra rl = false by assumption] | skip); (first | rw [show gpF da dl = true by assumption] | rw [show gpF da dl = false by assumption] | skip); (first | rw [show decide (dv < 16) = true from decide_eq_true (by omega)] | rw [show decide (dv < 16) = false from decide_eq_false (by omega)] | skip); (first | rw [show decide (via = 16) = true from decide_eq_true (by omega)] | rw [show decide (via = 16) = false from decide_eq_false (by omega)] | skip); (first | rw [show decide (via < 16) = true from decide_eq_true (by omega)] | rw [show decide (via < 16) = false from decide_eq_false (by omega)] | skip); (first | rw [show decide (via = dv) = true from decide_eq_true (by omega)] | rw [show decide (via = dv) = false from decide_eq_false (by omega)] | skip); (first | rw [show decide (via = 0) = true from decide_eq_true (by omega)] | rw [show decide (via = 0) = false from decide_eq_false (by omega)] | skip); (first | rw [show decide (pr = 0) = true from decide_eq_true (by omega)] | rw [show decide (pr = 0) = false from decide_eq_false (by omega)] | skip); (first | rw [show decide (pr < 16) = true from decide_eq_true (by omega)] | rw [show decide (pr < 16) = false from decide_eq_false (by omega)] | skip); (first | rw [show decide (dv < pr) = true from decide_eq_true (by omega)] | rw [show decide (dv < pr) = false from decide_eq_false (by omega)] | skip); (first | rw [show decide (dv = pr) = true from decide_eq_true (by omega)] | rw [show decide (dv = pr) = false from decide_eq_false (by omega)] | skip); (first | rw [show decide (cl ≤ 16) = true from decide_eq_true (by omega)] | rw [show decide (cl ≤ 16) = false from decide_eq_false (by omega)] | skip); (first | rw [show decide (ix < 64) = true from decide_eq_true (by omega)] | rw [show decide (ix < 64) = false from decide_eq_false (by omega)] | skip); first | rfl | (simp only [Bool.true_and, Bool.and_true, Bool.false_and, Bool.and_false, Bool.true_or, Bool.false_or, Bool.or_false, Bool.or_true, Bool.not_true, Bool.not_false]; first | done | rfl | ((repeat (first | rw [show up = true by assumption] | rw [show up = false by assumption] | rw [show decide (ix = 0) = true from decide_eq_true (by omega)] | rw [show decide (ix = 0) = false from decide_eq_false (by omega)])); rfl))), rfl⟩
                  · intro hg28; clear hl; intro hl
                    try simp only [decide_eq_true_eq, decide_eq_false_iff_not, Bool.not_eq_true', Bool.not_eq_false', Bool.not_eq_true, Bool.not_eq_false, Bool.and_eq_true, Bool.or_eq_true, Bool.and_eq_false_iff, Bool.or_eq_false_iff, Bool.not_not, ne_eq, Int.not_lt, Int.not_le, Decidable.not_not, beq_iff_eq, bne_iff_ne] at hg28
                    refine wl (wl_skip hl rfl ⟨_, _, rfl, rfl, rfl⟩ ?_)
                    clear hl a; intro a hl
                    refine wl (wl_val hl rfl trivial (r_pickF hl rfl rfl) ?_)
                    clear hl a; intro a hl
                    refine wl (wl_val hl rfl trivial (r_assign hl rfl) ?_)
                    clear hl a; intro a hl
                    refine w_nil ?_
                    have hl2 := hl.add (t := 2) (hl.nil) rfl; clear hl; have hl := hl2; clear hl2
                    refine then_normal ?_
                    refine wp_ret ?_
                    refine blk_ret ?_
                    refine then_ret ?_
                    refine f_ret1 (F' := []) hl hh rfl rfl (by repeat (first | exact keeps_nil | apply keeps_cons (by repeat (first | exact find_head | apply find_tail)) (by first  | rfl) | exact keeps_self | apply keeps_mv)) ?_
                    first | (exfalso; omega) | exact ⟨congrArg Value.bool (by unfold wfF; simp only; (repeat (first | rw [if_pos (by omega)] | rw [if_neg (by omega)])); (try simp only [noPr, nxV]); (first | rw [show noRl ⟨kd, dv, pr, ix, up, ra, rl, via, pm, da, dl, cl⟩ = true by assumption] | rw [show noRl ⟨kd, dv, pr, ix, up, ra, rl, via, pm, da, dl, cl⟩ = false by assumption] | skip); (first | rw [show noRt ⟨kd, dv, pr, ix, up, ra, rl, via, pm, da, dl, cl⟩ = true by assumption] | rw [show noRt ⟨kd, dv, pr, ix, up, ra, rl, via, pm, da, dl, cl⟩ = false by assumption] | skip); (first | rw [show gpF ra rl = true by assumption] | rw [show gpF ra rl = false by assumption] | skip); (first | rw [show gpF da dl = true by assumption] | rw [show gpF da dl = false by assumption] | skip); (first | rw [show decide (dv < 16) = true from decide_eq_true (by omega)] | rw [show decide (dv < 16) = false from decide_eq_false (by omega)] | skip); (first | rw [show decide (via = 16) = true from decide_eq_true (by omega)] | rw [show decide (via = 16) = false from decide_eq_false (by omega)] | skip); (first | rw [show decide (via < 16) = true from decide_eq_true (by omega)] | rw [show decide (via < 16) = false from decide_eq_false (by omega)] | skip); (first | rw [show decide (via = dv) = true from decide_eq_true (by omega)] | rw [show decide (via = dv) = false from decide_eq_false (by omega)] | skip); (first | rw [show decide (via = 0) = true from decide_eq_true (by omega)] | rw [show decide (via = 0) = false from decide_eq_false (by omega)] | skip); (first | rw [show decide (pr = 0) = true from decide_eq_true (by omega)] | rw [show decide (pr = 0) = false from decide_eq_false (by omega)] | skip); (first | rw [show decide (pr < 16) = true from decide_eq_true (by omega)] | rw [show decide (pr < 16) = false from decide_eq_false (by omega)] | skip); (first | rw [show decide (dv < pr) = true from decide_eq_true (by omega)] | rw [show decide (dv < pr) = false from decide_eq_false (by omega)] | skip); (first | rw [show decide (dv = pr) = true from decide_eq_true (by omega)] | rw [show decide (dv = pr) = false from decide_eq_false (by omega)] | skip); (first | rw [show decide (cl ≤ 16) = true from decide_eq_true (by omega)] | rw [show decide (cl ≤ 16) = false from decide_eq_false (by omega)] | skip); (first | rw [show decide (ix < 64) = true from decide_eq_true (by omega)] | rw [show decide (ix < 64) = false from decide_eq_false (by omega)] | skip); first | rfl | (simp only [Bool.true_and, Bool.and_true, Bool.false_and, Bool.and_false, Bool.true_or, Bool.false_or, Bool.or_false, Bool.or_true, Bool.not_true, Bool.not_false]; first | done | rfl | ((repeat (first | rw [show up = true by assumption] | rw [show up = false by assumption] | rw [show decide (ix = 0) = true from decide_eq_true (by omega)] | rw [show decide (ix = 0) = false from decide_eq_false (by omega)])); rfl))), rfl⟩
                · intro hg27; clear hl; intro hl
                  try simp only [decide_eq_true_eq, decide_eq_false_iff_not, Bool.not_eq_true', Bool.not_eq_false', Bool.not_eq_true, Bool.not_eq_false, Bool.and_eq_true, Bool.or_eq_true, Bool.and_eq_false_iff, Bool.or_eq_false_iff, Bool.not_not, ne_eq, Int.not_lt, Int.not_le, Decidable.not_not, beq_iff_eq, bne_iff_ne] at hg27
                  refine wl (wl_skip hl rfl ⟨_, _, rfl, rfl, rfl⟩ ?_)
                  clear hl a; intro a hl
                  refine wl (wl_val hl rfl trivial (r_pickF hl rfl rfl) ?_)
                  clear hl a; intro a hl
                  refine wl (wl_val hl rfl trivial (r_move hl rfl) ?_)
                  clear hl a; intro a hl
                  refine wl (wl_skip hl rfl ⟨_, _, rfl, rfl, rfl⟩ ?_)
                  clear hl a; intro a hl
                  refine wl (wl_val hl rfl trivial (r_pickF hl rfl rfl) ?_)
                  clear hl a; intro a hl
                  refine wl (wl_val hl rfl trivial (r_assign hl rfl) ?_)
                  clear hl a; intro a hl
                  refine w_nil ?_
                  have hl2 := hl.add (t := 2) (hl.nil) rfl; clear hl; have hl := hl2; clear hl2
                  refine then_normal ?_
                  refine wp_ret ?_
                  refine blk_ret ?_
                  refine then_ret ?_
                  refine f_ret1 (F' := []) hl hh rfl rfl (by repeat (first | exact keeps_nil | apply keeps_cons (by repeat (first | exact find_head | apply find_tail)) (by first  | rfl) | exact keeps_self | apply keeps_mv)) ?_
                  first | (exfalso; omega) | exact ⟨congrArg Value.bool (by unfold wfF; simp only; (repeat (first | rw [if_pos (by omega)] | rw [if_neg (by omega)])); (try simp only [noPr, nxV]); (first | rw [show noRl ⟨kd, dv, pr, ix, up, ra, rl, via, pm, da, dl, cl⟩ = true by assumption] | rw [show noRl ⟨kd, dv, pr, ix, up, ra, rl, via, pm, da, dl, cl⟩ = false by assumption] | skip); (first | rw [show noRt ⟨kd, dv, pr, ix, up, ra, rl, via, pm, da, dl, cl⟩ = true by assumption] | rw [show noRt ⟨kd, dv, pr, ix, up, ra, rl, via, pm, da, dl, cl⟩ = false by assumption] | skip); (first | rw [show gpF ra rl = true by assumption] | rw [show gpF ra rl = false by assumption] | skip); (first | rw [show gpF da dl = true by assumption] | rw [show gpF da dl = false by assumption] | skip); (first | rw [show decide (dv < 16) = true from decide_eq_true (by omega)] | rw [show decide (dv < 16) = false from decide_eq_false (by omega)] | skip); (first | rw [show decide (via = 16) = true from decide_eq_true (by omega)] | rw [show decide (via = 16) = false from decide_eq_false (by omega)] | skip); (first | rw [show decide (via < 16) = true from decide_eq_true (by omega)] | rw [show decide (via < 16) = false from decide_eq_false (by omega)] | skip); (first | rw [show decide (via = dv) = true from decide_eq_true (by omega)] | rw [show decide (via = dv) = false from decide_eq_false (by omega)] | skip); (first | rw [show decide (via = 0) = true from decide_eq_true (by omega)] | rw [show decide (via = 0) = false from decide_eq_false (by omega)] | skip); (first | rw [show decide (pr = 0) = true from decide_eq_true (by omega)] | rw [show decide (pr = 0) = false from decide_eq_false (by omega)] | skip); (first | rw [show decide (pr < 16) = true from decide_eq_true (by omega)] | rw [show decide (pr < 16) = false from decide_eq_false (by omega)] | skip); (first | rw [show decide (dv < pr) = true from decide_eq_true (by omega)] | rw [show decide (dv < pr) = false from decide_eq_false (by omega)] | skip); (first | rw [show decide (dv = pr) = true from decide_eq_true (by omega)] | rw [show decide (dv = pr) = false from decide_eq_false (by omega)] | skip); (first | rw [show decide (cl ≤ 16) = true from decide_eq_true (by omega)] | rw [show decide (cl ≤ 16) = false from decide_eq_false (by omega)] | skip); (first | rw [show decide (ix < 64) = true from decide_eq_true (by omega)] | rw [show decide (ix < 64) = false from decide_eq_false (by omega)] | skip); first | rfl | (simp only [Bool.true_and, Bool.and_true, Bool.false_and, Bool.and_false, Bool.true_or, Bool.false_or, Bool.or_false, Bool.or_true, Bool.not_true, Bool.not_false]; first | done | rfl | ((repeat (first | rw [show up = true by assumption] | rw [show up = false by assumption] | rw [show decide (ix = 0) = true from decide_eq_true (by omega)] | rw [show decide (ix = 0) = false from decide_eq_false (by omega)])); rfl))), rfl⟩
              · intro hg26; clear hl; intro hl
                try simp only [decide_eq_true_eq, decide_eq_false_iff_not, Bool.not_eq_true', Bool.not_eq_false', Bool.not_eq_true, Bool.not_eq_false, Bool.and_eq_true, Bool.or_eq_true, Bool.and_eq_false_iff, Bool.or_eq_false_iff, Bool.not_not, ne_eq, Int.not_lt, Int.not_le, Decidable.not_not, beq_iff_eq, bne_iff_ne] at hg26
                refine wl (wl_skip hl rfl ⟨_, _, rfl, rfl, rfl⟩ ?_)
                clear hl a; intro a hl
                refine wl (wl_val hl rfl trivial (r_pickF hl rfl rfl) ?_)
                clear hl a; intro a hl
                refine wl (wl_val hl rfl trivial (r_move hl rfl) ?_)
                clear hl a; intro a hl
                refine wl (wl_skip hl rfl ⟨_, _, rfl, rfl, rfl⟩ ?_)
                clear hl a; intro a hl
                refine wl (wl_val hl rfl trivial (r_pickF hl rfl rfl) ?_)
                clear hl a; intro a hl
                refine wl (wl_val hl rfl trivial (r_move hl rfl) ?_)
                clear hl a; intro a hl
                refine wl (wl_skip hl rfl ⟨_, _, rfl, rfl, rfl⟩ ?_)
                clear hl a; intro a hl
                refine wl (wl_val hl rfl trivial (r_pickF hl rfl rfl) ?_)
                clear hl a; intro a hl
                refine wl (wl_val hl rfl trivial (r_assign hl rfl) ?_)
                clear hl a; intro a hl
                refine w_nil ?_
                have hl2 := hl.add (t := 2) (hl.nil) rfl; clear hl; have hl := hl2; clear hl2
                refine then_normal ?_
                refine wp_ret ?_
                refine blk_ret ?_
                refine then_ret ?_
                refine f_ret1 (F' := []) hl hh rfl rfl (by repeat (first | exact keeps_nil | apply keeps_cons (by repeat (first | exact find_head | apply find_tail)) (by first  | rfl) | exact keeps_self | apply keeps_mv)) ?_
                first | (exfalso; omega) | exact ⟨congrArg Value.bool (by unfold wfF; simp only; (repeat (first | rw [if_pos (by omega)] | rw [if_neg (by omega)])); (try simp only [noPr, nxV]); (first | rw [show noRl ⟨kd, dv, pr, ix, up, ra, rl, via, pm, da, dl, cl⟩ = true by assumption] | rw [show noRl ⟨kd, dv, pr, ix, up, ra, rl, via, pm, da, dl, cl⟩ = false by assumption] | skip); (first | rw [show noRt ⟨kd, dv, pr, ix, up, ra, rl, via, pm, da, dl, cl⟩ = true by assumption] | rw [show noRt ⟨kd, dv, pr, ix, up, ra, rl, via, pm, da, dl, cl⟩ = false by assumption] | skip); (first | rw [show gpF ra rl = true by assumption] | rw [show gpF ra rl = false by assumption] | skip); (first | rw [show gpF da dl = true by assumption] | rw [show gpF da dl = false by assumption] | skip); (first | rw [show decide (dv < 16) = true from decide_eq_true (by omega)] | rw [show decide (dv < 16) = false from decide_eq_false (by omega)] | skip); (first | rw [show decide (via = 16) = true from decide_eq_true (by omega)] | rw [show decide (via = 16) = false from decide_eq_false (by omega)] | skip); (first | rw [show decide (via < 16) = true from decide_eq_true (by omega)] | rw [show decide (via < 16) = false from decide_eq_false (by omega)] | skip); (first | rw [show decide (via = dv) = true from decide_eq_true (by omega)] | rw [show decide (via = dv) = false from decide_eq_false (by omega)] | skip); (first | rw [show decide (via = 0) = true from decide_eq_true (by omega)] | rw [show decide (via = 0) = false from decide_eq_false (by omega)] | skip); (first | rw [show decide (pr = 0) = true from decide_eq_true (by omega)] | rw [show decide (pr = 0) = false from decide_eq_false (by omega)] | skip); (first | rw [show decide (pr < 16) = true from decide_eq_true (by omega)] | rw [show decide (pr < 16) = false from decide_eq_false (by omega)] | skip); (first | rw [show decide (dv < pr) = true from decide_eq_true (by omega)] | rw [show decide (dv < pr) = false from decide_eq_false (by omega)] | skip); (first | rw [show decide (dv = pr) = true from decide_eq_true (by omega)] | rw [show decide (dv = pr) = false from decide_eq_false (by omega)] | skip); (first | rw [show decide (cl ≤ 16) = true from decide_eq_true (by omega)] | rw [show decide (cl ≤ 16) = false from decide_eq_false (by omega)] | skip); (first | rw [show decide (ix < 64) = true from decide_eq_true (by omega)] | rw [show decide (ix < 64) = false from decide_eq_false (by omega)] | skip); first | rfl | (simp only [Bool.true_and, Bool.and_true, Bool.false_and, Bool.and_false, Bool.true_or, Bool.false_or, Bool.or_false, Bool.or_true, Bool.not_true, Bool.not_false]; first | done | rfl | ((repeat (first | rw [show up = true by assumption] | rw [show up = false by assumption] | rw [show decide (ix = 0) = true from decide_eq_true (by omega)] | rw [show decide (ix = 0) = false from decide_eq_false (by omega)])); rfl))), rfl⟩
            · intro hg25; clear hl; intro hl
              try simp only [decide_eq_true_eq, decide_eq_false_iff_not, Bool.not_eq_true', Bool.not_eq_false', Bool.not_eq_true, Bool.not_eq_false, Bool.and_eq_true, Bool.or_eq_true, Bool.and_eq_false_iff, Bool.or_eq_false_iff, Bool.not_not, ne_eq, Int.not_lt, Int.not_le, Decidable.not_not, beq_iff_eq, bne_iff_ne] at hg25
              refine wl (wl_skip hl rfl ⟨_, _, rfl, rfl, rfl⟩ ?_)
              clear hl a; intro a hl
              refine wl (wl_skip hl rfl ⟨_, _, rfl, rfl, rfl⟩ ?_)
              clear hl a; intro a hl
              refine wl (wl_skip hl rfl ⟨_, _, rfl, rfl, rfl⟩ ?_)
              clear hl a; intro a hl
              refine wl (wl_val hl rfl trivial (r_pickF hl rfl rfl) ?_)
              clear hl a; intro a hl
              refine wl (wl_val hl rfl trivial (r_move hl rfl) ?_)
              clear hl a; intro a hl
              refine wl (wl_skip hl rfl ⟨_, _, rfl, rfl, rfl⟩ ?_)
              clear hl a; intro a hl
              refine wl (wl_val hl rfl trivial (r_pickF hl rfl rfl) ?_)
              clear hl a; intro a hl
              refine wl (wl_val hl rfl trivial (r_move hl rfl) ?_)
              clear hl a; intro a hl
              refine wl (wl_skip hl rfl ⟨_, _, rfl, rfl, rfl⟩ ?_)
              clear hl a; intro a hl
              refine wl (wl_val hl rfl trivial (r_pickF hl rfl rfl) ?_)
              clear hl a; intro a hl
              refine wl (wl_val hl rfl trivial (r_move hl rfl) ?_)
              clear hl a; intro a hl
              refine wl (wl_skip hl rfl ⟨_, _, rfl, rfl, rfl⟩ ?_)
              clear hl a; intro a hl
              refine wl (wl_val hl rfl trivial (r_pickF hl rfl rfl) ?_)
              clear hl a; intro a hl
              refine wl (wl_val hl rfl trivial (r_assign hl rfl) ?_)
              clear hl a; intro a hl
              refine w_nil ?_
              have hl2 := hl.add (t := 2) (hl.nil) rfl; clear hl; have hl := hl2; clear hl2
              refine then_normal ?_
              refine wp_ret ?_
              refine blk_ret ?_
              refine then_ret ?_
              refine f_ret1 (F' := []) hl hh rfl rfl (by repeat (first | exact keeps_nil | apply keeps_cons (by repeat (first | exact find_head | apply find_tail)) (by first  | rfl) | exact keeps_self | apply keeps_mv)) ?_
              first | (exfalso; omega) | exact ⟨congrArg Value.bool (by unfold wfF; simp only; (repeat (first | rw [if_pos (by omega)] | rw [if_neg (by omega)])); (try simp only [noPr, nxV]); (first | rw [show noRl ⟨kd, dv, pr, ix, up, ra, rl, via, pm, da, dl, cl⟩ = true by assumption] | rw [show noRl ⟨kd, dv, pr, ix, up, ra, rl, via, pm, da, dl, cl⟩ = false by assumption] | skip); (first | rw [show noRt ⟨kd, dv, pr, ix, up, ra, rl, via, pm, da, dl, cl⟩ = true by assumption] | rw [show noRt ⟨kd, dv, pr, ix, up, ra, rl, via, pm, da, dl, cl⟩ = false by assumption] | skip); (first | rw [show gpF ra rl = true by assumption] | rw [show gpF ra rl = false by assumption] | skip); (first | rw [show gpF da dl = true by assumption] | rw [show gpF da dl = false by assumption] | skip); (first | rw [show decide (dv < 16) = true from decide_eq_true (by omega)] | rw [show decide (dv < 16) = false from decide_eq_false (by omega)] | skip); (first | rw [show decide (via = 16) = true from decide_eq_true (by omega)] | rw [show decide (via = 16) = false from decide_eq_false (by omega)] | skip); (first | rw [show decide (via < 16) = true from decide_eq_true (by omega)] | rw [show decide (via < 16) = false from decide_eq_false (by omega)] | skip); (first | rw [show decide (via = dv) = true from decide_eq_true (by omega)] | rw [show decide (via = dv) = false from decide_eq_false (by omega)] | skip); (first | rw [show decide (via = 0) = true from decide_eq_true (by omega)] | rw [show decide (via = 0) = false from decide_eq_false (by omega)] | skip); (first | rw [show decide (pr = 0) = true from decide_eq_true (by omega)] | rw [show decide (pr = 0) = false from decide_eq_false (by omega)] | skip); (first | rw [show decide (pr < 16) = true from decide_eq_true (by omega)] | rw [show decide (pr < 16) = false from decide_eq_false (by omega)] | skip); (first | rw [show decide (dv < pr) = true from decide_eq_true (by omega)] | rw [show decide (dv < pr) = false from decide_eq_false (by omega)] | skip); (first | rw [show decide (dv = pr) = true from decide_eq_true (by omega)] | rw [show decide (dv = pr) = false from decide_eq_false (by omega)] | skip); (first | rw [show decide (cl ≤ 16) = true from decide_eq_true (by omega)] | rw [show decide (cl ≤ 16) = false from decide_eq_false (by omega)] | skip); (first | rw [show decide (ix < 64) = true from decide_eq_true (by omega)] | rw [show decide (ix < 64) = false from decide_eq_false (by omega)] | skip); first | rfl | (simp only [Bool.true_and, Bool.and_true, Bool.false_and, Bool.and_false, Bool.true_or, Bool.false_or, Bool.or_false, Bool.or_true, Bool.not_true, Bool.not_false]; first | done | rfl | ((repeat (first | rw [show up = true by assumption] | rw [show up = false by assumption] | rw [show decide (ix = 0) = true from decide_eq_true (by omega)] | rw [show decide (ix = 0) = false from decide_eq_false (by omega)])); rfl))), rfl⟩
          · intro hc3
            try simp only [decide_eq_true_eq, decide_eq_false_iff_not, Bool.not_eq_true', Bool.not_eq_false', Bool.not_eq_true, Bool.not_eq_false, Bool.and_eq_true, Bool.or_eq_true, Bool.and_eq_false_iff, Bool.or_eq_false_iff, Bool.not_not, ne_eq, Int.not_lt, Int.not_le, Decidable.not_not, beq_iff_eq, bne_iff_ne] at hc3
            refine c_seq ?_
            refine c_region ?_
            refine wl (wl_val hl rfl trivial (r_eql hl rfl rfl) ?_)
            clear hl a; intro a hl
            refine wl (wl_val hl rfl trivial (r_assign hl rfl) ?_)
            clear hl a; intro a hl
            refine w_nil ?_
            have hl2 := hl.add (t := 1) (hl.add (t := 4) (hl.add (t := 5) (hl.add (t := 24) (hl.add (t := 143) (hl.nil) rfl) rfl) rfl) rfl) rfl; clear hl; have hl := hl2; clear hl2
            refine then_normal ?_
            refine c_cond hl rfl ?_ ?_
            · intro hc4
              try simp only [decide_eq_true_eq, decide_eq_false_iff_not, Bool.not_eq_true', Bool.not_eq_false', Bool.not_eq_true, Bool.not_eq_false, Bool.and_eq_true, Bool.or_eq_true, Bool.and_eq_false_iff, Bool.or_eq_false_iff, Bool.not_not, ne_eq, Int.not_lt, Int.not_le, Decidable.not_not, beq_iff_eq, bne_iff_ne] at hc4
              refine c_seq ?_
              refine c_region ?_
              refine wl (wl_val hl rfl trivial (r_field hl rfl fld57_1) ?_)
              clear hl a; intro a hl
              refine wl (w_load hl hh rfl trivial one5 rfl (by repeat (first | exact find_head | apply find_tail)) (by first | rfl) ?_)
              clear hl a; intro a hl
              refine wl (w_call hl hh rfl trivial rfl cal64 rfl (isDeviceM _) (by repeat (first | exact keeps_nil | apply keeps_cons (by repeat (first | exact find_head | apply find_tail)) (by first  | rfl) | exact keeps_self | apply keeps_mv)) trivial ?_)
              clear hl hh a w; intro vc Fc a w hR hl hh
              obtain ⟨rfl, rfl⟩ := hR
              try simp only [List.cons_append, List.nil_append] at hh
              refine wl (wl_val hl rfl trivial (r_move hl rfl) ?_)
              clear hl a; intro a hl
              refine sl_split (t := 148) hl rfl ?_ ?_
              · intro hg29; clear hl; intro hl
                try simp only [decide_eq_true_eq, decide_eq_false_iff_not, Bool.not_eq_true', Bool.not_eq_false', Bool.not_eq_true, Bool.not_eq_false, Bool.and_eq_true, Bool.or_eq_true, Bool.and_eq_false_iff, Bool.or_eq_false_iff, Bool.not_not, ne_eq, Int.not_lt, Int.not_le, Decidable.not_not, beq_iff_eq, bne_iff_ne] at hg29
                refine wl (wl_val hl rfl ⟨_, _, rfl, rfl, rfl⟩ (r_field hl rfl fld57_2) ?_)
                clear hl a; intro a hl
                refine wl (w_load hl hh rfl ⟨_, _, rfl, rfl, rfl⟩ one5 rfl (by repeat (first | exact find_head | apply find_tail)) (by first | rfl) ?_)
                clear hl a; intro a hl
                refine wl (w_call hl hh rfl ⟨_, _, rfl, rfl, rfl⟩ rfl cal64 rfl (isDeviceM _) (by repeat (first | exact keeps_nil | apply keeps_cons (by repeat (first | exact find_head | apply find_tail)) (by first  | rfl) | exact keeps_self | apply keeps_mv)) trivial ?_)
                clear hl hh a w; intro vc Fc a w hR hl hh
                obtain ⟨rfl, rfl⟩ := hR
                try simp only [List.cons_append, List.nil_append] at hh
                refine wl (wl_val hl rfl trivial (r_pickT hl rfl rfl) ?_)
                clear hl a; intro a hl
                refine wl (wl_val hl rfl trivial (r_move hl rfl) ?_)
                clear hl a; intro a hl
                refine sl_split (t := 153) hl rfl ?_ ?_
                · intro hg30; clear hl; intro hl
                  try simp only [decide_eq_true_eq, decide_eq_false_iff_not, Bool.not_eq_true', Bool.not_eq_false', Bool.not_eq_true, Bool.not_eq_false, Bool.and_eq_true, Bool.or_eq_true, Bool.and_eq_false_iff, Bool.or_eq_false_iff, Bool.not_not, ne_eq, Int.not_lt, Int.not_le, Decidable.not_not, beq_iff_eq, bne_iff_ne] at hg30
                  refine wl (wl_val hl rfl ⟨_, _, rfl, rfl, rfl⟩ (r_field hl rfl fld57_1) ?_)
                  clear hl a; intro a hl
                  refine wl (w_load hl hh rfl ⟨_, _, rfl, rfl, rfl⟩ one5 rfl (by repeat (first | exact find_head | apply find_tail)) (by first | rfl) ?_)
                  clear hl a; intro a hl
                  refine wl (wl_val hl rfl ⟨_, _, rfl, rfl, rfl⟩ (r_field hl rfl fld57_2) ?_)
                  clear hl a; intro a hl
                  refine wl (w_load hl hh rfl ⟨_, _, rfl, rfl, rfl⟩ one5 rfl (by repeat (first | exact find_head | apply find_tail)) (by first | rfl) ?_)
                  clear hl a; intro a hl
                  refine wl (wl_val hl rfl ⟨_, _, rfl, rfl, rfl⟩ (r_lss hl rfl rfl) ?_)
                  clear hl a; intro a hl
                  refine wl (wl_val hl rfl trivial (r_pickT hl rfl rfl) ?_)
                  clear hl a; intro a hl
                  refine wl (wl_val hl rfl trivial (r_move hl rfl) ?_)
                  clear hl a; intro a hl
                  refine sl_split (t := 160) hl rfl ?_ ?_
                  · intro hg31; clear hl; intro hl
                    try simp only [decide_eq_true_eq, decide_eq_false_iff_not, Bool.not_eq_true', Bool.not_eq_false', Bool.not_eq_true, Bool.not_eq_false, Bool.and_eq_true, Bool.or_eq_true, Bool.and_eq_false_iff, Bool.or_eq_false_iff, Bool.not_not, ne_eq, Int.not_lt, Int.not_le, Decidable.not_not, beq_iff_eq, bne_iff_ne] at hg31
                    refine wl (wl_val hl rfl ⟨_, _, rfl, rfl, rfl⟩ (r_move hl rfl) ?_)
                    clear hl a; intro a hl
                    refine wl (wl_val hl rfl trivial (r_pickT hl rfl rfl) ?_)
                    clear hl a; intro a hl
                    refine wl (wl_val hl rfl trivial (r_move hl rfl) ?_)
                    clear hl a; intro a hl
                    refine sl_split (t := 163) hl rfl ?_ ?_
                    · intro hg32; clear hl; intro hl
                      try simp only [decide_eq_true_eq, decide_eq_false_iff_not, Bool.not_eq_true', Bool.not_eq_false', Bool.not_eq_true, Bool.not_eq_false, Bool.and_eq_true, Bool.or_eq_true, Bool.and_eq_false_iff, Bool.or_eq_false_iff, Bool.not_not, ne_eq, Int.not_lt, Int.not_le, Decidable.not_not, beq_iff_eq, bne_iff_ne] at hg32
                      refine wl (wl_val hl rfl ⟨_, _, rfl, rfl, rfl⟩ (r_move hl rfl) ?_)
                      clear hl a; intro a hl
                      refine wl (wl_val hl rfl trivial (r_pickT hl rfl rfl) ?_)
                      clear hl a; intro a hl
                      refine wl (wl_val hl rfl trivial (r_move hl rfl) ?_)
                      clear hl a; intro a hl
                      refine sl_split (t := 166) hl rfl ?_ ?_
                      · intro hg33; clear hl; intro hl
                        try simp only [decide_eq_true_eq, decide_eq_false_iff_not, Bool.not_eq_true', Bool.not_eq_false', Bool.not_eq_true, Bool.not_eq_false, Bool.and_eq_true, Bool.or_eq_true, Bool.and_eq_false_iff, Bool.or_eq_false_iff, Bool.not_not, ne_eq, Int.not_lt, Int.not_le, Decidable.not_not, beq_iff_eq, bne_iff_ne] at hg33
                        refine wl (wl_val hl rfl ⟨_, _, rfl, rfl, rfl⟩ (r_field hl rfl fld57_3) ?_)
                        clear hl a; intro a hl
                        refine wl (w_load hl hh rfl ⟨_, _, rfl, rfl, rfl⟩ one5 rfl (by repeat (first | exact find_head | apply find_tail)) (by first | rfl) ?_)
                        clear hl a; intro a hl
                        refine wl (wl_val hl rfl ⟨_, _, rfl, rfl, rfl⟩ (r_eql hl rfl rfl) ?_)
                        clear hl a; intro a hl
                        refine wl (wl_val hl rfl trivial (r_pickT hl rfl rfl) ?_)
                        clear hl a; intro a hl
                        refine wl (wl_val hl rfl trivial (r_assign hl rfl) ?_)
                        clear hl a; intro a hl
                        refine w_nil ?_
                        have hl2 := hl.add (t := 2) (hl.nil) rfl; clear hl; have hl := hl2; clear hl2
                        refine then_normal ?_
                        refine wp_ret ?_
                        refine blk_ret ?_
                        refine then_ret ?_
                        refine f_ret1 (F' := []) hl hh rfl rfl (by repeat (first | exact keeps_nil | apply keeps_cons (by repeat (first | exact find_head | apply find_tail)) (by first  | rfl) | exact keeps_self | apply keeps_mv)) ?_
                        first | (exfalso; omega) | exact ⟨congrArg Value.bool (by unfold wfF; simp only; (repeat (first | rw [if_pos (by omega)] | rw [if_neg (by omega)])); (try simp only [noPr, nxV]); (first | rw [show noRl ⟨kd, dv, pr, ix, up, ra, rl, via, pm, da, dl, cl⟩ = true by assumption] | rw [show noRl ⟨kd, dv, pr, ix, up, ra, rl, via, pm, da, dl, cl⟩ = false by assumption] | skip); (first | rw [show noRt ⟨kd, dv, pr, ix, up, ra, rl, via, pm, da, dl, cl⟩ = true by assumption] | rw [show noRt ⟨kd, dv, pr, ix, up, ra, rl, via, pm, da, dl, cl⟩ = false by assumption] | skip); (first | rw [show gpF ra rl = true by assumption] | rw [show gpF ra rl = false by assumption] | skip); (first | rw [show gpF da dl = true by assumption] | rw [show gpF da dl = false by assumption] | skip); (first | rw [show decide (dv < 16) = true from decide_eq_true (by omega)] | rw [show decide (dv < 16) = false from decide_eq_false (by omega)] | skip); (first | rw [show decide (via = 16) = true from decide_eq_true (by omega)] | rw [show decide (via = 16) = false from decide_eq_false (by omega)] | skip); (first | rw [show decide (via < 16) = true from decide_eq_true (by omega)] | rw [show decide (via < 16) = false from decide_eq_false (by omega)] | skip); (first | rw [show decide (via = dv) = true from decide_eq_true (by omega)] | rw [show decide (via = dv) = false from decide_eq_false (by omega)] | skip); (first | rw [show decide (via = 0) = true from decide_eq_true (by omega)] | rw [show decide (via = 0) = false from decide_eq_false (by omega)] | skip); (first | rw [show decide (pr = 0) = true from decide_eq_true (by omega)] | rw [show decide (pr = 0) = false from decide_eq_false (by omega)] | skip); (first | rw [show decide (pr < 16) = true from decide_eq_true (by omega)] | rw [show decide (pr < 16) = false from decide_eq_false (by omega)] | skip); (first | rw [show decide (dv < pr) = true from decide_eq_true (by omega)] | rw [show decide (dv < pr) = false from decide_eq_false (by omega)] | skip); (first | rw [show decide (dv = pr) = true from decide_eq_true (by omega)] | rw [show decide (dv = pr) = false from decide_eq_false (by omega)] | skip); (first | rw [show decide (cl ≤ 16) = true from decide_eq_true (by omega)] | rw [show decide (cl ≤ 16) = false from decide_eq_false (by omega)] | skip); (first | rw [show decide (ix < 64) = true from decide_eq_true (by omega)] | rw [show decide (ix < 64) = false from decide_eq_false (by omega)] | skip); first | rfl | (simp only [Bool.true_and, Bool.and_true, Bool.false_and, Bool.and_false, Bool.true_or, Bool.false_or, Bool.or_false, Bool.or_true, Bool.not_true, Bool.not_false]; first | done | rfl | ((repeat (first | rw [show up = true by assumption] | rw [show up = false by assumption] | rw [show decide (ix = 0) = true from decide_eq_true (by omega)] | rw [show decide (ix = 0) = false from decide_eq_false (by omega)])); rfl))), rfl⟩
                      · intro hg33; clear hl; intro hl
                        try simp only [decide_eq_true_eq, decide_eq_false_iff_not, Bool.not_eq_true', Bool.not_eq_false', Bool.not_eq_true, Bool.not_eq_false, Bool.and_eq_true, Bool.or_eq_true, Bool.and_eq_false_iff, Bool.or_eq_false_iff, Bool.not_not, ne_eq, Int.not_lt, Int.not_le, Decidable.not_not, beq_iff_eq, bne_iff_ne] at hg33
                        refine wl (wl_skip hl rfl ⟨_, _, rfl, rfl, rfl⟩ ?_)
                        clear hl a; intro a hl
                        refine wl (wl_skip hl rfl ⟨_, _, rfl, rfl, rfl⟩ ?_)
                        clear hl a; intro a hl
                        refine wl (wl_skip hl rfl ⟨_, _, rfl, rfl, rfl⟩ ?_)
                        clear hl a; intro a hl
                        refine wl (wl_val hl rfl trivial (r_pickF hl rfl rfl) ?_)
                        clear hl a; intro a hl
                        refine wl (wl_val hl rfl trivial (r_assign hl rfl) ?_)
                        clear hl a; intro a hl
                        refine w_nil ?_
                        have hl2 := hl.add (t := 2) (hl.nil) rfl; clear hl; have hl := hl2; clear hl2
                        refine then_normal ?_
                        refine wp_ret ?_
                        refine blk_ret ?_
                        refine then_ret ?_
                        refine f_ret1 (F' := []) hl hh rfl rfl (by repeat (first | exact keeps_nil | apply keeps_cons (by repeat (first | exact find_head | apply find_tail)) (by first  | rfl) | exact keeps_self | apply keeps_mv)) ?_
                        first | (exfalso; omega) | exact ⟨congrArg Value.bool (by unfold wfF; simp only; (repeat (first | rw [if_pos (by omega)] | rw [if_neg (by omega)])); (try simp only [noPr, nxV]); (first | rw [show noRl ⟨kd, dv, pr, ix, up, ra, rl, via, pm, da, dl, cl⟩ = true by assumption] | rw [show noRl ⟨kd, dv, pr, ix, up, ra, rl, via, pm, da, dl, cl⟩ = false by assumption] | skip); (first | rw [show noRt ⟨kd, dv, pr, ix, up, ra, rl, via, pm, da, dl, cl⟩ = true by assumption] | rw [show noRt ⟨kd, dv, pr, ix, up, ra, rl, via, pm, da, dl, cl⟩ = false by assumption] | skip); (first | rw [show gpF ra rl = true by assumption] | rw [show gpF ra rl = false by assumption] | skip); (first | rw [show gpF da dl = true by assumption] | rw [show gpF da dl = false by assumption] | skip); (first | rw [show decide (dv < 16) = true from decide_eq_true (by omega)] | rw [show decide (dv < 16) = false from decide_eq_false (by omega)] | skip); (first | rw [show decide (via = 16) = true from decide_eq_true (by omega)] | rw [show decide (via = 16) = false from decide_eq_false (by omega)] | skip); (first | rw [show decide (via < 16) = true from decide_eq_true (by omega)] | rw [show decide (via < 16) = false from decide_eq_false (by omega)] | skip); (first | rw [show decide (via = dv) = true from decide_eq_true (by omega)] | rw [show decide (via = dv) = false from decide_eq_false (by omega)] | skip); (first | rw [show decide (via = 0) = true from decide_eq_true (by omega)] | rw [show decide (via = 0) = false from decide_eq_false (by omega)] | skip); (first | rw [show decide (pr = 0) = true from decide_eq_true (by omega)] | rw [show decide (pr = 0) = false from decide_eq_false (by omega)] | skip); (first | rw [show decide (pr < 16) = true from decide_eq_true (by omega)] | rw [show decide (pr < 16) = false from decide_eq_false (by omega)] | skip); (first | rw [show decide (dv < pr) = true from decide_eq_true (by omega)] | rw [show decide (dv < pr) = false from decide_eq_false (by omega)] | skip); (first | rw [show decide (dv = pr) = true from decide_eq_true (by omega)] | rw [show decide (dv = pr) = false from decide_eq_false (by omega)] | skip); (first | rw [show decide (cl ≤ 16) = true from decide_eq_true (by omega)] | rw [show decide (cl ≤ 16) = false from decide_eq_false (by omega)] | skip); (first | rw [show decide (ix < 64) = true from decide_eq_true (by omega)] | rw [show decide (ix < 64) = false from decide_eq_false (by omega)] | skip); first | rfl | (simp only [Bool.true_and, Bool.and_true, Bool.false_and, Bool.and_false, Bool.true_or, Bool.false_or, Bool.or_false, Bool.or_true, Bool.not_true, Bool.not_false]; first | done | rfl | ((repeat (first | rw [show up = true by assumption] | rw [show up = false by assumption] | rw [show decide (ix = 0) = true from decide_eq_true (by omega)] | rw [show decide (ix = 0) = false from decide_eq_false (by omega)])); rfl))), rfl⟩
                    · intro hg32; clear hl; intro hl
                      try simp only [decide_eq_true_eq, decide_eq_false_iff_not, Bool.not_eq_true', Bool.not_eq_false', Bool.not_eq_true, Bool.not_eq_false, Bool.and_eq_true, Bool.or_eq_true, Bool.and_eq_false_iff, Bool.or_eq_false_iff, Bool.not_not, ne_eq, Int.not_lt, Int.not_le, Decidable.not_not, beq_iff_eq, bne_iff_ne] at hg32
                      refine wl (wl_skip hl rfl ⟨_, _, rfl, rfl, rfl⟩ ?_)
                      clear hl a; intro a hl
                      refine wl (wl_val hl rfl trivial (r_pickF hl rfl rfl) ?_)
                      clear hl a; intro a hl
                      refine wl (wl_val hl rfl trivial (r_move hl rfl) ?_)
                      clear hl a; intro a hl
                      refine wl (wl_skip hl rfl ⟨_, _, rfl, rfl, rfl⟩ ?_)
                      clear hl a; intro a hl
                      refine wl (wl_skip hl rfl ⟨_, _, rfl, rfl, rfl⟩ ?_)
                      clear hl a; intro a hl
                      refine wl (wl_skip hl rfl ⟨_, _, rfl, rfl, rfl⟩ ?_)
                      clear hl a; intro a hl
                      refine wl (wl_val hl rfl trivial (r_pickF hl rfl rfl) ?_)
                      clear hl a; intro a hl
                      refine wl (wl_val hl rfl trivial (r_assign hl rfl) ?_)
                      clear hl a; intro a hl
                      refine w_nil ?_
                      have hl2 := hl.add (t := 2) (hl.nil) rfl; clear hl; have hl := hl2; clear hl2
                      refine then_normal ?_
                      refine wp_ret ?_
                      refine blk_ret ?_
                      refine then_ret ?_
                      refine f_ret1 (F' := []) hl hh rfl rfl (by repeat (first | exact keeps_nil | apply keeps_cons (by repeat (first | exact find_head | apply find_tail)) (by first  | rfl) | exact keeps_self | apply keeps_mv)) ?_
                      first | (exfalso; omega) | exact ⟨congrArg Value.bool (by unfold wfF; simp only; (repeat (first | rw [if_pos (by omega)] | rw [if_neg (by omega)])); (try simp only [noPr, nxV]); (first | rw [show noRl ⟨kd, dv, pr, ix, up, ra, rl, via, pm, da, dl, cl⟩ = true by assumption] | rw [show noRl ⟨kd, dv, pr, ix, up, ra, rl, via, pm, da, dl, cl⟩ = false by assumption] | skip); (first | rw [show noRt ⟨kd, dv, pr, ix, up, ra, rl, via, pm, da, dl, cl⟩ = true by assumption] | rw [show noRt ⟨kd, dv, pr, ix, up, ra, rl, via, pm, da, dl, cl⟩ = false by assumption] | skip); (first | rw [show gpF ra rl = true by assumption] | rw [show gpF ra rl = false by assumption] | skip); (first | rw [show gpF da dl = true by assumption] | rw [show gpF da dl = false by assumption] | skip); (first | rw [show decide (dv < 16) = true from decide_eq_true (by omega)] | rw [show decide (dv < 16) = false from decide_eq_false (by omega)] | skip); (first | rw [show decide (via = 16) = true from decide_eq_true (by omega)] | rw [show decide (via = 16) = false from decide_eq_false (by omega)] | skip); (first | rw [show decide (via < 16) = true from decide_eq_true (by omega)] | rw [show decide (via < 16) = false from decide_eq_false (by omega)] | skip); (first | rw [show decide (via = dv) = true from decide_eq_true (by omega)] | rw [show decide (via = dv) = false from decide_eq_false (by omega)] | skip); (first | rw [show decide (via = 0) = true from decide_eq_true (by omega)] | rw [show decide (via = 0) = false from decide_eq_false (by omega)] | skip); (first | rw [show decide (pr = 0) = true from decide_eq_true (by omega)] | rw [show decide (pr = 0) = false from decide_eq_false (by omega)] | skip); (first | rw [show decide (pr < 16) = true from decide_eq_true (by omega)] | rw [show decide (pr < 16) = false from decide_eq_false (by omega)] | skip); (first | rw [show decide (dv < pr) = true from decide_eq_true (by omega)] | rw [show decide (dv < pr) = false from decide_eq_false (by omega)] | skip); (first | rw [show decide (dv = pr) = true from decide_eq_true (by omega)] | rw [show decide (dv = pr) = false from decide_eq_false (by omega)] | skip); (first | rw [show decide (cl ≤ 16) = true from decide_eq_true (by omega)] | rw [show decide (cl ≤ 16) = false from decide_eq_false (by omega)] | skip); (first | rw [show decide (ix < 64) = true from decide_eq_true (by omega)] | rw [show decide (ix < 64) = false from decide_eq_false (by omega)] | skip); first | rfl | (simp only [Bool.true_and, Bool.and_true, Bool.false_and, Bool.and_false, Bool.true_or, Bool.false_or, Bool.or_false, Bool.or_true, Bool.not_true, Bool.not_false]; first | done | rfl | ((repeat (first | rw [show up = true by assumption] | rw [show up = false by assumption] | rw [show decide (ix = 0) = true from decide_eq_true (by omega)] | rw [show decide (ix = 0) = false from decide_eq_false (by omega)])); rfl))), rfl⟩
                  · intro hg31; clear hl; intro hl
                    try simp only [decide_eq_true_eq, decide_eq_false_iff_not, Bool.not_eq_true', Bool.not_eq_false', Bool.not_eq_true, Bool.not_eq_false, Bool.and_eq_true, Bool.or_eq_true, Bool.and_eq_false_iff, Bool.or_eq_false_iff, Bool.not_not, ne_eq, Int.not_lt, Int.not_le, Decidable.not_not, beq_iff_eq, bne_iff_ne] at hg31
                    refine wl (wl_skip hl rfl ⟨_, _, rfl, rfl, rfl⟩ ?_)
                    clear hl a; intro a hl
                    refine wl (wl_val hl rfl trivial (r_pickF hl rfl rfl) ?_)
                    clear hl a; intro a hl
                    refine wl (wl_val hl rfl trivial (r_move hl rfl) ?_)
                    clear hl a; intro a hl
                    refine wl (wl_skip hl rfl ⟨_, _, rfl, rfl, rfl⟩ ?_)
                    clear hl a; intro a hl
                    refine wl (wl_val hl rfl trivial (r_pickF hl rfl rfl) ?_)
                    clear hl a; intro a hl
                    refine wl (wl_val hl rfl trivial (r_move hl rfl) ?_)
                    clear hl a; intro a hl
                    refine wl (wl_skip hl rfl ⟨_, _, rfl, rfl, rfl⟩ ?_)
                    clear hl a; intro a hl
                    refine wl (wl_skip hl rfl ⟨_, _, rfl, rfl, rfl⟩ ?_)
                    clear hl a; intro a hl
                    refine wl (wl_skip hl rfl ⟨_, _, rfl, rfl, rfl⟩ ?_)
                    clear hl a; intro a hl
                    refine wl (wl_val hl rfl trivial (r_pickF hl rfl rfl) ?_)
                    clear hl a; intro a hl
                    refine wl (wl_val hl rfl trivial (r_assign hl rfl) ?_)
                    clear hl a; intro a hl
                    refine w_nil ?_
                    have hl2 := hl.add (t := 2) (hl.nil) rfl; clear hl; have hl := hl2; clear hl2
                    refine then_normal ?_
                    refine wp_ret ?_
                    refine blk_ret ?_
                    refine then_ret ?_
                    refine f_ret1 (F' := []) hl hh rfl rfl (by repeat (first | exact keeps_nil | apply keeps_cons (by repeat (first | exact find_head | apply find_tail)) (by first  | rfl) | exact keeps_self | apply keeps_mv)) ?_
                    first | (exfalso; omega) | exact ⟨congrArg Value.bool (by unfold wfF; simp only; (repeat (first | rw [if_pos (by omega)] | rw [if_neg (by omega)])); (try simp only [noPr, nxV]); (first | rw [show noRl ⟨kd, dv, pr, ix, up, ra, rl, via, pm, da, dl, cl⟩ = true by assumption] | rw [show noRl ⟨kd, dv, pr, ix, up, ra, rl, via, pm, da, dl, cl⟩ = false by assumption] | skip); (first | rw [show noRt ⟨kd, dv, pr, ix, up, ra, rl, via, pm, da, dl, cl⟩ = true by assumption] | rw [show noRt ⟨kd, dv, pr, ix, up, ra, rl, via, pm, da, dl, cl⟩ = false by assumption] | skip); (first | rw [show gpF ra rl = true by assumption] | rw [show gpF ra rl = false by assumption] | skip); (first | rw [show gpF da dl = true by assumption] | rw [show gpF da dl = false by assumption] | skip); (first | rw [show decide (dv < 16) = true from decide_eq_true (by omega)] | rw [show decide (dv < 16) = false from decide_eq_false (by omega)] | skip); (first | rw [show decide (via = 16) = true from decide_eq_true (by omega)] | rw [show decide (via = 16) = false from decide_eq_false (by omega)] | skip); (first | rw [show decide (via < 16) = true from decide_eq_true (by omega)] | rw [show decide (via < 16) = false from decide_eq_false (by omega)] | skip); (first | rw [show decide (via = dv) = true from decide_eq_true (by omega)] | rw [show decide (via = dv) = false from decide_eq_false (by omega)] | skip); (first | rw [show decide (via = 0) = true from decide_eq_true (by omega)] | rw [show decide (via = 0) = false from decide_eq_false (by omega)] | skip); (first | rw [show decide (pr = 0) = true from decide_eq_true (by omega)] | rw [show decide (pr = 0) = false from decide_eq_false (by omega)] | skip); (first | rw [show decide (pr < 16) = true from decide_eq_true (by omega)] | rw [show decide (pr < 16) = false from decide_eq_false (by omega)] | skip); (first | rw [show decide (dv < pr) = true from decide_eq_true (by omega)] | rw [show decide (dv < pr) = false from decide_eq_false (by omega)] | skip); (first | rw [show decide (dv = pr) = true from decide_eq_true (by omega)] | rw [show decide (dv = pr) = false from decide_eq_false (by omega)] | skip); (first | rw [show decide (cl ≤ 16) = true from decide_eq_true (by omega)] | rw [show decide (cl ≤ 16) = false from decide_eq_false (by omega)] | skip); (first | rw [show decide (ix < 64) = true from decide_eq_true (by omega)] | rw [show decide (ix < 64) = false from decide_eq_false (by omega)] | skip); first | rfl | (simp only [Bool.true_and, Bool.and_true, Bool.false_and, Bool.and_false, Bool.true_or, Bool.false_or, Bool.or_false, Bool.or_true, Bool.not_true, Bool.not_false]; first | done | rfl | ((repeat (first | rw [show up = true by assumption] | rw [show up = false by assumption] | rw [show decide (ix = 0) = true from decide_eq_true (by omega)] | rw [show decide (ix = 0) = false from decide_eq_false (by omega)])); rfl))), rfl⟩
                · intro hg30; clear hl; intro hl
                  try simp only [decide_eq_true_eq, decide_eq_false_iff_not, Bool.not_eq_true', Bool.not_eq_false', Bool.not_eq_true, Bool.not_eq_false, Bool.and_eq_true, Bool.or_eq_true, Bool.and_eq_false_iff, Bool.or_eq_false_iff, Bool.not_not, ne_eq, Int.not_lt, Int.not_le, Decidable.not_not, beq_iff_eq, bne_iff_ne] at hg30
                  refine wl (wl_skip hl rfl ⟨_, _, rfl, rfl, rfl⟩ ?_)
                  clear hl a; intro a hl
                  refine wl (wl_skip hl rfl ⟨_, _, rfl, rfl, rfl⟩ ?_)
                  clear hl a; intro a hl
                  refine wl (wl_skip hl rfl ⟨_, _, rfl, rfl, rfl⟩ ?_)
                  clear hl a; intro a hl
                  refine wl (wl_skip hl rfl ⟨_, _, rfl, rfl, rfl⟩ ?_)
                  clear hl a; intro a hl
                  refine wl (wl_skip hl rfl ⟨_, _, rfl, rfl, rfl⟩ ?_)
                  clear hl a; intro a hl
                  refine wl (wl_val hl rfl trivial (r_pickF hl rfl rfl) ?_)
                  clear hl a; intro a hl
                  refine wl (wl_val hl rfl trivial (r_move hl rfl) ?_)
                  clear hl a; intro a hl
                  refine wl (wl_skip hl rfl ⟨_, _, rfl, rfl, rfl⟩ ?_)
                  clear hl a; intro a hl
                  refine wl (wl_val hl rfl trivial (r_pickF hl rfl rfl) ?_)
                  clear hl a; intro a hl
                  refine wl (wl_val hl rfl trivial (r_move hl rfl) ?_)
                  clear hl a; intro a hl
                  refine wl (wl_skip hl rfl ⟨_, _, rfl, rfl, rfl⟩ ?_)
                  clear hl a; intro a hl
                  refine wl (wl_val hl rfl trivial (r_pickF hl rfl rfl) ?_)
                  clear hl a; intro a hl
                  refine wl (wl_val hl rfl trivial (r_move hl rfl) ?_)
                  clear hl a; intro a hl
                  refine wl (wl_skip hl rfl ⟨_, _, rfl, rfl, rfl⟩ ?_)
                  clear hl a; intro a hl
                  refine wl (wl_skip hl rfl ⟨_, _, rfl, rfl, rfl⟩ ?_)
                  clear hl a; intro a hl
                  refine wl (wl_skip hl rfl ⟨_, _, rfl, rfl, rfl⟩ ?_)
                  clear hl a; intro a hl
                  refine wl (wl_val hl rfl trivial (r_pickF hl rfl rfl) ?_)
                  clear hl a; intro a hl
                  refine wl (wl_val hl rfl trivial (r_assign hl rfl) ?_)
                  clear hl a; intro a hl
                  refine w_nil ?_
                  have hl2 := hl.add (t := 2) (hl.nil) rfl; clear hl; have hl := hl2; clear hl2
                  refine then_normal ?_
                  refine wp_ret ?_
                  refine blk_ret ?_
                  refine then_ret ?_
                  refine f_ret1 (F' := []) hl hh rfl rfl (by repeat (first | exact keeps_nil | apply keeps_cons (by repeat (first | exact find_head | apply find_tail)) (by first  | rfl) | exact keeps_self | apply keeps_mv)) ?_
                  first | (exfalso; omega) | exact ⟨congrArg Value.bool (by unfold wfF; simp only; (repeat (first | rw [if_pos (by omega)] | rw [if_neg (by omega)])); (try simp only [noPr, nxV]); (first | rw [show noRl ⟨kd, dv, pr, ix, up, ra, rl, via, pm, da, dl, cl⟩ = true by assumption] | rw [show noRl ⟨kd, dv, pr, ix, up, ra, rl, via, pm, da, dl, cl⟩ = false by assumption] | skip); (first | rw [show noRt ⟨kd, dv, pr, ix, up, ra, rl, via, pm, da, dl, cl⟩ = true by assumption] | rw [show noRt ⟨kd, dv, pr, ix, up, ra, rl, via, pm, da, dl, cl⟩ = false by assumption] | skip); (first | rw [show gpF ra rl = true by assumption] | rw [show gpF ra rl = false by assumption] | skip); (first | rw [show gpF da dl = true by assumption] | rw [show gpF da dl = false by assumption] | skip); (first | rw [show decide (dv < 16) = true from decide_eq_true (by omega)] | rw [show decide (dv < 16) = false from decide_eq_false (by omega)] | skip); (first | rw [show decide (via = 16) = true from decide_eq_true (by omega)] | rw [show decide (via = 16) = false from decide_eq_false (by omega)] | skip); (first | rw [show decide (via < 16) = true from decide_eq_true (by omega)] | rw [show decide (via < 16) = false from decide_eq_false (by omega)] | skip); (first | rw [show decide (via = dv) = true from decide_eq_true (by omega)] | rw [show decide (via = dv) = false from decide_eq_false (by omega)] | skip); (first | rw [show decide (via = 0) = true from decide_eq_true (by omega)] | rw [show decide (via = 0) = false from decide_eq_false (by omega)] | skip); (first | rw [show decide (pr = 0) = true from decide_eq_true (by omega)] | rw [show decide (pr = 0) = false from decide_eq_false (by omega)] | skip); (first | rw [show decide (pr < 16) = true from decide_eq_true (by omega)] | rw [show decide (pr < 16) = false from decide_eq_false (by omega)] | skip); (first | rw [show decide (dv < pr) = true from decide_eq_true (by omega)] | rw [show decide (dv < pr) = false from decide_eq_false (by omega)] | skip); (first | rw [show decide (dv = pr) = true from decide_eq_true (by omega)] | rw [show decide (dv = pr) = false from decide_eq_false (by omega)] | skip); (first | rw [show decide (cl ≤ 16) = true from decide_eq_true (by omega)] | rw [show decide (cl ≤ 16) = false from decide_eq_false (by omega)] | skip); (first | rw [show decide (ix < 64) = true from decide_eq_true (by omega)] | rw [show decide (ix < 64) = false from decide_eq_false (by omega)] | skip); first | rfl | (simp only [Bool.true_and, Bool.and_true, Bool.false_and, Bool.and_false, Bool.true_or, Bool.false_or, Bool.or_false, Bool.or_true, Bool.not_true, Bool.not_false]; first | done | rfl | ((repeat (first | rw [show up = true by assumption] | rw [show up = false by assumption] | rw [show decide (ix = 0) = true from decide_eq_true (by omega)] | rw [show decide (ix = 0) = false from decide_eq_false (by omega)])); rfl))), rfl⟩
              · intro hg29; clear hl; intro hl
                try simp only [decide_eq_true_eq, decide_eq_false_iff_not, Bool.not_eq_true', Bool.not_eq_false', Bool.not_eq_true, Bool.not_eq_false, Bool.and_eq_true, Bool.or_eq_true, Bool.and_eq_false_iff, Bool.or_eq_false_iff, Bool.not_not, ne_eq, Int.not_lt, Int.not_le, Decidable.not_not, beq_iff_eq, bne_iff_ne] at hg29
                refine wl (wl_skip hl rfl ⟨_, _, rfl, rfl, rfl⟩ ?_)
                clear hl a; intro a hl
                refine wl (wl_skip hl rfl ⟨_, _, rfl, rfl, rfl⟩ ?_)
                clear hl a; intro a hl
                refine wl (wl_skip hl rfl ⟨_, _, rfl, rfl, rfl⟩ ?_)
                clear hl a; intro a hl
                refine wl (wl_val hl rfl trivial (r_pickF hl rfl rfl) ?_)
                clear hl a; intro a hl
                refine wl (wl_val hl rfl trivial (r_move hl rfl) ?_)
                clear hl a; intro a hl
                refine wl (wl_skip hl rfl ⟨_, _, rfl, rfl, rfl⟩ ?_)
                clear hl a; intro a hl
                refine wl (wl_skip hl rfl ⟨_, _, rfl, rfl, rfl⟩ ?_)
                clear hl a; intro a hl
                refine wl (wl_skip hl rfl ⟨_, _, rfl, rfl, rfl⟩ ?_)
                clear hl a; intro a hl
                refine wl (wl_skip hl rfl ⟨_, _, rfl, rfl, rfl⟩ ?_)
                clear hl a; intro a hl
                refine wl (wl_skip hl rfl ⟨_, _, rfl, rfl, rfl⟩ ?_)
                clear hl a; intro a hl
                refine wl (wl_val hl rfl trivial (r_pickF hl rfl rfl) ?_)
                clear hl a; intro a hl
                refine wl (wl_val hl rfl trivial (r_move hl rfl) ?_)
                clear hl a; intro a hl
                refine wl (wl_skip hl rfl ⟨_, _, rfl, rfl, rfl⟩ ?_)
                clear hl a; intro a hl
                refine wl (wl_val hl rfl trivial (r_pickF hl rfl rfl) ?_)
                clear hl a; intro a hl
                refine wl (wl_val hl rfl trivial (r_move hl rfl) ?_)
                clear hl a; intro a hl
                refine wl (wl_skip hl rfl ⟨_, _, rfl, rfl, rfl⟩ ?_)
                clear hl a; intro a hl
                refine wl (wl_val hl rfl trivial (r_pickF hl rfl rfl) ?_)
                clear hl a; intro a hl
                refine wl (wl_val hl rfl trivial (r_move hl rfl) ?_)
                clear hl a; intro a hl
                refine wl (wl_skip hl rfl ⟨_, _, rfl, rfl, rfl⟩ ?_)
                clear hl a; intro a hl
                refine wl (wl_skip hl rfl ⟨_, _, rfl, rfl, rfl⟩ ?_)
                clear hl a; intro a hl
                refine wl (wl_skip hl rfl ⟨_, _, rfl, rfl, rfl⟩ ?_)
                clear hl a; intro a hl
                refine wl (wl_val hl rfl trivial (r_pickF hl rfl rfl) ?_)
                clear hl a; intro a hl
                refine wl (wl_val hl rfl trivial (r_assign hl rfl) ?_)
                clear hl a; intro a hl
                refine w_nil ?_
                have hl2 := hl.add (t := 2) (hl.nil) rfl; clear hl; have hl := hl2; clear hl2
                refine then_normal ?_
                refine wp_ret ?_
                refine blk_ret ?_
                refine then_ret ?_
                refine f_ret1 (F' := []) hl hh rfl rfl (by repeat (first | exact keeps_nil | apply keeps_cons (by repeat (first | exact find_head | apply find_tail)) (by first  | rfl) | exact keeps_self | apply keeps_mv)) ?_
                first | (exfalso; omega) | exact ⟨congrArg Value.bool (by unfold wfF; simp only; (repeat (first | rw [if_pos (by omega)] | rw [if_neg (by omega)])); (try simp only [noPr, nxV]); (first | rw [show noRl ⟨kd, dv, pr, ix, up, ra, rl, via, pm, da, dl, cl⟩ = true by assumption] | rw [show noRl ⟨kd, dv, pr, ix, up, ra, rl, via, pm, da, dl, cl⟩ = false by assumption] | skip); (first | rw [show noRt ⟨kd, dv, pr, ix, up, ra, rl, via, pm, da, dl, cl⟩ = true by assumption] | rw [show noRt ⟨kd, dv, pr, ix, up, ra, rl, via, pm, da, dl, cl⟩ = false by assumption] | skip); (first | rw [show gpF ra rl = true by assumption] | rw [show gpF ra rl = false by assumption] | skip); (first | rw [show gpF da dl = true by assumption] | rw [show gpF da dl = false by assumption] | skip); (first | rw [show decide (dv < 16) = true from decide_eq_true (by omega)] | rw [show decide (dv < 16) = false from decide_eq_false (by omega)] | skip); (first | rw [show decide (via = 16) = true from decide_eq_true (by omega)] | rw [show decide (via = 16) = false from decide_eq_false (by omega)] | skip); (first | rw [show decide (via < 16) = true from decide_eq_true (by omega)] | rw [show decide (via < 16) = false from decide_eq_false (by omega)] | skip); (first | rw [show decide (via = dv) = true from decide_eq_true (by omega)] | rw [show decide (via = dv) = false from decide_eq_false (by omega)] | skip); (first | rw [show decide (via = 0) = true from decide_eq_true (by omega)] | rw [show decide (via = 0) = false from decide_eq_false (by omega)] | skip); (first | rw [show decide (pr = 0) = true from decide_eq_true (by omega)] | rw [show decide (pr = 0) = false from decide_eq_false (by omega)] | skip); (first | rw [show decide (pr < 16) = true from decide_eq_true (by omega)] | rw [show decide (pr < 16) = false from decide_eq_false (by omega)] | skip); (first | rw [show decide (dv < pr) = true from decide_eq_true (by omega)] | rw [show decide (dv < pr) = false from decide_eq_false (by omega)] | skip); (first | rw [show decide (dv = pr) = true from decide_eq_true (by omega)] | rw [show decide (dv = pr) = false from decide_eq_false (by omega)] | skip); (first | rw [show decide (cl ≤ 16) = true from decide_eq_true (by omega)] | rw [show decide (cl ≤ 16) = false from decide_eq_false (by omega)] | skip); (first | rw [show decide (ix < 64) = true from decide_eq_true (by omega)] | rw [show decide (ix < 64) = false from decide_eq_false (by omega)] | skip); first | rfl | (simp only [Bool.true_and, Bool.and_true, Bool.false_and, Bool.and_false, Bool.true_or, Bool.false_or, Bool.or_false, Bool.or_true, Bool.not_true, Bool.not_false]; first | done | rfl | ((repeat (first | rw [show up = true by assumption] | rw [show up = false by assumption] | rw [show decide (ix = 0) = true from decide_eq_true (by omega)] | rw [show decide (ix = 0) = false from decide_eq_false (by omega)])); rfl))), rfl⟩
            · intro hc4
              try simp only [decide_eq_true_eq, decide_eq_false_iff_not, Bool.not_eq_true', Bool.not_eq_false', Bool.not_eq_true, Bool.not_eq_false, Bool.and_eq_true, Bool.or_eq_true, Bool.and_eq_false_iff, Bool.or_eq_false_iff, Bool.not_not, ne_eq, Int.not_lt, Int.not_le, Decidable.not_not, beq_iff_eq, bne_iff_ne] at hc4
              refine c_seq ?_
              refine c_region ?_
              refine wl (wl_val hl rfl trivial (r_eql hl rfl rfl) ?_)
              clear hl a; intro a hl
              refine wl (wl_val hl rfl trivial (r_assign hl rfl) ?_)
              clear hl a; intro a hl
              refine w_nil ?_
              have hl2 := hl.add (t := 1) (hl.add (t := 4) (hl.add (t := 5) (hl.add (t := 171) (hl.nil) rfl) rfl) rfl) rfl; clear hl; have hl := hl2; clear hl2
              refine then_normal ?_
              refine c_cond hl rfl ?_ ?_
              · intro hc5
                try simp only [decide_eq_true_eq, decide_eq_false_iff_not, Bool.not_eq_true', Bool.not_eq_false', Bool.not_eq_true, Bool.not_eq_false, Bool.and_eq_true, Bool.or_eq_true, Bool.and_eq_false_iff, Bool.or_eq_false_iff, Bool.not_not, ne_eq, Int.not_lt, Int.not_le, Decidable.not_not, beq_iff_eq, bne_iff_ne] at hc5
                refine c_seq ?_
                refine c_region ?_
                refine wl (wl_val hl rfl trivial (r_field hl rfl fld57_1) ?_)
                clear hl a; intro a hl
                refine wl (w_load hl hh rfl trivial one5 rfl (by repeat (first | exact find_head | apply find_tail)) (by first | rfl) ?_)
                clear hl a; intro a hl
                refine wl (w_call hl hh rfl trivial rfl cal64 rfl (isDeviceM _) (by repeat (first | exact keeps_nil | apply keeps_cons (by repeat (first | exact find_head | apply find_tail)) (by first  | rfl) | exact keeps_self | apply keeps_mv)) trivial ?_)
                clear hl hh a w; intro vc Fc a w hR hl hh
                obtain ⟨rfl, rfl⟩ := hR
                try simp only [List.cons_append, List.nil_append] at hh
                refine wl (wl_val hl rfl trivial (r_move hl rfl) ?_)
                clear hl a; intro a hl
                refine sl_split (t := 176) hl rfl ?_ ?_
                · intro hg34; clear hl; intro hl
                  try simp only [decide_eq_true_eq, decide_eq_false_iff_not, Bool.not_eq_true', Bool.not_eq_false', Bool.not_eq_true, Bool.not_eq_false, Bool.and_eq_true, Bool.or_eq_true, Bool.and_eq_false_iff, Bool.or_eq_false_iff, Bool.not_not, ne_eq, Int.not_lt, Int.not_le, Decidable.not_not, beq_iff_eq, bne_iff_ne] at hg34
                  refine wl (wl_val hl rfl ⟨_, _, rfl, rfl, rfl⟩ (r_field hl rfl fld57_2) ?_)
                  clear hl a; intro a hl
                  refine wl (w_load hl hh rfl ⟨_, _, rfl, rfl, rfl⟩ one5 rfl (by repeat (first | exact find_head | apply find_tail)) (by first | rfl) ?_)
                  clear hl a; intro a hl
                  refine wl (w_call hl hh rfl ⟨_, _, rfl, rfl, rfl⟩ rfl cal64 rfl (isDeviceM _) (by repeat (first | exact keeps_nil | apply keeps_cons (by repeat (first | exact find_head | apply find_tail)) (by first  | rfl) | exact keeps_self | apply keeps_mv)) trivial ?_)
                  clear hl hh a w; intro vc Fc a w hR hl hh
                  obtain ⟨rfl, rfl⟩ := hR
                  try simp only [List.cons_append, List.nil_append] at hh
                  refine wl (wl_val hl rfl trivial (r_pickT hl rfl rfl) ?_)
                  clear hl a; intro a hl
                  refine wl (wl_val hl rfl trivial (r_move hl rfl) ?_)
                  clear hl a; intro a hl
                  refine sl_split (t := 181) hl rfl ?_ ?_
                  · intro hg35; clear hl; intro hl
                    try simp only [decide_eq_true_eq, decide_eq_false_iff_not, Bool.not_eq_true', Bool.not_eq_false', Bool.not_eq_true, Bool.not_eq_false, Bool.and_eq_true, Bool.or_eq_true, Bool.and_eq_false_iff, Bool.or_eq_false_iff, Bool.not_not, ne_eq, Int.not_lt, Int.not_le, Decidable.not_not, beq_iff_eq, bne_iff_ne] at hg35
                    refine wl (wl_val hl rfl ⟨_, _, rfl, rfl, rfl⟩ (r_field hl rfl fld57_1) ?_)
                    clear hl a; intro a hl
                    refine wl (w_load hl hh rfl ⟨_, _, rfl, rfl, rfl⟩ one5 rfl (by repeat (first | exact find_head | apply find_tail)) (by first | rfl) ?_)
                    clear hl a; intro a hl
                    refine wl (wl_val hl rfl ⟨_, _, rfl, rfl, rfl⟩ (r_field hl rfl fld57_2) ?_)
                    clear hl a; intro a hl
                    refine wl (w_load hl hh rfl ⟨_, _, rfl, rfl, rfl⟩ one5 rfl (by repeat (first | exact find_head | apply find_tail)) (by first | rfl) ?_)
                    clear hl a; intro a hl
                    refine wl (wl_val hl rfl ⟨_, _, rfl, rfl, rfl⟩ (r_neq hl rfl rfl) ?_)
                    clear hl a; intro a hl
                    refine wl (wl_val hl rfl trivial (r_pickT hl rfl rfl) ?_)
                    clear hl a; intro a hl
                    refine wl (wl_val hl rfl trivial (r_move hl rfl) ?_)
                    clear hl a; intro a hl
                    refine sl_split (t := 188) hl rfl ?_ ?_
                    · intro hg36; clear hl; intro hl
                      try simp only [decide_eq_true_eq, decide_eq_false_iff_not, Bool.not_eq_true', Bool.not_eq_false', Bool.not_eq_true, Bool.not_eq_false, Bool.and_eq_true, Bool.or_eq_true, Bool.and_eq_false_iff, Bool.or_eq_false_iff, Bool.not_not, ne_eq, Int.not_lt, Int.not_le, Decidable.not_not, beq_iff_eq, bne_iff_ne] at hg36
                      refine wl (wl_val hl rfl ⟨_, _, rfl, rfl, rfl⟩ (r_move hl rfl) ?_)
                      clear hl a; intro a hl
                      refine wl (wl_val hl rfl trivial (r_pickT hl rfl rfl) ?_)
                      clear hl a; intro a hl
                      refine wl (wl_val hl rfl trivial (r_move hl rfl) ?_)
                      clear hl a; intro a hl
                      refine sl_split (t := 191) hl rfl ?_ ?_
                      · intro hg37; clear hl; intro hl
                        try simp only [decide_eq_true_eq, decide_eq_false_iff_not, Bool.not_eq_true', Bool.not_eq_false', Bool.not_eq_true, Bool.not_eq_false, Bool.and_eq_true, Bool.or_eq_true, Bool.and_eq_false_iff, Bool.or_eq_false_iff, Bool.not_not, ne_eq, Int.not_lt, Int.not_le, Decidable.not_not, beq_iff_eq, bne_iff_ne] at hg37
                        refine wl (wl_val hl rfl ⟨_, _, rfl, rfl, rfl⟩ (r_move hl rfl) ?_)
                        clear hl a; intro a hl
                        refine wl (wl_val hl rfl trivial (r_pickT hl rfl rfl) ?_)
                        clear hl a; intro a hl
                        refine wl (wl_val hl rfl trivial (r_move hl rfl) ?_)
                        clear hl a; intro a hl
                        refine sl_split (t := 194) hl rfl ?_ ?_
                        · intro hg38; clear hl; intro hl
                          try simp only [decide_eq_true_eq, decide_eq_false_iff_not, Bool.not_eq_true', Bool.not_eq_false', Bool.not_eq_true, Bool.not_eq_false, Bool.and_eq_true, Bool.or_eq_true, Bool.and_eq_false_iff, Bool.or_eq_false_iff, Bool.not_not, ne_eq, Int.not_lt, Int.not_le, Decidable.not_not, beq_iff_eq, bne_iff_ne] at hg38
                          refine wl (wl_val hl rfl ⟨_, _, rfl, rfl, rfl⟩ (r_field hl rfl fld57_3) ?_)
                          clear hl a; intro a hl
                          refine wl (w_load hl hh rfl ⟨_, _, rfl, rfl, rfl⟩ one5 rfl (by repeat (first | exact find_head | apply find_tail)) (by first | rfl) ?_)
                          clear hl a; intro a hl
                          refine wl (wl_val hl rfl ⟨_, _, rfl, rfl, rfl⟩ (r_eql hl rfl rfl) ?_)
                          clear hl a; intro a hl
                          refine wl (wl_val hl rfl trivial (r_pickT hl rfl rfl) ?_)
                          clear hl a; intro a hl
                          refine wl (wl_val hl rfl trivial (r_assign hl rfl) ?_)
                          clear hl a; intro a hl
                          refine w_nil ?_
                          have hl2 := hl.add (t := 2) (hl.nil) rfl; clear hl; have hl := hl2; clear hl2
                          refine then_normal ?_
                          refine wp_ret ?_
                          refine blk_ret ?_
                          refine then_ret ?_
                          refine f_ret1 (F' := []) hl hh rfl rfl (by repeat (first | exact keeps_nil | apply keeps_cons (by repeat (first | exact find_head | apply find_tail)) (by first  | rfl) | exact keeps_self | apply keeps_mv)) ?_
                          first | (exfalso; omega) | exact ⟨congrArg Value.bool (by unfold wfF; simp only; (repeat (first | rw [if_pos (by omega)] | rw [if_neg (by omega)])); (try simp only [noPr, nxV]); (first | rw [show noRl ⟨kd, dv, pr, ix, up, ra, rl, via, pm, da, dl, cl⟩ = true by assumption] | rw [show noRl ⟨kd, dv, pr, ix, up, ra, rl, via, pm, da, dl, cl⟩ = false by assumption] | skip); (first | rw [show noRt ⟨kd, dv, pr, ix, up, ra, rl, via, pm, da, dl, cl⟩ = true by assumption] | rw [show noRt ⟨kd, dv, pr, ix, up, ra, rl, via, pm, da, dl, cl⟩ = false by assumption] | skip); (first | rw [show gpF ra rl = true by assumption] | rw [show gpF ra rl = false by assumption] | skip); (first | rw [show gpF da dl = true by assumption] | rw [show gpF da dl = false by assumption] | skip); (first | rw [show decide (dv < 16) = true from decide_eq_true (by omega)] | rw [show decide (dv < 16) = false from decide_eq_false (by omega)] | skip); (first | rw [show decide (via = 16) = true from decide_eq_true (by omega)] | rw [show decide (via = 16) = false from decide_eq_false (by omega)] | skip); (first | rw [show decide (via < 16) = true from decide_eq_true (by omega)] | rw [show decide (via < 16) = false from decide_eq_false (by omega)] | skip); (first | rw [show decide (via = dv) = true from decide_eq_true (by omega)] | rw [show decide (via = dv) = false from decide_eq_false (by omega)] | skip); (first | rw [show decide (via = 0) = true from decide_eq_true (by omega)] | rw [show decide (via = 0) = false from decide_eq_false (by omega)] | skip); (first | rw [show decide (pr = 0) = true from decide_eq_true (by omega)] | rw [show decide (pr = 0) = false from decide_eq_false (by omega)] | skip); (first | rw [show decide (pr < 16) = true from decide_eq_true (by omega)] | rw [show decide (pr < 16) = false from decide_eq_false (by omega)] | skip); (first | rw [show decide (dv < pr) = true from decide_eq_true (by omega)] | rw [show decide (dv < pr) = false from decide_eq_false (by omega)] | skip); (first | rw [show decide (dv = pr) = true from decide_eq_true (by omega)] | rw [show decide (dv = pr) = false from decide_eq_false (by omega)] | skip); (first | rw [show decide (cl ≤ 16) = true from decide_eq_true (by omega)] | rw [show decide (cl ≤ 16) = false from decide_eq_false (by omega)] | skip); (first | rw [show decide (ix < 64) = true from decide_eq_true (by omega)] | rw [show decide (ix < 64) = false from decide_eq_false (by omega)] | skip); first | rfl | (simp only [Bool.true_and, Bool.and_true, Bool.false_and, Bool.and_false, Bool.true_or, Bool.false_or, Bool.or_false, Bool.or_true, Bool.not_true, Bool.not_false]; first | done | rfl | ((repeat (first | rw [show up = true by assumption] | rw [show up = false by assumption] | rw [show decide (ix = 0) = true from decide_eq_true (by omega)] | rw [show decide (ix = 0) = false from decide_eq_false (by omega)])); rfl))), rfl⟩
                        · intro hg38; clear hl; intro hl
                          try simp only [decide_eq_true_eq, decide_eq_false_iff_not, Bool.not_eq_true', Bool.not_eq_false', Bool.not_eq_true, Bool.not_eq_false, Bool.and_eq_true, Bool.or_eq_true, Bool.and_eq_false_iff, Bool.or_eq_false_iff, Bool.not_not, ne_eq, Int.not_lt, Int.not_le, Decidable.not_not, beq_iff_eq, bne_iff_ne] at hg38
                          refine wl (wl_skip hl rfl ⟨_, _, rfl, rfl, rfl⟩ ?_)
                          clear hl a; intro a hl
                          refine wl (wl_skip hl rfl ⟨_, _, rfl, rfl, rfl⟩ ?_)
                          clear hl a; intro a hl
                          refine wl (wl_skip hl rfl ⟨_, _, rfl, rfl, rfl⟩ ?_)
                          clear hl a; intro a hl
                          refine wl (wl_val hl rfl trivial (r_pickF hl rfl rfl) ?_)
                          clear hl a; intro a hl
                          refine wl (wl_val hl rfl trivial (r_assign hl rfl) ?_)
                          clear hl a; intro a hl
                          refine w_nil ?_
                          have hl2 := hl.add (t := 2) (hl.nil) rfl; clear hl; have hl := hl2; clear hl2
                          refine then_normal ?_
                          refine wp_ret ?_
                          refine blk_ret ?_
                          refine then_ret ?_
                          refine f_ret1 (F' := []) hl hh rfl rfl (by repeat (first | exact keeps_nil | apply keeps_cons (by repeat (first | exact find_head | apply find_tail)) (by first  | rfl) | exact keeps_self | apply keeps_mv)) ?_
                          first | (exfalso; omega) | exact ⟨congrArg Value.bool (by unfold wfF; simp only; (repeat (first | rw [if_pos (by omega)] | rw [if_neg (by omega)])); (try simp only [noPr, nxV]); (first | rw [show noRl ⟨kd, dv, pr, ix, up, ra, rl, via, pm, da, dl, cl⟩ = true by assumption] | rw [show noRl ⟨kd, dv, pr, ix, up, ra, rl, via, pm, da, dl, cl⟩ = false by assumption] | skip); (first | rw [show noRt ⟨kd, dv, pr, ix, up, ra, rl, via, pm, da, dl, cl⟩ = true by assumption] | rw [show noRt ⟨kd, dv, pr, ix, up, ra, rl, via, pm, da, dl, cl⟩ = false by assumption] | skip); (first | rw [show gpF ra rl = true by assumption] | rw [show gpF ra rl = false by assumption] | skip); (first | rw [show gpF da dl = true by assumption] | rw [show gpF da dl = false by assumption] | skip); (first | rw [show decide (dv < 16) = true from decide_eq_true (by omega)] | rw [show decide (dv < 16) = false from decide_eq_false (by omega)] | skip); (first | rw [show decide (via = 16) = true from decide_eq_true (by omega)] | rw [show decide (via = 16) = false from decide_eq_false (by omega)] | skip); (first | rw [show decide (via < 16) = true from decide_eq_true (by omega)] | rw [show decide (via < 16) = false from decide_eq_false (by omega)] | skip); (first | rw [show decide (via = dv) = true from decide_eq_true (by omega)] | rw [show decide (via = dv) = false from decide_eq_false (by omega)] | skip); (first | rw [show decide (via = 0) = true from decide_eq_true (by omega)] | rw [show decide (via = 0) = false from decide_eq_false (by omega)] | skip); (first | rw [show decide (pr = 0) = true from decide_eq_true (by omega)] | rw [show decide (pr = 0) = false from decide_eq_false (by omega)] | skip); (first | rw [show decide (pr < 16) = true from decide_eq_true (by omega)] | rw [show decide (pr < 16) = false from decide_eq_false (by omega)] | skip); (first | rw [show decide (dv < pr) = true from decide_eq_true (by omega)] | rw [show decide (dv < pr) = false from decide_eq_false (by omega)] | skip); (first | rw [show decide (dv = pr) = true from decide_eq_true (by omega)] | rw [show decide (dv = pr) = false from decide_eq_false (by omega)] | skip); (first | rw [show decide (cl ≤ 16) = true from decide_eq_true (by omega)] | rw [show decide (cl ≤ 16) = false from decide_eq_false (by omega)] | skip); (first | rw [show decide (ix < 64) = true from decide_eq_true (by omega)] | rw [show decide (ix < 64) = false from decide_eq_false (by omega)] | skip); first | rfl | (simp only [Bool.true_and, Bool.and_true, Bool.false_and, Bool.and_false, Bool.true_or, Bool.false_or, Bool.or_false, Bool.or_true, Bool.not_true, Bool.not_false]; first | done | rfl | ((repeat (first | rw [show up = true by assumption] | rw [show up = false by assumption] | rw [show decide (ix = 0) = true from decide_eq_true (by omega)] | rw [show decide (ix = 0) = false from decide_eq_false (by omega)])); rfl))), rfl⟩
                      · intro hg37; clear hl; intro hl
                        try simp only [decide_eq_true_eq, decide_eq_false_iff_not, Bool.not_eq_true', Bool.not_eq_false', Bool.not_eq_true, Bool.not_eq_false, Bool.and_eq_true, Bool.or_eq_true, Bool.and_eq_false_iff, Bool.or_eq_false_iff, Bool.not_not, ne_eq, Int.not_lt, Int.not_le, Decidable.not_not, beq_iff_eq, bne_iff_ne] at hg37
                        refine wl (wl_skip hl rfl ⟨_, _, rfl, rfl, rfl⟩ ?_)
                        clear hl a; intro a hl
                        refine wl (wl_val hl rfl trivial (r_pickF hl rfl rfl) ?_)
                        clear hl a; intro a hl
                        refine wl (wl_val hl rfl trivial (r_move hl rfl) ?_)
                        clear hl a; intro a hl
                        refine wl (wl_skip hl rfl ⟨_, _, rfl, rfl, rfl⟩ ?_)
                        clear hl a; intro a hl
                        refine wl (wl_skip hl rfl ⟨_, _, rfl, rfl, rfl⟩ ?_)
                        clear hl a; intro a hl
                        refine wl (wl_skip hl rfl ⟨_, _, rfl, rfl, rfl⟩ ?_)
                        clear hl a; intro a hl
                        refine wl (wl_val hl rfl trivial (r_pickF hl rfl rfl) ?_)
                        clear hl a; intro a hl
                        refine wl (wl_val hl rfl trivial (r_assign hl rfl) ?_)
                        clear hl a; intro a hl
                        refine w_nil ?_
                        have hl2 := hl.add (t := 2) (hl.nil) rfl; clear hl; have hl := hl2; clear hl2
                        refine then_normal ?_
                        refine wp_ret ?_
                        refine blk_ret ?_
                        refine then_ret ?_
                        refine f_ret1 (F' := []) hl hh rfl rfl (by repeat (first | exact keeps_nil | apply keeps_cons (by repeat (first | exact find_head | apply find_tail)) (by first  | rfl) | exact keeps_self | apply keeps_mv)) ?_
                        first | (exfalso; omega) | exact ⟨congrArg Value.bool (by unfold wfF; simp only; (repeat (first | rw [if_pos (by omega)] | rw [if_neg (by omega)])); (try simp only [noPr, nxV]); (first | rw [show noRl ⟨kd, dv, pr, ix, up, ra, rl, via, pm, da, dl, cl⟩ = true by assumption] | rw [show noRl ⟨kd, dv, pr, ix, up, ra, rl, via, pm, da, dl, cl⟩ = false by assumption] | skip); (first | rw [show noRt ⟨kd, dv, pr, ix, up, ra, rl, via, pm, da, dl, cl⟩ = true by assumption] | rw [show noRt ⟨kd, dv, pr, ix, up, ra, rl, via, pm, da, dl, cl⟩ = false by assumption] | skip); (first | rw [show gpF ra rl = true by assumption] | rw [show gpF ra rl = false by assumption] | skip); (first | rw [show gpF da dl = true by assumption] | rw [show gpF da dl = false by assumption] | skip); (first | rw [show decide (dv < 16) = true from decide_eq_true (by omega)] | rw [show decide (dv < 16) = false from decide_eq_false (by omega)] | skip); (first | rw [show decide (via = 16) = true from decide_eq_true (by omega)] | rw [show decide (via = 16) = false from decide_eq_false (by omega)] | skip); (first | rw [show decide (via < 16) = true from decide_eq_true (by omega)] | rw [show decide (via < 16) = false from decide_eq_false (by omega)] | skip); (first | rw [show decide (via = dv) = true from decide_eq_true (by omega)] | rw [show decide (via = dv) = false from decide_eq_false (by omega)] | skip); (first | rw [show decide (via = 0) = true from decide_eq_true (by omega)] | rw [show decide (via = 0) = false from decide_eq_false (by omega)] | skip); (first | rw [show decide (pr = 0) = true from decide_eq_true (by omega)] | rw [show decide (pr = 0) = false from decide_eq_false (by omega)] | skip); (first | rw [show decide (pr < 16) = true from decide_eq_true (by omega)] | rw [show decide (pr < 16) = false from decide_eq_false (by omega)] | skip); (first | rw [show decide (dv < pr) = true from decide_eq_true (by omega)] | rw [show decide (dv < pr) = false from decide_eq_false (by omega)] | skip); (first | rw [show decide (dv = pr) = true from decide_eq_true (by omega)] | rw [show decide (dv = pr) = false from decide_eq_false (by omega)] | skip); (first | rw [show decide (cl ≤ 16) = true from decide_eq_true (by omega)] | rw [show decide (cl ≤ 16) = false from decide_eq_false (by omega)] | skip); (first | rw [show decide (ix < 64) = true from decide_eq_true (by omega)] | rw [show decide (ix < 64) = false from decide_eq_false (by omega)] | skip); first | rfl | (simp only [Bool.true_and, Bool.and_true, Bool.false_and, Bool.and_false, Bool.true_or, Bool.false_or, Bool.or_false, Bool.or_true, Bool.not_true, Bool.not_false]; first | done | rfl | ((repeat (first | rw [show up = true by assumption] | rw [show up = false by assumption] | rw [show decide (ix = 0) = true from decide_eq_true (by omega)] | rw [show decide (ix = 0) = false from decide_eq_false (by omega)])); rfl))), rfl⟩
                    · intro hg36; clear hl; intro hl
                      try simp only [decide_eq_true_eq, decide_eq_false_iff_not, Bool.not_eq_true', Bool.not_eq_false', Bool.not_eq_true, Bool.not_eq_false, Bool.and_eq_true, Bool.or_eq_true, Bool.and_eq_false_iff, Bool.or_eq_false_iff, Bool.not_not, ne_eq, Int.not_lt, Int.not_le, Decidable.not_not, beq_iff_eq, bne_iff_ne] at hg36
                      refine wl (wl_skip hl rfl ⟨_, _, rfl, rfl, rfl⟩ ?_)
                      clear hl a; intro a hl
                      refine wl (wl_val hl rfl trivial (r_pickF hl rfl rfl) ?_)
                      clear hl a; intro a hl
                      refine wl (wl_val hl rfl trivial (r_move hl rfl) ?_)
                      clear hl a; intro a hl
                      refine wl (wl_skip hl rfl ⟨_, _, rfl, rfl, rfl⟩ ?_)
                      clear hl a; intro a hl
                      refine wl (wl_val hl rfl trivial (r_pickF hl rfl rfl) ?_)
                      clear hl a; intro a hl
                      refine wl (wl_val hl rfl trivial (r_move hl rfl) ?_)
                      clear hl a; intro a hl
                      refine wl (wl_skip hl rfl ⟨_, _, rfl, rfl, rfl⟩ ?_)
                      clear hl a; intro a hl
                      refine wl (wl_skip hl rfl ⟨_, _, rfl, rfl, rfl⟩ ?_)
                      clear hl a; intro a hl
                      refine wl (wl_skip hl rfl ⟨_, _, rfl, rfl, rfl⟩ ?_)
                      clear hl a; intro a hl
                      refine wl (wl_val hl rfl trivial (r_pickF hl rfl rfl) ?_)
                      clear hl a; intro a hl
                      refine wl (wl_val hl rfl trivial (r_assign hl rfl) ?_)
                      clear hl a; intro a hl
                      refine w_nil ?_
                      have hl2 := hl.add (t := 2) (hl.nil) rfl; clear hl; have hl := hl2; clear hl2
                      refine then_normal ?_
                      refine wp_ret ?_
                      refine blk_ret ?_
                      refine then_ret ?_
                      refine f_ret1 (F' := []) hl hh rfl rfl (by repeat (first | exact keeps_nil | apply keeps_cons (by repeat (first | exact find_head | apply find_tail)) (by first  | rfl) | exact keeps_self | apply keeps_mv)) ?_
                      first | (exfalso; omega) | exact ⟨congrArg Value.bool (by unfold wfF; simp only; (repeat (first | rw [if_pos (by omega)] | rw [if_neg (by omega)])); (try simp only [noPr, nxV]); (first | rw [show noRl ⟨kd, dv, pr, ix, up, ra, rl, via, pm, da, dl, cl⟩ = true by assumption] | rw [show noRl ⟨kd, dv, pr, ix, up, ra, rl, via, pm, da, dl, cl⟩ = false by assumption] | skip); (first | rw [show noRt ⟨kd, dv, pr, ix, up, ra, rl, via, pm, da, dl, cl⟩ = true by assumption] | rw [show noRt ⟨kd, dv, pr, ix, up, ra, rl, via, pm, da, dl, cl⟩ = false by assumption] | skip); (first | rw [show gpF ra rl = true by assumption] | rw [show gpF ra rl = false by assumption] | skip); (first | rw [show gpF da dl = true by assumption] | rw [show gpF da dl = false by assumption] | skip); (first | rw [show decide (dv < 16) = true from decide_eq_true (by omega)] | rw [show decide (dv < 16) = false from decide_eq_false (by omega)] | skip); (first | rw [show decide (via = 16) = true from decide_eq_true (by omega)] | rw [show decide (via = 16) = false from decide_eq_false (by omega)] | skip); (first | rw [show decide (via < 16) = true from decide_eq_true (by omega)] | rw [show decide (via < 16) = false from decide_eq_false (by omega)] | skip); (first | rw [show decide (via = dv) = true from decide_eq_true (by omega)] | rw [show decide (via = dv) = false from decide_eq_false (by omega)] | skip); (first | rw [show decide (via = 0) = true from decide_eq_true (by omega)] | rw [show decide (via = 0) = false from decide_eq_false (by omega)] | skip); (first | rw [show decide (pr = 0) = true from decide_eq_true (by omega)] | rw [show decide (pr = 0) = false from decide_eq_false (by omega)] | skip); (first | rw [show decide (pr < 16) = true from decide_eq_true (by omega)] | rw [show decide (pr < 16) = false from decide_eq_false (by omega)] | skip); (first | rw [show decide (dv < pr) = true from decide_eq_true (by omega)] | rw [show decide (dv < pr) = false from decide_eq_false (by omega)] | skip); (first | rw [show decide (dv = pr) = true from decide_eq_true (by omega)] | rw [show decide (dv = pr) = false from decide_eq_false (by omega)] | skip); (first | rw [show decide (cl ≤ 16) = true from decide_eq_true (by omega)] | rw [show decide (cl ≤ 16) = false from decide_eq_false (by omega)] | skip); (first | rw [show decide (ix < 64) = true from decide_eq_true (by omega)] | rw [show decide (ix < 64) = false from decide_eq_false (by omega)] | skip); first | rfl | (simp only [Bool.true_and, Bool.and_true, Bool.false_and, Bool.and_false, Bool.true_or, Bool.false_or, Bool.or_false, Bool.or_true, Bool.not_true, Bool.not_false]; first | done | rfl | ((repeat (first | rw [show up = true by assumption] | rw [show up = false by assumption] | rw [show decide (ix = 0) = true from decide_eq_true (by omega)] | rw [show decide (ix = 0) = false from decide_eq_false (by omega)])); rfl))), rfl⟩
                  · intro hg35; clear hl; intro hl
                    try simp only [decide_eq_true_eq, decide_eq_false_iff_not, Bool.not_eq_true', Bool.not_eq_false', Bool.not_eq_true, Bool.not_eq_false, Bool.and_eq_true, Bool.or_eq_true, Bool.and_eq_false_iff, Bool.or_eq_false_iff, Bool.not_not, ne_eq, Int.not_lt, Int.not_le, Decidable.not_not, beq_iff_eq, bne_iff_ne] at hg35
                    refine wl (wl_skip hl rfl ⟨_, _, rfl, rfl, rfl⟩ ?_)
                    clear hl a; intro a hl
                    refine wl (wl_skip hl rfl ⟨_, _, rfl, rfl, rfl⟩ ?_)
                    clear hl a; intro a hl
                    refine wl (wl_skip hl rfl ⟨_, _, rfl, rfl, rfl⟩ ?_)
                    clear hl a; intro a hl
                    refine wl (wl_skip hl rfl ⟨_, _, rfl, rfl, rfl⟩ ?_)
                    clear hl a; intro a hl
                    refine wl (wl_skip hl rfl ⟨_, _, rfl, rfl, rfl⟩ ?_)
                    clear hl a; intro a hl
                    refine wl (wl_val hl rfl trivial (r_pickF hl rfl rfl) ?_)
                    clear hl a; intro a hl
                    refine wl (wl_val hl rfl trivial (r_move hl rfl) ?_)
                    clear hl a; intro a hl
                    refine wl (wl_skip hl rfl ⟨_, _, rfl, rfl, rfl⟩ ?_)
                    clear hl a; intro a hl
                    refine wl (wl_val hl rfl trivial (r_pickF hl rfl rfl) ?_)
                    clear hl a; intro a hl
                    refine wl (wl_val hl rfl trivial (r_move hl rfl) ?_)
                    clear hl a; intro a hl
                    refine wl (wl_skip hl rfl ⟨_, _, rfl, rfl, rfl⟩ ?_)
                    clear hl a; intro a hl
                    refine wl (wl_val hl rfl trivial (r_pickF hl rfl rfl) ?_)
                    clear hl a; intro a hl
                    refine wl (wl_val hl rfl trivial (r_move hl rfl) ?_)
                    clear hl a; intro a hl
                    refine wl (wl_skip hl rfl ⟨_, _, rfl, rfl, rfl⟩ ?_)
                    clear hl a; intro a hl
                    refine wl (wl_skip hl rfl ⟨_, _, rfl, rfl, rfl⟩ ?_)
                    clear hl a; intro a hl
                    refine wl (wl_skip hl rfl ⟨_, _, rfl, rfl, rfl⟩ ?_)
                    clear hl a; intro a hl
                    refine wl (wl_val hl rfl trivial (r_pickF hl rfl rfl) ?_)
                    clear hl a; intro a hl
                    refine wl (wl_val hl rfl trivial (r_assign hl rfl) ?_)
                    clear hl a; intro a hl
                    refine w_nil ?_
                    have hl2 := hl.add (t := 2) (hl.nil) rfl; clear hl; have hl := hl2; clear hl2
                    refine then_normal ?_
                    refine wp_ret ?_
                    refine blk_ret ?_
                    refine then_ret ?_
                    refine f_ret1 (F' := []) hl hh rfl rfl (by repeat (first | exact keeps_nil | apply keeps_cons (by repeat (first | exact find_head | apply find_tail)) (by first  | rfl) | exact keeps_self | apply keeps_mv)) ?_
                    first | (exfalso; omega) | exact ⟨congrArg Value.bool (by unfold wfF; simp only; (repeat (first | rw [if_pos (by omega)] | rw [if_neg (by omega)])); (try simp only [noPr, nxV]); (first | rw [show noRl ⟨kd, dv, pr, ix, up, ra, rl, via, pm, da, dl, cl⟩ = true by assumption] | rw [show noRl ⟨kd, dv, pr, ix, up, ra, rl, via, pm, da, dl, cl⟩ = false by assumption] | skip); (first | rw [show noRt ⟨kd, dv, pr, ix, up, ra, rl, via, pm, da, dl, cl⟩ = true by assumption] | rw [show noRt ⟨kd, dv, pr, ix, up, ra, rl, via, pm, da, dl, cl⟩ = false by assumption] | skip); (first | rw [show gpF ra rl = true by assumption] | rw [show gpF ra rl = false by assumption] | skip); (first | rw [show gpF da dl = true by assumption] | rw [show gpF da dl = false by assumption] | skip); (first | rw [show decide (dv < 16) = true from decide_eq_true (by omega)] | rw [show decide (dv < 16) = false from decide_eq_false (by omega)] | skip); (first | rw [show decide (via = 16) = true from decide_eq_true (by omega)] | rw [show decide (via = 16) = false from decide_eq_false (by omega)] | skip); (first | rw [show decide (via < 16) = true from decide_eq_true (by omega)] | rw [show decide (via < 16) = false from decide_eq_false (by omega)] | skip); (first | rw [show decide (via = dv) = true from decide_eq_true (by omega)] | rw [show decide (via = dv) = false from decide_eq_false (by omega)] | skip); (first | rw [show decide (via = 0) = true from decide_eq_true (by omega)] | rw [show decide (via = 0) = false from decide_eq_false (by omega)] | skip); (first | rw [show decide (pr = 0) = true from decide_eq_true (by omega)] | rw [show decide (pr = 0) = false from decide_eq_false (by omega)] | skip); (first | rw [show decide (pr < 16) = true from decide_eq_true (by omega)] | rw [show decide (pr < 16) = false from decide_eq_false (by omega)] | skip); (first | rw [show decide (dv < pr) = true from decide_eq_true (by omega)] | rw [show decide (dv < pr) = false from decide_eq_false (by omega)] | skip); (first | rw [show decide (dv = pr) = true from decide_eq_true (by omega)] | rw [show decide (dv = pr) = false from decide_eq_false (by omega)] | skip); (first | rw [show decide (cl ≤ 16) = true from decide_eq_true (by omega)] | rw [show decide (cl ≤ 16) = false from decide_eq_false (by omega)] | skip); (first | rw [show decide (ix < 64) = true from decide_eq_true (by omega)] | rw [show decide (ix < 64) = false from decide_eq_false (by omega)] | skip); first | rfl | (simp only [Bool.true_and, Bool.and_true, Bool.false_and, Bool.and_false, Bool.true_or, Bool.false_or, Bool.or_false, Bool.or_true, Bool.not_true, Bool.not_false]; first | done | rfl | ((repeat (first | rw [show up = true by assumption] | rw [show up = false by assumption] | rw [show decide (ix = 0) = true from decide_eq_true (by omega)] | rw [show decide (ix = 0) = false from decide_eq_false (by omega)])); rfl))), rfl⟩
                · intro hg34; clear hl; intro hl
                  try simp only [decide_eq_true_eq, decide_eq_false_iff_not, Bool.not_eq_true', Bool.not_eq_false', Bool.not_eq_true, Bool.not_eq_false, Bool.and_eq_true, Bool.or_eq_true, Bool.and_eq_false_iff, Bool.or_eq_false_iff, Bool.not_not, ne_eq, Int.not_lt, Int.not_le, Decidable.not_not, beq_iff_eq, bne_iff_ne] at hg34
                  refine wl (wl_skip hl rfl ⟨_, _, rfl, rfl, rfl⟩ ?_)
                  clear hl a; intro a hl
                  refine wl (wl_skip hl rfl ⟨_, _, rfl, rfl, rfl⟩ ?_)
                  clear hl a; intro a hl
                  refine wl (wl_skip hl rfl ⟨_, _, rfl, rfl, rfl⟩ ?_)
                  clear hl a; intro a hl
                  refine wl (wl_val hl rfl trivial (r_pickF hl rfl rfl) ?_)
                  clear hl a; intro a hl
                  refine wl (wl_val hl rfl trivial (r_move hl rfl) ?_)
                  clear hl a; intro a hl
                  refine wl (wl_skip hl rfl ⟨_, _, rfl, rfl, rfl⟩ ?_)
                  clear hl a; intro a hl
                  refine wl (wl_skip hl rfl ⟨_, _, rfl, rfl, rfl⟩ ?_)
                  clear hl a; intro a hl
                  refine wl (wl_skip hl rfl ⟨_, _, rfl, rfl, rfl⟩ ?_)
                  clear hl a; intro a hl
                  refine wl (wl_skip hl rfl ⟨_, _, rfl, rfl, rfl⟩ ?_)
                  clear hl a; intro a hl
                  refine wl (wl_skip hl rfl ⟨_, _, rfl, rfl, rfl⟩ ?_)
                  clear hl a; intro a hl
                  refine wl (wl_val hl rfl trivial (r_pickF hl rfl rfl) ?_)
                  clear hl a; intro a hl
                  refine wl (wl_val hl rfl trivial (r_move hl rfl) ?_)
                  clear hl a; intro a hl
                  refine wl (wl_skip hl rfl ⟨_, _, rfl, rfl, rfl⟩ ?_)
                  clear hl a; intro a hl
                  refine wl (wl_val hl rfl trivial (r_pickF hl rfl rfl) ?_)
                  clear hl a; intro a hl
                  refine wl (wl_val hl rfl trivial (r_move hl rfl) ?_)
                  clear hl a; intro a hl
                  refine wl (wl_skip hl rfl ⟨_, _, rfl, rfl, rfl⟩ ?_)
                  clear hl a; intro a hl
                  refine wl (wl_val hl rfl trivial (r_pickF hl rfl rfl) ?_)
                  clear hl a; intro a hl
                  refine wl (wl_val hl rfl trivial (r_move hl rfl) ?_)
                  clear hl a; intro a hl
                  refine wl (wl_skip hl rfl ⟨_, _, rfl, rfl, rfl⟩ ?_)
                  clear hl a; intro a hl
                  refine wl (wl_skip hl rfl ⟨_, _, rfl, rfl, rfl⟩ ?_)
                  clear hl a; intro a hl
                  refine wl (wl_skip hl rfl ⟨_, _, rfl, rfl, rfl⟩ ?_)
                  clear hl a; intro a hl
                  refine wl (wl_val hl rfl trivial (r_pickF hl rfl rfl) ?_)
                  clear hl a; intro a hl
                  refine wl (wl_val hl rfl trivial (r_assign hl rfl) ?_)
                  clear hl a; intro a hl
                  refine w_nil ?_
                  have hl2 := hl.add (t := 2) (hl.nil) rfl; clear hl; have hl := hl2; clear hl2
                  refine then_normal ?_
                  refine wp_ret ?_
                  refine blk_ret ?_
                  refine then_ret ?_
                  refine f_ret1 (F' := []) hl hh rfl rfl (by repeat (first | exact keeps_nil | apply keeps_cons (by repeat (first | exact find_head | apply find_tail)) (by first  | rfl) | exact keeps_self | apply keeps_mv)) ?_
                  first | (exfalso; omega) | exact ⟨congrArg Value.bool (by unfold wfF; simp only; (repeat (first | rw [if_pos (by omega)] | rw [if_neg (by omega)])); (try simp only [noPr, nxV]); (first | rw [show noRl ⟨kd, dv, pr, ix, up, ra, rl, via, pm, da, dl, cl⟩ = true by assumption] | rw [show noRl ⟨kd, dv, pr, ix, up, ra, rl, via, pm, da, dl, cl⟩ = false by assumption] | skip); (first | rw [show noRt ⟨kd, dv, pr, ix, up, ra, rl, via, pm, da, dl, cl⟩ = true by assumption] | rw [show noRt ⟨kd, dv, pr, ix, up, ra, rl, via, pm, da, dl, cl⟩ = false by assumption] | skip); (first | rw [show gpF ra rl = true by assumption] | rw [show gpF ra rl = false by assumption] | skip); (first | rw [show gpF da dl = true by assumption] | rw [show gpF da dl = false by assumption] | skip); (first | rw [show decide (dv < 16) = true from decide_eq_true (by omega)] | rw [show decide (dv < 16) = false from decide_eq_false (by omega)] | skip); (first | rw [show decide (via = 16) = true from decide_eq_true (by omega)] | rw [show decide (via = 16) = false from decide_eq_false (by omega)] | skip); (first | rw [show decide (via < 16) = true from decide_eq_true (by omega)] | rw [show decide (via < 16) = false from decide_eq_false (by omega)] | skip); (first | rw [show decide (via = dv) = true from decide_eq_true (by omega)] | rw [show decide (via = dv) = false from decide_eq_false (by omega)] | skip); (first | rw [show decide (via = 0) = true from decide_eq_true (by omega)] | rw [show decide (via = 0) = false from decide_eq_false (by omega)] | skip); (first | rw [show decide (pr = 0) = true from decide_eq_true (by omega)] | rw [show decide (pr = 0) = false from decide_eq_false (by omega)] | skip); (first | rw [show decide (pr < 16) = true from decide_eq_true (by omega)] | rw [show decide (pr < 16) = false from decide_eq_false (by omega)] | skip); (first | rw [show decide (dv < pr) = true from decide_eq_true (by omega)] | rw [show decide (dv < pr) = false from decide_eq_false (by omega)] | skip); (first | rw [show decide (dv = pr) = true from decide_eq_true (by omega)] | rw [show decide (dv = pr) = false from decide_eq_false (by omega)] | skip); (first | rw [show decide (cl ≤ 16) = true from decide_eq_true (by omega)] | rw [show decide (cl ≤ 16) = false from decide_eq_false (by omega)] | skip); (first | rw [show decide (ix < 64) = true from decide_eq_true (by omega)] | rw [show decide (ix < 64) = false from decide_eq_false (by omega)] | skip); first | rfl | (simp only [Bool.true_and, Bool.and_true, Bool.false_and, Bool.and_false, Bool.true_or, Bool.false_or, Bool.or_false, Bool.or_true, Bool.not_true, Bool.not_false]; first | done | rfl | ((repeat (first | rw [show up = true by assumption] | rw [show up = false by assumption] | rw [show decide (ix = 0) = true from decide_eq_true (by omega)] | rw [show decide (ix = 0) = false from decide_eq_false (by omega)])); rfl))), rfl⟩
              · intro hc5
                try simp only [decide_eq_true_eq, decide_eq_false_iff_not, Bool.not_eq_true', Bool.not_eq_false', Bool.not_eq_true, Bool.not_eq_false, Bool.and_eq_true, Bool.or_eq_true, Bool.and_eq_false_iff, Bool.or_eq_false_iff, Bool.not_not, ne_eq, Int.not_lt, Int.not_le, Decidable.not_not, beq_iff_eq, bne_iff_ne] at hc5
                refine wp_skip ?_
                refine blk_normal ?_
                refine then_normal ?_
                refine c_seq ?_
                refine c_region ?_
                refine wl (wl_val hl rfl trivial (r_assign hl rfl) ?_)
                clear hl a; intro a hl
                refine w_nil ?_
                have hl2 := hl.add (t := 2) (hl.nil) rfl; clear hl; have hl := hl2; clear hl2
                refine then_normal ?_
                refine wp_ret ?_
                refine f_ret1 (F' := []) hl hh rfl rfl (by repeat (first | exact keeps_nil | apply keeps_cons (by repeat (first | exact find_head | apply find_tail)) (by first  | rfl) | exact keeps_self | apply keeps_mv)) ?_
                exact ⟨congrArg Value.bool (by unfold wfF; simp only; (repeat (rw [if_neg (by omega)]))), rfl⟩
  · intro hg1; clear hl; intro hl
    try simp only [decide_eq_true_eq, decide_eq_false_iff_not, Bool.not_eq_true', Bool.not_eq_false', Bool.not_eq_true, Bool.not_eq_false, Bool.and_eq_true, Bool.or_eq_true, Bool.and_eq_false_iff, Bool.or_eq_false_iff, Bool.not_not, ne_eq, Int.not_lt, Int.not_le, Decidable.not_not, beq_iff_eq, bne_iff_ne] at hg1
    refine wl (wl_skip hl rfl ⟨_, _, rfl, rfl, rfl⟩ ?_)
    clear hl a; intro a hl
    refine wl (wl_skip hl rfl ⟨_, _, rfl, rfl, rfl⟩ ?_)
    clear hl a; intro a hl
    refine wl (wl_skip hl rfl ⟨_, _, rfl, rfl, rfl⟩ ?_)
    clear hl a; intro a hl
    refine wl (wl_val hl rfl trivial (r_pickF hl rfl rfl) ?_)
    clear hl a; intro a hl
    refine wl (wl_val hl rfl trivial (r_assign hl rfl) ?_)
    clear hl a; intro a hl
    refine w_nil ?_
    have hl2 := hl.add (t := 1) (hl.add (t := 3) (hl.nil) rfl) rfl; clear hl; have hl := hl2; clear hl2
    refine then_normal ?_
    refine c_seq ?_
    refine c_region ?_
    refine wl (wl_val hl rfl trivial (r_field hl rfl fld57_5) ?_)
    clear hl a; intro a hl
    refine wl (w_loadA hl hh rfl trivial agg53 rfl (by repeat (first | exact find_head | apply find_tail)) (by first | (simp only [List.getElem?_cons_zero, List.getElem?_cons_succ, Value.cells, List.take_zero, List.take_succ_cons, List.take_nil, List.drop_zero, List.drop_succ_cons, List.drop_nil, List.length_cons, List.length_nil, List.cons_append, List.nil_append, List.append_nil, Nat.zero_add, Nat.add_zero, Nat.reduceAdd, Nat.reduceBEq, Nat.reduceEqDiff, Nat.ble, BEq.rfl, Bool.and_true, Bool.and_self, cond_true, beq_self_eq_true]; rfl)) (by first | rfl | (simp; done)) ?_)
    clear hl a; intro a hl
    refine wl (wl_val hl rfl trivial (r_build hl rfl zero53 bld53 (by simp only [fillL, setL, List.getElem?_cons_zero, List.getElem?_cons_succ, Value.cells, List.take_zero, List.take_succ_cons, List.take_nil, List.drop_zero, List.drop_succ_cons, List.drop_nil, List.length_cons, List.length_nil, List.cons_append, List.nil_append, List.append_nil, Nat.zero_add, Nat.add_zero, Nat.reduceAdd, Nat.reduceBEq, Nat.reduceEqDiff, Nat.ble, BEq.rfl, Bool.and_true, Bool.and_self, cond_true, beq_self_eq_true]; rfl)) ?_)
    clear hl a; intro a hl
    refine wl (wl_val hl rfl trivial (r_eqlA hl rfl rfl eqf53 shp53 (by simp only [unlitL, unlit]; rfl) (by simp only [unlitL, unlit]; rfl) (by first | exact ⟨trivial⟩ | (refine ⟨?_⟩; simp [LitsOk, litOk, Fits]; done) | (refine ⟨?_⟩; simp [LitsOk, litOk, Fits]; omega)) (by first | exact ⟨trivial⟩ | (refine ⟨?_⟩; simp [LitsOk, litOk, Fits]; done) | (refine ⟨?_⟩; simp [LitsOk, litOk, Fits]; omega))) ?_)
    clear hl a; intro a hl
    refine wl (wl_val hl rfl trivial (r_assign hl rfl) ?_)
    clear hl a; intro a hl
    refine w_nil ?_
    have hl2 := hl.add (t := 1) (hl.add (t := 3) (hl.add (t := 4) (hl.nil) rfl) rfl) rfl; clear hl; have hl := hl2; clear hl2
    refine then_normal ?_
    refine c_seq ?_
    refine c_region ?_
    refine wl (wl_val hl rfl trivial (r_field hl rfl fld57_6) ?_)
    clear hl a; intro a hl
    refine wl (w_loadA hl hh rfl trivial agg55 rfl (by repeat (first | exact find_head | apply find_tail)) (by first | (simp only [List.getElem?_cons_zero, List.getElem?_cons_succ, Value.cells, List.take_zero, List.take_succ_cons, List.take_nil, List.drop_zero, List.drop_succ_cons, List.drop_nil, List.length_cons, List.length_nil, List.cons_append, List.nil_append, List.append_nil, Nat.zero_add, Nat.add_zero, Nat.reduceAdd, Nat.reduceBEq, Nat.reduceEqDiff, Nat.ble, BEq.rfl, Bool.and_true, Bool.and_self, cond_true, beq_self_eq_true]; rfl)) (by first | rfl | (simp; done)) ?_)
    clear hl a; intro a hl
    refine wl (wl_val hl rfl trivial (r_build hl rfl zero55 bld55 (by simp only [fillL, setL, List.getElem?_cons_zero, List.getElem?_cons_succ, Value.cells, List.take_zero, List.take_succ_cons, List.take_nil, List.drop_zero, List.drop_succ_cons, List.drop_nil, List.length_cons, List.length_nil, List.cons_append, List.nil_append, List.append_nil, Nat.zero_add, Nat.add_zero, Nat.reduceAdd, Nat.reduceBEq, Nat.reduceEqDiff, Nat.ble, BEq.rfl, Bool.and_true, Bool.and_self, cond_true, beq_self_eq_true]; rfl)) ?_)
    clear hl a; intro a hl
    refine wl (wl_val hl rfl trivial (r_eqlA hl rfl rfl eqf55 shp55 (by simp only [unlitL, unlit]; rfl) (by simp only [unlitL, unlit]; rfl) (by first | exact ⟨trivial⟩ | (refine ⟨?_⟩; simp [LitsOk, litOk, Fits]; done) | (refine ⟨?_⟩; simp [LitsOk, litOk, Fits]; omega)) (by first | exact ⟨trivial⟩ | (refine ⟨?_⟩; simp [LitsOk, litOk, Fits]; done) | (refine ⟨?_⟩; simp [LitsOk, litOk, Fits]; omega))) ?_)
    clear hl a; intro a hl
    refine wl (wl_val hl rfl trivial (r_assign hl rfl) ?_)
    clear hl a; intro a hl
    refine w_nil ?_
    have hl2 := hl.add (t := 1) (hl.add (t := 3) (hl.add (t := 4) (hl.add (t := 5) (hl.nil) rfl) rfl) rfl) rfl; clear hl; have hl := hl2; clear hl2
    refine then_normal ?_
    refine c_seq ?_
    refine c_seq ?_
    refine c_region ?_
    refine wl (wl_val hl rfl trivial (r_field hl rfl fld57_0) ?_)
    clear hl a; intro a hl
    refine wl (w_load hl hh rfl trivial one49 rfl (by repeat (first | exact find_head | apply find_tail)) (by first | rfl) ?_)
    clear hl a; intro a hl
    refine w_nil ?_
    have hl2 := hl.add (t := 1) (hl.add (t := 3) (hl.add (t := 4) (hl.add (t := 5) (hl.add (t := 24) (hl.nil) rfl) rfl) rfl) rfl) rfl; clear hl; have hl := hl2; clear hl2
    refine then_normal ?_
    refine wp_block ?_
    refine c_seq ?_
    refine c_region ?_
    refine wl (wl_val hl rfl trivial (r_eql hl rfl rfl) ?_)
    clear hl a; intro a hl
    refine wl (wl_val hl rfl trivial (r_assign hl rfl) ?_)
    clear hl a; intro a hl
    refine w_nil ?_
    have hl2 := hl.add (t := 1) (hl.add (t := 3) (hl.add (t := 4) (hl.add (t := 5) (hl.add (t := 24) (hl.add (t := 25) (hl.nil) rfl) rfl) rfl) rfl) rfl) rfl; clear hl; have hl := hl2; clear hl2
    refine then_normal ?_
    refine c_cond hl rfl ?_ ?_
    · intro hc0
      try simp only [decide_eq_true_eq, decide_eq_false_iff_not, Bool.not_eq_true', Bool.not_eq_false', Bool.not_eq_true, Bool.not_eq_false, Bool.and_eq_true, Bool.or_eq_true, Bool.and_eq_false_iff, Bool.or_eq_false_iff, Bool.not_not, ne_eq, Int.not_lt, Int.not_le, Decidable.not_not, beq_iff_eq, bne_iff_ne] at hc0
      refine c_seq ?_
      refine c_region ?_
      refine wl (wl_val hl rfl trivial (r_field hl rfl fld57_5) ?_)
      clear hl a; intro a hl
      refine wl (wl_val hl rfl trivial (r_field hl rfl fld53_1) ?_)
      clear hl a; intro a hl
      refine wl (w_load hl hh rfl trivial one5 rfl (by repeat (first | exact find_head | apply find_tail)) (by first | rfl) ?_)
      clear hl a; intro a hl
      refine wl (wl_val hl rfl trivial (r_eql hl rfl rfl) ?_)
      clear hl a; intro a hl
      refine wl (wl_val hl rfl trivial (r_move hl rfl) ?_)
      clear hl a; intro a hl
      refine sl_split (t := 31) hl rfl ?_ ?_
      · intro hg39; clear hl; intro hl
        try simp only [decide_eq_true_eq, decide_eq_false_iff_not, Bool.not_eq_true', Bool.not_eq_false', Bool.not_eq_true, Bool.not_eq_false, Bool.and_eq_true, Bool.or_eq_true, Bool.and_eq_false_iff, Bool.or_eq_false_iff, Bool.not_not, ne_eq, Int.not_lt, Int.not_le, Decidable.not_not, beq_iff_eq, bne_iff_ne] at hg39
        refine wl (wl_skip hl rfl ⟨_, _, rfl, rfl, rfl⟩ ?_)
        clear hl a; intro a hl
        refine wl (wl_skip hl rfl ⟨_, _, rfl, rfl, rfl⟩ ?_)
        clear hl a; intro a hl
        refine wl (wl_skip hl rfl ⟨_, _, rfl, rfl, rfl⟩ ?_)
        clear hl a; intro a hl
        refine wl (wl_skip hl rfl ⟨_, _, rfl, rfl, rfl⟩ ?_)
        clear hl a; intro a hl
        refine wl (wl_skip hl rfl ⟨_, _, rfl, rfl, rfl⟩ ?_)
        clear hl a; intro a hl
        refine wl (wl_skipU hl rfl ⟨_, _, rfl, rfl, rfl⟩ ?_)
        clear hl a; intro a hl
        refine wl (wl_skipU hl rfl ⟨_, _, rfl, rfl, rfl⟩ ?_)
        clear hl a; intro a hl
        refine wl (wl_skipU hl rfl ⟨_, _, rfl, rfl, rfl⟩ ?_)
        clear hl a; intro a hl
        refine wl (wl_skipU hl rfl ⟨_, _, rfl, rfl, rfl⟩ ?_)
        clear hl a; intro a hl
        refine wl (wl_skipU hl rfl ⟨_, _, rfl, rfl, rfl⟩ ?_)
        clear hl a; intro a hl
        refine wl (wl_skipU hl rfl ⟨_, _, rfl, rfl, rfl⟩ ?_)
        clear hl a; intro a hl
        refine wl (wl_skip hl rfl ⟨_, _, rfl, rfl, rfl⟩ ?_)
        clear hl a; intro a hl
        refine wl (wl_val hl rfl trivial (r_pickT hl rfl rfl) ?_)
        clear hl a; intro a hl
        refine wl (wl_val hl rfl trivial (r_assign hl rfl) ?_)
        clear hl a; intro a hl
        refine w_nil ?_
        have hl2 := hl.add (t := 1) (hl.add (t := 3) (hl.add (t := 5) (hl.add (t := 6) (hl.nil) rfl) rfl) rfl) rfl; clear hl; have hl := hl2; clear hl2
        refine then_normal ?_
        refine c_seq ?_
        refine c_region ?_
        refine wl (wl_val hl rfl trivial (r_field hl rfl fld57_1) ?_)
        clear hl a; intro a hl
        refine wl (w_load hl hh rfl trivial one5 rfl (by repeat (first | exact find_head | apply find_tail)) (by first | rfl) ?_)
        clear hl a; intro a hl
        refine wl (w_call hl hh rfl trivial rfl cal64 rfl (isDeviceM _) (by repeat (first | exact keeps_nil | apply keeps_cons (by repeat (first | exact find_head | apply find_tail)) (by first  | rfl) | exact keeps_self | apply keeps_mv)) trivial ?_)
        clear hl hh a w; intro vc Fc a w hR hl hh
        obtain ⟨rfl, rfl⟩ := hR
        try simp only [List.cons_append, List.nil_append] at hh
        refine wl (wl_val hl rfl trivial (r_move hl rfl) ?_)
        clear hl a; intro a hl
        refine sl_split (t := 48) hl rfl ?_ ?_
        · intro hg40; clear hl; intro hl
          try simp only [decide_eq_true_eq, decide_eq_false_iff_not, Bool.not_eq_true', Bool.not_eq_false', Bool.not_eq_true, Bool.not_eq_false, Bool.and_eq_true, Bool.or_eq_true, Bool.and_eq_false_iff, Bool.or_eq_false_iff, Bool.not_not, ne_eq, Int.not_lt, Int.not_le, Decidable.not_not, beq_iff_eq, bne_iff_ne] at hg40
          refine wl (wl_val hl rfl ⟨_, _, rfl, rfl, rfl⟩ (r_field hl rfl fld57_5) ?_)
          clear hl a; intro a hl
          refine wl (wl_val hl rfl ⟨_, _, rfl, rfl, rfl⟩ (r_field hl rfl fld53_0) ?_)
          clear hl a; intro a hl
          refine wl (w_loadA hl hh rfl ⟨_, _, rfl, rfl, rfl⟩ agg51 rfl (by repeat (first | exact find_head | apply find_tail)) (by first | (simp only [List.getElem?_cons_zero, List.getElem?_cons_succ, Value.cells, List.take_zero, List.take_succ_cons, List.take_nil, List.drop_zero, List.drop_succ_cons, List.drop_nil, List.length_cons, List.length_nil, List.cons_append, List.nil_append, List.append_nil, Nat.zero_add, Nat.add_zero, Nat.reduceAdd, Nat.reduceBEq, Nat.reduceEqDiff, Nat.ble, BEq.rfl, Bool.and_true, Bool.and_self, cond_true, beq_self_eq_true]; rfl)) (by first | rfl | (simp; done)) ?_)
          clear hl a; intro a hl
          refine wl (w_call hl hh rfl ⟨_, _, rfl, rfl, rfl⟩ rfl cal65 rfl (isPrefixM _ _ (by omega) (by omega) (by omega) (by omega)) (by repeat (first | exact keeps_nil | apply keeps_cons (by repeat (first | exact find_head | apply find_tail)) (by first  | rfl) | exact keeps_self | apply keeps_mv)) trivial ?_)
          clear hl hh a w; intro vc Fc a w hR hl hh
          obtain ⟨rfl, rfl⟩ := hR
          try simp only [List.cons_append, List.nil_append] at hh
          refine wl (wl_val hl rfl trivial (r_pickT hl rfl rfl) ?_)
          clear hl a; intro a hl
          refine wl (wl_val hl rfl trivial (r_move hl rfl) ?_)
          clear hl a; intro a hl
          refine sl_split (t := 54) hl rfl ?_ ?_
          · intro hg41; clear hl; intro hl
            try simp only [decide_eq_true_eq, decide_eq_false_iff_not, Bool.not_eq_true', Bool.not_eq_false', Bool.not_eq_true, Bool.not_eq_false, Bool.and_eq_true, Bool.or_eq_true, Bool.and_eq_false_iff, Bool.or_eq_false_iff, Bool.not_not, ne_eq, Int.not_lt, Int.not_le, Decidable.not_not, beq_iff_eq, bne_iff_ne] at hg41
            refine wl (wl_val hl rfl ⟨_, _, rfl, rfl, rfl⟩ (r_move hl rfl) ?_)
            clear hl a; intro a hl
            refine wl (wl_val hl rfl trivial (r_pickT hl rfl rfl) ?_)
            clear hl a; intro a hl
            refine wl (wl_val hl rfl trivial (r_move hl rfl) ?_)
            clear hl a; intro a hl
            refine wl (wl_val hl rfl ⟨_, _, rfl, rfl, rfl⟩ (r_move hl rfl) ?_)
            clear hl a; intro a hl
            refine wl (wl_val hl rfl trivial (r_pickT hl rfl rfl) ?_)
            clear hl a; intro a hl
            refine wl (wl_val hl rfl trivial (r_move hl rfl) ?_)
            clear hl a; intro a hl
            refine wl (wl_skip hl rfl ⟨_, _, rfl, rfl, rfl⟩ ?_)
            clear hl a; intro a hl
            refine wl (wl_val hl rfl trivial (r_pickF hl rfl rfl) ?_)
            clear hl a; intro a hl
            refine wl (wl_val hl rfl trivial (r_move hl rfl) ?_)
            clear hl a; intro a hl
            refine wl (wl_skip hl rfl ⟨_, _, rfl, rfl, rfl⟩ ?_)
            clear hl a; intro a hl
            refine wl (wl_skip hl rfl ⟨_, _, rfl, rfl, rfl⟩ ?_)
            clear hl a; intro a hl
            refine wl (wl_skip hl rfl ⟨_, _, rfl, rfl, rfl⟩ ?_)
            clear hl a; intro a hl
            refine wl (wl_val hl rfl trivial (r_pickF hl rfl rfl) ?_)
            clear hl a; intro a hl
            refine wl (wl_val hl rfl trivial (r_assign hl rfl) ?_)
            clear hl a; intro a hl
            refine w_nil ?_
            have hl2 := hl.add (t := 2) (hl.nil) rfl; clear hl; have hl := hl2; clear hl2
            refine then_normal ?_
            refine wp_ret ?_
            refine blk_ret ?_
            refine then_ret ?_
            refine f_ret1 (F' := []) hl hh rfl rfl (by repeat (first | exact keeps_nil | apply keeps_cons (by repeat (first | exact find_head | apply find_tail)) (by first  | rfl) | exact keeps_self | apply keeps_mv)) ?_
            first | (exfalso; omega) | exact ⟨congrArg Value.bool (by unfold wfF; simp only; (repeat (first | rw [if_pos (by omega)] | rw [if_neg (by omega)])); (try simp only [noPr, nxV]); (first | rw [show noRl ⟨kd, dv, pr, ix, up, ra, rl, via, pm, da, dl, cl⟩ = true by assumption] | rw [show noRl ⟨kd, dv, pr, ix, up, ra, rl, via, pm, da, dl, cl⟩ = false by assumption] | skip); (first | rw [show noRt ⟨kd, dv, pr, ix, up, ra, rl, via, pm, da, dl, cl⟩ = true by assumption] | rw [show noRt ⟨kd, dv, pr, ix, up, ra, rl, via, pm, da, dl, cl⟩ = false by assumption] | skip); (first | rw [show gpF ra rl = true by assumption] | rw [show gpF ra rl = false by assumption] | skip); (first | rw [show gpF da dl = true by assumption] | rw [show gpF da dl = false by assumption] | skip); (first | rw [show decide (dv < 16) = true from decide_eq_true (by omega)] | rw [show decide (dv < 16) = false from decide_eq_false (by omega)] | skip); (first | rw [show decide (via = 16) = true from decide_eq_true (by omega)] | rw [show decide (via = 16) = false from decide_eq_false (by omega)] | skip); (first | rw [show decide (via < 16) = true from decide_eq_true (by omega)] | rw [show decide (via < 16) = false from decide_eq_false (by omega)] | skip); (first | rw [show decide (via = dv) = true from decide_eq_true (by omega)] | rw [show decide (via = dv) = false from decide_eq_false (by omega)] | skip); (first | rw [show decide (via = 0) = true from decide_eq_true (by omega)] | rw [show decide (via = 0) = false from decide_eq_false (by omega)] | skip); (first | rw [show decide (pr = 0) = true from decide_eq_true (by omega)] | rw [show decide (pr = 0) = false from decide_eq_false (by omega)] | skip); (first | rw [show decide (pr < 16) = true from decide_eq_true (by omega)] | rw [show decide (pr < 16) = false from decide_eq_false (by omega)] | skip); (first | rw [show decide (dv < pr) = true from decide_eq_true (by omega)] | rw [show decide (dv < pr) = false from decide_eq_false (by omega)] | skip); (first | rw [show decide (dv = pr) = true from decide_eq_true (by omega)] | rw [show decide (dv = pr) = false from decide_eq_false (by omega)] | skip); (first | rw [show decide (cl ≤ 16) = true from decide_eq_true (by omega)] | rw [show decide (cl ≤ 16) = false from decide_eq_false (by omega)] | skip); (first | rw [show decide (ix < 64) = true from decide_eq_true (by omega)] | rw [show decide (ix < 64) = false from decide_eq_false (by omega)] | skip); first | rfl | (simp only [Bool.true_and, Bool.and_true, Bool.false_and, Bool.and_false, Bool.true_or, Bool.false_or, Bool.or_false, Bool.or_true, Bool.not_true, Bool.not_false]; first | done | rfl | ((repeat (first | rw [show up = true by assumption] | rw [show up = false by assumption] | rw [show decide (ix = 0) = true from decide_eq_true (by omega)] | rw [show decide (ix = 0) = false from decide_eq_false (by omega)])); rfl))), rfl⟩
          · intro hg41; clear hl; intro hl
            try simp only [decide_eq_true_eq, decide_eq_false_iff_not, Bool.not_eq_true', Bool.not_eq_false', Bool.not_eq_true, Bool.not_eq_false, Bool.and_eq_true, Bool.or_eq_true, Bool.and_eq_false_iff, Bool.or_eq_false_iff, Bool.not_not, ne_eq, Int.not_lt, Int.not_le, Decidable.not_not, beq_iff_eq, bne_iff_ne] at hg41
            refine wl (wl_skip hl rfl ⟨_, _, rfl, rfl, rfl⟩ ?_)
            clear hl a; intro a hl
            refine wl (wl_val hl rfl trivial (r_pickF hl rfl rfl) ?_)
            clear hl a; intro a hl
            refine wl (wl_val hl rfl trivial (r_move hl rfl) ?_)
            clear hl a; intro a hl
            refine wl (wl_skip hl rfl ⟨_, _, rfl, rfl, rfl⟩ ?_)
            clear hl a; intro a hl
            refine wl (wl_val hl rfl trivial (r_pickF hl rfl rfl) ?_)
            clear hl a; intro a hl
            refine wl (wl_val hl rfl trivial (r_move hl rfl) ?_)
            clear hl a; intro a hl
            refine wl (wl_skip hl rfl ⟨_, _, rfl, rfl, rfl⟩ ?_)
            clear hl a; intro a hl
            refine wl (wl_val hl rfl trivial (r_pickF hl rfl rfl) ?_)
            clear hl a; intro a hl
            refine wl (wl_val hl rfl trivial (r_move hl rfl) ?_)
            clear hl a; intro a hl
            refine wl (wl_skip hl rfl ⟨_, _, rfl, rfl, rfl⟩ ?_)
            clear hl a; intro a hl
            refine wl (wl_skip hl rfl ⟨_, _, rfl, rfl, rfl⟩ ?_)
            clear hl a; intro a hl
            refine wl (wl_skip hl rfl ⟨_, _, rfl, rfl, rfl⟩ ?_)
            clear hl a; intro a hl
            refine wl (wl_val hl rfl trivial (r_pickF hl rfl rfl) ?_)
            clear hl a; intro a hl
            refine wl (wl_val hl rfl trivial (r_assign hl rfl) ?_)
            clear hl a; intro a hl
            refine w_nil ?_
            have hl2 := hl.add (t := 2) (hl.nil) rfl; clear hl; have hl := hl2; clear hl2
            refine then_normal ?_
            refine wp_ret ?_
            refine blk_ret ?_
            refine then_ret ?_
            refine f_ret1 (F' := []) hl hh rfl rfl (by repeat (first | exact keeps_nil | apply keeps_cons (by repeat (first | exact find_head | apply find_tail)) (by first  | rfl) | exact keeps_self | apply keeps_mv)) ?_
            first | (exfalso; omega) | exact ⟨congrArg Value.bool (by unfold wfF; simp only; (repeat (first | rw [if_pos (by omega)] | rw [if_neg (by omega)])); (try simp only [noPr, nxV]); (first | rw [show noRl ⟨kd, dv, pr, ix, up, ra, rl, via, pm, da, dl, cl⟩ = true by assumption] | rw [show noRl ⟨kd, dv, pr, ix, up, ra, rl, via, pm, da, dl, cl⟩ = false by assumption] | skip); (first | rw [show noRt ⟨kd, dv, pr, ix, up, ra, rl, via, pm, da, dl, cl⟩ = true by assumption] | rw [show noRt ⟨kd, dv, pr, ix, up, ra, rl, via, pm, da, dl, cl⟩ = false by assumption] | skip); (first | rw [show gpF ra rl = true by assumption] | rw [show gpF ra rl = false by assumption] | skip); (first | rw [show gpF da dl = true by assumption] | rw [show gpF da dl = false by assumption] | skip); (first | rw [show decide (dv < 16) = true from decide_eq_true (by omega)] | rw [show decide (dv < 16) = false from decide_eq_false (by omega)] | skip); (first | rw [show decide (via = 16) = true from decide_eq_true (by omega)] | rw [show decide (via = 16) = false from decide_eq_false (by omega)] | skip); (first | rw [show decide (via < 16) = true from decide_eq_true (by omega)] | rw [show decide (via < 16) = false from decide_eq_false (by omega)] | skip); (first | rw [show decide (via = dv) = true from decide_eq_true (by omega)] | rw [show decide (via = dv) = false from decide_eq_false (by omega)] | skip); (first | rw [show decide (via = 0) = true from decide_eq_true (by omega)] | rw [show decide (via = 0) = false from decide_eq_false (by omega)] | skip); (first | rw [show decide (pr = 0) = true from decide_eq_true (by omega)] | rw [show decide (pr = 0) = false from decide_eq_false (by omega)] | skip); (first | rw [show decide (pr < 16) = true from decide_eq_true (by omega)] | rw [show decide (pr < 16) = false from decide_eq_false (by omega)] | skip); (first | rw [show decide (dv < pr) = true from decide_eq_true (by omega)] | rw [show decide (dv < pr) = false from decide_eq_false (by omega)] | skip); (first | rw [show decide (dv = pr) = true from decide_eq_true (by omega)] | rw [show decide (dv = pr) = false from decide_eq_false (by omega)] | skip); (first | rw [show decide (cl ≤ 16) = true from decide_eq_true (by omega)] | rw [show decide (cl ≤ 16) = false from decide_eq_false (by omega)] | skip); (first | rw [show decide (ix < 64) = true from decide_eq_true (by omega)] | rw [show decide (ix < 64) = false from decide_eq_false (by omega)] | skip); first | rfl | (simp only [Bool.true_and, Bool.and_true, Bool.false_and, Bool.and_false, Bool.true_or, Bool.false_or, Bool.or_false, Bool.or_true, Bool.not_true, Bool.not_false]; first | done | rfl | ((repeat (first | rw [show up = true by assumption] | rw [show up = false by assumption] | rw [show decide (ix = 0) = true from decide_eq_true (by omega)] | rw [show decide (ix = 0) = false from decide_eq_false (by omega)])); rfl))), rfl⟩
        · intro hg40; clear hl; intro hl
          try simp only [decide_eq_true_eq, decide_eq_false_iff_not, Bool.not_eq_true', Bool.not_eq_false', Bool.not_eq_true, Bool.not_eq_false, Bool.and_eq_true, Bool.or_eq_true, Bool.and_eq_false_iff, Bool.or_eq_false_iff, Bool.not_not, ne_eq, Int.not_lt, Int.not_le, Decidable.not_not, beq_iff_eq, bne_iff_ne] at hg40
          refine wl (wl_skip hl rfl ⟨_, _, rfl, rfl, rfl⟩ ?_)
          clear hl a; intro a hl
          refine wl (wl_skip hl rfl ⟨_, _, rfl, rfl, rfl⟩ ?_)
          clear hl a; intro a hl
          refine wl (wl_skip hl rfl ⟨_, _, rfl, rfl, rfl⟩ ?_)
          clear hl a; intro a hl
          refine wl (wl_skip hl rfl ⟨_, _, rfl, rfl, rfl⟩ ?_)
          clear hl a; intro a hl
          refine wl (wl_val hl rfl trivial (r_pickF hl rfl rfl) ?_)
          clear hl a; intro a hl
          refine wl (wl_val hl rfl trivial (r_move hl rfl) ?_)
          clear hl a; intro a hl
          refine wl (wl_skip hl rfl ⟨_, _, rfl, rfl, rfl⟩ ?_)
          clear hl a; intro a hl
          refine wl (wl_val hl rfl trivial (r_pickF hl rfl rfl) ?_)
          clear hl a; intro a hl
          refine wl (wl_val hl rfl trivial (r_move hl rfl) ?_)
          clear hl a; intro a hl
          refine wl (wl_skip hl rfl ⟨_, _, rfl, rfl, rfl⟩ ?_)
          clear hl a; intro a hl
          refine wl (wl_val hl rfl trivial (r_pickF hl rfl rfl) ?_)
          clear hl a; intro a hl
          refine wl (wl_val hl rfl trivial (r_move hl rfl) ?_)
          clear hl a; intro a hl
          refine wl (wl_skip hl rfl ⟨_, _, rfl, rfl, rfl⟩ ?_)
          clear hl a; intro a hl
          refine wl (wl_val hl rfl trivial (r_pickF hl rfl rfl) ?_)
          clear hl a; intro a hl
          refine wl (wl_val hl rfl trivial (r_move hl rfl) ?_)
          clear hl a; intro a hl
          refine wl (wl_skip hl rfl ⟨_, _, rfl, rfl, rfl⟩ ?_)
          clear hl a; intro a hl
          refine wl (wl_skip hl rfl ⟨_, _, rfl, rfl, rfl⟩ ?_)
          clear hl a; intro a hl
          refine wl (wl_skip hl rfl ⟨_, _, rfl, rfl, rfl⟩ ?_)
          clear hl a; intro a hl
          refine wl (wl_val hl rfl trivial (r_pickF hl rfl rfl) ?_)
          clear hl a; intro a hl
          refine wl (wl_val hl rfl trivial (r_assign hl rfl) ?_)
          clear hl a; intro a hl
          refine w_nil ?_
          have hl2 := hl.add (t := 2) (hl.nil) rfl; clear hl; have hl := hl2; clear hl2
          refine then_normal ?_
          refine wp_ret ?_
          refine blk_ret ?_
          refine then_ret ?_
          refine f_ret1 (F' := []) hl hh rfl rfl (by repeat (first | exact keeps_nil | apply keeps_cons (by repeat (first | exact find_head | apply find_tail)) (by first  | rfl) | exact keeps_self | apply keeps_mv)) ?_
          first | (exfalso; omega) | exact ⟨congrArg Value.bool (by unfold wfF; simp only; (repeat (first | rw [if_pos (by omega)] | rw [if_neg (by omega)])); (try simp only [noPr, nxV]); (first | rw [show noRl ⟨kd, dv, pr, ix, up, ra, rl, via, pm, da, dl, cl⟩ = true by assumption] | rw [show noRl ⟨kd, dv, pr, ix, up, ra, rl, via, pm, da, dl, cl⟩ = false by assumption] | skip); (first | rw [show noRt ⟨kd, dv, pr, ix, up, ra, rl, via, pm, da, dl, cl⟩ = true by assumption] | rw [show noRt ⟨kd, dv, pr, ix, up, ra, rl, via, pm, da, dl, cl⟩ = false by assumption] | skip); (first | rw [show gpF ra rl = true by assumption] | rw [show gpF ra rl = false by assumption] | skip); (first | rw [show gpF da dl = true by assumption] | rw [show gpF da dl = false by assumption] | skip); (first | rw [show decide (dv < 16) = true from decide_eq_true (by omega)] | rw [show decide (dv < 16) = false from decide_eq_false (by omega)] | skip); (first | rw [show decide (via = 16) = true from decide_eq_true (by omega)] | rw [show decide (via = 16) = false from decide_eq_false (by omega)] | skip); (first | rw [show decide (via < 16) = true from decide_eq_true (by omega)] | rw [show decide (via < 16) = false from decide_eq_false (by omega)] | skip); (first | rw [show decide (via = dv) = true from decide_eq_true (by omega)] | rw [show decide (via = dv) = false from decide_eq_false (by omega)] | skip); (first | rw [show decide (via = 0) = true from decide_eq_true (by omega)] | rw [show decide (via = 0) = false from decide_eq_false (by omega)] | skip); (first | rw [show decide (pr = 0) = true from decide_eq_true (by omega)] | rw [show decide (pr = 0) = false from decide_eq_false (by omega)] | skip); (first | rw [show decide (pr < 16) = true from decide_eq_true (by omega)] | rw [show decide (pr < 16) = false from decide_eq_false (by omega)] | skip); (first | rw [show decide (dv < pr) = true from decide_eq_true (by omega)] | rw [show decide (dv < pr) = false from decide_eq_false (by omega)] | skip); (first | rw [show decide (dv = pr) = true from decide_eq_true (by omega)] | rw [show decide (dv = pr) = false from decide_eq_false (by omega)] | skip); (first | rw [show decide (cl ≤ 16) = true from decide_eq_true (by omega)] | rw [show decide (cl ≤ 16) = false from decide_eq_false (by omega)] | skip); (first | rw [show decide (ix < 64) = true from decide_eq_true (by omega)] | rw [show decide (ix < 64) = false from decide_eq_false (by omega)] | skip); first | rfl | (simp only [Bool.true_and, Bool.and_true, Bool.false_and, Bool.and_false, Bool.true_or, Bool.false_or, Bool.or_false, Bool.or_true, Bool.not_true, Bool.not_false]; first | done | rfl | ((repeat (first | rw [show up = true by assumption] | rw [show up = false by assumption] | rw [show decide (ix = 0) = true from decide_eq_true (by omega)] | rw [show decide (ix = 0) = false from decide_eq_false (by omega)])); rfl))), rfl⟩
      · intro hg39; clear hl; intro hl
        try simp only [decide_eq_true_eq, decide_eq_false_iff_not, Bool.not_eq_true', Bool.not_eq_false', Bool.not_eq_true, Bool.not_eq_false, Bool.and_eq_true, Bool.or_eq_true, Bool.and_eq_false_iff, Bool.or_eq_false_iff, Bool.not_not, ne_eq, Int.not_lt, Int.not_le, Decidable.not_not, beq_iff_eq, bne_iff_ne] at hg39
        refine wl (wl_val hl rfl ⟨_, _, rfl, rfl, rfl⟩ (r_field hl rfl fld57_5) ?_)
        clear hl a; intro a hl
        refine wl (wl_val hl rfl ⟨_, _, rfl, rfl, rfl⟩ (r_field hl rfl fld53_1) ?_)
        clear hl a; intro a hl
        refine wl (w_load hl hh rfl ⟨_, _, rfl, rfl, rfl⟩ one5 rfl (by repeat (first | exact find_head | apply find_tail)) (by first | rfl) ?_)
        clear hl a; intro a hl
        refine wl (w_call hl hh rfl ⟨_, _, rfl, rfl, rfl⟩ rfl cal64 rfl (isDeviceM _) (by repeat (first | exact keeps_nil | apply keeps_cons (by repeat (first | exact find_head | apply find_tail)) (by first  | rfl) | exact keeps_self | apply keeps_mv)) trivial ?_)
        clear hl hh a w; intro vc Fc a w hR hl hh
        obtain ⟨rfl, rfl⟩ := hR
        try simp only [List.cons_append, List.nil_append] at hh
        refine wl (wl_val hl rfl ⟨_, _, rfl, rfl, rfl⟩ (r_move hl rfl) ?_)
        clear hl a; intro a hl
        refine sl_split (t := 36) hl rfl ?_ ?_
        · intro hg42; clear hl; intro hl
          try simp only [decide_eq_true_eq, decide_eq_false_iff_not, Bool.not_eq_true', Bool.not_eq_false', Bool.not_eq_true, Bool.not_eq_false, Bool.and_eq_true, Bool.or_eq_true, Bool.and_eq_false_iff, Bool.or_eq_false_iff, Bool.not_not, ne_eq, Int.not_lt, Int.not_le, Decidable.not_not, beq_iff_eq, bne_iff_ne] at hg42
          refine wl (wl_val hl rfl ⟨_, _, rfl, rfl, rfl⟩ (r_field hl rfl fld57_5) ?_)
          clear hl a; intro a hl
          refine wl (wl_val hl rfl ⟨_, _, rfl, rfl, rfl⟩ (r_field hl rfl fld53_1) ?_)
          clear hl a; intro a hl
          refine wl (w_load hl hh rfl ⟨_, _, rfl, rfl, rfl⟩ one5 rfl (by repeat (first | exact find_head | apply find_tail)) (by first | rfl) ?_)
          clear hl a; intro a hl
          refine wl (wl_val hl rfl ⟨_, _, rfl, rfl, rfl⟩ (r_field hl rfl fld57_1) ?_)
          clear hl a; intro a hl
          refine wl (w_load hl hh rfl ⟨_, _, rfl, rfl, rfl⟩ one5 rfl (by repeat (first | exact find_head | apply find_tail)) (by first | rfl) ?_)
          clear hl a; intro a hl
          refine wl (wl_val hl rfl ⟨_, _, rfl, rfl, rfl⟩ (r_neq hl rfl rfl) ?_)
          clear hl a; intro a hl
          refine wl (wl_val hl rfl ⟨_, _, rfl, rfl, rfl⟩ (r_pickT hl rfl rfl) ?_)
          clear hl a; intro a hl
          refine wl (wl_val hl rfl trivial (r_pickF hl rfl rfl) ?_)
          clear hl a; intro a hl
          refine wl (wl_val hl rfl trivial (r_assign hl rfl) ?_)
          clear hl a; intro a hl
          refine w_nil ?_
          have hl2 := hl.add (t := 1) (hl.add (t := 3) (hl.add (t := 5) (hl.add (t := 6) (hl.nil) rfl) rfl) rfl) rfl; clear hl; have hl := hl2; clear hl2
          refine then_normal ?_
          refine c_seq ?_
          refine c_region ?_
          refine wl (wl_val hl rfl trivial (r_field hl rfl fld57_1) ?_)
          clear hl a; intro a hl
          refine wl (w_load hl hh rfl trivial one5 rfl (by repeat (first | exact find_head | apply find_tail)) (by first | rfl) ?_)
          clear hl a; intro a hl
          refine wl (w_call hl hh rfl trivial rfl cal64 rfl (isDeviceM _) (by repeat (first | exact keeps_nil | apply keeps_cons (by repeat (first | exact find_head | apply find_tail)) (by first  | rfl) | exact keeps_self | apply keeps_mv)) trivial ?_)
          clear hl hh a w; intro vc Fc a w hR hl hh
          obtain ⟨rfl, rfl⟩ := hR
          try simp only [List.cons_append, List.nil_append] at hh
          refine wl (wl_val hl rfl trivial (r_move hl rfl) ?_)
          clear hl a; intro a hl
          refine sl_split (t := 48) hl rfl ?_ ?_
          · intro hg43; clear hl; intro hl
            try simp only [decide_eq_true_eq, decide_eq_false_iff_not, Bool.not_eq_true', Bool.not_eq_false', Bool.not_eq_true, Bool.not_eq_false, Bool.and_eq_true, Bool.or_eq_true, Bool.and_eq_false_iff, Bool.or_eq_false_iff, Bool.not_not, ne_eq, Int.not_lt, Int.not_le, Decidable.not_not, beq_iff_eq, bne_iff_ne] at hg43
            refine wl (wl_val hl rfl ⟨_, _, rfl, rfl, rfl⟩ (r_field hl rfl fld57_5) ?_)
            clear hl a; intro a hl
            refine wl (wl_val hl rfl ⟨_, _, rfl, rfl, rfl⟩ (r_field hl rfl fld53_0) ?_)
            clear hl a; intro a hl
            refine wl (w_loadA hl hh rfl ⟨_, _, rfl, rfl, rfl⟩ agg51 rfl (by repeat (first | exact find_head | apply find_tail)) (by first | (simp only [List.getElem?_cons_zero, List.getElem?_cons_succ, Value.cells, List.take_zero, List.take_succ_cons, List.take_nil, List.drop_zero, List.drop_succ_cons, List.drop_nil, List.length_cons, List.length_nil, List.cons_append, List.nil_append, List.append_nil, Nat.zero_add, Nat.add_zero, Nat.reduceAdd, Nat.reduceBEq, Nat.reduceEqDiff, Nat.ble, BEq.rfl, Bool.and_true, Bool.and_self, cond_true, beq_self_eq_true]; rfl)) (by first | rfl | (simp; done)) ?_)
            clear hl a; intro a hl
            refine wl (w_call hl hh rfl ⟨_, _, rfl, rfl, rfl⟩ rfl cal65 rfl (isPrefixM _ _ (by omega) (by omega) (by omega) (by omega)) (by repeat (first | exact keeps_nil | apply keeps_cons (by repeat (first | exact find_head | apply find_tail)) (by first  | rfl) | exact keeps_self | apply keeps_mv)) trivial ?_)
            clear hl hh a w; intro vc Fc a w hR hl hh
            obtain ⟨rfl, rfl⟩ := hR
            try simp only [List.cons_append, List.nil_append] at hh
            refine wl (wl_val hl rfl trivial (r_pickT hl rfl rfl) ?_)
            clear hl a; intro a hl
            refine wl (wl_val hl rfl trivial (r_move hl rfl) ?_)
            clear hl a; intro a hl
            refine sl_split (t := 54) hl rfl ?_ ?_
            · intro hg44; clear hl; intro hl
              try simp only [decide_eq_true_eq, decide_eq_false_iff_not, Bool.not_eq_true', Bool.not_eq_false', Bool.not_eq_true, Bool.not_eq_false, Bool.and_eq_true, Bool.or_eq_true, Bool.and_eq_false_iff, Bool.or_eq_false_iff, Bool.not_not, ne_eq, Int.not_lt, Int.not_le, Decidable.not_not, beq_iff_eq, bne_iff_ne] at hg44
              refine wl (wl_val hl rfl ⟨_, _, rfl, rfl, rfl⟩ (r_move hl rfl) ?_)
              clear hl a; intro a hl
              refine wl (wl_val hl rfl trivial (r_pickT hl rfl rfl) ?_)
              clear hl a; intro a hl
              refine wl (wl_val hl rfl trivial (r_move hl rfl) ?_)
              clear hl a; intro a hl
              refine sl_split (t := 57) hl rfl ?_ ?_
              · intro hg45; clear hl; intro hl
                try simp only [decide_eq_true_eq, decide_eq_false_iff_not, Bool.not_eq_true', Bool.not_eq_false', Bool.not_eq_true, Bool.not_eq_false, Bool.and_eq_true, Bool.or_eq_true, Bool.and_eq_false_iff, Bool.or_eq_false_iff, Bool.not_not, ne_eq, Int.not_lt, Int.not_le, Decidable.not_not, beq_iff_eq, bne_iff_ne] at hg45
                refine wl (wl_val hl rfl ⟨_, _, rfl, rfl, rfl⟩ (r_move hl rfl) ?_)
                clear hl a; intro a hl
                refine wl (wl_val hl rfl trivial (r_pickT hl rfl rfl) ?_)
                clear hl a; intro a hl
                refine wl (wl_val hl rfl trivial (r_move hl rfl) ?_)
                clear hl a; intro a hl
                refine wl (wl_skip hl rfl ⟨_, _, rfl, rfl, rfl⟩ ?_)
                clear hl a; intro a hl
                refine wl (wl_val hl rfl trivial (r_pickF hl rfl rfl) ?_)
                clear hl a; intro a hl
                refine wl (wl_val hl rfl trivial (r_move hl rfl) ?_)
                clear hl a; intro a hl
                refine wl (wl_skip hl rfl ⟨_, _, rfl, rfl, rfl⟩ ?_)
                clear hl a; intro a hl
                refine wl (wl_skip hl rfl ⟨_, _, rfl, rfl, rfl⟩ ?_)
                clear hl a; intro a hl
                refine wl (wl_skip hl rfl ⟨_, _, rfl, rfl, rfl⟩ ?_)
                clear hl a; intro a hl
                refine wl (wl_val hl rfl trivial (r_pickF hl rfl rfl) ?_)
                clear hl a; intro a hl
                refine wl (wl_val hl rfl trivial (r_assign hl rfl) ?_)
                clear hl a; intro a hl
                refine w_nil ?_
                have hl2 := hl.add (t := 2) (hl.nil) rfl; clear hl; have hl := hl2; clear hl2
                refine then_normal ?_
                refine wp_ret ?_
                refine blk_ret ?_
                refine then_ret ?_
                refine f_ret1 (F' := []) hl hh rfl rfl (by repeat (first | exact keeps_nil | apply keeps_cons (by repeat (first | exact find_head | apply find_tail)) (by first  | rfl) | exact keeps_self | apply keeps_mv)) ?_
                first | (exfalso; omega) | exact ⟨congrArg Value.bool (by unfold wfF; simp only; (repeat (first | rw [if_pos (by omega)] | rw [if_neg (by omega)])); (try simp only [noPr, nxV]); (first | rw [show noRl ⟨kd, dv, pr, ix, up, ra, rl, via, pm, da, dl, cl⟩ = true by assumption] | rw [show noRl ⟨kd, dv, pr, ix, up, ra, rl, via, pm, da, dl, cl⟩ = false by assumption] | skip); (first | rw [show noRt ⟨kd, dv, pr, ix, up, ra, rl, via, pm, da, dl, cl⟩ = true by assumption] | rw [show noRt ⟨kd, dv, pr, ix, up, ra, rl, via, pm, da, dl, cl⟩ = false by assumption] | skip); (first | rw [show gpF ra rl = true by assumption] | rw [show gpF ra rl = false by assumption] | skip); (first | rw [show gpF da dl = true by assumption] | rw [show gpF da dl = false by assumption] | skip); (first | rw [show decide (dv < 16) = true from decide_eq_true (by omega)] | rw [show decide (dv < 16) = false from decide_eq_false (by omega)] | skip); (first | rw [show decide (via = 16) = true from decide_eq_true (by omega)] | rw [show decide (via = 16) = false from decide_eq_false (by omega)] | skip); (first | rw [show decide (via < 16) = true from decide_eq_true (by omega)] | rw [show decide (via < 16) = false from decide_eq_false (by omega)] | skip); (first | rw [show decide (via = dv) = true from decide_eq_true (by omega)] | rw [show decide (via = dv) = false from decide_eq_false (by omega)] | skip); (first | rw [show decide (via = 0) = true from decide_eq_true (by omega)] | rw [show decide (via = 0) = false from decide_eq_false (by omega)] | skip); (first | rw [show decide (pr = 0) = true from decide_eq_true (by omega)] | rw [show decide (pr = 0) = false from decide_eq_false (by omega)] | skip); (first | rw [show decide (pr < 16) = true from decide_eq_true (by omega)] | rw [show decide (pr < 16) = false from decide_eq_false (by omega)] | skip); (first | rw [show decide (dv < pr) = true from decide_eq_true (by omega)] | rw [show decide (dv < pr) = false from decide_eq_false (by omega)] | skip); (first | rw [show decide (dv = pr) = true from decide_eq_true (by omega)] | rw [show decide (dv = pr) = false from decide_eq_false (by omega)] | skip); (first | rw [show decide (cl ≤ 16) = true from decide_eq_true (by omega)] | rw [show decide (cl ≤ 16) = false from decide_eq_false (by omega)] | skip); (first | rw [show decide (ix < 64) = true from decide_eq_true (by omega)] | rw [show decide (ix < 64) = false from decide_eq_false (by omega)] | skip); first | rfl | (simp only [Bool.true_and, Bool.and_true, Bool.false_and, Bool.and_false, Bool.true_or, Bool.false_or, Bool.or_false, Bool.or_true, Bool.not_true, Bool.not_false]; first | done | rfl | ((repeat (first | rw [show up = true by assumption] | rw [show up = false by assumption] | rw [show decide (ix = 0) = true from decide_eq_true (by omega)] | rw [show decide (ix = 0) = false from decide_eq_false (by omega)])); rfl))), rfl⟩
              · intro hg45; clear hl; intro hl
                try simp only [decide_eq_true_eq, decide_eq_false_iff_not, Bool.not_eq_true', Bool.not_eq_false', Bool.not_eq_true, Bool.not_eq_false, Bool.and_eq_true, Bool.or_eq_true, Bool.and_eq_false_iff, Bool.or_eq_false_iff, Bool.not_not, ne_eq, Int.not_lt, Int.not_le, Decidable.not_not, beq_iff_eq, bne_iff_ne] at hg45
                refine wl (wl_skip hl rfl ⟨_, _, rfl, rfl, rfl⟩ ?_)
                clear hl a; intro a hl
                refine wl (wl_val hl rfl trivial (r_pickF hl rfl rfl) ?_)
                clear hl a; intro a hl
                refine wl (wl_val hl rfl trivial (r_move hl rfl) ?_)
                clear hl a; intro a hl
                refine wl (wl_skip hl rfl ⟨_, _, rfl, rfl, rfl⟩ ?_)
                clear hl a; intro a hl
                refine wl (wl_val hl rfl trivial (r_pickF hl rfl rfl) ?_)
                clear hl a; intro a hl
                refine wl (wl_val hl rfl trivial (r_move hl rfl) ?_)
                clear hl a; intro a hl
                refine wl (wl_skip hl rfl ⟨_, _, rfl, rfl, rfl⟩ ?_)
                clear hl a; intro a hl
                refine wl (wl_skip hl rfl ⟨_, _, rfl, rfl, rfl⟩ ?_)
                clear hl a; intro a hl
                refine wl (wl_skip hl rfl ⟨_, _, rfl, rfl, rfl⟩ ?_)
                clear hl a; intro a hl
                refine wl (wl_val hl rfl trivial (r_pickF hl rfl rfl) ?_)
                clear hl a; intro a hl
                refine wl (wl_val hl rfl trivial (r_assign hl rfl) ?_)
                clear hl a; intro a hl
                refine w_nil ?_
                have hl2 := hl.add (t := 2) (hl.nil) rfl; clear hl; have hl := hl2; clear hl2
                refine then_normal ?_
                refine wp_ret ?_
                refine blk_ret ?_
                refine then_ret ?_
                refine f_ret1 (F' := []) hl hh rfl rfl (by repeat (first | exact keeps_nil | apply keeps_cons (by repeat (first | exact find_head | apply find_tail)) (by first  | rfl) | exact keeps_self | apply keeps_mv)) ?_
                first | (exfalso; omega) | exact ⟨congrArg Value.bool (by unfold wfF; simp only; (repeat (first | rw [if_pos (by omega)] | rw [if_neg (by omega)])); (try simp only [noPr, nxV]); (first | rw [show noRl ⟨kd, dv, pr, ix, up, ra, rl, via, pm, da, dl, cl⟩ = true by assumption] | rw [show noRl ⟨kd, dv, pr, ix, up, ra, rl, via, pm, da, dl, cl⟩ = false by assumption] | skip); (first | rw [show noRt ⟨kd, dv, pr, ix, up, ra, rl, via, pm, da, dl, cl⟩ = true by assumption] | rw [show noRt ⟨kd, dv, pr, ix, up, ra, rl, via, pm, da, dl, cl⟩ = false by assumption] | skip); (first | rw [show gpF ra rl = true by assumption] | rw [show gpF ra rl = false by assumption] | skip); (first | rw [show gpF da dl = true by assumption] | rw [show gpF da dl = false by assumption] | skip); (first | rw [show decide (dv < 16) = true from decide_eq_true (by omega)] | rw [show decide (dv < 16) = false from decide_eq_false (by omega)] | skip); (first | rw [show decide (via = 16) = true from decide_eq_true (by omega)] | rw [show decide (via = 16) = false from decide_eq_false (by omega)] | skip); (first | rw [show decide (via < 16) = true from decide_eq_true (by omega)] | rw [show decide (via < 16) = false from decide_eq_false (by omega)] | skip); (first | rw [show decide (via = dv) = true from decide_eq_true (by omega)] | rw [show decide (via = dv) = false from decide_eq_false (by omega)] | skip); (first | rw [show decide (via = 0) = true from decide_eq_true (by omega)] | rw [show decide (via = 0) = false from decide_eq_false (by omega)] | skip); (first | rw [show decide (pr = 0) = true from decide_eq_true (by omega)] | rw [show decide (pr = 0) = false from decide_eq_false (by omega)] | skip); (first | rw [show decide (pr < 16) = true from decide_eq_true (by omega)] | rw [show decide (pr < 16) = false from decide_eq_false (by omega)] | skip); (first | rw [show decide (dv < pr) = true from decide_eq_true (by omega)] | rw [show decide (dv < pr) = false from decide_eq_false (by omega)] | skip); (first | rw [show decide (dv = pr) = true from decide_eq_true (by omega)] | rw [show decide (dv = pr) = false from decide_eq_false (by omega)] | skip); (first | rw [show decide (cl ≤ 16) = true from decide_eq_true (by omega)] | rw [show decide (cl ≤ 16) = false from decide_eq_false (by omega)] | skip); (first | rw [show decide (ix < 64) = true from decide_eq_true (by omega)] | rw [show decide (ix < 64) = false from decide_eq_false (by omega)] | skip); first | rfl | (simp only [Bool.true_and, Bool.and_true, Bool.false_and, Bool.and_false, Bool.true_or, Bool.false_or, Bool.or_false, Bool.or_true, Bool.not_true, Bool.not_false]; first | done | rfl | ((repeat (first | rw [show up = true by assumption] | rw [show up = false by assumption] | rw [show decide (ix = 0) = true from decide_eq_true (by omega)] | rw [show decide (ix = 0) = false from decide_eq_false (by omega)])); rfl))), rfl⟩
            · intro hg44; clear hl; intro hl
              try simp only [decide_eq_true_eq, decide_eq_false_iff_not, Bool.not_eq_true', Bool.not_eq_false', Bool.not_eq_true, Bool.not_eq_false, Bool.and_eq_true, Bool.or_eq_true, Bool.and_eq_false_iff, Bool.or_eq_false_iff, Bool.not_not, ne_eq, Int.not_lt, Int.not_le, Decidable.not_not, beq_iff_eq, bne_iff_ne] at hg44
              refine wl (wl_skip hl rfl ⟨_, _, rfl, rfl, rfl⟩ ?_)
              clear hl a; intro a hl
              refine wl (wl_val hl rfl trivial (r_pickF hl rfl rfl) ?_)
              clear hl a; intro a hl
              refine wl (wl_val hl rfl trivial (r_move hl rfl) ?_)
              clear hl a; intro a hl
              refine wl (wl_skip hl rfl ⟨_, _, rfl, rfl, rfl⟩ ?_)
              clear hl a; intro a hl
              refine wl (wl_val hl rfl trivial (r_pickF hl rfl rfl) ?_)
              clear hl a; intro a hl
              refine wl (wl_val hl rfl trivial (r_move hl rfl) ?_)
              clear hl a; intro a hl
              refine wl (wl_skip hl rfl ⟨_, _, rfl, rfl, rfl⟩ ?_)
              clear hl a; intro a hl
              refine wl (wl_val hl rfl trivial (r_pickF hl rfl rfl) ?_)
              clear hl a; intro a hl
              refine wl (wl_val hl rfl trivial (r_move hl rfl) ?_)
              clear hl a; intro a hl
              refine wl (wl_skip hl rfl ⟨_, _, rfl, rfl, rfl⟩ ?_)
              clear hl a; intro a hl
              refine wl (wl_skip hl rfl ⟨_, _, rfl, rfl, rfl⟩ ?_)
              clear hl a; intro a hl
              refine wl (wl_skip hl rfl ⟨_, _, rfl, rfl, rfl⟩ ?_)
              clear hl a; intro a hl
              refine wl (wl_val hl rfl trivial (r_pickF hl rfl rfl) ?_)
              clear hl a; intro a hl
              refine wl (wl_val hl rfl trivial (r_assign hl rfl) ?_)
              clear hl a; intro a hl
              refine w_nil ?_
              have hl2 := hl.add (t := 2) (hl.nil) rfl; clear hl; have hl := hl2; clear hl2
              refine then_normal ?_
              refine wp_ret ?_
              refine blk_ret ?_
              refine then_ret ?_
              refine f_ret1 (F' := []) hl hh rfl rfl (by repeat (first | exact keeps_nil | apply keeps_cons (by repeat (first | exact find_head | apply find_tail)) (by first  | rfl) | exact keeps_self | apply keeps_mv)) ?_
              first | (exfalso; omega) | exact ⟨congrArg Value.bool (by unfold wfF; simp only; (repeat (first | rw [if_pos (by omega)] | rw [if_neg (by omega)])); (try simp only [noPr, nxV]); (first | rw [show noRl ⟨kd, dv, pr, ix, up, ra, rl, via, pm, da, dl, cl⟩ = true by assumption] | rw [show noRl ⟨kd, dv, pr, ix, up, ra, rl, via, pm, da, dl, cl⟩ = false by assumption] | skip); (first | rw [show noRt ⟨kd, dv, pr, ix, up, ra, rl, via, pm, da, dl, cl⟩ = true by assumption] | rw [show noRt ⟨kd, dv, pr, ix, up, ra, rl, via, pm, da, dl, cl⟩ = false by assumption] | skip); (first | rw [show gpF ra rl = true by assumption] | rw [show gpF ra rl = false by assumption] | skip); (first | rw [show gpF da dl = true by assumption] | rw [show gpF da dl = false by assumption] | skip); (first | rw [show decide (dv < 16) = true from decide_eq_true (by omega)] | rw [show decide (dv < 16) = false from decide_eq_false (by omega)] | skip); (first | rw [show decide (via = 16) = true from decide_eq_true (by omega)] | rw [show decide (via = 16) = false from decide_eq_false (by omega)] | skip); (first | rw [show decide (via < 16) = true from decide_eq_true (by omega)] | rw [show decide (via < 16) = false from decide_eq_false (by omega)] | skip); (first | rw [show decide (via = dv) = true from decide_eq_true (by omega)] | rw [show decide (via = dv) = false from decide_eq_false (by omega)] | skip); (first | rw [show decide (via = 0) = true from decide_eq_true (by omega)] | rw [show decide (via = 0) = false from decide_eq_false (by omega)] | skip); (first | rw [show decide (pr = 0) = true from decide_eq_true (by omega)] | rw [show decide (pr = 0) = false from decide_eq_false (by omega)] | skip); (first | rw [show decide (pr < 16) = true from decide_eq_true (by omega)] | rw [show decide (pr < 16) = false from decide_eq_false (by omega)] | skip); (first | rw [show decide (dv < pr) = true from decide_eq_true (by omega)] | rw [show decide (dv < pr) = false from decide_eq_false (by omega)] | skip); (first | rw [show decide (dv = pr) = true from decide_eq_true (by omega)] | rw [show decide (dv = pr) = false from decide_eq_false (by omega)] | skip); (first | rw [show decide (cl ≤ 16) = true from decide_eq_true (by omega)] | rw [show decide (cl ≤ 16) = false from decide_eq_false (by omega)] | skip); (first | rw [show decide (ix < 64) = true from decide_eq_true (by omega)] | rw [show decide (ix < 64) = false from decide_eq_false (by omega)] | skip); first | rfl | (simp only [Bool.true_and, Bool.and_true, Bool.false_and, Bool.and_false, Bool.true_or, Bool.false_or, Bool.or_false, Bool.or_true, Bool.not_true, Bool.not_false]; first | done | rfl | ((repeat (first | rw [show up = true by assumption] | rw [show up = false by assumption] | rw [show decide (ix = 0) = true from decide_eq_true (by omega)] | rw [show decide (ix = 0) = false from decide_eq_false (by omega)])); rfl))), rfl⟩
          · intro hg43; clear hl; intro hl
            try simp only [decide_eq_true_eq, decide_eq_false_iff_not, Bool.not_eq_true', Bool.not_eq_false', Bool.not_eq_true, Bool.not_eq_false, Bool.and_eq_true, Bool.or_eq_true, Bool.and_eq_false_iff, Bool.or_eq_false_iff, Bool.not_not, ne_eq, Int.not_lt, Int.not_le, Decidable.not_not, beq_iff_eq, bne_iff_ne] at hg43
            refine wl (wl_skip hl rfl ⟨_, _, rfl, rfl, rfl⟩ ?_)
            clear hl a; intro a hl
            refine wl (wl_skip hl rfl ⟨_, _, rfl, rfl, rfl⟩ ?_)
            clear hl a; intro a hl
            refine wl (wl_skip hl rfl ⟨_, _, rfl, rfl, rfl⟩ ?_)
            clear hl a; intro a hl
            refine wl (wl_skip hl rfl ⟨_, _, rfl, rfl, rfl⟩ ?_)
            clear hl a; intro a hl
            refine wl (wl_val hl rfl trivial (r_pickF hl rfl rfl) ?_)
            clear hl a; intro a hl
            refine wl (wl_val hl rfl trivial (r_move hl rfl) ?_)
            clear hl a; intro a hl
            refine wl (wl_skip hl rfl ⟨_, _, rfl, rfl, rfl⟩ ?_)
            clear hl a; intro a hl
            refine wl (wl_val hl rfl trivial (r_pickF hl rfl rfl) ?_)
            clear hl a; intro a hl
            refine wl (wl_val hl rfl trivial (r_move hl rfl) ?_)
            clear hl a; intro a hl
            refine wl (wl_skip hl rfl ⟨_, _, rfl, rfl, rfl⟩ ?_)
            clear hl a; intro a hl
            refine wl (wl_val hl rfl trivial (r_pickF hl rfl rfl) ?_)
            clear hl a; intro a hl
            refine wl (wl_val hl rfl trivial (r_move hl rfl) ?_)
            clear hl a; intro a hl
            refine wl (wl_skip hl rfl ⟨_, _, rfl, rfl, rfl⟩ ?_)
            clear hl a; intro a hl
            refine wl (wl_val hl rfl trivial (r_pickF hl rfl rfl) ?_)
            clear hl a; intro a hl
            refine wl (wl_val hl rfl trivial (r_move hl rfl) ?_)
            clear hl a; intro a hl
            refine wl (wl_skip hl rfl ⟨_, _, rfl, rfl, rfl⟩ ?_)
            clear hl a; intro a hl
            refine wl (wl_skip hl rfl ⟨_, _, rfl, rfl, rfl⟩ ?_)
            clear hl a; intro a hl
            refine wl (wl_skip hl rfl ⟨_, _, rfl, rfl, rfl⟩ ?_)
            clear hl a; intro a hl
            refine wl (wl_val hl rfl trivial (r_pickF hl rfl rfl) ?_)
            clear hl a; intro a hl
            refine wl (wl_val hl rfl trivial (r_assign hl rfl) ?_)
            clear hl a; intro a hl
            refine w_nil ?_
            have hl2 := hl.add (t := 2) (hl.nil) rfl; clear hl; have hl := hl2; clear hl2
            refine then_normal ?_
            refine wp_ret ?_
            refine blk_ret ?_
            refine then_ret ?_
            refine f_ret1 (F' := []) hl hh rfl rfl (by repeat (first | exact keeps_nil | apply keeps_cons (by repeat (first | exact find_head | apply find_tail)) (by first  | rfl) | exact keeps_self | apply keeps_mv)) ?_
            first | (exfalso; omega) | exact ⟨congrArg Value.bool (by unfold wfF; simp only; (repeat (first | rw [if_pos (by omega)] | rw [if_neg (by omega)])); (try simp only [noPr, nxV]); (first | rw [show noRl ⟨kd, dv, pr, ix, up, ra, rl, via, pm, da, dl, cl⟩ = true by assumption] | rw [show noRl ⟨kd, dv, pr, ix, up, ra, rl, via, pm, da, dl, cl⟩ = false by assumption] | skip); (first | rw [show noRt ⟨kd, dv, pr, ix, up, ra, rl, via, pm, da, dl, cl⟩ = true by assumption] | rw [show noRt ⟨kd, dv, pr, ix, up, ra, rl, via, pm, da, dl, cl⟩ = false by assumption] | skip); (first | rw [show gpF ra rl = true by assumption] | rw [show gpF ra rl = false by assumption] | skip); (first | rw [show gpF da dl = true by assumption] | rw [show gpF da dl = false by assumption] | skip); (first | rw [show decide (dv < 16) = true from decide_eq_true (by omega)] | rw [show decide (dv < 16) = false from decide_eq_false (by omega)] | skip); (first | rw [show decide (via = 16) = true from decide_eq_true (by omega)] | rw [show decide (via = 16) = false from decide_eq_false (by omega)] | skip); (first | rw [show decide (via < 16) = true from decide_eq_true (by omega)] | rw [show decide (via < 16) = false from decide_eq_false (by omega)] | skip); (first | rw [show decide (via = dv) = true from decide_eq_true (by omega)] | rw [show decide (via = dv) = false from decide_eq_false (by omega)] | skip); (first | rw [show decide (via = 0) = true from decide_eq_true (by omega)] | rw [show decide (via = 0) = false from decide_eq_false (by omega)] | skip); (first | rw [show decide (pr = 0) = true from decide_eq_true (by omega)] | rw [show decide (pr = 0) = false from decide_eq_false (by omega)] | skip); (first | rw [show decide (pr < 16) = true from decide_eq_true (by omega)] | rw [show decide (pr < 16) = false from decide_eq_false (by omega)] | skip); (first | rw [show decide (dv < pr) = true from decide_eq_true (by omega)] | rw [show decide (dv < pr) = false from decide_eq_false (by omega)] | skip); (first | rw [show decide (dv = pr) = true from decide_eq_true (by omega)] | rw [show decide (dv = pr) = false from decide_eq_false (by omega)] | skip); (first | rw [show decide (cl ≤ 16) = true from decide_eq_true (by omega)] | rw [show decide (cl ≤ 16) = false from decide_eq_false (by omega)] | skip); (first | rw [show decide (ix < 64) = true from decide_eq_true (by omega)] | rw [show decide (ix < 64) = false from decide_eq_false (by omega)] | skip); first | rfl | (simp only [Bool.true_and, Bool.and_true, Bool.false_and, Bool.and_false, Bool.true_or, Bool.false_or, Bool.or_false, Bool.or_true, Bool.not_true, Bool.not_false]; first | done | rfl | ((repeat (first | rw [show up = true by assumption] | rw [show up = false by assumption] | rw [show decide (ix = 0) = true from decide_eq_true (by omega)] | rw [show decide (ix = 0) = false from decide_eq_false (by omega)])); rfl))), rfl⟩
        · intro hg42; clear hl; intro hl
          try simp only [decide_eq_true_eq, decide_eq_false_iff_not, Bool.not_eq_true', Bool.not_eq_false', Bool.not_eq_true, Bool.not_eq_false, Bool.and_eq_true, Bool.or_eq_true, Bool.and_eq_false_iff, Bool.or_eq_false_iff, Bool.not_not, ne_eq, Int.not_lt, Int.not_le, Decidable.not_not, beq_iff_eq, bne_iff_ne] at hg42
          refine wl (wl_skip hl rfl ⟨_, _, rfl, rfl, rfl⟩ ?_)
          clear hl a; intro a hl
          refine wl (wl_skip hl rfl ⟨_, _, rfl, rfl, rfl⟩ ?_)
          clear hl a; intro a hl
          refine wl (wl_skip hl rfl ⟨_, _, rfl, rfl, rfl⟩ ?_)
          clear hl a; intro a hl
          refine wl (wl_skip hl rfl ⟨_, _, rfl, rfl, rfl⟩ ?_)
          clear hl a; intro a hl
          refine wl (wl_skip hl rfl ⟨_, _, rfl, rfl, rfl⟩ ?_)
          clear hl a; intro a hl
          refine wl (wl_skip hl rfl ⟨_, _, rfl, rfl, rfl⟩ ?_)
          clear hl a; intro a hl
          refine wl (wl_val hl rfl ⟨_, _, rfl, rfl, rfl⟩ (r_pickF hl rfl rfl) ?_)
          clear hl a; intro a hl
          refine wl (wl_val hl rfl trivial (r_pickF hl rfl rfl) ?_)
          clear hl a; intro a hl
          refine wl (wl_val hl rfl trivial (r_assign hl rfl) ?_)
          clear hl a; intro a hl
          refine w_nil ?_
          have hl2 := hl.add (t := 1) (hl.add (t := 3) (hl.add (t := 5) (hl.add (t := 6) (hl.nil) rfl) rfl) rfl) rfl; clear hl; have hl := hl2; clear hl2
          refine then_normal ?_
          refine c_seq ?_
          refine c_region ?_
          refine wl (wl_val hl rfl trivial (r_field hl rfl fld57_1) ?_)
          clear hl a; intro a hl
          refine wl (w_load hl hh rfl trivial one5 rfl (by repeat (first | exact find_head | apply find_tail)) (by first | rfl) ?_)
          clear hl a; intro a hl
          refine wl (w_call hl hh rfl trivial rfl cal64 rfl (isDeviceM _) (by repeat (first | exact keeps_nil | apply keeps_cons (by repeat (first | exact find_head | apply find_tail)) (by first  | rfl) | exact keeps_self | apply keeps_mv)) trivial ?_)
          clear hl hh a w; intro vc Fc a w hR hl hh
          obtain ⟨rfl, rfl⟩ := hR
          try simp only [List.cons_append, List.nil_append] at hh
          refine wl (wl_val hl rfl trivial (r_move hl rfl) ?_)
          clear hl a; intro a hl
          refine sl_split (t := 48) hl rfl ?_ ?_
          · intro hg46; clear hl; intro hl
            try simp only [decide_eq_true_eq, decide_eq_false_iff_not, Bool.not_eq_true', Bool.not_eq_false', Bool.not_eq_true, Bool.not_eq_false, Bool.and_eq_true, Bool.or_eq_true, Bool.and_eq_false_iff, Bool.or_eq_false_iff, Bool.not_not, ne_eq, Int.not_lt, Int.not_le, Decidable.not_not, beq_iff_eq, bne_iff_ne] at hg46
            refine wl (wl_val hl rfl ⟨_, _, rfl, rfl, rfl⟩ (r_field hl rfl fld57_5) ?_)
            clear hl a; intro a hl
            refine wl (wl_val hl rfl ⟨_, _, rfl, rfl, rfl⟩ (r_field hl rfl fld53_0) ?_)
            clear hl a; intro a hl
            refine wl (w_loadA hl hh rfl ⟨_, _, rfl, rfl, rfl⟩ agg51 rfl (by repeat (first | exact find_head | apply find_tail)) (by first | (simp only [List.getElem?_cons_zero, List.getElem?_cons_succ, Value.cells, List.take_zero, List.take_succ_cons, List.take_nil, List.drop_zero, List.drop_succ_cons, List.drop_nil, List.length_cons, List.length_nil, List.cons_append, List.nil_append, List.append_nil, Nat.zero_add, Nat.add_zero, Nat.reduceAdd, Nat.reduceBEq, Nat.reduceEqDiff, Nat.ble, BEq.rfl, Bool.and_true, Bool.and_self, cond_true, beq_self_eq_true]; rfl)) (by first | rfl | (simp; done)) ?_)
            clear hl a; intro a hl
            refine wl (w_call hl hh rfl ⟨_, _, rfl, rfl, rfl⟩ rfl cal65 rfl (isPrefixM _ _ (by omega) (by omega) (by omega) (by omega)) (by repeat (first | exact keeps_nil | apply keeps_cons (by repeat (first | exact find_head | apply find_tail)) (by first  | rfl) | exact keeps_self | apply keeps_mv)) trivial ?_)
            clear hl hh a w; intro vc Fc a w hR hl hh
            obtain ⟨rfl, rfl⟩ := hR
            try simp only [List.cons_append, List.nil_append] at hh
            refine wl (wl_val hl rfl trivial (r_pickT hl rfl rfl) ?_)
            clear hl a; intro a hl
            refine wl (wl_val hl rfl trivial (r_move hl rfl) ?_)
            clear hl a; intro a hl
            refine sl_split (t := 54) hl rfl ?_ ?_
            · intro hg47; clear hl; intro hl
              try simp only [decide_eq_true_eq, decide_eq_false_iff_not, Bool.not_eq_true', Bool.not_eq_false', Bool.not_eq_true, Bool.not_eq_false, Bool.and_eq_true, Bool.or_eq_true, Bool.and_eq_false_iff, Bool.or_eq_false_iff, Bool.not_not, ne_eq, Int.not_lt, Int.not_le, Decidable.not_not, beq_iff_eq, bne_iff_ne] at hg47
              refine wl (wl_val hl rfl ⟨_, _, rfl, rfl, rfl⟩ (r_move hl rfl) ?_)
              clear hl a; intro a hl
              refine wl (wl_val hl rfl trivial (r_pickT hl rfl rfl) ?_)
              clear hl a; intro a hl
              refine wl (wl_val hl rfl trivial (r_move hl rfl) ?_)
              clear hl a; intro a hl
              refine wl (wl_skip hl rfl ⟨_, _, rfl, rfl, rfl⟩ ?_)
              clear hl a; intro a hl
              refine wl (wl_val hl rfl trivial (r_pickF hl rfl rfl) ?_)
              clear hl a; intro a hl
              refine wl (wl_val hl rfl trivial (r_move hl rfl) ?_)
              clear hl a; intro a hl
              refine wl (wl_skip hl rfl ⟨_, _, rfl, rfl, rfl⟩ ?_)
              clear hl a; intro a hl
              refine wl (wl_val hl rfl trivial (r_pickF hl rfl rfl) ?_)
              clear hl a; intro a hl
              refine wl (wl_val hl rfl trivial (r_move hl rfl) ?_)
              clear hl a; intro a hl
              refine wl (wl_skip hl rfl ⟨_, _, rfl, rfl, rfl⟩ ?_)
              clear hl a; intro a hl
              refine wl (wl_skip hl rfl ⟨_, _, rfl, rfl, rfl⟩ ?_)
              clear hl a; intro a hl
              refine wl (wl_skip hl rfl ⟨_, _, rfl, rfl, rfl⟩ ?_)
              clear hl a; intro a hl
              refine wl (wl_val hl rfl trivial (r_pickF hl rfl rfl) ?_)
              clear hl a; intro a hl
              refine wl (wl_val hl rfl trivial (r_assign hl rfl) ?_)
              clear hl a; intro a hl
              refine w_nil ?_
              have hl2 := hl.add (t := 2) (hl.nil) rfl; clear hl; have hl := hl2; clear hl2
              refine then_normal ?_
              refine wp_ret ?_
              refine blk_ret ?_
              refine then_ret ?_
              refine f_ret1 (F' := []) hl hh rfl rfl (by repeat (first | exact keeps_nil | apply keeps_cons (by repeat (first | exact find_head | apply find_tail)) (by first  | rfl) | exact keeps_self | apply keeps_mv)) ?_
              first | (exfalso; omega) | exact ⟨congrArg Value.bool (by unfold wfF; simp only; (repeat (first | rw [if_pos (by omega)] | rw [if_neg (by omega)])); (try simp only [noPr, nxV]); (first | rw [show noRl ⟨kd, dv, pr, ix, up, ra, rl, via, pm, da, dl, cl⟩ = true by assumption] | rw [show noRl ⟨kd, dv, pr, ix, up, ra, rl, via, pm, da, dl, cl⟩ = false by assumption] | skip); (first | rw [show noRt ⟨kd, dv, pr, ix, up, ra, rl, via, pm, da, dl, cl⟩ = true by assumption] | rw [show noRt ⟨kd, dv, pr, ix, up, ra, rl, via, pm, da, dl, cl⟩ = false by assumption] | skip); (first | rw [show gpF ra rl = true by assumption] | rw [show gpF ra rl = false by assumption] | skip); (first | rw [show gpF da dl = true by assumption] | rw [show gpF da dl = false by assumption] | skip); (first | rw [show decide (dv < 16) = true from decide_eq_true (by omega)] | rw [show decide (dv < 16) = false from decide_eq_false (by omega)] | skip); (first | rw [show decide (via = 16) = true from decide_eq_true (by omega)] | rw [show decide (via = 16) = false from decide_eq_false (by omega)] | skip); (first | rw [show decide (via < 16) = true from decide_eq_true (by omega)] | rw [show decide (via < 16) = false from decide_eq_false (by omega)] | skip); (first | rw [show decide (via = dv) = true from decide_eq_true (by omega)] | rw [show decide (via = dv) = false from decide_eq_false (by omega)] | skip); (first | rw [show decide (via = 0) = true from decide_eq_true (by omega)] | rw [show decide (via = 0) = false from decide_eq_false (by omega)] | skip); (first | rw [show decide (pr = 0) = true from decide_eq_true (by omega)] | rw [show decide (pr = 0) = false from decide_eq_false (by omega)] | skip); (first | rw [show decide (pr < 16) = true from decide_eq_true (by omega)] | rw [show decide (pr < 16) = false from decide_eq_false (by omega)] | skip); (first | rw [show decide (dv < pr) = true from decide_eq_true (by omega)] | rw [show decide (dv < pr) = false from decide_eq_false (by omega)] | skip); (first | rw [show decide (dv = pr) = true from decide_eq_true (by omega)] | rw [show decide (dv = pr) = false from decide_eq_false (by omega)] | skip); (first | rw [show decide (cl ≤ 16) = true from decide_eq_true (by omega)] | rw [show decide (cl ≤ 16) = false from decide_eq_false (by omega)] | skip); (first | rw [show decide (ix < 64) = true from decide_eq_true (by omega)] | rw [show decide (ix < 64) = false from decide_eq_false (by omega)] | skip); first | rfl | (simp only [Bool.true_and, Bool.and_true, Bool.false_and, Bool.and_false, Bool.true_or, Bool.false_or, Bool.or_false, Bool.or_true, Bool.not_true, Bool.not_false]; first | done | rfl | ((repeat (first | rw [show up = true by assumption] | rw [show up = false by assumption] | rw [show decide (ix = 0) = true from decide_eq_true (by omega)] | rw [show decide (ix = 0) = false from decide_eq_false (by omega)])); rfl))), rfl⟩
            · intro hg47; clear hl; intro hl
              try simp only [decide_eq_true_eq, decide_eq_false_iff_not, Bool.not_eq_true', Bool.not_eq_false', Bool.not_eq_true, Bool.not_eq_false, Bool.and_eq_true, Bool.or_eq_true, Bool.and_eq_false_iff, Bool.or_eq_false_iff, Bool.not_not, ne_eq, Int.not_lt, Int.not_le, Decidable.not_not, beq_iff_eq, bne_iff_ne] at hg47
              refine wl (wl_skip hl rfl ⟨_, _, rfl, rfl, rfl⟩ ?_)
              clear hl a; intro a hl
              refine wl (wl_val hl rfl trivial (r_pickF hl rfl rfl) ?_)
              clear hl a; intro a hl
              refine wl (wl_val hl rfl trivial (r_move hl rfl) ?_)
              clear hl a; intro a hl
              refine wl (wl_skip hl rfl ⟨_, _, rfl, rfl, rfl⟩ ?_)
              clear hl a; intro a hl
              refine wl (wl_val hl rfl trivial (r_pickF hl rfl rfl) ?_)
              clear hl a; intro a hl
              refine wl (wl_val hl rfl trivial (r_move hl rfl) ?_)
              clear hl a; intro a hl
              refine wl (wl_skip hl rfl ⟨_, _, rfl, rfl, rfl⟩ ?_)
              clear hl a; intro a hl
              refine wl (wl_val hl rfl trivial (r_pickF hl rfl rfl) ?_)
              clear hl a; intro a hl
              refine wl (wl_val hl rfl trivial (r_move hl rfl) ?_)
              clear hl a; intro a hl
              refine wl (wl_skip hl rfl ⟨_, _, rfl, rfl, rfl⟩ ?_)
              clear hl a; intro a hl
              refine wl (wl_skip hl rfl ⟨_, _, rfl, rfl, rfl⟩ ?_)
              clear hl a; intro a hl
              refine wl (wl_skip hl rfl ⟨_, _, rfl, rfl, rfl⟩ ?_)
              clear hl a; intro a hl
              refine wl (wl_val hl rfl trivial (r_pickF hl rfl rfl) ?_)
              clear hl a; intro a hl
              refine wl (wl_val hl rfl trivial (r_assign hl rfl) ?_)
              clear hl a; intro a hl
              refine w_nil ?_
              have hl2 := hl.add (t := 2) (hl.nil) rfl; clear hl; have hl := hl2; clear hl2
              refine then_normal ?_
              refine wp_ret ?_
              refine blk_ret ?_
              refine then_ret ?_
              refine f_ret1 (F' := []) hl hh rfl rfl (by repeat (first | exact keeps_nil | apply keeps_cons (by repeat (first | exact find_head | apply find_tail)) (by first  | rfl) | exact keeps_self | apply keeps_mv)) ?_
              first | (exfalso; omega) | exact ⟨congrArg Value.bool (by unfold wfF; simp only; (repeat (first | rw [if_pos (by omega)] | rw [if_neg (by omega)])); (try simp only [noPr, nxV]); (first | rw [show noRl ⟨kd, dv, pr, ix, up, ra, rl, via, pm, da, dl, cl⟩ = true by assumption] | rw [show noRl ⟨kd, dv, pr, ix, up, ra, rl, via, pm, da, dl, cl⟩ = false by assumption] | skip); (first | rw [show noRt ⟨kd, dv, pr, ix, up, ra, rl, via, pm, da, dl, cl⟩ = true by assumption] | rw [show noRt ⟨kd, dv, pr, ix, up, ra, rl, via, pm, da, dl, cl⟩ = false by assumption] | skip); (first | rw [show gpF ra rl = true by assumption] | rw [show gpF ra rl = false by assumption] | skip); (first | rw [show gpF da dl = true by assumption] | rw [show gpF da dl = false by assumption] | skip); (first | rw [show decide (dv < 16) = true from decide_eq_true (by omega)] | rw [show decide (dv < 16) = false from decide_eq_false (by omega)] | skip); (first | rw [show decide (via = 16) = true from decide_eq_true (by omega)] | rw [show decide (via = 16) = false from decide_eq_false (by omega)] | skip); (first | rw [show decide (via < 16) = true from decide_eq_true (by omega)] | rw [show decide (via < 16) = false from decide_eq_false (by omega)] | skip); (first | rw [show decide (via = dv) = true from decide_eq_true (by omega)] | rw [show decide (via = dv) = false from decide_eq_false (by omega)] | skip); (first | rw [show decide (via = 0) = true from decide_eq_true (by omega)] | rw [show decide (via = 0) = false from decide_eq_false (by omega)] | skip); (first | rw [show decide (pr = 0) = true from decide_eq_true (by omega)] | rw [show decide (pr = 0) = false from decide_eq_false (by omega)] | skip); (first | rw [show decide (pr < 16) = true from decide_eq_true (by omega)] | rw [show decide (pr < 16) = false from decide_eq_false (by omega)] | skip); (first | rw [show decide (dv < pr) = true from decide_eq_true (by omega)] | rw [show decide (dv < pr) = false from decide_eq_false (by omega)] | skip); (first | rw [show decide (dv = pr) = true from decide_eq_true (by omega)] | rw [show decide (dv = pr) = false from decide_eq_false (by omega)] | skip); (first | rw [show decide (cl ≤ 16) = true from decide_eq_true (by omega)] | rw [show decide (cl ≤ 16) = false from decide_eq_false (by omega)] | skip); (first | rw [show decide (ix < 64) = true from decide_eq_true (by omega)] | rw [show decide (ix < 64) = false from decide_eq_false (by omega)] | skip); first | rfl | (simp only [Bool.true_and, Bool.and_true, Bool.false_and, Bool.and_false, Bool.true_or, Bool.false_or, Bool.or_false, Bool.or_true, Bool.not_true, Bool.not_false]; first | done | rfl | ((repeat (first | rw [show up = true by assumption] | rw [show up = false by assumption] | rw [show decide (ix = 0) = true from decide_eq_true (by omega)] | rw [show decide (ix = 0) = false from decide_eq_false (by omega)])); rfl))), rfl⟩
          · intro hg46; clear hl; intro hl
            try simp only [decide_eq_true_eq, decide_eq_false_iff_not, Bool.not_eq_true', Bool.not_eq_false', Bool.not_eq_true, Bool.not_eq_false, Bool.and_eq_true, Bool.or_eq_true, Bool.and_eq_false_iff, Bool.or_eq_false_iff, Bool.not_not, ne_eq, Int.not_lt, Int.not_le, Decidable.not_not, beq_iff_eq, bne_iff_ne] at hg46
            refine wl (wl_skip hl rfl ⟨_, _, rfl, rfl, rfl⟩ ?_)
            clear hl a; intro a hl
            refine wl (wl_skip hl rfl ⟨_, _, rfl, rfl, rfl⟩ ?_)
            clear hl a; intro a hl
            refine wl (wl_skip hl rfl ⟨_, _, rfl, rfl, rfl⟩ ?_)
            clear hl a; intro a hl
            refine wl (wl_skip hl rfl ⟨_, _, rfl, rfl, rfl⟩ ?_)
            clear hl a; intro a hl
            refine wl (wl_val hl rfl trivial (r_pickF hl rfl rfl) ?_)
            clear hl a; intro a hl
            refine wl (wl_val hl rfl trivial (r_move hl rfl) ?_)
            clear hl a; intro a hl
            refine wl (wl_skip hl rfl ⟨_, _, rfl, rfl, rfl⟩ ?_)
            clear hl a; intro a hl
            refine wl (wl_val hl rfl trivial (r_pickF hl rfl rfl) ?_)
            clear hl a; intro a hl
            refine wl (wl_val hl rfl trivial (r_move hl rfl) ?_)
            clear hl a; intro a hl
            refine wl (wl_skip hl rfl ⟨_, _, rfl, rfl, rfl⟩ ?_)
            clear hl a; intro a hl
            refine wl (wl_val hl rfl trivial (r_pickF hl rfl rfl) ?_)
            clear hl a; intro a hl
            refine wl (wl_val hl rfl trivial (r_move hl rfl) ?_)
            clear hl a; intro a hl
            refine wl (wl_skip hl rfl ⟨_, _, rfl, rfl, rfl⟩ ?_)
            clear hl a; intro a hl
            refine wl (wl_val hl rfl trivial (r_pickF hl rfl rfl) ?_)
            clear hl a; intro a hl
            refine wl (wl_val hl rfl trivial (r_move hl rfl) ?_)
            clear hl a; intro a hl
            refine wl (wl_skip hl rfl ⟨_, _, rfl, rfl, rfl⟩ ?_)
            clear hl a; intro a hl
            refine wl (wl_skip hl rfl ⟨_, _, rfl, rfl, rfl⟩ ?_)
            clear hl a; intro a hl
            refine wl (wl_skip hl rfl ⟨_, _, rfl, rfl, rfl⟩ ?_)
            clear hl a; intro a hl
            refine wl (wl_val hl rfl trivial (r_pickF hl rfl rfl) ?_)
            clear hl a; intro a hl
            refine wl (wl_val hl rfl trivial (r_assign hl rfl) ?_)
            clear hl a; intro a hl
            refine w_nil ?_
            have hl2 := hl.add (t := 2) (hl.nil) rfl; clear hl; have hl := hl2; clear hl2
            refine then_normal ?_
            refine wp_ret ?_
            refine blk_ret ?_
            refine then_ret ?_
            refine f_ret1 (F' := []) hl hh rfl rfl (by repeat (first | exact keeps_nil | apply keeps_cons (by repeat (first | exact find_head | apply find_tail)) (by first  | rfl) | exact keeps_self | apply keeps_mv)) ?_
            first | (exfalso; omega) | exact ⟨congrArg Value.bool (by unfold wfF; simp only; (repeat (first | rw [if_pos (by omega)] | rw [if_neg (by omega)])); (try simp only [noPr, nxV]); (first | rw [show noRl ⟨kd, dv, pr, ix, up, ra, rl, via, pm, da, dl, cl⟩ = true by assumption] | rw [show noRl ⟨kd, dv, pr, ix, up, ra, rl, via, pm, da, dl, cl⟩ = false by assumption] | skip); (first | rw [show noRt ⟨kd, dv, pr, ix, up, ra, rl, via, pm, da, dl, cl⟩ = true by assumption] | rw [show noRt ⟨kd, dv, pr, ix, up, ra, rl, via, pm, da, dl, cl⟩ = false by assumption] | skip); (first | rw [show gpF ra rl = true by assumption] | rw [show gpF ra rl = false by assumption] | skip); (first | rw [show gpF da dl = true by assumption] | rw [show gpF da dl = false by assumption] | skip); (first | rw [show decide (dv < 16) = true from decide_eq_true (by omega)] | rw [show decide (dv < 16) = false from decide_eq_false (by omega)] | skip); (first | rw [show decide (via = 16) = true from decide_eq_true (by omega)] | rw [show decide (via = 16) = false from decide_eq_false (by omega)] | skip); (first | rw [show decide (via < 16) = true from decide_eq_true (by omega)] | rw [show decide (via < 16) = false from decide_eq_false (by omega)] | skip); (first | rw [show decide (via = dv) = true from decide_eq_true (by omega)] | rw [show decide (via = dv) = false from decide_eq_false (by omega)] | skip); (first | rw [show decide (via = 0) = true from decide_eq_true (by omega)] | rw [show decide (via = 0) = false from decide_eq_false (by omega)] | skip); (first | rw [show decide (pr = 0) = true from decide_eq_true (by omega)] | rw [show decide (pr = 0) = false from decide_eq_false (by omega)] | skip); (first | rw [show decide (pr < 16) = true from decide_eq_true (by omega)] | rw [show decide (pr < 16) = false from decide_eq_false (by omega)] | skip); (first | rw [show decide (dv < pr) = true from decide_eq_true (by omega)] | rw [show decide (dv < pr) = false from decide_eq_false (by omega)] | skip); (first | rw [show decide (dv = pr) = true from decide_eq_true (by omega)] | rw [show decide (dv = pr) = false from decide_eq_false (by omega)] | skip); (first | rw [show decide (cl ≤ 16) = true from decide_eq_true (by omega)] | rw [show decide (cl ≤ 16) = false from decide_eq_false (by omega)] | skip); (first | rw [show decide (ix < 64) = true from decide_eq_true (by omega)] | rw [show decide (ix < 64) = false from decide_eq_false (by omega)] | skip); first | rfl | (simp only [Bool.true_and, Bool.and_true, Bool.false_and, Bool.and_false, Bool.true_or, Bool.false_or, Bool.or_false, Bool.or_true, Bool.not_true, Bool.not_false]; first | done | rfl | ((repeat (first | rw [show up = true by assumption] | rw [show up = false by assumption] | rw [show decide (ix = 0) = true from decide_eq_true (by omega)] | rw [show decide (ix = 0) = false from decide_eq_false (by omega)])); rfl))), rfl⟩
    · intro hc0
      try simp only [decide_eq_true_eq, decide_eq_false_iff_not, Bool.not_eq_true', Bool.not_eq_false', Bool.not_eq_true, Bool.not_eq_false, Bool.and_eq_true, Bool.or_eq_true, Bool.and_eq_false_iff, Bool.or_eq_false_iff, Bool.not_not, ne_eq, Int.not_lt, Int.not_le, Decidable.not_not, beq_iff_eq, bne_iff_ne] at hc0
      refine c_seq ?_
      refine c_region ?_
      refine wl (wl_val hl rfl trivial (r_eql hl rfl rfl) ?_)
      clear hl a; intro a hl
      refine wl (wl_val hl rfl trivial (r_assign hl rfl) ?_)
      clear hl a; intro a hl
      refine w_nil ?_
      have hl2 := hl.add (t := 1) (hl.add (t := 3) (hl.add (t := 4) (hl.add (t := 5) (hl.add (t := 24) (hl.add (t := 68) (hl.nil) rfl) rfl) rfl) rfl) rfl) rfl; clear hl; have hl := hl2; clear hl2
      refine then_normal ?_
      refine c_cond hl rfl ?_ ?_
      · intro hc1
        try simp only [decide_eq_true_eq, decide_eq_false_iff_not, Bool.not_eq_true', Bool.not_eq_false', Bool.not_eq_true, Bool.not_eq_false, Bool.and_eq_true, Bool.or_eq_true, Bool.and_eq_false_iff, Bool.or_eq_false_iff, Bool.not_not, ne_eq, Int.not_lt, Int.not_le, Decidable.not_not, beq_iff_eq, bne_iff_ne] at hc1
        refine c_seq ?_
        refine c_region ?_
        refine wl (wl_val hl rfl trivial (r_field hl rfl fld57_1) ?_)
        clear hl a; intro a hl
        refine wl (w_load hl hh rfl trivial one5 rfl (by repeat (first | exact find_head | apply find_tail)) (by first | rfl) ?_)
        clear hl a; intro a hl
        refine wl (w_call hl hh rfl trivial rfl cal64 rfl (isDeviceM _) (by repeat (first | exact keeps_nil | apply keeps_cons (by repeat (first | exact find_head | apply find_tail)) (by first  | rfl) | exact keeps_self | apply keeps_mv)) trivial ?_)
        clear hl hh a w; intro vc Fc a w hR hl hh
        obtain ⟨rfl, rfl⟩ := hR
        try simp only [List.cons_append, List.nil_append] at hh
        refine wl (wl_val hl rfl trivial (r_move hl rfl) ?_)
        clear hl a; intro a hl
        refine sl_split (t := 73) hl rfl ?_ ?_
        · intro hg48; clear hl; intro hl
          try simp only [decide_eq_true_eq, decide_eq_false_iff_not, Bool.not_eq_true', Bool.not_eq_false', Bool.not_eq_true, Bool.not_eq_false, Bool.and_eq_true, Bool.or_eq_true, Bool.and_eq_false_iff, Bool.or_eq_false_iff, Bool.not_not, ne_eq, Int.not_lt, Int.not_le, Decidable.not_not, beq_iff_eq, bne_iff_ne] at hg48
          refine wl (wl_val hl rfl ⟨_, _, rfl, rfl, rfl⟩ (r_field hl rfl fld57_5) ?_)
          clear hl a; intro a hl
          refine wl (wl_val hl rfl ⟨_, _, rfl, rfl, rfl⟩ (r_field hl rfl fld53_0) ?_)
          clear hl a; intro a hl
          refine wl (w_loadA hl hh rfl ⟨_, _, rfl, rfl, rfl⟩ agg51 rfl (by repeat (first | exact find_head | apply find_tail)) (by first | (simp only [List.getElem?_cons_zero, List.getElem?_cons_succ, Value.cells, List.take_zero, List.take_succ_cons, List.take_nil, List.drop_zero, List.drop_succ_cons, List.drop_nil, List.length_cons, List.length_nil, List.cons_append, List.nil_append, List.append_nil, Nat.zero_add, Nat.add_zero, Nat.reduceAdd, Nat.reduceBEq, Nat.reduceEqDiff, Nat.ble, BEq.rfl, Bool.and_true, Bool.and_self, cond_true, beq_self_eq_true]; rfl)) (by first | rfl | (simp; done)) ?_)
          clear hl a; intro a hl
          refine wl (w_call hl hh rfl ⟨_, _, rfl, rfl, rfl⟩ rfl cal65 rfl (isPrefixM _ _ (by omega) (by omega) (by omega) (by omega)) (by repeat (first | exact keeps_nil | apply keeps_cons (by repeat (first | exact find_head | apply find_tail)) (by first  | rfl) | exact keeps_self | apply keeps_mv)) trivial ?_)
          clear hl hh a w; intro vc Fc a w hR hl hh
          obtain ⟨rfl, rfl⟩ := hR
          try simp only [List.cons_append, List.nil_append] at hh
          refine wl (wl_val hl rfl trivial (r_pickT hl rfl rfl) ?_)
          clear hl a; intro a hl
          refine wl (wl_val hl rfl trivial (r_move hl rfl) ?_)
          clear hl a; intro a hl
          refine sl_split (t := 79) hl rfl ?_ ?_
          · intro hg49; clear hl; intro hl
            try simp only [decide_eq_true_eq, decide_eq_false_iff_not, Bool.not_eq_true', Bool.not_eq_false', Bool.not_eq_true, Bool.not_eq_false, Bool.and_eq_true, Bool.or_eq_true, Bool.and_eq_false_iff, Bool.or_eq_false_iff, Bool.not_not, ne_eq, Int.not_lt, Int.not_le, Decidable.not_not, beq_iff_eq, bne_iff_ne] at hg49
            refine wl (wl_val hl rfl ⟨_, _, rfl, rfl, rfl⟩ (r_field hl rfl fld57_5) ?_)
            clear hl a; intro a hl
            refine wl (wl_val hl rfl ⟨_, _, rfl, rfl, rfl⟩ (r_field hl rfl fld53_1) ?_)
            clear hl a; intro a hl
            refine wl (w_load hl hh rfl ⟨_, _, rfl, rfl, rfl⟩ one5 rfl (by repeat (first | exact find_head | apply find_tail)) (by first | rfl) ?_)
            clear hl a; intro a hl
            refine wl (wl_val hl rfl ⟨_, _, rfl, rfl, rfl⟩ (r_eql hl rfl rfl) ?_)
            clear hl a; intro a hl
            refine wl (wl_val hl rfl trivial (r_pickT hl rfl rfl) ?_)
            clear hl a; intro a hl
            refine wl (wl_val hl rfl trivial (r_move hl rfl) ?_)
            clear hl a; intro a hl
            refine sl_split (t := 85) hl rfl ?_ ?_
            · intro hg50; clear hl; intro hl
              try simp only [decide_eq_true_eq, decide_eq_false_iff_not, Bool.not_eq_true', Bool.not_eq_false', Bool.not_eq_true, Bool.not_eq_false, Bool.and_eq_true, Bool.or_eq_true, Bool.and_eq_false_iff, Bool.or_eq_false_iff, Bool.not_not, ne_eq, Int.not_lt, Int.not_le, Decidable.not_not, beq_iff_eq, bne_iff_ne] at hg50
              refine wl (wl_val hl rfl ⟨_, _, rfl, rfl, rfl⟩ (r_move hl rfl) ?_)
              clear hl a; intro a hl
              refine wl (wl_val hl rfl trivial (r_pickT hl rfl rfl) ?_)
              clear hl a; intro a hl
              refine wl (wl_val hl rfl trivial (r_move hl rfl) ?_)
              clear hl a; intro a hl
              refine wl (wl_skip hl rfl ⟨_, _, rfl, rfl, rfl⟩ ?_)
              clear hl a; intro a hl
              refine wl (wl_val hl rfl trivial (r_pickF hl rfl rfl) ?_)
              clear hl a; intro a hl
              refine wl (wl_val hl rfl trivial (r_move hl rfl) ?_)
              clear hl a; intro a hl
              refine wl (wl_skip hl rfl ⟨_, _, rfl, rfl, rfl⟩ ?_)
              clear hl a; intro a hl
              refine wl (wl_skip hl rfl ⟨_, _, rfl, rfl, rfl⟩ ?_)
              clear hl a; intro a hl
              refine wl (wl_skip hl rfl ⟨_, _, rfl, rfl, rfl⟩ ?_)
              clear hl a; intro a hl
              refine wl (wl_val hl rfl trivial (r_pickF hl rfl rfl) ?_)
              clear hl a; intro a hl
              refine wl (wl_val hl rfl trivial (r_assign hl rfl) ?_)
              clear hl a; intro a hl
              refine w_nil ?_
              have hl2 := hl.add (t := 2) (hl.nil) rfl; clear hl; have hl := hl2; clear hl2
              refine then_normal ?_
              refine wp_ret ?_
              refine blk_ret ?_
              refine then_ret ?_
              refine f_ret1 (F' := []) hl hh rfl rfl (by repeat (first | exact keeps_nil | apply keeps_cons (by repeat (first | exact find_head | apply find_tail)) (by first  | rfl) | exact keeps_self | apply keeps_mv)) ?_
              first | (exfalso; omega) | exact ⟨congrArg Value.bool (by unfold wfF; simp only; (repeat (first | rw [if_pos (by omega)] | rw [if_neg (by omega)])); (try simp only [noPr, nxV]); (first | rw [show noRl ⟨kd, dv, pr, ix, up, ra, rl, via, pm, da, dl, cl⟩ = true by assumption] | rw [show noRl ⟨kd, dv, pr, ix, up, ra, rl, via, pm, da, dl, cl⟩ = false by assumption] | skip); (first | rw [show noRt ⟨kd, dv, pr, ix, up, ra, rl, via, pm, da, dl, cl⟩ = true by assumption] | rw [show noRt ⟨kd, dv, pr, ix, up, ra, rl, via, pm, da, dl, cl⟩ = false by assumption] | skip); (first | rw [show gpF ra rl = true by assumption] | rw [show gpF ra rl = false by assumption] | skip); (first | rw [show gpF da dl = true by assumption] | rw [show gpF da dl = false by assumption] | skip); (first | rw [show decide (dv < 16) = true from decide_eq_true (by omega)] | rw [show decide (dv < 16) = false from decide_eq_false (by omega)] | skip); (first | rw [show decide (via = 16) = true from decide_eq_true (by omega)] | rw [show decide (via = 16) = false from decide_eq_false (by omega)] | skip); (first | rw [show decide (via < 16) = true from decide_eq_true (by omega)] | rw [show decide (via < 16) = false from decide_eq_false (by omega)] | skip); (first | rw [show decide (via = dv) = true from decide_eq_true (by omega)] | rw [show decide (via = dv) = false from decide_eq_false (by omega)] | skip); (first | rw [show decide (via = 0) = true from decide_eq_true (by omega)] | rw [show decide (via = 0) = false from decide_eq_false (by omega)] | skip); (first | rw [show decide (pr = 0) = true from decide_eq_true (by omega)] | rw [show decide (pr = 0) = false from decide_eq_false (by omega)] | skip); (first | rw [show decide (pr < 16) = true from decide_eq_true (by omega)] | rw [show decide (pr < 16) = false from decide_eq_false (by omega)] | skip); (first | rw [show decide (dv < pr) = true from decide_eq_true (by omega)] | rw [show decide (dv < pr) = false from decide_eq_false (by omega)] | skip); (first | rw [show decide (dv = pr) = true from decide_eq_true (by omega)] | rw [show decide (dv = pr) = false from decide_eq_false (by omega)] | skip); (first | rw [show decide (cl ≤ 16) = true from decide_eq_true (by omega)] | rw [show decide (cl ≤ 16) = false from decide_eq_false (by omega)] | skip); (first | rw [show decide (ix < 64) = true from decide_eq_true (by omega)] | rw [show decide (ix < 64) = false from decide_eq_false (by omega)] | skip); first | rfl | (simp only [Bool.true_and, Bool.and_true, Bool.false_and, Bool.and_false, Bool.true_or, Bool.false_or, Bool.or_false, Bool.or_true, Bool.not_true, Bool.not_false]; first | done | rfl | ((repeat (first | rw [show up = true by assumption] | rw [show up = false by assumption] | rw [show decide (ix = 0) = true from decide_eq_true (by omega)] | rw [show decide (ix = 0) = false from decide_eq_false (by omega)])); rfl))), rfl⟩
            · intro hg50; clear hl; intro hl
              try simp only [decide_eq_true_eq, decide_eq_false_iff_not, Bool.not_eq_true', Bool.not_eq_false', Bool.not_eq_true, Bool.not_eq_false, Bool.and_eq_true, Bool.or_eq_true, Bool.and_eq_false_iff, Bool.or_eq_false_iff, Bool.not_not, ne_eq, Int.not_lt, Int.not_le, Decidable.not_not, beq_iff_eq, bne_iff_ne] at hg50
              refine wl (wl_skip hl rfl ⟨_, _, rfl, rfl, rfl⟩ ?_)
              clear hl a; intro a hl
              refine wl (wl_val hl rfl trivial (r_pickF hl rfl rfl) ?_)
              clear hl a; intro a hl
              refine wl (wl_val hl rfl trivial (r_move hl rfl) ?_)
              clear hl a; intro a hl
              refine wl (wl_skip hl rfl ⟨_, _, rfl, rfl, rfl⟩ ?_)
              clear hl a; intro a hl
              refine wl (wl_val hl rfl trivial (r_pickF hl rfl rfl) ?_)
              clear hl a; intro a hl
              refine wl (wl_val hl rfl trivial (r_move hl rfl) ?_)
              clear hl a; intro a hl
              refine wl (wl_skip hl rfl ⟨_, _, rfl, rfl, rfl⟩ ?_)
              clear hl a; intro a hl
              refine wl (wl_skip hl rfl ⟨_, _, rfl, rfl, rfl⟩ ?_)
              clear hl a; intro a hl
              refine wl (wl_skip hl rfl ⟨_, _, rfl, rfl, rfl⟩ ?_)
              clear hl a; intro a hl
              refine wl (wl_val hl rfl trivial (r_pickF hl rfl rfl) ?_)
              clear hl a; intro a hl
              refine wl (wl_val hl rfl trivial (r_assign hl rfl) ?_)
              clear hl a; intro a hl
              refine w_nil ?_
              have hl2 := hl.add (t := 2) (hl.nil) rfl; clear hl; have hl := hl2; clear hl2
              refine then_normal ?_
              refine wp_ret ?_
              refine blk_ret ?_
              refine then_ret ?_
              refine f_ret1 (F' := []) hl hh rfl rfl (by repeat (first | exact keeps_nil | apply keeps_cons (by repeat (first | exact find_head | apply find_tail)) (by first  | rfl) | exact keeps_self | apply keeps_mv)) ?_
              first | (exfalso; omega) | exact ⟨congrArg Value.bool (by unfold wfF; simp only; (repeat (first | rw [if_pos (by omega)] | rw [if_neg (by omega)])); (try simp only [noPr, nxV]); (first | rw [show noRl ⟨kd, dv, pr, ix, up, ra, rl, via, pm, da, dl, cl⟩ = true by assumption] | rw [show noRl ⟨kd, dv, pr, ix, up, ra, rl, via, pm, da, dl, cl⟩ = false by assumption] | skip); (first | rw [show noRt ⟨kd, dv, pr, ix, up, ra, rl, via, pm, da, dl, cl⟩ = true by assumption] | rw [show noRt ⟨kd, dv, pr, ix, up, ra, rl, via, pm, da, dl, cl⟩ = false by assumption] | skip); (first | rw [show gpF ra rl = true by assumption] | rw [show gpF ra rl = false by assumption] | skip); (first | rw [show gpF da dl = true by assumption] | rw [show gpF da dl = false by assumption] | skip); (first | rw [show decide (dv < 16) = true from decide_eq_true (by omega)] | rw [show decide (dv < 16) = false from decide_eq_false (by omega)] | skip); (first | rw [show decide (via = 16) = true from decide_eq_true (by omega)] | rw [show decide (via = 16) = false from decide_eq_false (by omega)] | skip); (first | rw [show decide (via < 16) = true from decide_eq_true (by omega)] | rw [show decide (via < 16) = false from decide_eq_false (by omega)] | skip); (first | rw [show decide (via = dv) = true from decide_eq_true (by omega)] | rw [show decide (via = dv) = false from decide_eq_false (by omega)] | skip); (first | rw [show decide (via = 0) = true from decide_eq_true (by omega)] | rw [show decide (via = 0) = false from decide_eq_false (by omega)] | skip); (first | rw [show decide (pr = 0) = true from decide_eq_true (by omega)] | rw [show decide (pr = 0) = false from decide_eq_false (by omega)] | skip); (first | rw [show decide (pr < 16) = true from decide_eq_true (by omega)] | rw [show decide (pr < 16) = false from decide_eq_false (by omega)] | skip); (first | rw [show decide (dv < pr) = true from decide_eq_true (by omega)] | rw [show decide (dv < pr) = false from decide_eq_false (by omega)] | skip); (first | rw [show decide (dv = pr) = true from decide_eq_true (by omega)] | rw [show decide (dv = pr) = false from decide_eq_false (by omega)] | skip); (first | rw [show decide (cl ≤ 16) = true from decide_eq_true (by omega)] | rw [show decide (cl ≤ 16) = false from decide_eq_false (by omega)] | skip); (first | rw [show decide (ix < 64) = true from decide_eq_true (by omega)] | rw [show decide (ix < 64) = false from decide_eq_false (by omega)] | skip); first | rfl | (simp only [Bool.true_and, Bool.and_true, Bool.false_and, Bool.and_false, Bool.true_or, Bool.false_or, Bool.or_false, Bool.or_true, Bool.not_true, Bool.not_false]; first | done | rfl | ((repeat (first | rw [show up = true by assumption] | rw [show up = false by assumption] | rw [show decide (ix = 0) = true from decide_eq_true (by omega)] | rw [show decide (ix = 0) = false from decide_eq_false (by omega)])); rfl))), rfl⟩
          · intro hg49; clear hl; intro hl
            try simp only [decide_eq_true_eq, decide_eq_false_iff_not, Bool.not_eq_true', Bool.not_eq_false', Bool.not_eq_true, Bool.not_eq_false, Bool.and_eq_true, Bool.or_eq_true, Bool.and_eq_false_iff, Bool.or_eq_false_iff, Bool.not_not, ne_eq, Int.not_lt, Int.not_le, Decidable.not_not, beq_iff_eq, bne_iff_ne] at hg49
            refine wl (wl_skip hl rfl ⟨_, _, rfl, rfl, rfl⟩ ?_)
            clear hl a; intro a hl
            refine wl (wl_skip hl rfl ⟨_, _, rfl, rfl, rfl⟩ ?_)
            clear hl a; intro a hl
            refine wl (wl_skip hl rfl ⟨_, _, rfl, rfl, rfl⟩ ?_)
            clear hl a; intro a hl
            refine wl (wl_skip hl rfl ⟨_, _, rfl, rfl, rfl⟩ ?_)
            clear hl a; intro a hl
            refine wl (wl_val hl rfl trivial (r_pickF hl rfl rfl) ?_)
            clear hl a; intro a hl
            refine wl (wl_val hl rfl trivial (r_move hl rfl) ?_)
            clear hl a; intro a hl
            refine wl (wl_skip hl rfl ⟨_, _, rfl, rfl, rfl⟩ ?_)
            clear hl a; intro a hl
            refine wl (wl_val hl rfl trivial (r_pickF hl rfl rfl) ?_)
            clear hl a; intro a hl
            refine wl (wl_val hl rfl trivial (r_move hl rfl) ?_)
            clear hl a; intro a hl
            refine wl (wl_skip hl rfl ⟨_, _, rfl, rfl, rfl⟩ ?_)
            clear hl a; intro a hl
            refine wl (wl_val hl rfl trivial (r_pickF hl rfl rfl) ?_)
            clear hl a; intro a hl
            refine wl (wl_val hl rfl trivial (r_move hl rfl) ?_)
            clear hl a; intro a hl
            refine wl (wl_skip hl rfl ⟨_, _, rfl, rfl, rfl⟩ ?_)
            clear hl a; intro a hl
            refine wl (wl_skip hl rfl ⟨_, _, rfl, rfl, rfl⟩ ?_)
            clear hl a; intro a hl
            refine wl (wl_skip hl rfl ⟨_, _, rfl, rfl, rfl⟩ ?_)
            clear hl a; intro a hl
            refine wl (wl_val hl rfl trivial (r_pickF hl rfl rfl) ?_)
            clear hl a; intro a hl
            refine wl (wl_val hl rfl trivial (r_assign hl rfl) ?_)
            clear hl a; intro a hl
            refine w_nil ?_
            have hl2 := hl.add (t := 2) (hl.nil) rfl; clear hl; have hl := hl2; clear hl2
            refine then_normal ?_
            refine wp_ret ?_
            refine blk_ret ?_
            refine then_ret ?_
            refine f_ret1 (F' := []) hl hh rfl rfl (by repeat (first | exact keeps_nil | apply keeps_cons (by repeat (first | exact find_head | apply find_tail)) (by first  | rfl) | exact keeps_self | apply keeps_mv)) ?_
            first | (exfalso; omega) | exact ⟨congrArg Value.bool (by unfold wfF; simp only; (repeat (first | rw [if_pos (by omega)] | rw [if_neg (by omega)])); (try simp only [noPr, nxV]); (first | rw [show noRl ⟨kd, dv, pr, ix, up, ra, rl, via, pm, da, dl, cl⟩ = true by assumption] | rw [show noRl ⟨kd, dv, pr, ix, up, ra, rl, via, pm, da, dl, cl⟩ = false by assumption] | skip); (first | rw [show noRt ⟨kd, dv, pr, ix, up, ra, rl, via, pm, da, dl, cl⟩ = true by assumption] | rw [show noRt ⟨kd, dv, pr, ix, up, ra, rl, via, pm, da, dl, cl⟩ = false by assumption] | skip); (first | rw [show gpF ra rl = true by assumption] | rw [show gpF ra rl = false by assumption] | skip); (first | rw [show gpF da dl = true by assumption] | rw [show gpF da dl = false by assumption] | skip); (first | rw [show decide (dv < 16) = true from decide_eq_true (by omega)] | rw [show decide (dv < 16) = false from decide_eq_false (by omega)] | skip); (first | rw [show decide (via = 16) = true from decide_eq_true (by omega)] | rw [show decide (via = 16) = false from decide_eq_false (by omega)] | skip); (first | rw [show decide (via < 16) = true from decide_eq_true (by omega)] | rw [show decide (via < 16) = false from decide_eq_false (by omega)] | skip); (first | rw [show decide (via = dv) = true from decide_eq_true (by omega)] | rw [show decide (via = dv) = false from decide_eq_false (by omega)] | skip); (first | rw [show decide (via = 0) = true from decide_eq_true (by omega)] | rw [show decide (via = 0) = false from decide_eq_false (by omega)] | skip); (first | rw [show decide (pr = 0) = true from decide_eq_true (by omega)] | rw [show decide (pr = 0) = false from decide_eq_false (by omega)] | skip); (first | rw [show decide (pr < 16) = true from decide_eq_true (by omega)] | rw [show decide (pr < 16) = false from decide_eq_false (by omega)] | skip); (first | rw [show decide (dv < pr) = true from decide_eq_true (by omega)] | rw [show decide (dv < pr) = false from decide_eq_false (by omega)] | skip); (first | rw [show decide (dv = pr) = true from decide_eq_true (by omega)] | rw [show decide (dv = pr) = false from decide_eq_false (by omega)] | skip); (first | rw [show decide (cl ≤ 16) = true from decide_eq_true (by omega)] | rw [show decide (cl ≤ 16) = false from decide_eq_false (by omega)] | skip); (first | rw [show decide (ix < 64) = true from decide_eq_true (by omega)] | rw [show decide (ix < 64) = false from decide_eq_false (by omega)] | skip); first | rfl | (simp only [Bool.true_and, Bool.and_true, Bool.false_and, Bool.and_false, Bool.true_or, Bool.false_or, Bool.or_false, Bool.or_true, Bool.not_true, Bool.not_false]; first | done | rfl | ((repeat (first | rw [show up = true by assumption] | rw [show up = false by assumption] | rw [show decide (ix = 0) = true from decide_eq_true (by omega)] | rw [show decide (ix = 0) = false from decide_eq_false (by omega)])); rfl))), rfl⟩
        · intro hg48; clear hl; intro hl
          try simp only [decide_eq_true_eq, decide_eq_false_iff_not, Bool.not_eq_true', Bool.not_eq_false', Bool.not_eq_true, Bool.not_eq_false, Bool.and_eq_true, Bool.or_eq_true, Bool.and_eq_false_iff, Bool.or_eq_false_iff, Bool.not_not, ne_eq, Int.not_lt, Int.not_le, Decidable.not_not, beq_iff_eq, bne_iff_ne] at hg48
          refine wl (wl_skip hl rfl ⟨_, _, rfl, rfl, rfl⟩ ?_)
          clear hl a; intro a hl
          refine wl (wl_skip hl rfl ⟨_, _, rfl, rfl, rfl⟩ ?_)
          clear hl a; intro a hl
          refine wl (wl_skip hl rfl ⟨_, _, rfl, rfl, rfl⟩ ?_)
          clear hl a; intro a hl
          refine wl (wl_skip hl rfl ⟨_, _, rfl, rfl, rfl⟩ ?_)
          clear hl a; intro a hl
          refine wl (wl_val hl rfl trivial (r_pickF hl rfl rfl) ?_)
          clear hl a; intro a hl
          refine wl (wl_val hl rfl trivial (r_move hl rfl) ?_)
          clear hl a; intro a hl
          refine wl (wl_skip hl rfl ⟨_, _, rfl, rfl, rfl⟩ ?_)
          clear hl a; intro a hl
          refine wl (wl_skip hl rfl ⟨_, _, rfl, rfl, rfl⟩ ?_)
          clear hl a; intro a hl
          refine wl (wl_skip hl rfl ⟨_, _, rfl, rfl, rfl⟩ ?_)
          clear hl a; intro a hl
          refine wl (wl_skip hl rfl ⟨_, _, rfl, rfl, rfl⟩ ?_)
          clear hl a; intro a hl
          refine wl (wl_val hl rfl trivial (r_pickF hl rfl rfl) ?_)
          clear hl a; intro a hl
          refine wl (wl_val hl rfl trivial (r_move hl rfl) ?_)
          clear hl a; intro a hl
          refine wl (wl_skip hl rfl ⟨_, _, rfl, rfl, rfl⟩ ?_)
          clear hl a; intro a hl
          refine wl (wl_val hl rfl trivial (r_pickF hl rfl rfl) ?_)
          clear hl a; intro a hl
          refine wl (wl_val hl rfl trivial (r_move hl rfl) ?_)
          clear hl a; intro a hl
          refine wl (wl_skip hl rfl ⟨_, _, rfl, rfl, rfl⟩ ?_)
          clear hl a; intro a hl
          refine wl (wl_val hl rfl trivial (r_pickF hl rfl rfl) ?_)
          clear hl a; intro a hl
          refine wl (wl_val hl rfl trivial (r_move hl rfl) ?_)
          clear hl a; intro a hl
          refine wl (wl_skip hl rfl ⟨_, _, rfl, rfl, rfl⟩ ?_)
          clear hl a; intro a hl
          refine wl (wl_skip hl rfl ⟨_, _, rfl, rfl, rfl⟩ ?_)
          clear hl a; intro a hl
          refine wl (wl_skip hl rfl ⟨_, _, rfl, rfl, rfl⟩ ?_)
          clear hl a; intro a hl
          refine wl (wl_val hl rfl trivial (r_pickF hl rfl rfl) ?_)
          clear hl a; intro a hl
          refine wl (wl_val hl rfl trivial (r_assign hl rfl) ?_)
          clear hl a; intro a hl
          refine w_nil ?_
          have hl2 := hl.add (t := 2) (hl.nil) rfl; clear hl; have hl := hl2; clear hl2
          refine then_normal ?_
          refine wp_ret ?_
          refine blk_ret ?_
          refine then_ret ?_
          refine f_ret1 (F' := []) hl hh rfl rfl (by repeat (first | exact keeps_nil | apply keeps_cons (by repeat (first | exact find_head | apply find_tail)) (by first  | rfl) | exact keeps_self | apply keeps_mv)) ?_
          first | (exfalso; omega) | exact ⟨congrArg Value.bool (by unfold wfF; simp only; (repeat (first | rw [if_pos (by omega)] | rw [if_neg (by omega)])); (try simp only [noPr, nxV]); (first | rw [show noRl ⟨kd, dv, pr, ix, up, ra, rl, via, pm, da, dl, cl⟩ = true by assumption] | rw [show noRl ⟨kd, dv, pr, ix, up, ra, rl, via, pm, da, dl, cl⟩ = false by assumption] | skip); (first | rw [show noRt ⟨kd, dv, pr, ix, up, ra, rl, via, pm, da, dl, cl⟩ = true by assumption] | rw [show noRt ⟨kd, dv, pr, ix, up, ra, rl, via, pm, da, dl, cl⟩ = false by assumption] | skip); (first | rw [show gpF ra rl = true by assumption] | rw [show gpF ra rl = false by assumption] | skip); (first | rw [show gpF da dl = true by assumption] | rw [show gpF da dl = false by assumption] | skip); (first | rw [show decide (dv < 16) = true from decide_eq_true (by omega)] | rw [show decide (dv < 16) = false from decide_eq_false (by omega)] | skip); (first | rw [show decide (via = 16) = true from decide_eq_true (by omega)] | rw [show decide (via = 16) = false from decide_eq_false (by omega)] | skip); (first | rw [show decide (via < 16) = true from decide_eq_true (by omega)] | rw [show decide (via < 16) = false from decide_eq_false (by omega)] | skip); (first | rw [show decide (via = dv) = true from decide_eq_true (by omega)] | rw [show decide (via = dv) = false from decide_eq_false (by omega)] | skip); (first | rw [show decide (via = 0) = true from decide_eq_true (by omega)] | rw [show decide (via = 0) = false from decide_eq_false (by omega)] | skip); (first | rw [show decide (pr = 0) = true from decide_eq_true (by omega)] | rw [show decide (pr = 0) = false from decide_eq_false (by omega)] | skip); (first | rw [show decide (pr < 16) = true from decide_eq_true (by omega)] | rw [show decide (pr < 16) = false from decide_eq_false (by omega)] | skip); (first | rw [show decide (dv < pr) = true from decide_eq_true (by omega)] | rw [show decide (dv < pr) = false from decide_eq_false (by omega)] | skip); (first | rw [show decide (dv = pr) = true from decide_eq_true (by omega)] | rw [show decide (dv = pr) = false from decide_eq_false (by omega)] | skip); (first | rw [show decide (cl ≤ 16) = true from decide_eq_true (by omega)] | rw [show decide (cl ≤ 16) = false from decide_eq_false (by omega)] | skip); (first | rw [show decide (ix < 64) = true from decide_eq_true (by omega)] | rw [show decide (ix < 64) = false from decide_eq_false (by omega)] | skip); first | rfl | (simp only [Bool.true_and, Bool.and_true, Bool.false_and, Bool.and_false, Bool.true_or, Bool.false_or, Bool.or_false, Bool.or_true, Bool.not_true, Bool.not_false]; first | done | rfl | ((repeat (first | rw [show up = true by assumption] | rw [show up = false by assumption] | rw [show decide (ix = 0) = true from decide_eq_true (by omega)] | rw [show decide (ix = 0) = false from decide_eq_false (by omega)])); rfl))), rfl⟩
      · intro hc1
        try simp only [decide_eq_true_eq, decide_eq_false_iff_not, Bool.not_eq_true', Bool.not_eq_false', Bool.not_eq_true, Bool.not_eq_false, Bool.and_eq_true, Bool.or_eq_true, Bool.and_eq_false_iff, Bool.or_eq_false_iff, Bool.not_not, ne_eq, Int.not_lt, Int.not_le, Decidable.not_not, beq_iff_eq, bne_iff_ne] at hc1
        refine c_seq ?_
        refine c_region ?_
        refine wl (wl_val hl rfl trivial (r_eql hl rfl rfl) ?_)
        clear hl a; intro a hl
        refine wl (wl_val hl rfl trivial (r_assign hl rfl) ?_)
        clear hl a; intro a hl
        refine w_nil ?_
        have hl2 := hl.add (t := 1) (hl.add (t := 3) (hl.add (t := 4) (hl.add (t := 5) (hl.add (t := 24) (hl.add (t := 96) (hl.nil) rfl) rfl) rfl) rfl) rfl) rfl; clear hl; have hl := hl2; clear hl2
        refine then_normal ?_
        refine c_cond hl rfl ?_ ?_
        · intro hc2
          try simp only [decide_eq_true_eq, decide_eq_false_iff_not, Bool.not_eq_true', Bool.not_eq_false', Bool.not_eq_true, Bool.not_eq_false, Bool.and_eq_true, Bool.or_eq_true, Bool.and_eq_false_iff, Bool.or_eq_false_iff, Bool.not_not, ne_eq, Int.not_lt, Int.not_le, Decidable.not_not, beq_iff_eq, bne_iff_ne] at hc2
          refine c_seq ?_
          refine c_region ?_
          refine wl (wl_val hl rfl trivial (r_field hl rfl fld57_1) ?_)
          clear hl a; intro a hl
          refine wl (w_load hl hh rfl trivial one5 rfl (by repeat (first | exact find_head | apply find_tail)) (by first | rfl) ?_)
          clear hl a; intro a hl
          refine wl (w_call hl hh rfl trivial rfl cal64 rfl (isDeviceM _) (by repeat (first | exact keeps_nil | apply keeps_cons (by repeat (first | exact find_head | apply find_tail)) (by first  | rfl) | exact keeps_self | apply keeps_mv)) trivial ?_)
          clear hl hh a w; intro vc Fc a w hR hl hh
          obtain ⟨rfl, rfl⟩ := hR
          try simp only [List.cons_append, List.nil_append] at hh
          refine wl (wl_val hl rfl trivial (r_move hl rfl) ?_)
          clear hl a; intro a hl
          refine sl_split (t := 101) hl rfl ?_ ?_
          · intro hg51; clear hl; intro hl
            try simp only [decide_eq_true_eq, decide_eq_false_iff_not, Bool.not_eq_true', Bool.not_eq_false', Bool.not_eq_true, Bool.not_eq_false, Bool.and_eq_true, Bool.or_eq_true, Bool.and_eq_false_iff, Bool.or_eq_false_iff, Bool.not_not, ne_eq, Int.not_lt, Int.not_le, Decidable.not_not, beq_iff_eq, bne_iff_ne] at hg51
            refine wl (wl_val hl rfl ⟨_, _, rfl, rfl, rfl⟩ (r_field hl rfl fld57_3) ?_)
            clear hl a; intro a hl
            refine wl (w_load hl hh rfl ⟨_, _, rfl, rfl, rfl⟩ one5 rfl (by repeat (first | exact find_head | apply find_tail)) (by first | rfl) ?_)
            clear hl a; intro a hl
            refine wl (wl_val hl rfl ⟨_, _, rfl, rfl, rfl⟩ (r_lss hl rfl rfl) ?_)
            clear hl a; intro a hl
            refine wl (wl_val hl rfl trivial (r_pickT hl rfl rfl) ?_)
            clear hl a; intro a hl
            refine wl (wl_val hl rfl trivial (r_move hl rfl) ?_)
            clear hl a; intro a hl
            refine sl_split (t := 106) hl rfl ?_ ?_
            · intro hg52; clear hl; intro hl
              try simp only [decide_eq_true_eq, decide_eq_false_iff_not, Bool.not_eq_true', Bool.not_eq_false', Bool.not_eq_true, Bool.not_eq_false, Bool.and_eq_true, Bool.or_eq_true, Bool.and_eq_false_iff, Bool.or_eq_false_iff, Bool.not_not, ne_eq, Int.not_lt, Int.not_le, Decidable.not_not, beq_iff_eq, bne_iff_ne] at hg52
              refine wl (wl_val hl rfl ⟨_, _, rfl, rfl, rfl⟩ (r_field hl rfl fld57_6) ?_)
              clear hl a; intro a hl
              refine wl (wl_val hl rfl ⟨_, _, rfl, rfl, rfl⟩ (r_field hl rfl fld55_1) ?_)
              clear hl a; intro a hl
              refine wl (w_loadA hl hh rfl ⟨_, _, rfl, rfl, rfl⟩ agg51 rfl (by repeat (first | exact find_head | apply find_tail)) (by first | (simp only [List.getElem?_cons_zero, List.getElem?_cons_succ, Value.cells, List.take_zero, List.take_succ_cons, List.take_nil, List.drop_zero, List.drop_succ_cons, List.drop_nil, List.length_cons, List.length_nil, List.cons_append, List.nil_append, List.append_nil, Nat.zero_add, Nat.add_zero, Nat.reduceAdd, Nat.reduceBEq, Nat.reduceEqDiff, Nat.ble, BEq.rfl, Bool.and_true, Bool.and_self, cond_true, beq_self_eq_true]; rfl)) (by first | rfl | (simp; done)) ?_)
              clear hl a; intro a hl
              refine wl (w_call hl hh rfl ⟨_, _, rfl, rfl, rfl⟩ rfl cal65 rfl (isPrefixM _ _ (by omega) (by omega) (by omega) (by omega)) (by repeat (first | exact keeps_nil | apply keeps_cons (by repeat (first | exact find_head | apply find_tail)) (by first  | rfl) | exact keeps_self | apply keeps_mv)) trivial ?_)
              clear hl hh a w; intro vc Fc a w hR hl hh
              obtain ⟨rfl, rfl⟩ := hR
              try simp only [List.cons_append, List.nil_append] at hh
              refine wl (wl_val hl rfl trivial (r_pickT hl rfl rfl) ?_)
              clear hl a; intro a hl
              refine wl (wl_val hl rfl trivial (r_move hl rfl) ?_)
              clear hl a; intro a hl
              refine sl_split (t := 112) hl rfl ?_ ?_
              · intro hg53; clear hl; intro hl
                try simp only [decide_eq_true_eq, decide_eq_false_iff_not, Bool.not_eq_true', Bool.not_eq_false', Bool.not_eq_true, Bool.not_eq_false, Bool.and_eq_true, Bool.or_eq_true, Bool.and_eq_false_iff, Bool.or_eq_false_iff, Bool.not_not, ne_eq, Int.not_lt, Int.not_le, Decidable.not_not, beq_iff_eq, bne_iff_ne] at hg53
                refine wl (wl_val hl rfl ⟨_, _, rfl, rfl, rfl⟩ (r_field hl rfl fld57_6) ?_)
                clear hl a; intro a hl
                refine wl (wl_val hl rfl ⟨_, _, rfl, rfl, rfl⟩ (r_field hl rfl fld55_2) ?_)
                clear hl a; intro a hl
                refine wl (w_load hl hh rfl ⟨_, _, rfl, rfl, rfl⟩ one5 rfl (by repeat (first | exact find_head | apply find_tail)) (by first | rfl) ?_)
                clear hl a; intro a hl
                refine wl (wl_val hl rfl ⟨_, _, rfl, rfl, rfl⟩ (r_leq hl rfl rfl) ?_)
                clear hl a; intro a hl
                refine wl (wl_val hl rfl trivial (r_pickT hl rfl rfl) ?_)
                clear hl a; intro a hl
                refine wl (wl_val hl rfl trivial (r_move hl rfl) ?_)
                clear hl a; intro a hl
                refine sl_split (t := 118) hl rfl ?_ ?_
                · intro hg54; clear hl; intro hl
                  try simp only [decide_eq_true_eq, decide_eq_false_iff_not, Bool.not_eq_true', Bool.not_eq_false', Bool.not_eq_true, Bool.not_eq_false, Bool.and_eq_true, Bool.or_eq_true, Bool.and_eq_false_iff, Bool.or_eq_false_iff, Bool.not_not, ne_eq, Int.not_lt, Int.not_le, Decidable.not_not, beq_iff_eq, bne_iff_ne] at hg54
                  refine wl (wl_val hl rfl ⟨_, _, rfl, rfl, rfl⟩ (r_move hl rfl) ?_)
                  clear hl a; intro a hl
                  refine wl (wl_val hl rfl trivial (r_pickT hl rfl rfl) ?_)
                  clear hl a; intro a hl
                  refine wl (wl_val hl rfl trivial (r_move hl rfl) ?_)
                  clear hl a; intro a hl
                  refine wl (wl_skip hl rfl ⟨_, _, rfl, rfl, rfl⟩ ?_)
                  clear hl a; intro a hl
                  refine wl (wl_val hl rfl trivial (r_pickF hl rfl rfl) ?_)
                  clear hl a; intro a hl
                  refine wl (wl_val hl rfl trivial (r_assign hl rfl) ?_)
                  clear hl a; intro a hl
                  refine w_nil ?_
                  have hl2 := hl.add (t := 2) (hl.nil) rfl; clear hl; have hl := hl2; clear hl2
                  refine then_normal ?_
                  refine wp_ret ?_
                  refine blk_ret ?_
                  refine then_ret ?_
                  refine f_ret1 (F' := []) hl hh rfl rfl (by repeat (first | exact keeps_nil | apply keeps_cons (by repeat (first | exact find_head | apply find_tail)) (by first  | rfl) | exact keeps_self | apply keeps_mv)) ?_
                  first | (exfalso; omega) | exact ⟨congrArg Value.bool (by unfold wfF; simp only; (repeat (first | rw [if_pos (by omega)] | rw [if_neg (by omega)])); (try simp only [noPr, nxV]); (first | rw [show noRl ⟨kd, dv, pr, ix, up, ra, rl, via, pm, da, dl, cl⟩ = true by assumption] | rw [show noRl ⟨kd, dv, pr, ix, up, ra, rl, via, pm, da, dl, cl⟩ = false by assumption] | skip); (first | rw [show noRt ⟨kd, dv, pr, ix, up, ra, rl, via, pm, da, dl, cl⟩ = true by assumption] | rw [show noRt ⟨kd, dv, pr, ix, up, ra, rl, via, pm, da, dl, cl⟩ = false by assumption] | skip); (first | rw [show gpF ra rl = true by assumption] | rw [show gpF ra rl = false by assumption] | skip); (first | rw [show gpF da dl = true by assumption] | rw [show gpF da dl = false by assumption] | skip); (first | rw [show decide (dv < 16) = true from decide_eq_true (by omega)] | rw [show decide (dv < 16) = false from decide_eq_false (by omega)] | skip); (first | rw [show decide (via = 16) = true from decide_eq_true (by omega)] | rw [show decide (via = 16) = false from decide_eq_false (by omega)] | skip); (first | rw [show decide (via < 16) = true from decide_eq_true (by omega)] | rw [show decide (via < 16) = false from decide_eq_false (by omega)] | skip); (first | rw [show decide (via = dv) = true from decide_eq_true (by omega)] | rw [show decide (via = dv) = false from decide_eq_false (by omega)] | skip); (first | rw [show decide (via = 0) = true from decide_eq_true (by omega)] | rw [show decide (via = 0) = false from decide_eq_false (by omega)] | skip); (first | rw [show decide (pr = 0) = true from decide_eq_true (by omega)] | rw [show decide (pr = 0) = false from decide_eq_false (by omega)] | skip); (first | rw [show decide (pr < 16) = true from decide_eq_true (by omega)] | rw [show decide (pr < 16) = false from decide_eq_false (by omega)] | skip); (first | rw [show decide (dv < pr) = true from decide_eq_true (by omega)] | rw [show decide (dv < pr) = false from decide_eq_false (by omega)] | skip); (first | rw [show decide (dv = pr) = true from decide_eq_true (by omega)] | rw [show decide (dv = pr) = false from decide_eq_false (by omega)] | skip); (first | rw [show decide (cl ≤ 16) = true from decide_eq_true (by omega)] | rw [show decide (cl ≤ 16) = false from decide_eq_false (by omega)] | skip); (first | rw [show decide (ix < 64) = true from decide_eq_true (by omega)] | rw [show decide (ix < 64) = false from decide_eq_false (by omega)] | skip); first | rfl | (simp only [Bool.true_and, Bool.and_true, Bool.false_and, Bool.and_false, Bool.true_or, Bool.false_or, Bool.or_false, Bool.or_true, Bool.not_true, Bool.not_false]; first | done | rfl | ((repeat (first | rw [show up = true by assumption] | rw [show up = false by assumption] | rw [show decide (ix = 0) = true from decide_eq_true (by omega)] | rw [show decide (ix = 0) = false from decide_eq_false (by omega)])); rfl))), rfl⟩
                · intro hg54; clear hl; intro hl
                  try simp only [decide_eq_true_eq, decide_eq_false_iff_not, Bool.not_eq_true', Bool.not_eq_false', Bool.not_eq_true, Bool.not_eq_false, Bool.and_eq_true, Bool.or_eq_true, Bool.and_eq_false_iff, Bool.or_eq_false_iff, Bool.not_not, ne_eq, Int.not_lt, Int.not_le, Decidable.not_not, beq_iff_eq, bne_iff_ne] at hg54
                  refine wl (wl_skip hl rfl ⟨_, _, rfl, rfl, rfl⟩ ?_)
                  clear hl a; intro a hl
                  refine wl (wl_val hl rfl trivial (r_pickF hl rfl rfl) ?_)
                  clear hl a; intro a hl
                  refine wl (wl_val hl rfl trivial (r_move hl rfl) ?_)
                  clear hl a; intro a hl
                  refine wl (wl_skip hl rfl ⟨_, _, rfl, rfl, rfl⟩ ?_)
                  clear hl a; intro a hl
                  refine wl (wl_val hl rfl trivial (r_pickF hl rfl rfl) ?_)
                  clear hl a; intro a hl
                  refine wl (wl_val hl rfl trivial (r_assign hl rfl) ?_)
                  clear hl a; intro a hl
                  refine w_nil ?_
                  have hl2 := hl.add (t := 2) (hl.nil) rfl; clear hl; have hl := hl2; clear hl2
                  refine then_normal ?_
                  refine wp_ret ?_
                  refine blk_ret ?_
                  refine then_ret ?_
                  refine f_ret1 (F' := []) hl hh rfl rfl (by repeat (first | exact keeps_nil | apply keeps_cons (by repeat (first | exact find_head | apply find_tail)) (by first  | rfl) | exact keeps_self | apply keeps_mv)) ?_
                  first | (exfalso; omega) | exact ⟨congrArg Value.bool (by unfold wfF; simp only; (repeat (first | rw [if_pos (by omega)] | rw [if_neg (by omega)])); (try simp only [noPr, nxV]); (first | rw [show noRl ⟨kd, dv, pr, ix, up, ra, rl, via, pm, da, dl, cl⟩ = true by assumption] | rw [show noRl ⟨kd, dv, pr, ix, up, ra, rl, via, pm, da, dl, cl⟩ = false by assumption] | skip); (first | rw [show noRt ⟨kd, dv, pr, ix, up, ra, rl, via, pm, da, dl, cl⟩ = true by assumption] | rw [show noRt ⟨kd, dv, pr, ix, up, ra, rl, via, pm, da, dl, cl⟩ = false by assumption] | skip); (first | rw [show gpF ra rl = true by assumption] | rw [show gpF ra rl = false by assumption] | skip); (first | rw [show gpF da dl = true by assumption] | rw [show gpF da dl = false by assumption] | skip); (first | rw [show decide (dv < 16) = true from decide_eq_true (by omega)] | rw [show decide (dv < 16) = false from decide_eq_false (by omega)] | skip); (first | rw [show decide (via = 16) = true from decide_eq_true (by omega)] | rw [show decide (via = 16) = false from decide_eq_false (by omega)] | skip); (first | rw [show decide (via < 16) = true from decide_eq_true (by omega)] | rw [show decide (via < 16) = false from decide_eq_false (by omega)] | skip); (first | rw [show decide (via = dv) = true from decide_eq_true (by omega)] | rw [show decide (via = dv) = false from decide_eq_false (by omega)] | skip); (first | rw [show decide (via = 0) = true from decide_eq_true (by omega)] | rw [show decide (via = 0) = false from decide_eq_false (by omega)] | skip); (first | rw [show decide (pr = 0) = true from decide_eq_true (by omega)] | rw [show decide (pr = 0) = false from decide_eq_false (by omega)] | skip); (first | rw [show decide (pr < 16) = true from decide_eq_true (by omega)] | rw [show decide (pr < 16) = false from decide_eq_false (by omega)] | skip); (first | rw [show decide (dv < pr) = true from decide_eq_true (by omega)] | rw [show decide (dv < pr) = false from decide_eq_false (by omega)] | skip); (first | rw [show decide (dv = pr) = true from decide_eq_true (by omega)] | rw [show decide (dv = pr) = false from decide_eq_false (by omega)] | skip); (first | rw [show decide (cl ≤ 16) = true from decide_eq_true (by omega)] | rw [show decide (cl ≤ 16) = false from decide_eq_false (by omega)] | skip); (first | rw [show decide (ix < 64) = true from decide_eq_true (by omega)] | rw [show decide (ix < 64) = false from decide_eq_false (by omega)] | skip); first | rfl | (simp only [Bool.true_and, Bool.and_true, Bool.false_and, Bool.and_false, Bool.true_or, Bool.false_or, Bool.or_false, Bool.or_true, Bool.not_true, Bool.not_false]; first | done | rfl | ((repeat (first | rw [show up = true by assumption] | rw [show up = false by assumption] | rw [show decide (ix = 0) = true from decide_eq_true (by omega)] | rw [show decide (ix = 0) = false from decide_eq_false (by omega)])); rfl))), rfl⟩
              · intro hg53; clear hl; intro hl
                try simp only [decide_eq_true_eq, decide_eq_false_iff_not, Bool.not_eq_true', Bool.not_eq_false', Bool.not_eq_true, Bool.not_eq_false, Bool.and_eq_true, Bool.or_eq_true, Bool.and_eq_false_iff, Bool.or_eq_false_iff, Bool.not_not, ne_eq, Int.not_lt, Int.not_le, Decidable.not_not, beq_iff_eq, bne_iff_ne] at hg53
                refine wl (wl_skip hl rfl ⟨_, _, rfl, rfl, rfl⟩ ?_)
                clear hl a; intro a hl
                refine wl (wl_skip hl rfl ⟨_, _, rfl, rfl, rfl⟩ ?_)
                clear hl a; intro a hl
                refine wl (wl_skip hl rfl ⟨_, _, rfl, rfl, rfl⟩ ?_)
                clear hl a; intro a hl
                refine wl (wl_skip hl rfl ⟨_, _, rfl, rfl, rfl⟩ ?_)
                clear hl a; intro a hl
                refine wl (wl_val hl rfl trivial (r_pickF hl rfl rfl) ?_)
                clear hl a; intro a hl
                refine wl (wl_val hl rfl trivial (r_move hl rfl) ?_)
                clear hl a; intro a hl
                refine wl (wl_skip hl rfl ⟨_, _, rfl, rfl, rfl⟩ ?_)
                clear hl a; intro a hl
                refine wl (wl_val hl rfl trivial (r_pickF hl rfl rfl) ?_)
                clear hl a; intro a hl
                refine wl (wl_val hl rfl trivial (r_move hl rfl) ?_)
                clear hl a; intro a hl
                refine wl (wl_skip hl rfl ⟨_, _, rfl, rfl, rfl⟩ ?_)
                clear hl a; intro a hl
                refine wl (wl_val hl rfl trivial (r_pickF hl rfl rfl) ?_)
                clear hl a; intro a hl
                refine wl (wl_val hl rfl trivial (r_assign hl rfl) ?_)
                clear hl a; intro a hl
                refine w_nil ?_
                have hl2 := hl.add (t := 2) (hl.nil) rfl; clear hl; have hl := hl2; clear hl2
                refine then_normal ?_
                refine wp_ret ?_
                refine blk_ret ?_
                refine then_ret ?_
                refine f_ret1 (F' := []) hl hh rfl rfl (by repeat (first | exact keeps_nil | apply keeps_cons (by repeat (first | exact find_head | apply find_tail)) (by first  | rfl) | exact keeps_self | apply keeps_mv)) ?_
                first | (exfalso; omega) | exact ⟨congrArg Value.bool (by unfold wfF; simp only; (repeat (first | rw [if_pos (by omega)] | rw [if_neg (by omega)])); (try simp only [noPr, nxV]); (first | rw [show noRl ⟨kd, dv, pr, ix, up, ra, rl, via, pm, da, dl, cl⟩ = true by assumption] | rw [show noRl ⟨kd, dv, pr, ix, up, ra, rl, via, pm, da, dl, cl⟩ = false by assumption] | skip); (first | rw [show noRt ⟨kd, dv, pr, ix, up, ra, rl, via, pm, da, dl, cl⟩ = true by assumption] | rw [show noRt ⟨kd, dv, pr, ix, up, ra, rl, via, pm, da, dl, cl⟩ = false by assumption] | skip); (first | rw [show gpF ra rl = true by assumption] | rw [show gpF ra rl = false by assumption] | skip); (first | rw [show gpF da dl = true by assumption] | rw [show gpF da dl = false by assumption] | skip); (first | rw [show decide (dv < 16) = true from decide_eq_true (by omega)] | rw [show decide (dv < 16) = false from decide_eq_false (by omega)] | skip); (first | rw [show decide (via = 16) = true from decide_eq_true (by omega)] | rw [show decide (via = 16) = false from decide_eq_false (by omega)] | skip); (first | rw [show decide (via < 16) = true from decide_eq_true (by omega)] | rw [show decide (via < 16) = false from decide_eq_false (by omega)] | skip); (first | rw [show decide (via = dv) = true from decide_eq_true (by omega)] | rw [show decide (via = dv) = false from decide_eq_false (by omega)] | skip); (first | rw [show decide (via = 0) = true from decide_eq_true (by omega)] | rw [show decide (via = 0) = false from decide_eq_false (by omega)] | skip); (first | rw [show decide (pr = 0) = true from decide_eq_true (by omega)] | rw [show decide (pr = 0) = false from decide_eq_false (by omega)] | skip); (first | rw [show decide (pr < 16) = true from decide_eq_true (by omega)] | rw [show decide (pr < 16) = false from decide_eq_false (by omega)] | skip); (first | rw [show decide (dv < pr) = true from decide_eq_true (by omega)] | rw [show decide (dv < pr) = false from decide_eq_false (by omega)] | skip); (first | rw [show decide (dv = pr) = true from decide_eq_true (by omega)] | rw [show decide (dv = pr) = false from decide_eq_false (by omega)] | skip); (first | rw [show decide (cl ≤ 16) = true from decide_eq_true (by omega)] | rw [show decide (cl ≤ 16) = false from decide_eq_false (by omega)] | skip); (first | rw [show decide (ix < 64) = true from decide_eq_true (by omega)] | rw [show decide (ix < 64) = false from decide_eq_false (by omega)] | skip); first | rfl | (simp only [Bool.true_and, Bool.and_true, Bool.false_and, Bool.and_false, Bool.true_or, Bool.false_or, Bool.or_false, Bool.or_true, Bool.not_true, Bool.not_false]; first | done | rfl | ((repeat (first | rw [show up = true by assumption] | rw [show up = false by assumption] | rw [show decide (ix = 0) = true from decide_eq_true (by omega)] | rw [show decide (ix = 0) = false from decide_eq_false (by omega)])); rfl))), rfl⟩
            · intro hg52; clear hl; intro hl
              try simp only [decide_eq_true_eq, decide_eq_false_iff_not, Bool.not_eq_true', Bool.not_eq_false', Bool.not_eq_true, Bool.not_eq_false, Bool.and_eq_true, Bool.or_eq_true, Bool.and_eq_false_iff, Bool.or_eq_false_iff, Bool.not_not, ne_eq, Int.not_lt, Int.not_le, Decidable.not_not, beq_iff_eq, bne_iff_ne] at hg52
              refine wl (wl_skip hl rfl ⟨_, _, rfl, rfl, rfl⟩ ?_)
              clear hl a; intro a hl
              refine wl (wl_skip hl rfl ⟨_, _, rfl, rfl, rfl⟩ ?_)
              clear hl a; intro a hl
              refine wl (wl_skip hl rfl ⟨_, _, rfl, rfl, rfl⟩ ?_)
              clear hl a; intro a hl
              refine wl (wl_skip hl rfl ⟨_, _, rfl, rfl, rfl⟩ ?_)
              clear hl a; intro a hl
              refine wl (wl_val hl rfl trivial (r_pickF hl rfl rfl) ?_)
              clear hl a; intro a hl
              refine wl (wl_val hl rfl trivial (r_move hl rfl) ?_)
              clear hl a; intro a hl
              refine wl (wl_skip hl rfl ⟨_, _, rfl, rfl, rfl⟩ ?_)
              clear hl a; intro a hl
              refine wl (wl_skip hl rfl ⟨_, _, rfl, rfl, rfl⟩ ?_)
              clear hl a; intro a hl
              refine wl (wl_skip hl rfl ⟨_, _, rfl, rfl, rfl⟩ ?_)
              clear hl a; intro a hl
              refine wl (wl_skip hl rfl ⟨_, _, rfl, rfl, rfl⟩ ?_)
              clear hl a; intro a hl
              refine wl (wl_val hl rfl trivial (r_pickF hl rfl rfl) ?_)
              clear hl a; intro a hl
              refine wl (wl_val hl rfl trivial (r_move hl rfl) ?_)
              clear hl a; intro a hl
              refine wl (wl_skip hl rfl ⟨_, _, rfl, rfl, rfl⟩ ?_)
              clear hl a; intro a hl
              refine wl (wl_val hl rfl trivial (r_pickF hl rfl rfl) ?_)
              clear hl a; intro a hl
              refine wl (wl_val hl rfl trivial (r_move hl rfl) ?_)
              clear hl a; intro a hl
              refine wl (wl_skip hl rfl ⟨_, _, rfl, rfl, rfl⟩ ?_)
              clear hl a; intro a hl
              refine wl (wl_val hl rfl trivial (r_pickF hl rfl rfl) ?_)
              clear hl a; intro a hl
              refine wl (wl_val hl rfl trivial (r_assign hl rfl) ?_)
              clear hl a; intro a hl
              refine w_nil ?_
              have hl2 := hl.add (t := 2) (hl.nil) rfl; clear hl; have hl := hl2; clear hl2
              refine then_normal ?_
              refine wp_ret ?_
              refine blk_ret ?_
              refine then_ret ?_
              refine f_ret1 (F' := []) hl hh rfl rfl (by repeat (first | exact keeps_nil | apply keeps_cons (by repeat (first | exact find_head | apply find_tail)) (by first  | rfl) | exact keeps_self | apply keeps_mv)) ?_
              first | (exfalso; omega) | exact ⟨congrArg Value.bool (by unfold wfF; simp only; (repeat (first | rw [if_pos (by omega)] | rw [if_neg (by omega)])); (try simp only [noPr, nxV]); (first | rw [show noRl ⟨kd, dv, pr, ix, up, ra, rl, via, pm, da, dl, cl⟩ = true by assumption] | rw [show noRl ⟨kd, dv, pr, ix, up, ra, rl, via, pm, da, dl, cl⟩ = false by assumption] | skip); (first | rw [show noRt ⟨kd, dv, pr, ix, up, ra, rl, via, pm, da, dl, cl⟩ = true by assumption] | rw [show noRt ⟨kd, dv, pr, ix, up, ra, rl, via, pm, da, dl, cl⟩ = false by assumption] | skip); (first | rw [show gpF ra rl = true by assumption] | rw [show gpF ra rl = false by assumption] | skip); (first | rw [show gpF da dl = true by assumption] | rw [show gpF da dl = false by assumption] | skip); (first | rw [show decide (dv < 16) = true from decide_eq_true (by omega)] | rw [show decide (dv < 16) = false from decide_eq_false (by omega)] | skip); (first | rw [show decide (via = 16) = true from decide_eq_true (by omega)] | rw [show decide (via = 16) = false from decide_eq_false (by omega)] | skip); (first | rw [show decide (via < 16) = true from decide_eq_true (by omega)] | rw [show decide (via < 16) = false from decide_eq_false (by omega)] | skip); (first | rw [show decide (via = dv) = true from decide_eq_true (by omega)] | rw [show decide (via = dv) = false from decide_eq_false (by omega)] | skip); (first | rw [show decide (via = 0) = true from decide_eq_true (by omega)] | rw [show decide (via = 0) = false from decide_eq_false (by omega)] | skip); (first | rw [show decide (pr = 0) = true from decide_eq_true (by omega)] | rw [show decide (pr = 0) = false from decide_eq_false (by omega)] | skip); (first | rw [show decide (pr < 16) = true from decide_eq_true (by omega)] | rw [show decide (pr < 16) = false from decide_eq_false (by omega)] | skip); (first | rw [show decide (dv < pr) = true from decide_eq_true (by omega)] | rw [show decide (dv < pr) = false from decide_eq_false (by omega)] | skip); (first | rw [show decide (dv = pr) = true from decide_eq_true (by omega)] | rw [show decide (dv = pr) = false from decide_eq_false (by omega)] | skip); (first | rw [show decide (cl ≤ 16) = true from decide_eq_true (by omega)] | rw [show decide (cl ≤ 16) = false from decide_eq_false (by omega)] | skip); (first | rw [show decide (ix < 64) = true from decide_eq_true (by omega)] | rw [show decide (ix < 64) = false from decide_eq_false (by omega)] | skip); first | rfl | (simp only [Bool.true_and, Bool.and_true, Bool.false_and, Bool.and_false, Bool.true_or, Bool.false_or, Bool.or_false, Bool.or_true, Bool.not_true, Bool.not_false]; first | done | rfl | ((repeat (first | rw [show up = true by assumption] | rw [show up = false by assumption] | rw [show decide (ix = 0) = true from decide_eq_true (by omega)] | rw [show decide (ix = 0) = false from decide_eq_false (by omega)])); rfl))), rfl⟩
          · intro hg51; clear hl; intro hl
            try simp only [decide_eq_true_eq, decide_eq_false_iff_not, Bool.not_eq_true', Bool.not_eq_false', Bool.not_eq_true, Bool.not_eq_false, Bool.and_eq_true, Bool.or_eq_true, Bool.and_eq_false_iff, Bool.or_eq_false_iff, Bool.not_not, ne_eq, Int.not_lt, Int.not_le, Decidable.not_not, beq_iff_eq, bne_iff_ne] at hg51
            refine wl (wl_skip hl rfl ⟨_, _, rfl, rfl, rfl⟩ ?_)
            clear hl a; intro a hl
            refine wl (wl_skip hl rfl ⟨_, _, rfl, rfl, rfl⟩ ?_)
            clear hl a; intro a hl
            refine wl (wl_skip hl rfl ⟨_, _, rfl, rfl, rfl⟩ ?_)
            clear hl a; intro a hl
            refine wl (wl_val hl rfl trivial (r_pickF hl rfl rfl) ?_)
            clear hl a; intro a hl
            refine wl (wl_val hl rfl trivial (r_move hl rfl) ?_)
            clear hl a; intro a hl
            refine wl (wl_skip hl rfl ⟨_, _, rfl, rfl, rfl⟩ ?_)
            clear hl a; intro a hl
            refine wl (wl_skip hl rfl ⟨_, _, rfl, rfl, rfl⟩ ?_)
            clear hl a; intro a hl
            refine wl (wl_skip hl rfl ⟨_, _, rfl, rfl, rfl⟩ ?_)
            clear hl a; intro a hl
            refine wl (wl_skip hl rfl ⟨_, _, rfl, rfl, rfl⟩ ?_)
            clear hl a; intro a hl
            refine wl (wl_val hl rfl trivial (r_pickF hl rfl rfl) ?_)
            clear hl a; intro a hl
            refine wl (wl_val hl rfl trivial (r_move hl rfl) ?_)
            clear hl a; intro a hl
            refine wl (wl_skip hl rfl ⟨_, _, rfl, rfl, rfl⟩ ?_)
            clear hl a; intro a hl
            refine wl (wl_skip hl rfl ⟨_, _, rfl, rfl, rfl⟩ ?_)
            clear hl a; intro a hl
            refine wl (wl_skip hl rfl ⟨_, _, rfl, rfl, rfl⟩ ?_)
            clear hl a; intro a hl
            refine wl (wl_skip hl rfl ⟨_, _, rfl, rfl, rfl⟩ ?_)
            clear hl a; intro a hl
            refine wl (wl_val hl rfl trivial (r_pickF hl rfl rfl) ?_)
            clear hl a; intro a hl
            refine wl (wl_val hl rfl trivial (r_move hl rfl) ?_)
            clear hl a; intro a hl
            refine wl (wl_skip hl rfl ⟨_, _, rfl, rfl, rfl⟩ ?_)
            clear hl a; intro a hl
            refine wl (wl_val hl rfl trivial (r_pickF hl rfl rfl) ?_)
            clear hl a; intro a hl
            refine wl (wl_val hl rfl trivial (r_move hl rfl) ?_)
            clear hl a; intro a hl
            refine wl (wl_skip hl rfl ⟨_, _, rfl, rfl, rfl⟩ ?_)
            clear hl a; intro a hl
            refine wl (wl_val hl rfl trivial (r_pickF hl rfl rfl) ?_)
            clear hl a; intro a hl
            refine wl (wl_val hl rfl trivial (r_assign hl rfl) ?_)
            clear hl a; intro a hl
            refine w_nil ?_
            have hl2 := hl.add (t := 2) (hl.nil) rfl; clear hl; have hl := hl2; clear hl2
            refine then_normal ?_
            refine wp_ret ?_
            refine blk_ret ?_
            refine then_ret ?_
            refine f_ret1 (F' := []) hl hh rfl rfl (by repeat (first | exact keeps_nil | apply keeps_cons (by repeat (first | exact find_head | apply find_tail)) (by first  | rfl) | exact keeps_self | apply keeps_mv)) ?_
            first | (exfalso; omega) | exact ⟨congrArg Value.bool (by unfold wfF; simp only; (repeat (first | rw [if_pos (by omega)] | rw [if_neg (by omega)])); (try simp only [noPr, nxV]); (first | rw [show noRl ⟨kd, dv, pr, ix, up, ra, rl, via, pm, da, dl, cl⟩ = true by assumption] | rw [show noRl ⟨kd, dv, pr, ix, up, ra, rl, via, pm, da, dl, cl⟩ = false by assumption] | skip); (first | rw [show noRt ⟨kd, dv, pr, ix, up, ra, rl, via, pm, da, dl, cl⟩ = true by assumption] | rw [show noRt ⟨kd, dv, pr, ix, up, ra, rl, via, pm, da, dl, cl⟩ = false by assumption] | skip); (first | rw [show gpF ra rl = true by assumption] | rw [show gpF ra rl = false by assumption] | skip); (first | rw [show gpF da dl = true by assumption] | rw [show gpF da dl = false by assumption] | skip); (first | rw [show decide (dv < 16) = true from decide_eq_true (by omega)] | rw [show decide (dv < 16) = false from decide_eq_false (by omega)] | skip); (first | rw [show decide (via = 16) = true from decide_eq_true (by omega)] | rw [show decide (via = 16) = false from decide_eq_false (by omega)] | skip); (first | rw [show decide (via < 16) = true from decide_eq_true (by omega)] | rw [show decide (via < 16) = false from decide_eq_false (by omega)] | skip); (first | rw [show decide (via = dv) = true from decide_eq_true (by omega)] | rw [show decide (via = dv) = false from decide_eq_false (by omega)] | skip); (first | rw [show decide (via = 0) = true from decide_eq_true (by omega)] | rw [show decide (via = 0) = false from decide_eq_false (by omega)] | skip); (first | rw [show decide (pr = 0) = true from decide_eq_true (by omega)] | rw [show decide (pr = 0) = false from decide_eq_false (by omega)] | skip); (first | rw [show decide (pr < 16) = true from decide_eq_true (by omega)] | rw [show decide (pr < 16) = false from decide_eq_false (by omega)] | skip); (first | rw [show decide (dv < pr) = true from decide_eq_true (by omega)] | rw [show decide (dv < pr) = false from decide_eq_false (by omega)] | skip); (first | rw [show decide (dv = pr) = true from decide_eq_true (by omega)] | rw [show decide (dv = pr) = false from decide_eq_false (by omega)] | skip); (first | rw [show decide (cl ≤ 16) = true from decide_eq_true (by omega)] | rw [show decide (cl ≤ 16) = false from decide_eq_false (by omega)] | skip); (first | rw [show decide (ix < 64) = true from decide_eq_true (by omega)] | rw [show decide (ix < 64) = false from decide_eq_false (by omega)] | skip); first | rfl | (simp only [Bool.true_and, Bool.and_true, Bool.false_and, Bool.and_false, Bool.true_or, Bool.false_or, Bool.or_false, Bool.or_true, Bool.not_true, Bool.not_false]; first | done | rfl | ((repeat (first | rw [show up = true by assumption] | rw [show up = false by assumption] | rw [show decide (ix = 0) = true from decide_eq_true (by omega)] | rw [show decide (ix = 0) = false from decide_eq_false (by omega)])); rfl))), rfl⟩
        · intro hc2
          try simp only [decide_eq_true_eq, decide_eq_false_iff_not, Bool.not_eq_true', Bool.not_eq_false', Bool.not_eq_true, Bool.not_eq_false, Bool.and_eq_true, Bool.or_eq_true, Bool.and_eq_false_iff, Bool.or_eq_false_iff, Bool.not_not, ne_eq, Int.not_lt, Int.not_le, Decidable.not_not, beq_iff_eq, bne_iff_ne] at hc2
          refine c_seq ?_
          refine c_region ?_
          refine wl (wl_val hl rfl trivial (r_eql hl rfl rfl) ?_)
          clear hl a; intro a hl
          refine wl (wl_val hl rfl trivial (r_assign hl rfl) ?_)
          clear hl a; intro a hl
          refine w_nil ?_
          have hl2 := hl.add (t := 1) (hl.add (t := 3) (hl.add (t := 4) (hl.add (t := 5) (hl.add (t := 24) (hl.add (t := 124) (hl.nil) rfl) rfl) rfl) rfl) rfl) rfl; clear hl; have hl := hl2; clear hl2
          refine then_normal ?_
          refine c_cond hl rfl ?_ ?_
          · intro hc3
            try simp only [decide_eq_true_eq, decide_eq_false_iff_not, Bool.not_eq_true', Bool.not_eq_false', Bool.not_eq_true, Bool.not_eq_false, Bool.and_eq_true, Bool.or_eq_true, Bool.and_eq_false_iff, Bool.or_eq_false_iff, Bool.not_not, ne_eq, Int.not_lt, Int.not_le, Decidable.not_not, beq_iff_eq, bne_iff_ne] at hc3
            refine c_seq ?_
            refine c_region ?_
            refine wl (wl_val hl rfl trivial (r_field hl rfl fld57_1) ?_)
            clear hl a; intro a hl
            refine wl (w_load hl hh rfl trivial one5 rfl (by repeat (first | exact find_head | apply find_tail)) (by first | rfl) ?_)
            clear hl a; intro a hl
            refine wl (w_call hl hh rfl trivial rfl cal64 rfl (isDeviceM _) (by repeat (first | exact keeps_nil | apply keeps_cons (by repeat (first | exact find_head | apply find_tail)) (by first  | rfl) | exact keeps_self | apply keeps_mv)) trivial ?_)
            clear hl hh a w; intro vc Fc a w hR hl hh
            obtain ⟨rfl, rfl⟩ := hR
            try simp only [List.cons_append, List.nil_append] at hh
            refine wl (wl_val hl rfl trivial (r_move hl rfl) ?_)
            clear hl a; intro a hl
            refine sl_split (t := 129) hl rfl ?_ ?_
            · intro hg55; clear hl; intro hl
              try simp only [decide_eq_true_eq, decide_eq_false_iff_not, Bool.not_eq_true', Bool.not_eq_false', Bool.not_eq_true, Bool.not_eq_false, Bool.and_eq_true, Bool.or_eq_true, Bool.and_eq_false_iff, Bool.or_eq_false_iff, Bool.not_not, ne_eq, Int.not_lt, Int.not_le, Decidable.not_not, beq_iff_eq, bne_iff_ne] at hg55
              refine wl (wl_val hl rfl ⟨_, _, rfl, rfl, rfl⟩ (r_field hl rfl fld57_3) ?_)
              clear hl a; intro a hl
              refine wl (w_load hl hh rfl ⟨_, _, rfl, rfl, rfl⟩ one5 rfl (by repeat (first | exact find_head | apply find_tail)) (by first | rfl) ?_)
              clear hl a; intro a hl
              refine wl (wl_val hl rfl ⟨_, _, rfl, rfl, rfl⟩ (r_lss hl rfl rfl) ?_)
              clear hl a; intro a hl
              refine wl (wl_val hl rfl trivial (r_pickT hl rfl rfl) ?_)
              clear hl a; intro a hl
              refine wl (wl_val hl rfl trivial (r_move hl rfl) ?_)
              clear hl a; intro a hl
              refine sl_split (t := 134) hl rfl ?_ ?_
              · intro hg56; clear hl; intro hl
                try simp only [decide_eq_true_eq, decide_eq_false_iff_not, Bool.not_eq_true', Bool.not_eq_false', Bool.not_eq_true, Bool.not_eq_false, Bool.and_eq_true, Bool.or_eq_true, Bool.and_eq_false_iff, Bool.or_eq_false_iff, Bool.not_not, ne_eq, Int.not_lt, Int.not_le, Decidable.not_not, beq_iff_eq, bne_iff_ne] at hg56
                refine wl (wl_val hl rfl ⟨_, _, rfl, rfl, rfl⟩ (r_move hl rfl) ?_)
                clear hl a; intro a hl
                refine wl (wl_val hl rfl trivial (r_pickT hl rfl rfl) ?_)
                clear hl a; intro a hl
                refine wl (wl_val hl rfl trivial (r_move hl rfl) ?_)
                clear hl a; intro a hl
                refine wl (wl_skip hl rfl ⟨_, _, rfl, rfl, rfl⟩ ?_)
                clear hl a; intro a hl
                refine wl (wl_val hl rfl trivial (r_pickF hl rfl rfl) ?_)
                clear hl a; intro a hl
                refine wl (wl_val hl rfl trivial (r_move hl rfl) ?_)
                clear hl a; intro a hl
                refine wl (wl_skip hl rfl ⟨_, _, rfl, rfl, rfl⟩ ?_)
                clear hl a; intro a hl
                refine wl (wl_val hl rfl trivial (r_pickF hl rfl rfl) ?_)
                clear hl a; intro a hl
                refine wl (wl_val hl rfl trivial (r_assign hl rfl) ?_)
                clear hl a; intro a hl
                refine w_nil ?_
                have hl2 := hl.add (t := 2) (hl.nil) rfl; clear hl; have hl := hl2; clear hl2
                refine then_normal ?_
                refine wp_ret ?_
                refine blk_ret ?_
                refine then_ret ?_
                refine f_ret1 (F' := []) hl hh rfl rfl (by repeat (first | exact keeps_nil | apply keeps_cons (by repeat (first | exact find_head | apply find_tail)) (by first  | rfl) | exact keeps_self | apply keeps_mv)) ?_
                first | (exfalso; omega) | exact ⟨congrArg Value.bool (by unfold wfF; simp only; (repeat (first | rw [if_pos (by omega)] | rw [if_neg (by omega)])); (try simp only [noPr, nxV]); (first | rw [show noRl ⟨kd, dv, pr, ix, up, ra, rl, via, pm, da, dl, cl⟩ = true by assumption] | rw [show noRl ⟨kd, dv, pr, ix, up, ra, rl, via, pm, da, dl, cl⟩ = false by assumption] | skip); (first | rw [show noRt ⟨kd, dv, pr, ix, up, ra, rl, via, pm, da, dl, cl⟩ = true by assumption] | rw [show noRt ⟨kd, dv, pr, ix, up, ra, rl, via, pm, da, dl, cl⟩ = false by assumption] | skip); (first | rw [show gpF ra rl = true by assumption] | rw [show gpF ra rl = false by assumption] | skip); (first | rw [show gpF da dl = true by assumption] | rw [show gpF da dl = false by assumption] | skip); (first | rw [show decide (dv < 16) = true from decide_eq_true (by omega)] | rw [show decide (dv < 16) = false from decide_eq_false (by omega)] | skip); (first | rw [show decide (via = 16) = true from decide_eq_true (by omega)] | rw [show decide (via = 16) = false from decide_eq_false (by omega)] | skip); (first | rw [show decide (via < 16) = true from decide_eq_true (by omega)] | rw [show decide (via < 16) = false from decide_eq_false (by omega)] | skip); (first | rw [show decide (via = dv) = true from decide_eq_true (by omega)] | rw [show decide (via = dv) = false from decide_eq_false (by omega)] | skip); (first | rw [show decide (via = 0) = true from decide_eq_true (by omega)] | rw [show decide (via = 0) = false from decide_eq_false (by omega)] | skip); (first | rw [show decide (pr = 0) = true from decide_eq_true (by omega)] | rw [show decide (pr = 0) = false from decide_eq_false (by omega)] | skip); (first | rw [show decide (pr < 16) = true from decide_eq_true (by omega)] | rw [show decide (pr < 16) = false from decide_eq_false (by omega)] | skip); (first | rw [show decide (dv < pr) = true from decide_eq_true (by omega)] | rw [show decide (dv < pr) = false from decide_eq_false (by omega)] | skip); (first | rw [show decide (dv = pr) = true from decide_eq_true (by omega)] | rw [show decide (dv = pr) = false from decide_eq_false (by omega)] | skip); (first | rw [show decide (cl ≤ 16) = true from decide_eq_true (by omega)] | rw [show decide (cl ≤ 16) = false from decide_eq_false (by omega)] | skip); (first | rw [show decide (ix < 64) = true from decide_eq_true (by omega)] | rw [show decide (ix < 64) = false from decide_eq_false (by omega)] | skip); first | rfl | (simp only [Bool.true_and, Bool.and_true, Bool.false_and, Bool.and_false, Bool.true_or, Bool.false_or, Bool.or_false, Bool.or_true, Bool.not_true, Bool.not_false]; first | done | rfl | ((repeat (first | rw [show up = true by assumption] | rw [show up = false by assumption] | rw [show decide (ix = 0) = true from decide_eq_true (by omega)] | rw [show decide (ix = 0) = false from decide_eq_false (by omega)])); rfl))), rfl⟩
              · intro hg56; clear hl; intro hl
                try simp only [decide_eq_true_eq, decide_eq_false_iff_not, Bool.not_eq_true', Bool.not_eq_false', Bool.not_eq_true, Bool.not_eq_false, Bool.and_eq_true, Bool.or_eq_true, Bool.and_eq_false_iff, Bool.or_eq_false_iff, Bool.not_not, ne_eq, Int.not_lt, Int.not_le, Decidable.not_not, beq_iff_eq, bne_iff_ne] at hg56
                refine wl (wl_skip hl rfl ⟨_, _, rfl, rfl, rfl⟩ ?_)
                clear hl a; intro a hl
                refine wl (wl_val hl rfl trivial (r_pickF hl rfl rfl) ?_)
                clear hl a; intro a hl
                refine wl (wl_val hl rfl trivial (r_move hl rfl) ?_)
                clear hl a; intro a hl
                refine wl (wl_skip hl rfl ⟨_, _, rfl, rfl, rfl⟩ ?_)
                clear hl a; intro a hl
                refine wl (wl_val hl rfl trivial (r_pickF hl rfl rfl) ?_)
                clear hl a; intro a hl
                refine wl (wl_val hl rfl trivial (r_move hl rfl) ?_)
                clear hl a; intro a hl
                refine wl (wl_skip hl rfl ⟨_, _, rfl, rfl, rfl⟩ ?_)
                clear hl a; intro a hl
                refine wl (wl_val hl rfl trivial (r_pickF hl rfl rfl) ?_)
                clear hl a; intro a hl
                refine wl (wl_val hl rfl trivial (r_assign hl rfl) ?_)
                clear hl a; intro a hl
                refine w_nil ?_
                have hl2 := hl.add (t := 2) (hl.nil) rfl; clear hl; have hl := hl2; clear hl2
                refine then_normal ?_
                refine wp_ret ?_
                refine blk_ret ?_
                refine then_ret ?_
                refine f_ret1 (F' := []) hl hh rfl rfl (by repeat (first | exact keeps_nil | apply keeps_cons (by repeat (first | exact find_head | apply find_tail)) (by first  | rfl) | exact keeps_self | apply keeps_mv)) ?_
                first | (exfalso; omega) | exact ⟨congrArg Value.bool (by unfold wfF; simp only; (repeat (first | rw [if_pos (by omega)] | rw [if_neg (by omega)])); (try simp only [noPr, nxV]); (first | rw [show noRl ⟨kd, dv, pr, ix, up, ra, rl, via, pm, da, dl, cl⟩ = true by assumption] | rw [show noRl ⟨kd, dv, pr, ix, up, ra, rl, via, pm, da, dl, cl⟩ = false by assumption] | skip); (first | rw [show noRt ⟨kd, dv, pr, ix, up, ra, rl, via, pm, da, dl, cl⟩ = true by assumption] | rw [show noRt ⟨kd, dv, pr, ix, up, ra, rl, via, pm, da, dl, cl⟩ = false by assumption] | skip); (first | rw [show gpF ra rl = true by assumption] | rw [show gpF ra rl = false by assumption] | skip); (first | rw [show gpF da dl = true by assumption] | rw [show gpF da dl = false by assumption] | skip); (first | rw [show decide (dv < 16) = true from decide_eq_true (by omega)] | rw [show decide (dv < 16) = false from decide_eq_false (by omega)] | skip); (first | rw [show decide (via = 16) = true from decide_eq_true (by omega)] | rw [show decide (via = 16) = false from decide_eq_false (by omega)] | skip); (first | rw [show decide (via < 16) = true from decide_eq_true (by omega)] | rw [show decide (via < 16) = false from decide_eq_false (by omega)] | skip); (first | rw [show decide (via = dv) = true from decide_eq_true (by omega)] | rw [show decide (via = dv) = false from decide_eq_false (by omega)] | skip); (first | rw [show decide (via = 0) = true from decide_eq_true (by omega)] | rw [show decide (via = 0) = false from decide_eq_false (by omega)] | skip); (first | rw [show decide (pr = 0) = true from decide_eq_true (by omega)] | rw [show decide (pr = 0) = false from decide_eq_false (by omega)] | skip); (first | rw [show decide (pr < 16) = true from decide_eq_true (by omega)] | rw [show decide (pr < 16) = false from decide_eq_false (by omega)] | skip); (first | rw [show decide (dv < pr) = true from decide_eq_true (by omega)] | rw [show decide (dv < pr) = false from decide_eq_false (by omega)] | skip); (first | rw [show decide (dv = pr) = true from decide_eq_true (by omega)] | rw [show decide (dv = pr) = false from decide_eq_false (by omega)] | skip); (first | rw [show decide (cl ≤ 16) = true from decide_eq_true (by omega)] | rw [show decide (cl ≤ 16) = false from decide_eq_false (by omega)] | skip); (first | rw [show decide (ix < 64) = true from decide_eq_true (by omega)] | rw [show decide (ix < 64) = false from decide_eq_false (by omega)] | skip); first | rfl | (simp only [Bool.true_and, Bool.and_true, Bool.false_and, Bool.and_false, Bool.true_or, Bool.false_or, Bool.or_false, Bool.or_true, Bool.not_true, Bool.not_false]; first | done | rfl | ((repeat (first | rw [show up = true by assumption] | rw [show up = false by assumption] | rw [show decide (ix = 0) = true from decide_eq_true (by omega)] | rw [show decide (ix = 0) = false from decide_eq_false (by omega)])); rfl))), rfl⟩
            · intro hg55; clear hl; intro hl
              try simp only [decide_eq_true_eq, decide_eq_false_iff_not, Bool.not_eq_true', Bool.not_eq_false', Bool.not_eq_true, Bool.not_eq_false, Bool.and_eq_true, Bool.or_eq_true, Bool.and_eq_false_iff, Bool.or_eq_false_iff, Bool.not_not, ne_eq, Int.not_lt, Int.not_le, Decidable.not_not, beq_iff_eq, bne_iff_ne] at hg55
              refine wl (wl_skip hl rfl ⟨_, _, rfl, rfl, rfl⟩ ?_)
              clear hl a; intro a hl
              refine wl (wl_skip hl rfl ⟨_, _, rfl, rfl, rfl⟩ ?_)
              clear hl a; intro a hl
              refine wl (wl_skip hl rfl ⟨_, _, rfl, rfl, rfl⟩ ?_)
              clear hl a; intro a hl
              refine wl (wl_val hl rfl trivial (r_pickF hl rfl rfl) ?_)
              clear hl a; intro a hl
              refine wl (wl_val hl rfl trivial (r_move hl rfl) ?_)
              clear hl a; intro a hl
              refine wl (wl_skip hl rfl ⟨_, _, rfl, rfl, rfl⟩ ?_)
              clear hl a; intro a hl
              refine wl (wl_val hl rfl trivial (r_pickF hl rfl rfl) ?_)
              clear hl a; intro a hl
              refine wl (wl_val hl rfl trivial (r_move hl rfl) ?_)
              clear hl a; intro a hl
              refine wl (wl_skip hl rfl ⟨_, _, rfl, rfl, rfl⟩ ?_)
              clear hl a; intro a hl
              refine wl (wl_val hl rfl trivial (r_pickF hl rfl rfl) ?_)
              clear hl a; intro a hl
              refine wl (wl_val hl rfl trivial (r_move hl rfl) ?_)
              clear hl a; intro a hl
              refine wl (wl_skip hl rfl ⟨_, _, rfl, rfl, rfl⟩ ?_)
              clear hl a; intro a hl
              refine wl (wl_val hl rfl trivial (r_pickF hl rfl rfl) ?_)
              clear hl a; intro a hl
              refine wl (wl_val hl rfl trivial (r_assign hl rfl) ?_)
              clear hl a; intro a hl
              refine w_nil ?_
              have hl2 := hl.add (t := 2) (hl.nil) rfl; clear hl; have hl := hl2; clear hl2
              refine then_normal ?_
              refine wp_ret ?_
              refine blk_ret ?_
              refine then_ret ?_
              refine f_ret1 (F' := []) hl hh rfl rfl (by repeat (first | exact keeps_nil | apply keeps_cons (by repeat (first | exact find_head | apply find_tail)) (by first  | rfl) | exact keeps_self | apply keeps_mv)) ?_
              first | (exfalso; omega) | exact ⟨congrArg Value.bool (by unfold wfF; simp only; (repeat (first | rw [if_pos (by omega)] | rw [if_neg (by omega)])); (try simp only [noPr, nxV]); (first | rw [show noRl ⟨kd, dv, pr, ix, up, ra, rl, via, pm, da, dl, cl⟩ = true by assumption] | rw [show noRl ⟨kd, dv, pr, ix, up, ra, rl, via, pm, da, dl, cl⟩ = false by assumption] | skip); (first | rw [show noRt ⟨kd, dv, pr, ix, up, ra, rl, via, pm, da, dl, cl⟩ = true by assumption] | rw [show noRt ⟨kd, dv, pr, ix, up, ra, rl, via, pm, da, dl, cl⟩ = false by assumption] | skip); (first | rw [show gpF ra rl = true by assumption] | rw [show gpF ra rl = false by assumption] | skip); (first | rw [show gpF da dl = true by assumption] | rw [show gpF da dl = false by assumption] | skip); (first | rw [show decide (dv < 16) = true from decide_eq_true (by omega)] | rw [show decide (dv < 16) = false from decide_eq_false (by omega)] | skip); (first | rw [show decide (via = 16) = true from decide_eq_true (by omega)] | rw [show decide (via = 16) = false from decide_eq_false (by omega)] | skip); (first | rw [show decide (via < 16) = true from decide_eq_true (by omega)] | rw [show decide (via < 16) = false from decide_eq_false (by omega)] | skip); (first | rw [show decide (via = dv) = true from decide_eq_true (by omega)] | rw [show decide (via = dv) = false from decide_eq_false (by omega)] | skip); (first | rw [show decide (via = 0) = true from decide_eq_true (by omega)] | rw [show decide (via = 0) = false from decide_eq_false (by omega)] | skip); (first | rw [show decide (pr = 0) = true from decide_eq_true (by omega)] | rw [show decide (pr = 0) = false from decide_eq_false (by omega)] | skip); (first | rw [show decide (pr < 16) = true from decide_eq_true (by omega)] | rw [show decide (pr < 16) = false from decide_eq_false (by omega)] | skip); (first | rw [show decide (dv < pr) = true from decide_eq_true (by omega)] | rw [show decide (dv < pr) = false from decide_eq_false (by omega)] | skip); (first | rw [show decide (dv = pr) = true from decide_eq_true (by omega)] | rw [show decide (dv = pr) = false from decide_eq_false (by omega)] | skip); (first | rw [show decide (cl ≤ 16) = true from decide_eq_true (by omega)] | rw [show decide (cl ≤ 16) = false from decide_eq_false (by omega)] | skip); (first | rw [show decide (ix < 64) = true from decide_eq_true (by omega)] | rw [show decide (ix < 64) = false from decide_eq_false (by omega)] | skip); first | rfl | (simp only [Bool.true_and, Bool.and_true, Bool.false_and, Bool.and_false, Bool.true_or, Bool.false_or, Bool.or_false, Bool.or_true, Bool.not_true, Bool.not_false]; first | done | rfl | ((repeat (first | rw [show up = true by assumption] | rw [show up = false by assumption] | rw [show decide (ix = 0) = true from decide_eq_true (by omega)] | rw [show decide (ix = 0) = false from decide_eq_false (by omega)])); rfl))), rfl⟩
          · intro hc3
            try simp only [decide_eq_true_eq, decide_eq_false_iff_not, Bool.not_eq_true', Bool.not_eq_false', Bool.not_eq_true, Bool.not_eq_false, Bool.and_eq_true, Bool.or_eq_true, Bool.and_eq_false_iff, Bool.or_eq_false_iff, Bool.not_not, ne_eq, Int.not_lt, Int.not_le, Decidable.not_not, beq_iff_eq, bne_iff_ne] at hc3
            refine c_seq ?_
            refine c_region ?_
            refine wl (wl_val hl rfl trivial (r_eql hl rfl rfl) ?_)
            clear hl a; intro a hl
            refine wl (wl_val hl rfl trivial (r_assign hl rfl) ?_)
            clear hl a; intro a hl
            refine w_nil ?_
            have hl2 := hl.add (t := 1) (hl.add (t := 4) (hl.add (t := 5) (hl.add (t := 24) (hl.add (t := 143) (hl.nil) rfl) rfl) rfl) rfl) rfl; clear hl; have hl := hl2; clear hl2
            refine then_normal ?_
            refine c_cond hl rfl ?_ ?_
            · intro hc4
              try simp only [decide_eq_true_eq, decide_eq_false_iff_not, Bool.not_eq_true', Bool.not_eq_false', Bool.not_eq_true, Bool.not_eq_false, Bool.and_eq_true, Bool.or_eq_true, Bool.and_eq_false_iff, Bool.or_eq_false_iff, Bool.not_not, ne_eq, Int.not_lt, Int.not_le, Decidable.not_not, beq_iff_eq, bne_iff_ne] at hc4
              refine c_seq ?_
              refine c_region ?_
              refine wl (wl_val hl rfl trivial (r_field hl rfl fld57_1) ?_)
              clear hl a; intro a hl
              refine wl (w_load hl hh rfl trivial one5 rfl (by repeat (first | exact find_head | apply find_tail)) (by first | rfl) ?_)
              clear hl a; intro a hl
              refine wl (w_call hl hh rfl trivial rfl cal64 rfl (isDeviceM _) (by repeat (first | exact keeps_nil | apply keeps_cons (by repeat (first | exact find_head | apply find_tail)) (by first  | rfl) | exact keeps_self | apply keeps_mv)) trivial ?_)
              clear hl hh a w; intro vc Fc a w hR hl hh
              obtain ⟨rfl, rfl⟩ := hR
              try simp only [List.cons_append, List.nil_append] at hh
              refine wl (wl_val hl rfl trivial (r_move hl rfl) ?_)
              clear hl a; intro a hl
              refine sl_split (t := 148) hl rfl ?_ ?_
              · intro hg57; clear hl; intro hl
                try simp only [decide_eq_true_eq, decide_eq_false_iff_not, Bool.not_eq_true', Bool.not_eq_false', Bool.not_eq_true, Bool.not_eq_false, Bool.and_eq_true, Bool.or_eq_true, Bool.and_eq_false_iff, Bool.or_eq_false_iff, Bool.not_not, ne_eq, Int.not_lt, Int.not_le, Decidable.not_not, beq_iff_eq, bne_iff_ne] at hg57
                refine wl (wl_val hl rfl ⟨_, _, rfl, rfl, rfl⟩ (r_field hl rfl fld57_2) ?_)
                clear hl a; intro a hl
                refine wl (w_load hl hh rfl ⟨_, _, rfl, rfl, rfl⟩ one5 rfl (by repeat (first | exact find_head | apply find_tail)) (by first | rfl) ?_)
                clear hl a; intro a hl
                refine wl (w_call hl hh rfl ⟨_, _, rfl, rfl, rfl⟩ rfl cal64 rfl (isDeviceM _) (by repeat (first | exact keeps_nil | apply keeps_cons (by repeat (first | exact find_head | apply find_tail)) (by first  | rfl) | exact keeps_self | apply keeps_mv)) trivial ?_)
                clear hl hh a w; intro vc Fc a w hR hl hh
                obtain ⟨rfl, rfl⟩ := hR
                try simp only [List.cons_append, List.nil_append] at hh
                refine wl (wl_val hl rfl trivial (r_pickT hl rfl rfl) ?_)
                clear hl a; intro a hl
                refine wl (wl_val hl rfl trivial (r_move hl rfl) ?_)
                clear hl a; intro a hl
                refine sl_split (t := 153) hl rfl ?_ ?_
                · intro hg58; clear hl; intro hl
                  try simp only [decide_eq_true_eq, decide_eq_false_iff_not, Bool.not_eq_true', Bool.not_eq_false', Bool.not_eq_true, Bool.not_eq_false, Bool.and_eq_true, Bool.or_eq_true, Bool.and_eq_false_iff, Bool.or_eq_false_iff, Bool.not_not, ne_eq, Int.not_lt, Int.not_le, Decidable.not_not, beq_iff_eq, bne_iff_ne] at hg58
                  refine wl (wl_val hl rfl ⟨_, _, rfl, rfl, rfl⟩ (r_field hl rfl fld57_1) ?_)
                  clear hl a; intro a hl
                  refine wl (w_load hl hh rfl ⟨_, _, rfl, rfl, rfl⟩ one5 rfl (by repeat (first | exact find_head | apply find_tail)) (by first | rfl) ?_)
                  clear hl a; intro a hl
                  refine wl (wl_val hl rfl ⟨_, _, rfl, rfl, rfl⟩ (r_field hl rfl fld57_2) ?_)
                  clear hl a; intro a hl
                  refine wl (w_load hl hh rfl ⟨_, _, rfl, rfl, rfl⟩ one5 rfl (by repeat (first | exact find_head | apply find_tail)) (by first | rfl) ?_)
                  clear hl a; intro a hl
                  refine wl (wl_val hl rfl ⟨_, _, rfl, rfl, rfl⟩ (r_lss hl rfl rfl) ?_)
                  clear hl a; intro a hl
                  refine wl (wl_val hl rfl trivial (r_pickT hl rfl rfl) ?_)
                  clear hl a; intro a hl
                  refine wl (wl_val hl rfl trivial (r_move hl rfl) ?_)
                  clear hl a; intro a hl
                  refine sl_split (t := 160) hl rfl ?_ ?_
                  · intro hg59; clear hl; intro hl
                    try simp only [decide_eq_true_eq, decide_eq_false_iff_not, Bool.not_eq_true', Bool.not_eq_false', Bool.not_eq_true, Bool.not_eq_false, Bool.and_eq_true, Bool.or_eq_true, Bool.and_eq_false_iff, Bool.or_eq_false_iff, Bool.not_not, ne_eq, Int.not_lt, Int.not_le, Decidable.not_not, beq_iff_eq, bne_iff_ne] at hg59
                    refine wl (wl_val hl rfl ⟨_, _, rfl, rfl, rfl⟩ (r_move hl rfl) ?_)
                    clear hl a; intro a hl
                    refine wl (wl_val hl rfl trivial (r_pickT hl rfl rfl) ?_)
                    clear hl a; intro a hl
                    refine wl (wl_val hl rfl trivial (r_move hl rfl) ?_)
                    clear hl a; intro a hl
                    refine sl_split (t := 163) hl rfl ?_ ?_
                    · intro hg60; clear hl; intro hl
                      try simp only [decide_eq_true_eq, decide_eq_false_iff_not, Bool.not_eq_true', Bool.not_eq_false', Bool.not_eq_true, Bool.not_eq_false, Bool.and_eq_true, Bool.or_eq_true, Bool.and_eq_false_iff, Bool.or_eq_false_iff, Bool.not_not, ne_eq, Int.not_lt, Int.not_le, Decidable.not_not, beq_iff_eq, bne_iff_ne] at hg60
                      refine wl (wl_val hl rfl ⟨_, _, rfl, rfl, rfl⟩ (r_move hl rfl) ?_)
                      clear hl a; intro a hl
                      refine wl (wl_val hl rfl trivial (r_pickT hl rfl rfl) ?_)
                      clear hl a; intro a hl
                      refine wl (wl_val hl rfl trivial (r_move hl rfl) ?_)
                      clear hl a; intro a hl
                      refine sl_split (t := 166) hl rfl ?_ ?_
                      · intro hg61; clear hl; intro hl
                        try simp only [decide_eq_true_eq, decide_eq_false_iff_not, Bool.not_eq_true', Bool.not_eq_false', Bool.not_eq_true, Bool.not_eq_false, Bool.and_eq_true, Bool.or_eq_true, Bool.and_eq_false_iff, Bool.or_eq_false_iff, Bool.not_not, ne_eq, Int.not_lt, Int.not_le, Decidable.not_not, beq_iff_eq, bne_iff_ne] at hg61
                        refine wl (wl_val hl rfl ⟨_, _, rfl, rfl, rfl⟩ (r_field hl rfl fld57_3) ?_)
                        clear hl a; intro a hl
                        refine wl (w_load hl hh rfl ⟨_, _, rfl, rfl, rfl⟩ one5 rfl (by repeat (first | exact find_head | apply find_tail)) (by first | rfl) ?_)
                        clear hl a; intro a hl
                        refine wl (wl_val hl rfl ⟨_, _, rfl, rfl, rfl⟩ (r_eql hl rfl rfl) ?_)
                        clear hl a; intro a hl
                        refine wl (wl_val hl rfl trivial (r_pickT hl rfl rfl) ?_)
                        clear hl a; intro a hl
                        refine wl (wl_val hl rfl trivial (r_assign hl rfl) ?_)
                        clear hl a; intro a hl
                        refine w_nil ?_
                        have hl2 := hl.add (t := 2) (hl.nil) rfl; clear hl; have hl := hl2; clear hl2
                        refine then_normal ?_
                        refine wp_ret ?_
                        refine blk_ret ?_
                        refine then_ret ?_
                        refine f_ret1 (F' := []) hl hh rfl rfl (by repeat (first | exact keeps_nil | apply keeps_cons (by repeat (first | exact find_head | apply find_tail)) (by first  | rfl) | exact keeps_self | apply keeps_mv)) ?_
                        first | (exfalso; omega) | exact ⟨congrArg Value.bool (by unfold wfF; simp only; (repeat (first | rw [if_pos (by omega)] | rw [if_neg (by omega)])); (try simp only [noPr, nxV]); (first | rw [show noRl ⟨kd, dv, pr, ix, up, ra, rl, via, pm, da, dl, cl⟩ = true by assumption] | rw [show noRl ⟨kd, dv, pr, ix, up, ra, rl, via, pm, da, dl, cl⟩ = false by assumption] | skip); (first | rw [show noRt ⟨kd, dv, pr, ix, up, ra, rl, via, pm, da, dl, cl⟩ = true by assumption] | rw [show noRt ⟨kd, dv, pr, ix, up, ra, rl, via, pm, da, dl, cl⟩ = false by assumption] | skip); (first | rw [show gpF ra rl = true by assumption] | rw [show gpF ra rl = false by assumption] | skip); (first | rw [show gpF da dl = true by assumption] | rw [show gpF da dl = false by assumption] | skip); (first | rw [show decide (dv < 16) = true from decide_eq_true (by omega)] | rw [show decide (dv < 16) = false from decide_eq_false (by omega)] | skip); (first | rw [show decide (via = 16) = true from decide_eq_true (by omega)] | rw [show decide (via = 16) = false from decide_eq_false (by omega)] | skip); (first | rw [show decide (via < 16) = true from decide_eq_true (by omega)] | rw [show decide (via < 16) = false from decide_eq_false (by omega)] | skip); (first | rw [show decide (via = dv) = true from decide_eq_true (by omega)] | rw [show decide (via = dv) = false from decide_eq_false (by omega)] | skip); (first | rw [show decide (via = 0) = true from decide_eq_true (by omega)] | rw [show decide (via = 0) = false from decide_eq_false (by omega)] | skip); (first | rw [show decide (pr = 0) = true from decide_eq_true (by omega)] | rw [show decide (pr = 0) = false from decide_eq_false (by omega)] | skip); (first | rw [show decide (pr < 16) = true from decide_eq_true (by omega)] | rw [show decide (pr < 16) = false from decide_eq_false (by omega)] | skip); (first | rw [show decide (dv < pr) = true from decide_eq_true (by omega)] | rw [show decide (dv < pr) = false from decide_eq_false (by omega)] | skip); (first | rw [show decide (dv = pr) = true from decide_eq_true (by omega)] | rw [show decide (dv = pr) = false from decide_eq_false (by omega)] | skip); (first | rw [show decide (cl ≤ 16) = true from decide_eq_true (by omega)] | rw [show decide (cl ≤ 16) = false from decide_eq_false (by omega)] | skip); (first | rw [show decide (ix < 64) = true from decide_eq_true (by omega)] | rw [show decide (ix < 64) = false from decide_eq_false (by omega)] | skip); first | rfl | (simp only [Bool.true_and, Bool.and_true, Bool.false_and, Bool.and_false, Bool.true_or, Bool.false_or, Bool.or_false, Bool.or_true, Bool.not_true, Bool.not_false]; first | done | rfl | ((repeat (first | rw [show up = true by assumption] | rw [show up = false by assumption] | rw [show decide (ix = 0) = true from decide_eq_true (by omega)] | rw [show decide (ix = 0) = false from decide_eq_false (by omega)])); rfl))), rfl⟩
                      · intro hg61; clear hl; intro hl
                        try simp only [decide_eq_true_eq, decide_eq_false_iff_not, Bool.not_eq_true', Bool.not_eq_false', Bool.not_eq_true, Bool.not_eq_false, Bool.and_eq_true, Bool.or_eq_true, Bool.and_eq_false_iff, Bool.or_eq_false_iff, Bool.not_not, ne_eq, Int.not_lt, Int.not_le, Decidable.not_not, beq_iff_eq, bne_iff_ne] at hg61
                        refine wl (wl_skip hl rfl ⟨_, _, rfl, rfl, rfl⟩ ?_)
                        clear hl a; intro a hl
                        refine wl (wl_skip hl rfl ⟨_, _, rfl, rfl, rfl⟩ ?_)
                        clear hl a; intro a hl
                        refine wl (wl_skip hl rfl ⟨_, _, rfl, rfl, rfl⟩ ?_)
                        clear hl a; intro a hl
                        refine wl (wl_val hl rfl trivial (r_pickF hl rfl rfl) ?_)
                        clear hl a; intro a hl
                        refine wl (wl_val hl rfl trivial (r_assign hl rfl) ?_)
                        clear hl a; intro a hl
                        refine w_nil ?_
                        have hl2 := hl.add (t := 2) (hl.nil) rfl; clear hl; have hl := hl2; clear hl2
                        refine then_normal ?_
                        refine wp_ret ?_
                        refine blk_ret ?_
                        refine then_ret ?_
                        refine f_ret1 (F' := []) hl hh rfl rfl (by repeat (first | exact keeps_nil | apply keeps_cons (by repeat (first | exact find_head | apply find_tail)) (by first  | rfl) | exact keeps_self | apply keeps_mv)) ?_
                        first | (exfalso; omega) | exact ⟨congrArg Value.bool (by unfold wfF; simp only; (repeat (first | rw [if_pos (by omega)] | rw [if_neg (by omega)])); (try simp only [noPr, nxV]); (first | rw [show noRl ⟨kd, dv, pr, ix, up, ra, rl, via, pm, da, dl, cl⟩ = true by assumption] | rw [show noRl ⟨kd, dv, pr, ix, up, ra, rl, via, pm, da, dl, cl⟩ = false by assumption] | skip); (first | rw [show noRt ⟨kd, dv, pr, ix, up, ra, rl, via, pm, da, dl, cl⟩ = true by assumption] | rw [show noRt ⟨kd, dv, pr, ix, up, ra, rl, via, pm, da, dl, cl⟩ = false by assumption] | skip); (first | rw [show gpF ra rl = true by assumption] | rw [show gpF ra rl = false by assumption] | skip); (first | rw [show gpF da dl = true by assumption] | rw [show gpF da dl = false by assumption] | skip); (first | rw [show decide (dv < 16) = true from decide_eq_true (by omega)] | rw [show decide (dv < 16) = false from decide_eq_false (by omega)] | skip); (first | rw [show decide (via = 16) = true from decide_eq_true (by omega)] | rw [show decide (via = 16) = false from decide_eq_false (by omega)] | skip); (first | rw [show decide (via < 16) = true from decide_eq_true (by omega)] | rw [show decide (via < 16) = false from decide_eq_false (by omega)] | skip); (first | rw [show decide (via = dv) = true from decide_eq_true (by omega)] | rw [show decide (via = dv) = false from decide_eq_false (by omega)] | skip); (first | rw [show decide (via = 0) = true from decide_eq_true (by omega)] | rw [show decide (via = 0) = false from decide_eq_false (by omega)] | skip); (first | rw [show decide (pr = 0) = true from decide_eq_true (by omega)] | rw [show decide (pr = 0) = false from decide_eq_false (by omega)] | skip); (first | rw [show decide (pr < 16) = true from decide_eq_true (by omega)] | rw [show decide (pr < 16) = false from decide_eq_false (by omega)] | skip); (first | rw [show decide (dv < pr) = true from decide_eq_true (by omega)] | rw [show decide (dv < pr) = false from decide_eq_false (by omega)] | skip); (first | rw [show decide (dv = pr) = true from decide_eq_true (by omega)] | rw [show decide (dv = pr) = false from decide_eq_false (by omega)] | skip); (first | rw [show decide (cl ≤ 16) = true from decide_eq_true (by omega)] | rw [show decide (cl ≤ 16) = false from decide_eq_false (by omega)] | skip); (first | rw [show decide (ix < 64) = true from decide_eq_true (by omega)] | rw [show decide (ix < 64) = false from decide_eq_false (by omega)] | skip); first | rfl | (simp only [Bool.true_and, Bool.and_true, Bool.false_and, Bool.and_false, Bool.true_or, Bool.false_or, Bool.or_false, Bool.or_true, Bool.not_true, Bool.not_false]; first | done | rfl | ((repeat (first | rw [show up = true by assumption] | rw [show up = false by assumption] | rw [show decide (ix = 0) = true from decide_eq_true (by omega)] | rw [show decide (ix = 0) = false from decide_eq_false (by omega)])); rfl))), rfl⟩
                    · intro hg60; clear hl; intro hl
                      try simp only [decide_eq_true_eq, decide_eq_false_iff_not, Bool.not_eq_true', Bool.not_eq_false', Bool.not_eq_true, Bool.not_eq_false, Bool.and_eq_true, Bool.or_eq_true, Bool.and_eq_false_iff, Bool.or_eq_false_iff, Bool.not_not, ne_eq, Int.not_lt, Int.not_le, Decidable.not_not, beq_iff_eq, bne_iff_ne] at hg60
                      refine wl (wl_skip hl rfl ⟨_, _, rfl, rfl, rfl⟩ ?_)
                      clear hl a; intro a hl
                      refine wl (wl_val hl rfl trivial (r_pickF hl rfl rfl) ?_)
                      clear hl a; intro a hl
                      refine wl (wl_val hl rfl trivial (r_move hl rfl) ?_)
                      clear hl a; intro a hl
                      refine wl (wl_skip hl rfl ⟨_, _, rfl, rfl, rfl⟩ ?_)
                      clear hl a; intro a hl
                      refine wl (wl_skip hl rfl ⟨_, _, rfl, rfl, rfl⟩ ?_)
                      clear hl a; intro a hl
                      refine wl (wl_skip hl rfl ⟨_, _, rfl, rfl, rfl⟩ ?_)
                      clear hl a; intro a hl
                      refine wl (wl_val hl rfl trivial (r_pickF hl rfl rfl) ?_)
                      clear hl a; intro a hl
                      refine wl (wl_val hl rfl trivial (r_assign hl rfl) ?_)
                      clear hl a; intro a hl
                      refine w_nil ?_
                      have hl2 := hl.add (t := 2) (hl.nil) rfl; clear hl; have hl := hl2; clear hl2
                      refine then_normal ?_
                      refine wp_ret ?_
                      refine blk_ret ?_
                      refine then_ret ?_
                      refine f_ret1 (F' := []) hl hh rfl rfl (by repeat (first | exact keeps_nil | apply keeps_cons (by repeat (first | exact find_head | apply find_tail)) (by first  | rfl) | exact keeps_self | apply keeps_mv)) ?_
                      first | (exfalso; omega) | exact ⟨congrArg Value.bool (by unfold wfF; simp only; (repeat (first | rw [if_pos (by omega)] | rw [if_neg (by omega)])); (try simp only [noPr, nxV]); (first | rw [show noRl ⟨kd, dv, pr, ix, up, ra, rl, via, pm, da, dl, cl⟩ = true by assumption] | rw [show noRl ⟨kd, dv, pr, ix, up, ra, rl, via, pm, da, dl, cl⟩ = false by assumption] | skip); (first | rw [show noRt ⟨kd, dv, pr, ix, up, ra, rl, via, pm, da, dl, cl⟩ = true by assumption] | rw [show noRt ⟨kd, dv, pr, ix, up, ra, rl, via, pm, da, dl, cl⟩ = false by assumption] | skip); (first | rw [show gpF ra rl = true by assumption] | rw [show gpF ra rl = false by assumption] | skip); (first | rw [show gpF da dl = true by assumption] | rw [show gpF da dl = false by assumption] | skip); (first | rw [show decide (dv < 16) = true from decide_eq_true (by omega)] | rw [show decide (dv < 16) = false from decide_eq_false (by omega)] | skip); (first | rw [show decide (via = 16) = true from decide_eq_true (by omega)] | rw [show decide (via = 16) = false from decide_eq_false (by omega)] | skip); (first | rw [show decide (via < 16) = true from decide_eq_true (by omega)] | rw [show decide (via < 16) = false from decide_eq_false (by omega)] | skip); (first | rw [show decide (via = dv) = true from decide_eq_true (by omega)] | rw [show decide (via = dv) = false from decide_eq_false (by omega)] | skip); (first | rw [show decide (via = 0) = true from decide_eq_true (by omega)] | rw [show decide (via = 0) = false from decide_eq_false (by omega)] | skip); (first | rw [show decide (pr = 0) = true from decide_eq_true (by omega)] | rw [show decide (pr = 0) = false from decide_eq_false (by omega)] | skip); (first | rw [show decide (pr < 16) = true from decide_eq_true (by omega)] | rw [show decide (pr < 16) = false from decide_eq_false (by omega)] | skip); (first | rw [show decide (dv < pr) = true from decide_eq_true (by omega)] | rw [show decide (dv < pr) = false from decide_eq_false (by omega)] | skip); (first | rw [show decide (dv = pr) = true from decide_eq_true (by omega)] | rw [show decide (dv = pr) = false from decide_eq_false (by omega)] | skip); (first | rw [show decide (cl ≤ 16) = true from decide_eq_true (by omega)] | rw [show decide (cl ≤ 16) = false from decide_eq_false (by omega)] | skip); (first | rw [show decide (ix < 64) = true from decide_eq_true (by omega)] | rw [show decide (ix < 64) = false from decide_eq_false (by omega)] | skip); first | rfl | (simp only [Bool.true_and, Bool.and_true, Bool.false_and, Bool.and_false, Bool.true_or, Bool.false_or, Bool.or_false, Bool.or_true, Bool.not_true, Bool.not_false]; first | done | rfl | ((repeat (first | rw [show up = true by assumption] | rw [show up = false by assumption] | rw [show decide (ix = 0) = true from decide_eq_true (by omega)] | rw [show decide (ix = 0) = false from decide_eq_false (by omega)])); rfl))), rfl⟩
                  · intro hg59; clear hl; intro hl
                    try simp only [decide_eq_true_eq, decide_eq_false_iff_not, Bool.not_eq_true', Bool.not_eq_false', Bool.not_eq_true, Bool.not_eq_false, Bool.and_eq_true, Bool.or_eq_true, Bool.and_eq_false_iff, Bool.or_eq_false_iff, Bool.not_not, ne_eq, Int.not_lt, Int.not_le, Decidable.not_not, beq_iff_eq, bne_iff_ne] at hg59
                    refine wl (wl_skip hl rfl ⟨_, _, rfl, rfl, rfl⟩ ?_)
                    clear hl a; intro a hl
                    refine wl (wl_val hl rfl trivial (r_pickF hl rfl rfl) ?_)
                    clear hl a; intro a hl
                    refine wl (wl_val hl rfl trivial (r_move hl rfl) ?_)
                    clear hl a; intro a hl
                    refine wl (wl_skip hl rfl ⟨_, _, rfl, rfl, rfl⟩ ?_)
                    clear hl a; intro a hl
                    refine wl (wl_val hl rfl trivial (r_pickF hl rfl rfl) ?_)
                    clear hl a; intro a hl
                    refine wl (wl_val hl rfl trivial (r_move hl rfl) ?_)
                    clear hl a; intro a hl
                    refine wl (wl_skip hl rfl ⟨_, _, rfl, rfl, rfl⟩ ?_)
                    clear hl a; intro a hl
                    refine wl (wl_skip hl rfl ⟨_, _, rfl, rfl, rfl⟩ ?_)
                    clear hl a; intro a hl
                    refine wl (wl_skip hl rfl ⟨_, _, rfl, rfl, rfl⟩ ?_)
                    clear hl a; intro a hl
                    refine wl (wl_val hl rfl trivial (r_pickF hl rfl rfl) ?_)
                    clear hl a; intro a hl
                    refine wl (wl_val hl rfl trivial (r_assign hl rfl) ?_)
                    clear hl a; intro a hl
                    refine w_nil ?_
                    have hl2 := hl.add (t := 2) (hl.nil) rfl; clear hl; have hl := hl2; clear hl2
                    refine then_normal ?_
                    refine wp_ret ?_
                    refine blk_ret ?_
                    refine then_ret ?_
                    refine f_ret1 (F' := []) hl hh rfl rfl (by repeat (first | exact keeps_nil | apply keeps_cons (by repeat (first | exact find_head | apply find_tail)) (by first  | rfl) | exact keeps_self | apply keeps_mv)) ?_
                    first | (exfalso; omega) | exact ⟨congrArg Value.bool (by unfold wfF; simp only; (repeat (first | rw [if_pos (by omega)] | rw [if_neg (by omega)])); (try simp only [noPr, nxV]); (first | rw [show noRl ⟨kd, dv, pr, ix, up, ra, rl, via, pm, da, dl, cl⟩ = true by assumption] | rw [show noRl ⟨kd, dv, pr, ix, up, ra, rl, via, pm, da, dl, cl⟩ = false by assumption] | skip); (first | rw [show noRt ⟨kd, dv, pr, ix, up, ra, rl, via, pm, da, dl, cl⟩ = true by assumption] | rw [show noRt ⟨kd, dv, pr, ix, up, ra, rl, via, pm, da, dl, cl⟩ = false by assumption] | skip); (first | rw [show gpF ra rl = true by assumption] | rw [show gpF ra rl = false by assumption] | skip); (first | rw [show gpF da dl = true by assumption] | rw [show gpF da dl = false by assumption] | skip); (first | rw [show decide (dv < 16) = true from decide_eq_true (by omega)] | rw [show decide (dv < 16) = false from decide_eq_false (by omega)] | skip); (first | rw [show decide (via = 16) = true from decide_eq_true (by omega)] | rw [show decide (via = 16) = false from decide_eq_false (by omega)] | skip); (first | rw [show decide (via < 16) = true from decide_eq_true (by omega)] | rw [show decide (via < 16) = false from decide_eq_false (by omega)] | skip); (first | rw [show decide (via = dv) = true from decide_eq_true (by omega)] | rw [show decide (via = dv) = false from decide_eq_false (by omega)] | skip); (first | rw [show decide (via = 0) = true from decide_eq_true (by omega)] | rw [show decide (via = 0) = false from decide_eq_false (by omega)] | skip); (first | rw [show decide (pr = 0) = true from decide_eq_true (by omega)] | rw [show decide (pr = 0) = false from decide_eq_false (by omega)] | skip); (first | rw [show decide (pr < 16) = true from decide_eq_true (by omega)] | rw [show decide (pr < 16) = false from decide_eq_false (by omega)] | skip); (first | rw [show decide (dv < pr) = true from decide_eq_true (by omega)] | rw [show decide (dv < pr) = false from decide_eq_false (by omega)] | skip); (first | rw [show decide (dv = pr) = true from decide_eq_true (by omega)] | rw [show decide (dv = pr) = false from decide_eq_false (by omega)] | skip); (first | rw [show decide (cl ≤ 16) = true from decide_eq_true (by omega)] | rw [show decide (cl ≤ 16) = false from decide_eq_false (by omega)] | skip); (first | rw [show decide (ix < 64) = true from decide_eq_true (by omega)] | rw [show decide (ix < 64) = false from decide_eq_false (by omega)] | skip); first | rfl | (simp only [Bool.true_and, Bool.and_true, Bool.false_and, Bool.and_false, Bool.true_or, Bool.false_or, Bool.or_false, Bool.or_true, Bool.not_true, Bool.not_false]; first | done | rfl | ((repeat (first | rw [show up = true by assumption] | rw [show up = false by assumption] | rw [show decide (ix = 0) = true from decide_eq_true (by omega)] | rw [show decide (ix = 0) = false from decide_eq_false (by omega)])); rfl))), rfl⟩
                · intro hg58; clear hl; intro hl
                  try simp only [decide_eq_true_eq, decide_eq_false_iff_not, Bool.not_eq_true', Bool.not_eq_false', Bool.not_eq_true, Bool.not_eq_false, Bool.and_eq_true, Bool.or_eq_true, Bool.and_eq_false_iff, Bool.or_eq_false_iff, Bool.not_not, ne_eq, Int.not_lt, Int.not_le, Decidable.not_not, beq_iff_eq, bne_iff_ne] at hg58
                  refine wl (wl_skip hl rfl ⟨_, _, rfl, rfl, rfl⟩ ?_)
                  clear hl a; intro a hl
                  refine wl (wl_skip hl rfl ⟨_, _, rfl, rfl, rfl⟩ ?_)
                  clear hl a; intro a hl
                  refine wl (wl_skip hl rfl ⟨_, _, rfl, rfl, rfl⟩ ?_)
                  clear hl a; intro a hl
                  refine wl (wl_skip hl rfl ⟨_, _, rfl, rfl, rfl⟩ ?_)
                  clear hl a; intro a hl
                  refine wl (wl_skip hl rfl ⟨_, _, rfl, rfl, rfl⟩ ?_)
                  clear hl a; intro a hl
                  refine wl (wl_val hl rfl trivial (r_pickF hl rfl rfl) ?_)
                  clear hl a; intro a hl
                  refine wl (wl_val hl rfl trivial (r_move hl rfl) ?_)
                  clear hl a; intro a hl
                  refine wl (wl_skip hl rfl ⟨_, _, rfl, rfl, rfl⟩ ?_)
                  clear hl a; intro a hl
                  refine wl (wl_val hl rfl trivial (r_pickF hl rfl rfl) ?_)
                  clear hl a; intro a hl
                  refine wl (wl_val hl rfl trivial (r_move hl rfl) ?_)
                  clear hl a; intro a hl
                  refine wl (wl_skip hl rfl ⟨_, _, rfl, rfl, rfl⟩ ?_)
                  clear hl a; intro a hl
                  refine wl (wl_val hl rfl trivial (r_pickF hl rfl rfl) ?_)
                  clear hl a; intro a hl
                  refine wl (wl_val hl rfl trivial (r_move hl rfl) ?_)
                  clear hl a; intro a hl
                  refine wl (wl_skip hl rfl ⟨_, _, rfl, rfl, rfl⟩ ?_)
                  clear hl a; intro a hl
                  refine wl (wl_skip hl rfl ⟨_, _, rfl, rfl, rfl⟩ ?_)
                  clear hl a; intro a hl
                  refine wl (wl_skip hl rfl ⟨_, _, rfl, rfl, rfl⟩ ?_)
                  clear hl a; intro a hl
                  refine wl (wl_val hl rfl trivial (r_pickF hl rfl rfl) ?_)
                  clear hl a; intro a hl
                  refine wl (wl_val hl rfl trivial (r_assign hl rfl) ?_)
                  clear hl a; intro a hl
                  refine w_nil ?_
                  have hl2 := hl.add (t := 2) (hl.nil) rfl; clear hl; have hl := hl2; clear hl2
                  refine then_normal ?_
                  refine wp_ret ?_
                  refine blk_ret ?_
                  refine then_ret ?_
                  refine f_ret1 (F' := []) hl hh rfl rfl (by repeat (first | exact keeps_nil | apply keeps_cons (by repeat (first | exact find_head | apply find_tail)) (by first  | rfl) | exact keeps_self | apply keeps_mv)) ?_
                  first | (exfalso; omega) | exact ⟨congrArg Value.bool (by unfold wfF; simp only; (repeat (first | rw [if_pos (by omega)] | rw [if_neg (by omega)])); (try simp only [noPr, nxV]); (first | rw [show noRl ⟨kd, dv, pr, ix, up, ra, rl, via, pm, da, dl, cl⟩ = true by assumption] | rw [show noRl ⟨kd, dv, pr, ix, up, ra, rl, via, pm, da, dl, cl⟩ = false by assumption] | skip); (first | rw [show noRt ⟨kd, dv, pr, ix, up, ra, rl, via, pm, da, dl, cl⟩ = true by assumption] | rw [show noRt ⟨kd, dv, pr, ix, up, ra, rl, via, pm, da, dl, cl⟩ = false by assumption] | skip); (first | rw [show gpF ra rl = true by assumption] | rw [show gpF ra rl = false by assumption] | skip); (first | rw [show gpF da dl = true by assumption] | rw [show gpF da dl = false by assumption] | skip); (first | rw [show decide (dv < 16) = true from decide_eq_true (by omega)] | rw [show decide (dv < 16) = false from decide_eq_false (by omega)] | skip); (first | rw [show decide (via = 16) = true from decide_eq_true (by omega)] | rw [show decide (via = 16) = false from decide_eq_false (by omega)] | skip); (first | rw [show decide (via < 16) = true from decide_eq_true (by omega)] | rw [show decide (via < 16) = false from decide_eq_false (by omega)] | skip); (first | rw [show decide (via = dv) = true from decide_eq_true (by omega)] | rw [show decide (via = dv) = false from decide_eq_false (by omega)] | skip); (first | rw [show decide (via = 0) = true from decide_eq_true (by omega)] | rw [show decide (via = 0) = false from decide_eq_false (by omega)] | skip); (first | rw [show decide (pr = 0) = true from decide_eq_true (by omega)] | rw [show decide (pr = 0) = false from decide_eq_false (by omega)] | skip); (first | rw [show decide (pr < 16) = true from decide_eq_true (by omega)] | rw [show decide (pr < 16) = false from decide_eq_false (by omega)] | skip); (first | rw [show decide (dv < pr) = true from decide_eq_true (by omega)] | rw [show decide (dv < pr) = false from decide_eq_false (by omega)] | skip); (first | rw [show decide (dv = pr) = true from decide_eq_true (by omega)] | rw [show decide (dv = pr) = false from decide_eq_false (by omega)] | skip); (first | rw [show decide (cl ≤ 16) = true from decide_eq_true (by omega)] | rw [show decide (cl ≤ 16) = false from decide_eq_false (by omega)] | skip); (first | rw [show decide (ix < 64) = true from decide_eq_true (by omega)] | rw [show decide (ix < 64) = false from decide_eq_false (by omega)] | skip); first | rfl | (simp only [Bool.true_and, Bool.and_true, Bool.false_and, Bool.and_false, Bool.true_or, Bool.false_or, Bool.or_false, Bool.or_true, Bool.not_true, Bool.not_false]; first | done | rfl | ((repeat (first | rw [show up = true by assumption] | rw [show up = false by assumption] | rw [show decide (ix = 0) = true from decide_eq_true (by omega)] | rw [show decide (ix = 0) = false from decide_eq_false (by omega)])); rfl))), rfl⟩
              · intro hg57; clear hl; intro hl
                try simp only [decide_eq_true_eq, decide_eq_false_iff_not, Bool.not_eq_true', Bool.not_eq_false', Bool.not_eq_true, Bool.not_eq_false, Bool.and_eq_true, Bool.or_eq_true, Bool.and_eq_false_iff, Bool.or_eq_false_iff, Bool.not_not, ne_eq, Int.not_lt, Int.not_le, Decidable.not_not, beq_iff_eq, bne_iff_ne] at hg57
                refine wl (wl_skip hl rfl ⟨_, _, rfl, rfl, rfl⟩ ?_)
                clear hl a; intro a hl
                refine wl (wl_skip hl rfl ⟨_, _, rfl, rfl, rfl⟩ ?_)
                clear hl a; intro a hl
                refine wl (wl_skip hl rfl ⟨_, _, rfl, rfl, rfl⟩ ?_)
                clear hl a; intro a hl
                refine wl (wl_val hl rfl trivial (r_pickF hl rfl rfl) ?_)
                clear hl a; intro a hl
                refine wl (wl_val hl rfl trivial (r_move hl rfl) ?_)
                clear hl a; intro a hl
                refine wl (wl_skip hl rfl ⟨_, _, rfl, rfl, rfl⟩ ?_)
                clear hl a; intro a hl
                refine wl (wl_skip hl rfl ⟨_, _, rfl, rfl, rfl⟩ ?_)
                clear hl a; intro a hl
                refine wl (wl_skip hl rfl ⟨_, _, rfl, rfl, rfl⟩ ?_)
                clear hl a; intro a hl
                refine wl (wl_skip hl rfl ⟨_, _, rfl, rfl, rfl⟩ ?_)
                clear hl a; intro a hl
                refine wl (wl_skip hl rfl ⟨_, _, rfl, rfl, rfl⟩ ?_)
                clear hl a; intro a hl
                refine wl (wl_val hl rfl trivial (r_pickF hl rfl rfl) ?_)
                clear hl a; intro a hl
                refine wl (wl_val hl rfl trivial (r_move hl rfl) ?_)
                clear hl a; intro a hl
                refine wl (wl_skip hl rfl ⟨_, _, rfl, rfl, rfl⟩ ?_)
                clear hl a; intro a hl
                refine wl (wl_val hl rfl trivial (r_pickF hl rfl rfl) ?_)
                clear hl a; intro a hl
                refine wl (wl_val hl rfl trivial (r_move hl rfl) ?_)
                clear hl a; intro a hl
                refine wl (wl_skip hl rfl ⟨_, _, rfl, rfl, rfl⟩ ?_)
                clear hl a; intro a hl
                refine wl (wl_val hl rfl trivial (r_pickF hl rfl rfl) ?_)
                clear hl a; intro a hl
                refine wl (wl_val hl rfl trivial (r_move hl rfl) ?_)
                clear hl a; intro a hl
                refine wl (wl_skip hl rfl ⟨_, _, rfl, rfl, rfl⟩ ?_)
                clear hl a; intro a hl
                refine wl (wl_skip hl rfl ⟨_, _, rfl, rfl, rfl⟩ ?_)
                clear hl a; intro a hl
                refine wl (wl_skip hl rfl ⟨_, _, rfl, rfl, rfl⟩ ?_)
                clear hl a; intro a hl
                refine wl (wl_val hl rfl trivial (r_pickF hl rfl rfl) ?_)
                clear hl a; intro a hl
                refine wl (wl_val hl rfl trivial (r_assign hl rfl) ?_)
                clear hl a; intro a hl
                refine w_nil ?_
                have hl2 := hl.add (t := 2) (hl.nil) rfl; clear hl; have hl := hl2; clear hl2
                refine then_normal ?_
                refine wp_ret ?_
                refine blk_ret ?_
                refine then_ret ?_
                refine f_ret1 (F' := []) hl hh rfl rfl (by repeat (first | exact keeps_nil | apply keeps_cons (by repeat (first | exact find_head | apply find_tail)) (by first  | rfl) | exact keeps_self | apply keeps_mv)) ?_
                first | (exfalso; omega) | exact ⟨congrArg Value.bool (by unfold wfF; simp only; (repeat (first | rw [if_pos (by omega)] | rw [if_neg (by omega)])); (try simp only [noPr, nxV]); (first | rw [show noRl ⟨kd, dv, pr, ix, up, ra, rl, via, pm, da, dl, cl⟩ = true by assumption] | rw [show noRl ⟨kd, dv, pr, ix, up, ra, rl, via, pm, da, dl, cl⟩ = false by assumption] | skip); (first | rw [show noRt ⟨kd, dv, pr, ix, up, ra, rl, via, pm, da, dl, cl⟩ = true by assumption] | rw [show noRt ⟨kd, dv, pr, ix, up, ra, rl, via, pm, da, dl, cl⟩ = false by assumption] | skip); (first | rw [show gpF ra rl = true by assumption] | rw [show gpF ra rl = false by assumption] | skip); (first | rw [show gpF da dl = true by assumption] | rw [show gpF da dl = false by assumption] | skip); (first | rw [show decide (dv < 16) = true from decide_eq_true (by omega)] | rw [show decide (dv < 16) = false from decide_eq_false (by omega)] | skip); (first | rw [show decide (via = 16) = true from decide_eq_true (by omega)] | rw [show decide (via = 16) = false from decide_eq_false (by omega)] | skip); (first | rw [show decide (via < 16) = true from decide_eq_true (by omega)] | rw [show decide (via < 16) = false from decide_eq_false (by omega)] | skip); (first | rw [show decide (via = dv) = true from decide_eq_true (by omega)] | rw [show decide (via = dv) = false from decide_eq_false (by omega)] | skip); (first | rw [show decide (via = 0) = true from decide_eq_true (by omega)] | rw [show decide (via = 0) = false from decide_eq_false (by omega)] | skip); (first | rw [show decide (pr = 0) = true from decide_eq_true (by omega)] | rw [show decide (pr = 0) = false from decide_eq_false (by omega)] | skip); (first | rw [show decide (pr < 16) = true from decide_eq_true (by omega)] | rw [show decide (pr < 16) = false from decide_eq_false (by omega)] | skip); (first | rw [show decide (dv < pr) = true from decide_eq_true (by omega)] | rw [show decide (dv < pr) = false from decide_eq_false (by omega)] | skip); (first | rw [show decide (dv = pr) = true from decide_eq_true (by omega)] | rw [show decide (dv = pr) = false from decide_eq_false (by omega)] | skip); (first | rw [show decide (cl ≤ 16) = true from decide_eq_true (by omega)] | rw [show decide (cl ≤ 16) = false from decide_eq_false (by omega)] | skip); (first | rw [show decide (ix < 64) = true from decide_eq_true (by omega)] | rw [show decide (ix < 64) = false from decide_eq_false (by omega)] | skip); first | rfl | (simp only [Bool.true_and, Bool.and_true, Bool.false_and, Bool.and_false, Bool.true_or, Bool.false_or, Bool.or_false, Bool.or_true, Bool.not_true, Bool.not_false]; first | done | rfl | ((repeat (first | rw [show up = true by assumption] | rw [show up = false by assumption] | rw [show decide (ix = 0) = true from decide_eq_true (by omega)] | rw [show decide (ix = 0) = false from decide_eq_false (by omega)])); rfl))), rfl⟩
            · intro hc4
              try simp only [decide_eq_true_eq, decide_eq_false_iff_not, Bool.not_eq_true', Bool.not_eq_false', Bool.not_eq_true, Bool.not_eq_false, Bool.and_eq_true, Bool.or_eq_true, Bool.and_eq_false_iff, Bool.or_eq_false_iff, Bool.not_not, ne_eq, Int.not_lt, Int.not_le, Decidable.not_not, beq_iff_eq, bne_iff_ne] at hc4
              refine c_seq ?_
              refine c_region ?_
              refine wl (wl_val hl rfl trivial (r_eql hl rfl rfl) ?_)
              clear hl a; intro a hl
              refine wl (wl_val hl rfl trivial (r_assign hl rfl) ?_)
              clear hl a; intro a hl
              refine w_nil ?_
              have hl2 := hl.add (t := 1) (hl.add (t := 4) (hl.add (t := 5) (hl.add (t := 171) (hl.nil) rfl) rfl) rfl) rfl; clear hl; have hl := hl2; clear hl2
              refine then_normal ?_
              refine c_cond hl rfl ?_ ?_
              · intro hc5
                try simp only [decide_eq_true_eq, decide_eq_false_iff_not, Bool.not_eq_true', Bool.not_eq_false', Bool.not_eq_true, Bool.not_eq_false, Bool.and_eq_true, Bool.or_eq_true, Bool.and_eq_false_iff, Bool.or_eq_false_iff, Bool.not_not, ne_eq, Int.not_lt, Int.not_le, Decidable.not_not, beq_iff_eq, bne_iff_ne] at hc5
                refine c_seq ?_
                refine c_region ?_
                refine wl (wl_val hl rfl trivial (r_field hl rfl fld57_1) ?_)
                clear hl a; intro a hl
                refine wl (w_load hl hh rfl trivial one5 rfl (by repeat (first | exact find_head | apply find_tail)) (by first | rfl) ?_)
                clear hl a; intro a hl
                refine wl (w_call hl hh rfl trivial rfl cal64 rfl (isDeviceM _) (by repeat (first | exact keeps_nil | apply keeps_cons (by repeat (first | exact find_head | apply find_tail)) (by first  | rfl) | exact keeps_self | apply keeps_mv)) trivial ?_)
                clear hl hh a w; intro vc Fc a w hR hl hh
                obtain ⟨rfl, rfl⟩ := hR
                try simp only [List.cons_append, List.nil_append] at hh
                refine wl (wl_val hl rfl trivial (r_move hl rfl) ?_)
                clear hl a; intro a hl
                refine sl_split (t := 176) hl rfl ?_ ?_
                · intro hg62; clear hl; intro hl
                  try simp only [decide_eq_true_eq, decide_eq_false_iff_not, Bool.not_eq_true', Bool.not_eq_false', Bool.not_eq_true, Bool.not_eq_false, Bool.and_eq_true, Bool.or_eq_true, Bool.and_eq_false_iff, Bool.or_eq_false_iff, Bool.not_not, ne_eq, Int.not_lt, Int.not_le, Decidable.not_not, beq_iff_eq, bne_iff_ne] at hg62
                  refine wl (wl_val hl rfl ⟨_, _, rfl, rfl, rfl⟩ (r_field hl rfl fld57_2) ?_)
                  clear hl a; intro a hl
                  refine wl (w_load hl hh rfl ⟨_, _, rfl, rfl, rfl⟩ one5 rfl (by repeat (first | exact find_head | apply find_tail)) (by first | rfl) ?_)
                  clear hl a; intro a hl
                  refine wl (w_call hl hh rfl ⟨_, _, rfl, rfl, rfl⟩ rfl cal64 rfl (isDeviceM _) (by repeat (first | exact keeps_nil | apply keeps_cons (by repeat (first | exact find_head | apply find_tail)) (by first  | rfl) | exact keeps_self | apply keeps_mv)) trivial ?_)
                  clear hl hh a w; intro vc Fc a w hR hl hh
                  obtain ⟨rfl, rfl⟩ := hR
                  try simp only [List.cons_append, List.nil_append] at hh
                  refine wl (wl_val hl rfl trivial (r_pickT hl rfl rfl) ?_)
                  clear hl a; intro a hl
                  refine wl (wl_val hl rfl trivial (r_move hl rfl) ?_)
                  clear hl a; intro a hl
                  refine sl_split (t := 181) hl rfl ?_ ?_
                  · intro hg63; clear hl; intro hl
                    try simp only [decide_eq_true_eq, decide_eq_false_iff_not, Bool.not_eq_true', Bool.not_eq_false', Bool.not_eq_true, Bool.not_eq_false, Bool.and_eq_true, Bool.or_eq_true, Bool.and_eq_false_iff, Bool.or_eq_false_iff, Bool.not_not, ne_eq, Int.not_lt, Int.not_le, Decidable.not_not, beq_iff_eq, bne_iff_ne] at hg63
                    refine wl (wl_val hl rfl ⟨_, _, rfl, rfl, rfl⟩ (r_field hl rfl fld57_1) ?_)
                    clear hl a; intro a hl
                    refine wl (w_load hl hh rfl ⟨_, _, rfl, rfl, rfl⟩ one5 rfl (by repeat (first | exact find_head | apply find_tail)) (by first | rfl) ?_)
                    clear hl a; intro a hl
                    refine wl (wl_val hl rfl ⟨_, _, rfl, rfl, rfl⟩ (r_field hl rfl fld57_2) ?_)
                    clear hl a; intro a hl
                    refine wl (w_load hl hh rfl ⟨_, _, rfl, rfl, rfl⟩ one5 rfl (by repeat (first | exact find_head | apply find_tail)) (by first | rfl) ?_)
                    clear hl a; intro a hl
                    refine wl (wl_val hl rfl ⟨_, _, rfl, rfl, rfl⟩ (r_neq hl rfl rfl) ?_)
                    clear hl a; intro a hl
                    refine wl (wl_val hl rfl trivial (r_pickT hl rfl rfl) ?_)
                    clear hl a; intro a hl
                    refine wl (wl_val hl rfl trivial (r_move hl rfl) ?_)
                    clear hl a; intro a hl
                    refine sl_split (t := 188) hl rfl ?_ ?_
                    · intro hg64; clear hl; intro hl
                      try simp only [decide_eq_true_eq, decide_eq_false_iff_not, Bool.not_eq_true', Bool.not_eq_false', Bool.not_eq_true, Bool.not_eq_false, Bool.and_eq_true, Bool.or_eq_true, Bool.and_eq_false_iff, Bool.or_eq_false_iff, Bool.not_not, ne_eq, Int.not_lt, Int.not_le, Decidable.not_not, beq_iff_eq, bne_iff_ne] at hg64
                      refine wl (wl_val hl rfl ⟨_, _, rfl, rfl, rfl⟩ (r_move hl rfl) ?_)
                      clear hl a; intro a hl
                      refine wl (wl_val hl rfl trivial (r_pickT hl rfl rfl) ?_)
                      clear hl a; intro a hl
                      refine wl (wl_val hl rfl trivial (r_move hl rfl) ?_)
                      clear hl a; intro a hl
                      refine sl_split (t := 191) hl rfl ?_ ?_
                      · intro hg65; clear hl; intro hl
                        try simp only [decide_eq_true_eq, decide_eq_false_iff_not, Bool.not_eq_true', Bool.not_eq_false', Bool.not_eq_true, Bool.not_eq_false, Bool.and_eq_true, Bool.or_eq_true, Bool.and_eq_false_iff, Bool.or_eq_false_iff, Bool.not_not, ne_eq, Int.not_lt, Int.not_le, Decidable.not_not, beq_iff_eq, bne_iff_ne] at hg65
                        refine wl (wl_val hl rfl ⟨_, _, rfl, rfl, rfl⟩ (r_move hl rfl) ?_)
                        clear hl a; intro a hl
                        refine wl (wl_val hl rfl trivial (r_pickT hl rfl rfl) ?_)
                        clear hl a; intro a hl
                        refine wl (wl_val hl rfl trivial (r_move hl rfl) ?_)
                        clear hl a; intro a hl
                        refine sl_split (t := 194) hl rfl ?_ ?_
                        · intro hg66; clear hl; intro hl
                          try simp only [decide_eq_true_eq, decide_eq_false_iff_not, Bool.not_eq_true', Bool.not_eq_false', Bool.not_eq_true, Bool.not_eq_false, Bool.and_eq_true, Bool.or_eq_true, Bool.and_eq_false_iff, Bool.or_eq_false_iff, Bool.not_not, ne_eq, Int.not_lt, Int.not_le, Decidable.not_not, beq_iff_eq, bne_iff_ne] at hg66
                          refine wl (wl_val hl rfl ⟨_, _, rfl, rfl, rfl⟩ (r_field hl rfl fld57_3) ?_)
                          clear hl a; intro a hl
                          refine wl (w_load hl hh rfl ⟨_, _, rfl, rfl, rfl⟩ one5 rfl (by repeat (first | exact find_head | apply find_tail)) (by first | rfl) ?_)
                          clear hl a; intro a hl
                          refine wl (wl_val hl rfl ⟨_, _, rfl, rfl, rfl⟩ (r_eql hl rfl rfl) ?_)
                          clear hl a; intro a hl
                          refine wl (wl_val hl rfl trivial (r_pickT hl rfl rfl) ?_)
                          clear hl a; intro a hl
                          refine wl (wl_val hl rfl trivial (r_assign hl rfl) ?_)
                          clear hl a; intro a hl
                          refine w_nil ?_
                          have hl2 := hl.add (t := 2) (hl.nil) rfl; clear hl; have hl := hl2; clear hl2
                          refine then_normal ?_
                          refine wp_ret ?_
                          refine blk_ret ?_
                          refine then_ret ?_
                          refine f_ret1 (F' := []) hl hh rfl rfl (by repeat (first | exact keeps_nil | apply keeps_cons (by repeat (first | exact find_head | apply find_tail)) (by first  | rfl) | exact keeps_self | apply keeps_mv)) ?_
                          first | (exfalso; omega) | exact ⟨congrArg Value.bool (by unfold wfF; simp only; (repeat (first | rw [if_pos (by omega)] | rw [if_neg (by omega)])); (try simp only [noPr, nxV]); (first | rw [show noRl ⟨kd, dv, pr, ix, up, ra, rl, via, pm, da, dl, cl⟩ = true by assumption] | rw [show noRl ⟨kd, dv, pr, ix, up, ra, rl, via, pm, da, dl, cl⟩ = false by assumption] | skip); (first | rw [show noRt ⟨kd, dv, pr, ix, up, ra, rl, via, pm, da, dl, cl⟩ = true by assumption] | rw [show noRt ⟨kd, dv, pr, ix, up, ra, rl, via, pm, da, dl, cl⟩ = false by assumption] | skip); (first | rw [show gpF ra rl = true by assumption] | rw [show gpF ra rl = false by assumption] | skip); (first | rw [show gpF da dl = true by assumption] | rw [show gpF da dl = false by assumption] | skip); (first | rw [show decide (dv < 16) = true from decide_eq_true (by omega)] | rw [show decide (dv < 16) = false from decide_eq_false (by omega)] | skip); (first | rw [show decide (via = 16) = true from decide_eq_true (by omega)] | rw [show decide (via = 16) = false from decide_eq_false (by omega)] | skip); (first | rw [show decide (via < 16) = true from decide_eq_true (by omega)] | rw [show decide (via < 16) = false from decide_eq_false (by omega)] | skip); (first | rw [show decide (via = dv) = true from decide_eq_true (by omega)] | rw [show decide (via = dv) = false from decide_eq_false (by omega)] | skip); (first | rw [show decide (via = 0) = true from decide_eq_true (by omega)] | rw [show decide (via = 0) = false from decide_eq_false (by omega)] | skip); (first | rw [show decide (pr = 0) = true from decide_eq_true (by omega)] | rw [show decide (pr = 0) = false from decide_eq_false (by omega)] | skip); (first | rw [show decide (pr < 16) = true from decide_eq_true (by omega)] | rw [show decide (pr < 16) = false from decide_eq_false (by omega)] | skip); (first | rw [show decide (dv < pr) = true from decide_eq_true (by omega)] | rw [show decide (dv < pr) = false from decide_eq_false (by omega)] | skip); (first | rw [show decide (dv = pr) = true from decide_eq_true (by omega)] | rw [show decide (dv = pr) = false from decide_eq_false (by omega)] | skip); (first | rw [show decide (cl ≤ 16) = true from decide_eq_true (by omega)] | rw [show decide (cl ≤ 16) = false from decide_eq_false (by omega)] | skip); (first | rw [show decide (ix < 64) = true from decide_eq_true (by omega)] | rw [show decide (ix < 64) = false from decide_eq_false (by omega)] | skip); first | rfl | (simp only [Bool.true_and, Bool.and_true, Bool.false_and, Bool.and_false, Bool.true_or, Bool.false_or, Bool.or_false, Bool.or_true, Bool.not_true, Bool.not_false]; first | done | rfl | ((repeat (first | rw [show up = true by assumption] | rw [show up = false by assumption] | rw [show decide (ix = 0) = true from decide_eq_true (by omega)] | rw [show decide (ix = 0) = false from decide_eq_false (by omega)])); rfl))), rfl⟩
                        · intro hg66; clear hl; intro hl
                          try simp only [decide_eq_true_eq, decide_eq_false_iff_not, Bool.not_eq_true', Bool.not_eq_false', Bool.not_eq_true, Bool.not_eq_false, Bool.and_eq_true, Bool.or_eq_true, Bool.and_eq_false_iff, Bool.or_eq_false_iff, Bool.not_not, ne_eq, Int.not_lt, Int.not_le, Decidable.not_not, beq_iff_eq, bne_iff_ne] at hg66
                          refine wl (wl_skip hl rfl ⟨_, _, rfl, rfl, rfl⟩ ?_)
                          clear hl a; intro a hl
                          refine wl (wl_skip hl rfl ⟨_, _, rfl, rfl, rfl⟩ ?_)
                          clear hl a; intro a hl
                          refine wl (wl_skip hl rfl ⟨_, _, rfl, rfl, rfl⟩ ?_)
                          clear hl a; intro a hl
                          refine wl (wl_val hl rfl trivial (r_pickF hl rfl rfl) ?_)
                          clear hl a; intro a hl
                          refine wl (wl_val hl rfl trivial (r_assign hl rfl) ?_)
                          clear hl a; intro a hl
                          refine w_nil ?_
                          have hl2 := hl.add (t := 2) (hl.nil) rfl; clear hl; have hl := hl2; clear hl2
                          refine then_normal ?_
                          refine wp_ret ?_
                          refine blk_ret ?_
                          refine then_ret ?_
                          refine f_ret1 (F' := []) hl hh rfl rfl (by repeat (first | exact keeps_nil | apply keeps_cons (by repeat (first | exact find_head | apply find_tail)) (by first  | rfl) | exact keeps_self | apply keeps_mv)) ?_
                          first | (exfalso; omega) | exact ⟨congrArg Value.bool (by unfold wfF; simp only; (repeat (first | rw [if_pos (by omega)] | rw [if_neg (by omega)])); (try simp only [noPr, nxV]); (first | rw [show noRl ⟨kd, dv, pr, ix, up, ra, rl, via, pm, da, dl, cl⟩ = true by assumption] | rw [show noRl ⟨kd, dv, pr, ix, up, ra, rl, via, pm, da, dl, cl⟩ = false by assumption] | skip); (first | rw [show noRt ⟨kd, dv, pr, ix, up, ra, rl, via, pm, da, dl, cl⟩ = true by assumption] | rw [show noRt ⟨kd, dv, pr, ix, up, ra, rl, via, pm, da, dl, cl⟩ = false by assumption] | skip); (first | rw [show gpF ra rl = true by assumption] | rw [show gpF ra rl = false by assumption] | skip); (first | rw [show gpF da dl = true by assumption] | rw [show gpF da dl = false by assumption] | skip); (first | rw [show decide (dv < 16) = true from decide_eq_true (by omega)] | rw [show decide (dv < 16) = false from decide_eq_false (by omega)] | skip); (first | rw [show decide (via = 16) = true from decide_eq_true (by omega)] | rw [show decide (via = 16) = false from decide_eq_false (by omega)] | skip); (first | rw [show decide (via < 16) = true from decide_eq_true (by omega)] | rw [show decide (via < 16) = false from decide_eq_false (by omega)] | skip); (first | rw [show decide (via = dv) = true from decide_eq_true (by omega)] | rw [show decide (via = dv) = false from decide_eq_false (by omega)] | skip); (first | rw [show decide (via = 0) = true from decide_eq_true (by omega)] | rw [show decide (via = 0) = false from decide_eq_false (by omega)] | skip); (first | rw [show decide (pr = 0) = true from decide_eq_true (by omega)] | rw [show decide (pr = 0) = false from decide_eq_false (by omega)] | skip); (first | rw [show decide (pr < 16) = true from decide_eq_true (by omega)] | rw [show decide (pr < 16) = false from decide_eq_false (by omega)] | skip); (first | rw [show decide (dv < pr) = true from decide_eq_true (by omega)] | rw [show decide (dv < pr) = false from decide_eq_false (by omega)] | skip); (first | rw [show decide (dv = pr) = true from decide_eq_true (by omega)] | rw [show decide (dv = pr) = false from decide_eq_false (by omega)] | skip); (first | rw [show decide (cl ≤ 16) = true from decide_eq_true (by omega)] | rw [show decide (cl ≤ 16) = false from decide_eq_false (by omega)] | skip); (first | rw [show decide (ix < 64) = true from decide_eq_true (by omega)] | rw [show decide (ix < 64) = false from decide_eq_false (by omega)] | skip); first | rfl | (simp only [Bool.true_and, Bool.and_true, Bool.false_and, Bool.and_false, Bool.true_or, Bool.false_or, Bool.or_false, Bool.or_true, Bool.not_true, Bool.not_false]; first | done | rfl | ((repeat (first | rw [show up = true by assumption] | rw [show up = false by assumption] | rw [show decide (ix = 0) = true from decide_eq_true (by omega)] | rw [show decide (ix = 0) = false from decide_eq_false (by omega)])); rfl))), rfl⟩
                      · intro hg65; clear hl; intro hl
                        try simp only [decide_eq_true_eq, decide_eq_false_iff_not, Bool.not_eq_true', Bool.not_eq_false', Bool.not_eq_true, Bool.not_eq_false, Bool.and_eq_true, Bool.or_eq_true, Bool.and_eq_false_iff, Bool.or_eq_false_iff, Bool.not_not, ne_eq, Int.not_lt, Int.not_le, Decidable.not_not, beq_iff_eq, bne_iff_ne] at hg65
                        refine wl (wl_skip hl rfl ⟨_, _, rfl, rfl, rfl⟩ ?_)
                        clear hl a; intro a hl
                        refine wl (wl_val hl rfl trivial (r_pickF hl rfl rfl) ?_)
                        clear hl a; intro a hl
                        refine wl (wl_val hl rfl trivial (r_move hl rfl) ?_)
                        clear hl a; intro a hl
                        refine wl (wl_skip hl rfl ⟨_, _, rfl, rfl, rfl⟩ ?_)
                        clear hl a; intro a hl
                        refine wl (wl_skip hl rfl ⟨_, _, rfl, rfl, rfl⟩ ?_)
                        clear hl a; intro a hl
                        refine wl (wl_skip hl rfl ⟨_, _, rfl, rfl, rfl⟩ ?_)
                        clear hl a; intro a hl
                        refine wl (wl_val hl rfl trivial (r_pickF hl rfl rfl) ?_)
                        clear hl a; intro a hl
                        refine wl (wl_val hl rfl trivial (r_assign hl rfl) ?_)
                        clear hl a; intro a hl
                        refine w_nil ?_
                        have hl2 := hl.add (t := 2) (hl.nil) rfl; clear hl; have hl := hl2; clear hl2
                        refine then_normal ?_
                        refine wp_ret ?_
                        refine blk_ret ?_
                        refine then_ret ?_
                        refine f_ret1 (F' := []) hl hh rfl rfl (by repeat (first | exact keeps_nil | apply keeps_cons (by repeat (first | exact find_head | apply find_tail)) (by first  | rfl) | exact keeps_self | apply keeps_mv)) ?_
                        first | (exfalso; omega) | exact ⟨congrArg Value.bool (by unfold wfF; simp only; (repeat (first | rw [if_pos (by omega)] | rw [if_neg (by omega)])); (try simp only [noPr, nxV]); (first | rw [show noRl ⟨kd, dv, pr, ix, up, ra, rl, via, pm, da, dl, cl⟩ = true by assumption] | rw [show noRl ⟨kd, dv, pr, ix, up, ra, rl, via, pm, da, dl, cl⟩ = false by assumption] | skip); (first | rw [show noRt ⟨kd, dv, pr, ix, up, ra, rl, via, pm, da, dl, cl⟩ = true by assumption] | rw [show noRt ⟨kd, dv, pr, ix, up, ra, rl, via, pm, da, dl, cl⟩ = false by assumption] | skip); (first | rw [show gpF ra rl = true by assumption] | rw [show gpF ra rl = false by assumption] | skip); (first | rw [show gpF da dl = true by assumption] | rw [show gpF da dl = false by assumption] | skip); (first | rw [show decide (dv < 16) = true from decide_eq_true (by omega)] | rw [show decide (dv < 16) = false from decide_eq_false (by omega)] | skip); (first | rw [show decide (via = 16) = true from decide_eq_true (by omega)] | rw [show decide (via = 16) = false from decide_eq_false (by omega)] | skip); (first | rw [show decide (via < 16) = true from decide_eq_true (by omega)] | rw [show decide (via < 16) = false from decide_eq_false (by omega)] | skip); (first | rw [show decide (via = dv) = true from decide_eq_true (by omega)] | rw [show decide (via = dv) = false from decide_eq_false (by omega)] | skip); (first | rw [show decide (via = 0) = true from decide_eq_true (by omega)] | rw [show decide (via = 0) = false from decide_eq_false (by omega)] | skip); (first | rw [show decide (pr = 0) = true from decide_eq_true (by omega)] | rw [show decide (pr = 0) = false from decide_eq_false (by omega)] | skip); (first | rw [show decide (pr < 16) = true from decide_eq_true (by omega)] | rw [show decide (pr < 16) = false from decide_eq_false (by omega)] | skip); (first | rw [show decide (dv < pr) = true from decide_eq_true (by omega)] | rw [show decide (dv < pr) = false from decide_eq_false (by omega)] | skip); (first | rw [show decide (dv = pr) = true from decide_eq_true (by omega)] | rw [show decide (dv = pr) = false from decide_eq_false (by omega)] | skip); (first | rw [show decide (cl ≤ 16) = true from decide_eq_true (by omega)] | rw [show decide (cl ≤ 16) = false from decide_eq_false (by omega)] | skip); (first | rw [show decide (ix < 64) = true from decide_eq_true (by omega)] | rw [show decide (ix < 64) = false from decide_eq_false (by omega)] | skip); first | rfl | (simp only [Bool.true_and, Bool.and_true, Bool.false_and, Bool.and_false, Bool.true_or, Bool.false_or, Bool.or_false, Bool.or_true, Bool.not_true, Bool.not_false]; first | done | rfl | ((repeat (first | rw [show up = true by assumption] | rw [show up = false by assumption] | rw [show decide (ix = 0) = true from decide_eq_true (by omega)] | rw [show decide (ix = 0) = false from decide_eq_false (by omega)])); rfl))), rfl⟩
                    · intro hg64; clear hl; intro hl
                      try simp only [decide_eq_true_eq, decide_eq_false_iff_not, Bool.not_eq_true', Bool.not_eq_false', Bool.not_eq_true, Bool.not_eq_false, Bool.and_eq_true, Bool.or_eq_true, Bool.and_eq_false_iff, Bool.or_eq_false_iff, Bool.not_not, ne_eq, Int.not_lt, Int.not_le, Decidable.not_not, beq_iff_eq, bne_iff_ne] at hg64
                      refine wl (wl_skip hl rfl ⟨_, _, rfl, rfl, rfl⟩ ?_)
                      clear hl a; intro a hl
                      refine wl (wl_val hl rfl trivial (r_pickF hl rfl rfl) ?_)
                      clear hl a; intro a hl
                      refine wl (wl_val hl rfl trivial (r_move hl rfl) ?_)
                      clear hl a; intro a hl
                      refine wl (wl_skip hl rfl ⟨_, _, rfl, rfl, rfl⟩ ?_)
                      clear hl a; intro a hl
                      refine wl (wl_val hl rfl trivial (r_pickF hl rfl rfl) ?_)
                      clear hl a; intro a hl
                      refine wl (wl_val hl rfl trivial (r_move hl rfl) ?_)
                      clear hl a; intro a hl
                      refine wl (wl_skip hl rfl ⟨_, _, rfl, rfl, rfl⟩ ?_)
                      clear hl a; intro a hl
                      refine wl (wl_skip hl rfl ⟨_, _, rfl, rfl, rfl⟩ ?_)
                      clear hl a; intro a hl
                      refine wl (wl_skip hl rfl ⟨_, _, rfl, rfl, rfl⟩ ?_)
                      clear hl a; intro a hl
                      refine wl (wl_val hl rfl trivial (r_pickF hl rfl rfl) ?_)
                      clear hl a; intro a hl
                      refine wl (wl_val hl rfl trivial (r_assign hl rfl) ?_)
                      clear hl a; intro a hl
                      refine w_nil ?_
                      have hl2 := hl.add (t := 2) (hl.nil) rfl; clear hl; have hl := hl2; clear hl2
                      refine then_normal ?_
                      refine wp_ret ?_
                      refine blk_ret ?_
                      refine then_ret ?_
                      refine f_ret1 (F' := []) hl hh rfl rfl (by repeat (first | exact keeps_nil | apply keeps_cons (by repeat (first | exact find_head | apply find_tail)) (by first  | rfl) | exact keeps_self | apply keeps_mv)) ?_
                      first | (exfalso; omega) | exact ⟨congrArg Value.bool (by unfold wfF; simp only; (repeat (first | rw [if_pos (by omega)] | rw [if_neg (by omega)])); (try simp only [noPr, nxV]); (first | rw [show noRl ⟨kd, dv, pr, ix, up, ra, rl, via, pm, da, dl, cl⟩ = true by assumption] | rw [show noRl ⟨kd, dv, pr, ix, up, ra, rl, via, pm, da, dl, cl⟩ = false by assumption] | skip); (first | rw [show noRt ⟨kd, dv, pr, ix, up, ra, rl, via, pm, da, dl, cl⟩ = true by assumption] | rw [show noRt ⟨kd, dv, pr, ix, up, ra, rl, via, pm, da, dl, cl⟩ = false by assumption] | skip); (first | rw [show gpF ra rl = true by assumption] | rw [show gpF ra rl = false by assumption] | skip); (first | rw [show gpF da dl = true by assumption] | rw [show gpF da dl = false by assumption] | skip); (first | rw [show decide (dv < 16) = true from decide_eq_true (by omega)] | rw [show decide (dv < 16) = false from decide_eq_false (by omega)] | skip); (first | rw [show decide (via = 16) = true from decide_eq_true (by omega)] | rw [show decide (via = 16) = false from decide_eq_false (by omega)] | skip); (first | rw [show decide (via < 16) = true from decide_eq_true (by omega)] | rw [show decide (via < 16) = false from decide_eq_false (by omega)] | skip); (first | rw [show decide (via = dv) = true from decide_eq_true (by omega)] | rw [show decide (via = dv) = false from decide_eq_false (by omega)] | skip); (first | rw [show decide (via = 0) = true from decide_eq_true (by omega)] | rw [show decide (via = 0) = false from decide_eq_false (by omega)] | skip); (first | rw [show decide (pr = 0) = true from decide_eq_true (by omega)] | rw [show decide (pr = 0) = false from decide_eq_false (by omega)] | skip); (first | rw [show decide (pr < 16) = true from decide_eq_true (by omega)] | rw [show decide (pr < 16) = false from decide_eq_false (by omega)] | skip); (first | rw [show decide (dv < pr) = true from decide_eq_true (by omega)] | rw [show decide (dv < pr) = false from decide_eq_false (by omega)] | skip); (first | rw [show decide (dv = pr) = true from decide_eq_true (by omega)] | rw [show decide (dv = pr) = false from decide_eq_false (by omega)] | skip); (first | rw [show decide (cl ≤ 16) = true from decide_eq_true (by omega)] | rw [show decide (cl ≤ 16) = false from decide_eq_false (by omega)] | skip); (first | rw [show decide (ix < 64) = true from decide_eq_true (by omega)] | rw [show decide (ix < 64) = false from decide_eq_false (by omega)] | skip); first | rfl | (simp only [Bool.true_and, Bool.and_true, Bool.false_and, Bool.and_false, Bool.true_or, Bool.false_or, Bool.or_false, Bool.or_true, Bool.not_true, Bool.not_false]; first | done | rfl | ((repeat (first | rw [show up = true by assumption] | rw [show up = false by assumption] | rw [show decide (ix = 0) = true from decide_eq_true (by omega)] | rw [show decide (ix = 0) = false from decide_eq_false (by omega)])); rfl))), rfl⟩
                  · intro hg63; clear hl; intro hl
                    try simp only [decide_eq_true_eq, decide_eq_false_iff_not, Bool.not_eq_true', Bool.not_eq_false', Bool.not_eq_true, Bool.not_eq_false, Bool.and_eq_true, Bool.or_eq_true, Bool.and_eq_false_iff, Bool.or_eq_false_iff, Bool.not_not, ne_eq, Int.not_lt, Int.not_le, Decidable.not_not, beq_iff_eq, bne_iff_ne] at hg63
                    refine wl (wl_skip hl rfl ⟨_, _, rfl, rfl, rfl⟩ ?_)
                    clear hl a; intro a hl
                    refine wl (wl_skip hl rfl ⟨_, _, rfl, rfl, rfl⟩ ?_)
                    clear hl a; intro a hl
                    refine wl (wl_skip hl rfl ⟨_, _, rfl, rfl, rfl⟩ ?_)
                    clear hl a; intro a hl
                    refine wl (wl_skip hl rfl ⟨_, _, rfl, rfl, rfl⟩ ?_)
                    clear hl a; intro a hl
                    refine wl (wl_skip hl rfl ⟨_, _, rfl, rfl, rfl⟩ ?_)
                    clear hl a; intro a hl
                    refine wl (wl_val hl rfl trivial (r_pickF hl rfl rfl) ?_)
                    clear hl a; intro a hl
                    refine wl (wl_val hl rfl trivial (r_move hl rfl) ?_)
                    clear hl a; intro a hl
                    refine wl (wl_skip hl rfl ⟨_, _, rfl, rfl, rfl⟩ ?_)
                    clear hl a; intro a hl
                    refine wl (wl_val hl rfl trivial (r_pickF hl rfl rfl) ?_)
                    clear hl a; intro a hl
                    refine wl (wl_val hl rfl trivial (r_move hl rfl) ?_)
                    clear hl a; intro a hl
                    refine wl (wl_skip hl rfl ⟨_, _, rfl, rfl, rfl⟩ ?_)
                    clear hl a; intro a hl
                    refine wl (wl_val hl rfl trivial (r_pickF hl rfl rfl) ?_)
                    clear hl a; intro a hl
                    refine wl (wl_val hl rfl trivial (r_move hl rfl) ?_)
                    clear hl a; intro a hl
                    refine wl (wl_skip hl rfl ⟨_, _, rfl, rfl, rfl⟩ ?_)
                    clear hl a; intro a hl
                    refine wl (wl_skip hl rfl ⟨_, _, rfl, rfl, rfl⟩ ?_)
                    clear hl a; intro a hl
                    refine wl (wl_skip hl rfl ⟨_, _, rfl, rfl, rfl⟩ ?_)
                    clear hl a; intro a hl
                    refine wl (wl_val hl rfl trivial (r_pickF hl rfl rfl) ?_)
                    clear hl a; intro a hl
                    refine wl (wl_val hl rfl trivial (r_assign hl rfl) ?_)
                    clear hl a; intro a hl
                    refine w_nil ?_
                    have hl2 := hl.add (t := 2) (hl.nil) rfl; clear hl; have hl := hl2; clear hl2
                    refine then_normal ?_
                    refine wp_ret ?_
                    refine blk_ret ?_
                    refine then_ret ?_
                    refine f_ret1 (F' := []) hl hh rfl rfl (by repeat (first | exact keeps_nil | apply keeps_cons (by repeat (first | exact find_head | apply find_tail)) (by first  | rfl) | exact keeps_self | apply keeps_mv)) ?_
                    first | (exfalso; omega) | exact ⟨congrArg Value.bool (by unfold wfF; simp only; (repeat (first | rw [if_pos (by omega)] | rw [if_neg (by omega)])); (try simp only [noPr, nxV]); (first | rw [show noRl ⟨kd, dv, pr, ix, up, ra, rl, via, pm, da, dl, cl⟩ = true by assumption] | rw [show noRl ⟨kd, dv, pr, ix, up, ra, rl, via, pm, da, dl, cl⟩ = false by assumption] | skip); (first | rw [show noRt ⟨kd, dv, pr, ix, up, ra, rl, via, pm, da, dl, cl⟩ = true by assumption] | rw [show noRt ⟨kd, dv, pr, ix, up, ra, rl, via, pm, da, dl, cl⟩ = false by assumption] | skip); (first | rw [show gpF ra rl = true by assumption] | rw [show gpF ra rl = false by assumption] | skip); (first | rw [show gpF da dl = true by assumption] | rw [show gpF da dl = false by assumption] | skip); (first | rw [show decide (dv < 16) = true from decide_eq_true (by omega)] | rw [show decide (dv < 16) = false from decide_eq_false (by omega)] | skip); (first | rw [show decide (via = 16) = true from decide_eq_true (by omega)] | rw [show decide (via = 16) = false from decide_eq_false (by omega)] | skip); (first | rw [show decide (via < 16) = true from decide_eq_true (by omega)] | rw [show decide (via < 16) = false from decide_eq_false (by omega)] | skip); (first | rw [show decide (via = dv) = true from decide_eq_true (by omega)] | rw [show decide (via = dv) = false from decide_eq_false (by omega)] | skip); (first | rw [show decide (via = 0) = true from decide_eq_true (by omega)] | rw [show decide (via = 0) = false from decide_eq_false (by omega)] | skip); (first | rw [show decide (pr = 0) = true from decide_eq_true (by omega)] | rw [show decide (pr = 0) = false from decide_eq_false (by omega)] | skip); (first | rw [show decide (pr < 16) = true from decide_eq_true (by omega)] | rw [show decide (pr < 16) = false from decide_eq_false (by omega)] | skip); (first | rw [show decide (dv < pr) = true from decide_eq_true (by omega)] | rw [show decide (dv < pr) = false from decide_eq_false (by omega)] | skip); (first | rw [show decide (dv = pr) = true from decide_eq_true (by omega)] | rw [show decide (dv = pr) = false from decide_eq_false (by omega)] | skip); (first | rw [show decide (cl ≤ 16) = true from decide_eq_true (by omega)] | rw [show decide (cl ≤ 16) = false from decide_eq_false (by omega)] | skip); (first | rw [show decide (ix < 64) = true from decide_eq_true (by omega)] | rw [show decide (ix < 64) = false from decide_eq_false (by omega)] | skip); first | rfl | (simp only [Bool.true_and, Bool.and_true, Bool.false_and, Bool.and_false, Bool.true_or, Bool.false_or, Bool.or_false, Bool.or_true, Bool.not_true, Bool.not_false]; first | done | rfl | ((repeat (first | rw [show up = true by assumption] | rw [show up = false by assumption] | rw [show decide (ix = 0) = true from decide_eq_true (by omega)] | rw [show decide (ix = 0) = false from decide_eq_false (by omega)])); rfl))), rfl⟩
                · intro hg62; clear hl; intro hl
                  try simp only [decide_eq_true_eq, decide_eq_false_iff_not, Bool.not_eq_true', Bool.not_eq_false', Bool.not_eq_true, Bool.not_eq_false, Bool.and_eq_true, Bool.or_eq_true, Bool.and_eq_false_iff, Bool.or_eq_false_iff, Bool.not_not, ne_eq, Int.not_lt, Int.not_le, Decidable.not_not, beq_iff_eq, bne_iff_ne] at hg62
                  refine wl (wl_skip hl rfl ⟨_, _, rfl, rfl, rfl⟩ ?_)
                  clear hl a; intro a hl
                  refine wl (wl_skip hl rfl ⟨_, _, rfl, rfl, rfl⟩ ?_)
                  clear hl a; intro a hl
                  refine wl (wl_skip hl rfl ⟨_, _, rfl, rfl, rfl⟩ ?_)
                  clear hl a; intro a hl
                  refine wl (wl_val hl rfl trivial (r_pickF hl rfl rfl) ?_)
                  clear hl a; intro a hl
                  refine wl (wl_val hl rfl trivial (r_move hl rfl) ?_)
                  clear hl a; intro a hl
                  refine wl (wl_skip hl rfl ⟨_, _, rfl, rfl, rfl⟩ ?_)
                  clear hl a; intro a hl
                  refine wl (wl_skip hl rfl ⟨_, _, rfl, rfl, rfl⟩ ?_)
                  clear hl a; intro a hl
                  refine wl (wl_skip hl rfl ⟨_, _, rfl, rfl, rfl⟩ ?_)
                  clear hl a; intro a hl
                  refine wl (wl_skip hl rfl ⟨_, _, rfl, rfl, rfl⟩ ?_)
                  clear hl a; intro a hl
                  refine wl (wl_skip hl rfl ⟨_, _, rfl, rfl, rfl⟩ ?_)
                  clear hl a; intro a hl
                  refine wl (wl_val hl rfl trivial (r_pickF hl rfl rfl) ?_)
                  clear hl a; intro a hl
                  refine wl (wl_val hl rfl trivial (r_move hl rfl) ?_)
                  clear hl a; intro a hl
                  refine wl (wl_skip hl rfl ⟨_, _, rfl, rfl, rfl⟩ ?_)
                  clear hl a; intro a hl
                  refine wl (wl_val hl rfl trivial (r_pickF hl rfl rfl) ?_)
                  clear hl a; intro a hl
                  refine wl (wl_val hl rfl trivial (r_move hl rfl) ?_)
                  clear hl a; intro a hl
                  refine wl (wl_skip hl rfl ⟨_, _, rfl, rfl, rfl⟩ ?_)
                  clear hl a; intro a hl
                  refine wl (wl_val hl rfl trivial (r_pickF hl rfl rfl) ?_)
                  clear hl a; intro a hl
                  refine wl (wl_val hl rfl trivial (r_move hl rfl) ?_)
                  clear hl a; intro a hl
                  refine wl (wl_skip hl rfl ⟨_, _, rfl, rfl, rfl⟩ ?_)
                  clear hl a; intro a hl
                  refine wl (wl_skip hl rfl ⟨_, _, rfl, rfl, rfl⟩ ?_)
                  clear hl a; intro a hl
                  refine wl (wl_skip hl rfl ⟨_, _, rfl, rfl, rfl⟩ ?_)
                  clear hl a; intro a hl
                  refine wl (wl_val hl rfl trivial (r_pickF hl rfl rfl) ?_)
                  clear hl a; intro a hl
                  refine wl (wl_val hl rfl trivial (r_assign hl rfl) ?_)
                  clear hl a; intro a hl
                  refine w_nil ?_
                  have hl2 := hl.add (t := 2) (hl.nil) rfl; clear hl; have hl := hl2; clear hl2
                  refine then_normal ?_
                  refine wp_ret ?_
                  refine blk_ret ?_
                  refine then_ret ?_
                  refine f_ret1 (F' := []) hl hh rfl rfl (by repeat (first | exact keeps_nil | apply keeps_cons (by repeat (first | exact find_head | apply find_tail)) (by first  | rfl) | exact keeps_self | apply keeps_mv)) ?_
                  first | (exfalso; omega) | exact ⟨congrArg Value.bool (by unfold wfF; simp only; (repeat (first | rw [if_pos (by omega)] | rw [if_neg (by omega)])); (try simp only [noPr, nxV]); (first | rw [show noRl ⟨kd, dv, pr, ix, up, ra, rl, via, pm, da, dl, cl⟩ = true by assumption] | rw [show noRl ⟨kd, dv, pr, ix, up, ra, rl, via, pm, da, dl, cl⟩ = false by assumption] | skip); (first | rw [show noRt ⟨kd, dv, pr, ix, up, ra, rl, via, pm, da, dl, cl⟩ = true by assumption] | rw [show noRt ⟨kd, dv, pr, ix, up, ra, rl, via, pm, da, dl, cl⟩ = false by assumption] | skip); (first | rw [show gpF ra rl = true by assumption] | rw [show gpF ra rl = false by assumption] | skip); (first | rw [show gpF da dl = true by assumption] | rw [show gpF da dl = false by assumption] | skip); (first | rw [show decide (dv < 16) = true from decide_eq_true (by omega)] | rw [show decide (dv < 16) = false from decide_eq_false (by omega)] | skip); (first | rw [show decide (via = 16) = true from decide_eq_true (by omega)] | rw [show decide (via = 16) = false from decide_eq_false (by omega)] | skip); (first | rw [show decide (via < 16) = true from decide_eq_true (by omega)] | rw [show decide (via < 16) = false from decide_eq_false (by omega)] | skip); (first | rw [show decide (via = dv) = true from decide_eq_true (by omega)] | rw [show decide (via = dv) = false from decide_eq_false (by omega)] | skip); (first | rw [show decide (via = 0) = true from decide_eq_true (by omega)] | rw [show decide (via = 0) = false from decide_eq_false (by omega)] | skip); (first | rw [show decide (pr = 0) = true from decide_eq_true (by omega)] | rw [show decide (pr = 0) = false from decide_eq_false (by omega)] | skip); (first | rw [show decide (pr < 16) = true from decide_eq_true (by omega)] | rw [show decide (pr < 16) = false from decide_eq_false (by omega)] | skip); (first | rw [show decide (dv < pr) = true from decide_eq_true (by omega)] | rw [show decide (dv < pr) = false from decide_eq_false (by omega)] | skip); (first | rw [show decide (dv = pr) = true from decide_eq_true (by omega)] | rw [show decide (dv = pr) = false from decide_eq_false (by omega)] | skip); (first | rw [show decide (cl ≤ 16) = true from decide_eq_true (by omega)] | rw [show decide (cl ≤ 16) = false from decide_eq_false (by omega)] | skip); (first | rw [show decide (ix < 64) = true from decide_eq_true (by omega)] | rw [show decide (ix < 64) = false from decide_eq_false (by omega)] | skip); first | rfl | (simp only [Bool.true_and, Bool.and_true, Bool.false_and, Bool.and_false, Bool.true_or, Bool.false_or, Bool.or_false, Bool.or_true, Bool.not_true, Bool.not_false]; first | done | rfl | ((repeat (first | rw [show up = true by assumption] | rw [show up = false by assumption] | rw [show decide (ix = 0) = true from decide_eq_true (by omega)] | rw [show decide (ix = 0) = false from decide_eq_false (by omega)])); rfl))), rfl⟩
              · intro hc5
                try simp only [decide_eq_true_eq, decide_eq_false_iff_not, Bool.not_eq_true', Bool.not_eq_false', Bool.not_eq_true, Bool.not_eq_false, Bool.and_eq_true, Bool.or_eq_true, Bool.and_eq_false_iff, Bool.or_eq_false_iff, Bool.not_not, ne_eq, Int.not_lt, Int.not_le, Decidable.not_not, beq_iff_eq, bne_iff_ne] at hc5
                refine wp_skip ?_
                refine blk_normal ?_
                refine then_normal ?_
                refine c_seq ?_
                refine c_region ?_
                refine wl (wl_val hl rfl trivial (r_assign hl rfl) ?_)
                clear hl a; intro a hl
                refine w_nil ?_
                have hl2 := hl.add (t := 2) (hl.nil) rfl; clear hl; have hl := hl2; clear hl2
                refine then_normal ?_
                refine wp_ret ?_
                refine f_ret1 (F' := []) hl hh rfl rfl (by repeat (first | exact keeps_nil | apply keeps_cons (by repeat (first | exact find_head | apply find_tail)) (by first  | rfl) | exact keeps_self | apply keeps_mv)) ?_
                exact ⟨congrArg Value.bool (by unfold wfF; simp only; (repeat (rw [if_neg (by omega)]))), rfl⟩

theorem wellM (c : Ch) (h : c.ok) : Sp Try.prog 45 #[.agg ⟨c.vals⟩] [] (fun v F' => v = .bool (wfF c) ∧ F' = []) := wellM0 _ _ _ _ _ _ _ _ _ _ _ _ h
end Go.Proofs.Qxb6500907a

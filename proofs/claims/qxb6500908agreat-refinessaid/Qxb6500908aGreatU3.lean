import Derived.Test.Qxb6500908aGreatU2
namespace Go.Proofs.Qxb6500908aGreat
open Go.Eng
set_option linter.unusedVariables false
set_option linter.unusedSimpArgs false

set_option maxHeartbeats 1000000 in
theorem lineO (p : Option Addr) (n cap : Nat) (ws : List ByteArray) (hw : ws.length = n) (E : List (Nat × Obj)) (hR : Row (.slice p n cap) n (ws.map .string) 1 9 E) (hs : ∀ u, u ∈ ws → u.size ≤ 9223372036854775807) (hn : n ≠ 8 ∧ n ≠ 7 ∧ n ≠ 6 ∧ n ≠ 10 ∧ n ≠ 4) : SpK Tryz.prog 55 #[.slice p n cap] (Mem E) [] (fun v F' => LnR none v ∧ F' = []) := by
  refine f_enter (args := [.slice p n cap]) Tryz.func55 rfl Tryz.ntmps55 rfl ?_
  intro w0 w a hpre hl hh
  simp only [slotsFrom, Nat.reduceAdd] at hl
  refine c_seq ?_
  refine c_region ?_
  refine wl (w_alloc hl hh rfl trivial zero162 rfl ?_)
  clear hl hh a w; intro k2 a w hl hh
  refine wl (wl_val hl rfl trivial (r_assign hl rfl) ?_)
  clear hl a; intro a hl
  refine w_nil ?_
  have hl2 := hl.add (t := 0) (hl.add (t := 2) (hl.nil) rfl) rfl; clear hl; have hl := hl2; clear hl2
  refine then_normal ?_
  refine c_seq ?_
  refine c_region ?_
  refine wl (w_alloc hl hh rfl trivial zero162 rfl ?_)
  clear hl hh a w; intro k4 a w hl hh
  refine w_nil ?_
  have hl2 := hl.add (t := 0) (hl.add (t := 2) (hl.add (t := 4) (hl.nil) rfl) rfl) rfl; clear hl; have hl := hl2; clear hl2
  refine then_normal ?_
  refine c_seq ?_
  refine c_region ?_
  refine wl (wl_val hl rfl trivial (r_assign hl rfl) ?_)
  clear hl a; intro a hl
  refine wl (wl_val hl rfl trivial (r_assign hl rfl) ?_)
  clear hl a; intro a hl
  refine wl (wl_val hl rfl trivial (r_assign hl rfl) ?_)
  clear hl a; intro a hl
  refine wl (wl_val hl rfl trivial (r_assign hl rfl) ?_)
  clear hl a; intro a hl
  refine w_nil ?_
  have hl2 := hl.add (t := 0) (hl.add (t := 2) (hl.add (t := 4) (hl.nil) rfl) rfl) rfl; clear hl; have hl := hl2; clear hl2
  refine then_normal ?_
  refine c_seq ?_
  refine c_seq ?_
  refine c_region ?_
  refine wl (wl_val hl rfl trivial (r_move hl rfl) ?_)
  clear hl a; intro a hl
  refine wl (wl_val hl rfl trivial (r_lenS hl rfl slc154) ?_)
  clear hl a; intro a hl
  refine wl (wl_val hl rfl trivial (r_lss hl rfl rfl) ?_)
  clear hl a; intro a hl
  refine w_nil ?_
  have hl2 := hl.add (t := 0) (hl.add (t := 2) (hl.add (t := 4) (hl.add (t := 16) (hl.nil) rfl) rfl) rfl) rfl; clear hl; have hl := hl2; clear hl2
  refine then_normal ?_
  refine c_cond hl rfl ?_ ?_
  · intro hc0
    try simp only [decide_eq_true_eq, decide_eq_false_iff_not, Bool.not_eq_true', Bool.not_eq_false', Bool.not_eq_true, Bool.not_eq_false, Bool.and_eq_true, Bool.or_eq_true, Bool.and_eq_false_iff, Bool.or_eq_false_iff, Bool.not_not, ne_eq, Int.not_lt, Int.not_le, Decidable.not_not, beq_iff_eq, bne_iff_ne] at hc0
    refine c_seq ?_
    refine c_region ?_
    refine wl (w_loadA hl hh rfl trivial agg162 rfl (by repeat (first | exact find_head | apply find_tail)) (by first | (simp only [List.getElem?_cons_zero, List.getElem?_cons_succ, Value.cells, List.take_zero, List.take_succ_cons, List.take_nil, List.drop_zero, List.drop_succ_cons, List.drop_nil, List.length_cons, List.length_nil, List.cons_append, List.nil_append, List.append_nil, Nat.zero_add, Nat.add_zero, Nat.reduceAdd, Nat.reduceBEq, Nat.reduceEqDiff, Nat.ble, BEq.rfl, Bool.and_true, Bool.and_self, cond_true, beq_self_eq_true]; rfl)) (by first | rfl | (simp; done)) ?_)
    clear hl a; intro a hl
    refine wl (w_storeA hl hh trivial agg162 rfl rfl (by repeat (first | exact find_head | apply find_tail)) (by first | rfl | (simp; done)) (by first | (simp; done) | (simp; omega)) (by first | rfl | (simp; done)) (by first | (simp only [setL, List.getElem?_cons_zero, List.getElem?_cons_succ, Value.cells, List.take_zero, List.take_succ_cons, List.take_nil, List.drop_zero, List.drop_succ_cons, List.drop_nil, List.length_cons, List.length_nil, List.cons_append, List.nil_append, List.append_nil, Nat.zero_add, Nat.add_zero, Nat.reduceAdd, Nat.reduceBEq, Nat.reduceEqDiff, Nat.ble, BEq.rfl, Bool.and_true, Bool.and_self, cond_true, beq_self_eq_true]; rfl)) ?_)
    clear hh w; intro w hh
    refine wl (wl_val hl rfl trivial (r_assign hl rfl) ?_)
    clear hl a; intro a hl
    refine w_nil ?_
    have hl2 := hl.add (t := 2) (hl.add (t := 3) (hl.nil) rfl) rfl; clear hl; have hl := hl2; clear hl2
    refine then_normal ?_
    refine wp_ret ?_
    refine then_ret ?_
    refine f_retCT (F' := []) hl hh rfl rfl agg162 (by repeat (first | exact find_head | apply find_tail)) (by first | rfl | exact arrL_length _ _ | (simp; done)) rfl (by repeat (first | exact keeps_nil | apply keeps_cons (by repeat (first | exact find_head | apply find_tail)) (by first  | rfl) | exact keeps_self | exact keeps_left | exact keeps_right | exact keeps_swap | apply keeps_mv)) ?_
    exact ⟨ln_no (kd := 0) rfl (by decide) ⟨0, 0, 0, 0, false, 0, 0, 0, false, 0, 0, 0⟩ (by constructor <;> decide) rfl, rfl⟩
  · intro hc0
    try simp only [decide_eq_true_eq, decide_eq_false_iff_not, Bool.not_eq_true', Bool.not_eq_false', Bool.not_eq_true, Bool.not_eq_false, Bool.and_eq_true, Bool.or_eq_true, Bool.and_eq_false_iff, Bool.or_eq_false_iff, Bool.not_not, ne_eq, Int.not_lt, Int.not_le, Decidable.not_not, beq_iff_eq, bne_iff_ne] at hc0
    obtain ⟨b, junk, rfl, hjl, hjc, rfl⟩ := row_pos hR (by omega)
    have hm := hpre _ _ (List.mem_singleton.2 rfl)
    obtain ⟨x2, hx2⟩ : ∃ x2, ws[2]? = some x2 := ⟨_, List.getElem?_eq_getElem (by omega)⟩
    have hd1 : (ws.map Value.string ++ junk)[0 + 2 * 1]? = some (.string x2) := by rw [List.getElem?_append_left (by rw [List.length_map]; omega), List.getElem?_map, hx2]; rfl
    have hdx2 := dvM_g x2
    refine wp_skip ?_
    refine then_normal ?_
    refine c_seq ?_
    refine c_region ?_
    refine wl (wl_val hl rfl trivial (r_move hl rfl) ?_)
    clear hl a; intro a hl
    refine wl (wl_val hl rfl trivial (r_indexS hl rfl rfl slc154 (by omega) (by omega) (by first | (simp only [Int.reduceToNat]; rfl) | exact toNat_add1 _ | exact toNat_add2 _ _ | exact toNat_emod _ _ | exact Int.toNat_natCast _ | rfl)) ?_)
    clear hl a; intro a hl
    first | refine wl (w_load hl hh rfl trivial one9 rfl (by repeat (first | exact find_head | apply find_tail)) (by first | rfl) ?_) | refine wl (w_loadR hl hh rfl trivial one9 rfl hm (by simp) hd1 ?_)
    clear hl a; intro a hl
    refine wl (w_call hl hh rfl trivial rfl cal63 rfl (deviceM x2 (hs x2 (List.mem_of_getElem? hx2))) (by repeat (first | exact keeps_nil | apply keeps_cons (by repeat (first | exact find_head | apply find_tail)) (by first  | rfl) | exact keeps_self | exact keeps_left | exact keeps_right | exact keeps_swap | apply keeps_mv)) trivial ?_)
    clear hl hh a w; intro vc Fc a w hR hl hh
    obtain ⟨rfl, rfl⟩ := hR
    try simp only [List.cons_append, List.nil_append] at hh
    refine wl (wl_val hl rfl trivial (r_move hl rfl) ?_)
    clear hl a; intro a hl
    refine wl (wl_val hl rfl trivial (r_extract hl rfl (by simp only [List.getElem?_toArray, List.getElem?_cons_zero, List.getElem?_cons_succ]; rfl)) ?_)
    clear hl a; intro a hl
    refine wl (wl_val hl rfl trivial (r_extract hl rfl (by simp only [List.getElem?_toArray, List.getElem?_cons_zero, List.getElem?_cons_succ]; rfl)) ?_)
    clear hl a; intro a hl
    refine wl (wl_val hl rfl trivial (r_field hl rfl fld162_1) ?_)
    clear hl a; intro a hl
    refine wl (w_store hl hh trivial one5 rfl rfl (by repeat (first | exact find_head | apply find_tail)) (by first | (simp; done) | (simp; omega)) (by first | rfl | assumption | (apply Row.one; assumption)) (by first | (simp only [setL, List.getElem?_cons_zero, List.getElem?_cons_succ, Value.cells, List.take_zero, List.take_succ_cons, List.take_nil, List.drop_zero, List.drop_succ_cons, List.drop_nil, List.length_cons, List.length_nil, List.cons_append, List.nil_append, List.append_nil, Nat.zero_add, Nat.add_zero, Nat.reduceAdd, Nat.reduceBEq, Nat.reduceEqDiff, Nat.ble, BEq.rfl, Bool.and_true, Bool.and_self, cond_true, beq_self_eq_true]; rfl)) ?_)
    clear hh w; intro w hh
    refine wl (wl_val hl rfl trivial (r_assign hl rfl) ?_)
    clear hl a; intro a hl
    refine w_nil ?_
    have hl2 := hl.add (t := 0) (hl.add (t := 2) (hl.add (t := 4) (hl.add (t := 5) (hl.nil) rfl) rfl) rfl) rfl; clear hl; have hl := hl2; clear hl2
    refine then_normal ?_
    refine c_seq ?_
    refine wp_block ?_
    refine c_seq ?_
    refine c_region ?_
    refine wl (wl_val hl rfl trivial (r_move hl rfl) ?_)
    clear hl a; intro a hl
    refine wl (wl_val hl rfl trivial (r_lenS hl rfl slc154) ?_)
    clear hl a; intro a hl
    refine wl (wl_val hl rfl trivial (r_eql hl rfl rfl) ?_)
    clear hl a; intro a hl
    refine wl (wl_val hl rfl trivial (r_move hl rfl) ?_)
    clear hl a; intro a hl
    refine sl_split (t := 30) hl rfl ?_ ?_
    · intro hg1; clear hl; intro hl
      try simp only [decide_eq_true_eq, decide_eq_false_iff_not, Bool.not_eq_true', Bool.not_eq_false', Bool.not_eq_true, Bool.not_eq_false, Bool.and_eq_true, Bool.or_eq_true, Bool.and_eq_false_iff, Bool.or_eq_false_iff, Bool.not_not, ne_eq, Int.not_lt, Int.not_le, Decidable.not_not, beq_iff_eq, bne_iff_ne] at hg1
      exfalso; first | omega | (simp at *; done)
    · intro hg1; clear hl; intro hl
      try simp only [decide_eq_true_eq, decide_eq_false_iff_not, Bool.not_eq_true', Bool.not_eq_false', Bool.not_eq_true, Bool.not_eq_false, Bool.and_eq_true, Bool.or_eq_true, Bool.and_eq_false_iff, Bool.or_eq_false_iff, Bool.not_not, ne_eq, Int.not_lt, Int.not_le, Decidable.not_not, beq_iff_eq, bne_iff_ne] at hg1
      refine wl (wl_skip hl rfl ⟨_, _, rfl, rfl, rfl⟩ ?_)
      clear hl a; intro a hl
      refine wl (wl_skip hl rfl ⟨_, _, rfl, rfl, rfl⟩ ?_)
      clear hl a; intro a hl
      refine wl (wl_skip hl rfl ⟨_, _, rfl, rfl, rfl⟩ ?_)
      clear hl a; intro a hl
      refine wl (wl_skip hl rfl ⟨_, _, rfl, rfl, rfl⟩ ?_)
      clear hl a; intro a hl
      refine wl (wl_val hl rfl trivial (r_pickF hl rfl rfl) ?_)
      clear hl a; intro a hl
      refine wl (wl_val hl rfl trivial (r_move hl rfl) ?_)
      clear hl a; intro a hl
      refine wl (wl_skip hl rfl ⟨_, _, rfl, rfl, rfl⟩ ?_)
      clear hl a; intro a hl
      refine wl (wl_skip hl rfl ⟨_, _, rfl, rfl, rfl⟩ ?_)
      clear hl a; intro a hl
      refine wl (wl_skip hl rfl ⟨_, _, rfl, rfl, rfl⟩ ?_)
      clear hl a; intro a hl
      refine wl (wl_skip hl rfl ⟨_, _, rfl, rfl, rfl⟩ ?_)
      clear hl a; intro a hl
      refine wl (wl_val hl rfl trivial (r_pickF hl rfl rfl) ?_)
      clear hl a; intro a hl
      refine wl (wl_val hl rfl trivial (r_move hl rfl) ?_)
      clear hl a; intro a hl
      refine wl (wl_skip hl rfl ⟨_, _, rfl, rfl, rfl⟩ ?_)
      clear hl a; intro a hl
      refine wl (wl_skip hl rfl ⟨_, _, rfl, rfl, rfl⟩ ?_)
      clear hl a; intro a hl
      refine wl (wl_skip hl rfl ⟨_, _, rfl, rfl, rfl⟩ ?_)
      clear hl a; intro a hl
      refine wl (wl_skip hl rfl ⟨_, _, rfl, rfl, rfl⟩ ?_)
      clear hl a; intro a hl
      refine wl (wl_val hl rfl trivial (r_pickF hl rfl rfl) ?_)
      clear hl a; intro a hl
      refine wl (wl_val hl rfl trivial (r_assign hl rfl) ?_)
      clear hl a; intro a hl
      refine w_nil ?_
      have hl2 := hl.add (t := 0) (hl.add (t := 2) (hl.add (t := 4) (hl.add (t := 5) (hl.add (t := 26) (hl.nil) rfl) rfl) rfl) rfl) rfl; clear hl; have hl := hl2; clear hl2
      refine then_normal ?_
      refine c_condF hl rfl ?_
      refine c_seq ?_
      refine c_region ?_
      refine wl (wl_val hl rfl trivial (r_move hl rfl) ?_)
      clear hl a; intro a hl
      refine wl (wl_val hl rfl trivial (r_lenS hl rfl slc154) ?_)
      clear hl a; intro a hl
      refine wl (wl_val hl rfl trivial (r_eql hl rfl rfl) ?_)
      clear hl a; intro a hl
      refine wl (wl_val hl rfl trivial (r_move hl rfl) ?_)
      clear hl a; intro a hl
      refine sl_split (t := 85) hl rfl ?_ ?_
      · intro hg2; clear hl; intro hl
        try simp only [decide_eq_true_eq, decide_eq_false_iff_not, Bool.not_eq_true', Bool.not_eq_false', Bool.not_eq_true, Bool.not_eq_false, Bool.and_eq_true, Bool.or_eq_true, Bool.and_eq_false_iff, Bool.or_eq_false_iff, Bool.not_not, ne_eq, Int.not_lt, Int.not_le, Decidable.not_not, beq_iff_eq, bne_iff_ne] at hg2
        exfalso; first | omega | (simp at *; done)
      · intro hg2; clear hl; intro hl
        try simp only [decide_eq_true_eq, decide_eq_false_iff_not, Bool.not_eq_true', Bool.not_eq_false', Bool.not_eq_true, Bool.not_eq_false, Bool.and_eq_true, Bool.or_eq_true, Bool.and_eq_false_iff, Bool.or_eq_false_iff, Bool.not_not, ne_eq, Int.not_lt, Int.not_le, Decidable.not_not, beq_iff_eq, bne_iff_ne] at hg2
        refine wl (wl_skip hl rfl ⟨_, _, rfl, rfl, rfl⟩ ?_)
        clear hl a; intro a hl
        refine wl (wl_skip hl rfl ⟨_, _, rfl, rfl, rfl⟩ ?_)
        clear hl a; intro a hl
        refine wl (wl_skip hl rfl ⟨_, _, rfl, rfl, rfl⟩ ?_)
        clear hl a; intro a hl
        refine wl (wl_skip hl rfl ⟨_, _, rfl, rfl, rfl⟩ ?_)
        clear hl a; intro a hl
        refine wl (wl_val hl rfl trivial (r_pickF hl rfl rfl) ?_)
        clear hl a; intro a hl
        refine wl (wl_val hl rfl trivial (r_move hl rfl) ?_)
        clear hl a; intro a hl
        refine wl (wl_skip hl rfl ⟨_, _, rfl, rfl, rfl⟩ ?_)
        clear hl a; intro a hl
        refine wl (wl_skip hl rfl ⟨_, _, rfl, rfl, rfl⟩ ?_)
        clear hl a; intro a hl
        refine wl (wl_skip hl rfl ⟨_, _, rfl, rfl, rfl⟩ ?_)
        clear hl a; intro a hl
        refine wl (wl_skip hl rfl ⟨_, _, rfl, rfl, rfl⟩ ?_)
        clear hl a; intro a hl
        refine wl (wl_val hl rfl trivial (r_pickF hl rfl rfl) ?_)
        clear hl a; intro a hl
        refine wl (wl_val hl rfl trivial (r_move hl rfl) ?_)
        clear hl a; intro a hl
        refine wl (wl_skip hl rfl ⟨_, _, rfl, rfl, rfl⟩ ?_)
        clear hl a; intro a hl
        refine wl (wl_skip hl rfl ⟨_, _, rfl, rfl, rfl⟩ ?_)
        clear hl a; intro a hl
        refine wl (wl_skip hl rfl ⟨_, _, rfl, rfl, rfl⟩ ?_)
        clear hl a; intro a hl
        refine wl (wl_skip hl rfl ⟨_, _, rfl, rfl, rfl⟩ ?_)
        clear hl a; intro a hl
        refine wl (wl_val hl rfl trivial (r_pickF hl rfl rfl) ?_)
        clear hl a; intro a hl
        refine wl (wl_val hl rfl trivial (r_assign hl rfl) ?_)
        clear hl a; intro a hl
        refine w_nil ?_
        have hl2 := hl.add (t := 0) (hl.add (t := 2) (hl.add (t := 4) (hl.add (t := 5) (hl.add (t := 81) (hl.nil) rfl) rfl) rfl) rfl) rfl; clear hl; have hl := hl2; clear hl2
        refine then_normal ?_
        refine c_condF hl rfl ?_
        refine c_seq ?_
        refine c_region ?_
        refine wl (wl_val hl rfl trivial (r_move hl rfl) ?_)
        clear hl a; intro a hl
        refine wl (wl_val hl rfl trivial (r_lenS hl rfl slc154) ?_)
        clear hl a; intro a hl
        refine wl (wl_val hl rfl trivial (r_eql hl rfl rfl) ?_)
        clear hl a; intro a hl
        refine wl (wl_val hl rfl trivial (r_move hl rfl) ?_)
        clear hl a; intro a hl
        refine sl_split (t := 130) hl rfl ?_ ?_
        · intro hg3; clear hl; intro hl
          try simp only [decide_eq_true_eq, decide_eq_false_iff_not, Bool.not_eq_true', Bool.not_eq_false', Bool.not_eq_true, Bool.not_eq_false, Bool.and_eq_true, Bool.or_eq_true, Bool.and_eq_false_iff, Bool.or_eq_false_iff, Bool.not_not, ne_eq, Int.not_lt, Int.not_le, Decidable.not_not, beq_iff_eq, bne_iff_ne] at hg3
          exfalso; first | omega | (simp at *; done)
        · intro hg3; clear hl; intro hl
          try simp only [decide_eq_true_eq, decide_eq_false_iff_not, Bool.not_eq_true', Bool.not_eq_false', Bool.not_eq_true, Bool.not_eq_false, Bool.and_eq_true, Bool.or_eq_true, Bool.and_eq_false_iff, Bool.or_eq_false_iff, Bool.not_not, ne_eq, Int.not_lt, Int.not_le, Decidable.not_not, beq_iff_eq, bne_iff_ne] at hg3
          refine wl (wl_skip hl rfl ⟨_, _, rfl, rfl, rfl⟩ ?_)
          clear hl a; intro a hl
          refine wl (wl_skip hl rfl ⟨_, _, rfl, rfl, rfl⟩ ?_)
          clear hl a; intro a hl
          refine wl (wl_skip hl rfl ⟨_, _, rfl, rfl, rfl⟩ ?_)
          clear hl a; intro a hl
          refine wl (wl_skip hl rfl ⟨_, _, rfl, rfl, rfl⟩ ?_)
          clear hl a; intro a hl
          refine wl (wl_val hl rfl trivial (r_pickF hl rfl rfl) ?_)
          clear hl a; intro a hl
          refine wl (wl_val hl rfl trivial (r_move hl rfl) ?_)
          clear hl a; intro a hl
          refine wl (wl_skip hl rfl ⟨_, _, rfl, rfl, rfl⟩ ?_)
          clear hl a; intro a hl
          refine wl (wl_skip hl rfl ⟨_, _, rfl, rfl, rfl⟩ ?_)
          clear hl a; intro a hl
          refine wl (wl_skip hl rfl ⟨_, _, rfl, rfl, rfl⟩ ?_)
          clear hl a; intro a hl
          refine wl (wl_skip hl rfl ⟨_, _, rfl, rfl, rfl⟩ ?_)
          clear hl a; intro a hl
          refine wl (wl_val hl rfl trivial (r_pickF hl rfl rfl) ?_)
          clear hl a; intro a hl
          refine wl (wl_val hl rfl trivial (r_assign hl rfl) ?_)
          clear hl a; intro a hl
          refine w_nil ?_
          have hl2 := hl.add (t := 0) (hl.add (t := 2) (hl.add (t := 4) (hl.add (t := 5) (hl.add (t := 126) (hl.nil) rfl) rfl) rfl) rfl) rfl; clear hl; have hl := hl2; clear hl2
          refine then_normal ?_
          refine c_condF hl rfl ?_
          refine c_seq ?_
          refine c_region ?_
          refine wl (wl_val hl rfl trivial (r_move hl rfl) ?_)
          clear hl a; intro a hl
          refine wl (wl_val hl rfl trivial (r_lenS hl rfl slc154) ?_)
          clear hl a; intro a hl
          refine wl (wl_val hl rfl trivial (r_eql hl rfl rfl) ?_)
          clear hl a; intro a hl
          refine wl (wl_val hl rfl trivial (r_move hl rfl) ?_)
          clear hl a; intro a hl
          refine sl_split (t := 167) hl rfl ?_ ?_
          · intro hg4; clear hl; intro hl
            try simp only [decide_eq_true_eq, decide_eq_false_iff_not, Bool.not_eq_true', Bool.not_eq_false', Bool.not_eq_true, Bool.not_eq_false, Bool.and_eq_true, Bool.or_eq_true, Bool.and_eq_false_iff, Bool.or_eq_false_iff, Bool.not_not, ne_eq, Int.not_lt, Int.not_le, Decidable.not_not, beq_iff_eq, bne_iff_ne] at hg4
            exfalso; first | omega | (simp at *; done)
          · intro hg4; clear hl; intro hl
            try simp only [decide_eq_true_eq, decide_eq_false_iff_not, Bool.not_eq_true', Bool.not_eq_false', Bool.not_eq_true, Bool.not_eq_false, Bool.and_eq_true, Bool.or_eq_true, Bool.and_eq_false_iff, Bool.or_eq_false_iff, Bool.not_not, ne_eq, Int.not_lt, Int.not_le, Decidable.not_not, beq_iff_eq, bne_iff_ne] at hg4
            refine wl (wl_skip hl rfl ⟨_, _, rfl, rfl, rfl⟩ ?_)
            clear hl a; intro a hl
            refine wl (wl_skip hl rfl ⟨_, _, rfl, rfl, rfl⟩ ?_)
            clear hl a; intro a hl
            refine wl (wl_skip hl rfl ⟨_, _, rfl, rfl, rfl⟩ ?_)
            clear hl a; intro a hl
            refine wl (wl_skip hl rfl ⟨_, _, rfl, rfl, rfl⟩ ?_)
            clear hl a; intro a hl
            refine wl (wl_val hl rfl trivial (r_pickF hl rfl rfl) ?_)
            clear hl a; intro a hl
            refine wl (wl_val hl rfl trivial (r_move hl rfl) ?_)
            clear hl a; intro a hl
            refine wl (wl_skip hl rfl ⟨_, _, rfl, rfl, rfl⟩ ?_)
            clear hl a; intro a hl
            refine wl (wl_skip hl rfl ⟨_, _, rfl, rfl, rfl⟩ ?_)
            clear hl a; intro a hl
            refine wl (wl_skip hl rfl ⟨_, _, rfl, rfl, rfl⟩ ?_)
            clear hl a; intro a hl
            refine wl (wl_skip hl rfl ⟨_, _, rfl, rfl, rfl⟩ ?_)
            clear hl a; intro a hl
            refine wl (wl_val hl rfl trivial (r_pickF hl rfl rfl) ?_)
            clear hl a; intro a hl
            refine wl (wl_val hl rfl trivial (r_move hl rfl) ?_)
            clear hl a; intro a hl
            refine wl (wl_skip hl rfl ⟨_, _, rfl, rfl, rfl⟩ ?_)
            clear hl a; intro a hl
            refine wl (wl_skip hl rfl ⟨_, _, rfl, rfl, rfl⟩ ?_)
            clear hl a; intro a hl
            refine wl (wl_skip hl rfl ⟨_, _, rfl, rfl, rfl⟩ ?_)
            clear hl a; intro a hl
            refine wl (wl_skip hl rfl ⟨_, _, rfl, rfl, rfl⟩ ?_)
            clear hl a; intro a hl
            refine wl (wl_skip hl rfl ⟨_, _, rfl, rfl, rfl⟩ ?_)
            clear hl a; intro a hl
            refine wl (wl_skipU hl rfl ⟨_, _, rfl, rfl, rfl⟩ ?_)
            clear hl a; intro a hl
            refine wl (wl_skipU hl rfl ⟨_, _, rfl, rfl, rfl⟩ ?_)
            clear hl a; intro a hl
            refine wl (wl_skipU hl rfl ⟨_, _, rfl, rfl, rfl⟩ ?_)
            clear hl a; intro a hl
            refine wl (wl_skipU hl rfl ⟨_, _, rfl, rfl, rfl⟩ ?_)
            clear hl a; intro a hl
            refine wl (wl_skip hl rfl ⟨_, _, rfl, rfl, rfl⟩ ?_)
            clear hl a; intro a hl
            refine wl (wl_val hl rfl trivial (r_pickF hl rfl rfl) ?_)
            clear hl a; intro a hl
            refine wl (wl_val hl rfl trivial (r_move hl rfl) ?_)
            clear hl a; intro a hl
            refine wl (wl_skip hl rfl ⟨_, _, rfl, rfl, rfl⟩ ?_)
            clear hl a; intro a hl
            refine wl (wl_skip hl rfl ⟨_, _, rfl, rfl, rfl⟩ ?_)
            clear hl a; intro a hl
            refine wl (wl_skip hl rfl ⟨_, _, rfl, rfl, rfl⟩ ?_)
            clear hl a; intro a hl
            refine wl (wl_skip hl rfl ⟨_, _, rfl, rfl, rfl⟩ ?_)
            clear hl a; intro a hl
            refine wl (wl_val hl rfl trivial (r_pickF hl rfl rfl) ?_)
            clear hl a; intro a hl
            refine wl (wl_val hl rfl trivial (r_assign hl rfl) ?_)
            clear hl a; intro a hl
            refine w_nil ?_
            have hl2 := hl.add (t := 0) (hl.add (t := 2) (hl.add (t := 4) (hl.add (t := 5) (hl.add (t := 163) (hl.nil) rfl) rfl) rfl) rfl) rfl; clear hl; have hl := hl2; clear hl2
            refine then_normal ?_
            refine c_condF hl rfl ?_
            refine c_seq ?_
            refine c_region ?_
            refine wl (wl_val hl rfl trivial (r_move hl rfl) ?_)
            clear hl a; intro a hl
            refine wl (wl_val hl rfl trivial (r_lenS hl rfl slc154) ?_)
            clear hl a; intro a hl
            refine wl (wl_val hl rfl trivial (r_eql hl rfl rfl) ?_)
            clear hl a; intro a hl
            refine wl (wl_val hl rfl trivial (r_move hl rfl) ?_)
            clear hl a; intro a hl
            refine sl_split (t := 263) hl rfl ?_ ?_
            · intro hg5; clear hl; intro hl
              try simp only [decide_eq_true_eq, decide_eq_false_iff_not, Bool.not_eq_true', Bool.not_eq_false', Bool.not_eq_true, Bool.not_eq_false, Bool.and_eq_true, Bool.or_eq_true, Bool.and_eq_false_iff, Bool.or_eq_false_iff, Bool.not_not, ne_eq, Int.not_lt, Int.not_le, Decidable.not_not, beq_iff_eq, bne_iff_ne] at hg5
              exfalso; first | omega | (simp at *; done)
            · intro hg5; clear hl; intro hl
              try simp only [decide_eq_true_eq, decide_eq_false_iff_not, Bool.not_eq_true', Bool.not_eq_false', Bool.not_eq_true, Bool.not_eq_false, Bool.and_eq_true, Bool.or_eq_true, Bool.and_eq_false_iff, Bool.or_eq_false_iff, Bool.not_not, ne_eq, Int.not_lt, Int.not_le, Decidable.not_not, beq_iff_eq, bne_iff_ne] at hg5
              refine wl (wl_skip hl rfl ⟨_, _, rfl, rfl, rfl⟩ ?_)
              clear hl a; intro a hl
              refine wl (wl_skip hl rfl ⟨_, _, rfl, rfl, rfl⟩ ?_)
              clear hl a; intro a hl
              refine wl (wl_skip hl rfl ⟨_, _, rfl, rfl, rfl⟩ ?_)
              clear hl a; intro a hl
              refine wl (wl_skip hl rfl ⟨_, _, rfl, rfl, rfl⟩ ?_)
              clear hl a; intro a hl
              refine wl (wl_val hl rfl trivial (r_pickF hl rfl rfl) ?_)
              clear hl a; intro a hl
              refine wl (wl_val hl rfl trivial (r_move hl rfl) ?_)
              clear hl a; intro a hl
              refine wl (wl_skip hl rfl ⟨_, _, rfl, rfl, rfl⟩ ?_)
              clear hl a; intro a hl
              refine wl (wl_skip hl rfl ⟨_, _, rfl, rfl, rfl⟩ ?_)
              clear hl a; intro a hl
              refine wl (wl_skip hl rfl ⟨_, _, rfl, rfl, rfl⟩ ?_)
              clear hl a; intro a hl
              refine wl (wl_skip hl rfl ⟨_, _, rfl, rfl, rfl⟩ ?_)
              clear hl a; intro a hl
              refine wl (wl_val hl rfl trivial (r_pickF hl rfl rfl) ?_)
              clear hl a; intro a hl
              refine wl (wl_val hl rfl trivial (r_assign hl rfl) ?_)
              clear hl a; intro a hl
              refine w_nil ?_
              have hl2 := hl.add (t := 0) (hl.add (t := 2) (hl.add (t := 4) (hl.add (t := 5) (hl.add (t := 259) (hl.nil) rfl) rfl) rfl) rfl) rfl; clear hl; have hl := hl2; clear hl2
              refine then_normal ?_
              refine c_condF hl rfl ?_
              refine c_seq ?_
              refine c_region ?_
              refine wl (wl_val hl rfl trivial (r_move hl rfl) ?_)
              clear hl a; intro a hl
              refine wl (wl_val hl rfl trivial (r_lenS hl rfl slc154) ?_)
              clear hl a; intro a hl
              refine wl (wl_val hl rfl trivial (r_eql hl rfl rfl) ?_)
              clear hl a; intro a hl
              refine wl (wl_val hl rfl trivial (r_move hl rfl) ?_)
              clear hl a; intro a hl
              refine sl_split (t := 295) hl rfl ?_ ?_
              · intro hg6; clear hl; intro hl
                try simp only [decide_eq_true_eq, decide_eq_false_iff_not, Bool.not_eq_true', Bool.not_eq_false', Bool.not_eq_true, Bool.not_eq_false, Bool.and_eq_true, Bool.or_eq_true, Bool.and_eq_false_iff, Bool.or_eq_false_iff, Bool.not_not, ne_eq, Int.not_lt, Int.not_le, Decidable.not_not, beq_iff_eq, bne_iff_ne] at hg6
                exfalso; first | omega | (simp at *; done)
              · intro hg6; clear hl; intro hl
                try simp only [decide_eq_true_eq, decide_eq_false_iff_not, Bool.not_eq_true', Bool.not_eq_false', Bool.not_eq_true, Bool.not_eq_false, Bool.and_eq_true, Bool.or_eq_true, Bool.and_eq_false_iff, Bool.or_eq_false_iff, Bool.not_not, ne_eq, Int.not_lt, Int.not_le, Decidable.not_not, beq_iff_eq, bne_iff_ne] at hg6
                refine wl (wl_skip hl rfl ⟨_, _, rfl, rfl, rfl⟩ ?_)
                clear hl a; intro a hl
                refine wl (wl_skip hl rfl ⟨_, _, rfl, rfl, rfl⟩ ?_)
                clear hl a; intro a hl
                refine wl (wl_skip hl rfl ⟨_, _, rfl, rfl, rfl⟩ ?_)
                clear hl a; intro a hl
                refine wl (wl_skip hl rfl ⟨_, _, rfl, rfl, rfl⟩ ?_)
                clear hl a; intro a hl
                refine wl (wl_skip hl rfl ⟨_, _, rfl, rfl, rfl⟩ ?_)
                clear hl a; intro a hl
                refine wl (wl_skipU hl rfl ⟨_, _, rfl, rfl, rfl⟩ ?_)
                clear hl a; intro a hl
                refine wl (wl_skipU hl rfl ⟨_, _, rfl, rfl, rfl⟩ ?_)
                clear hl a; intro a hl
                refine wl (wl_skipU hl rfl ⟨_, _, rfl, rfl, rfl⟩ ?_)
                clear hl a; intro a hl
                refine wl (wl_skipU hl rfl ⟨_, _, rfl, rfl, rfl⟩ ?_)
                clear hl a; intro a hl
                refine wl (wl_skip hl rfl ⟨_, _, rfl, rfl, rfl⟩ ?_)
                clear hl a; intro a hl
                refine wl (wl_val hl rfl trivial (r_pickF hl rfl rfl) ?_)
                clear hl a; intro a hl
                refine wl (wl_val hl rfl trivial (r_move hl rfl) ?_)
                clear hl a; intro a hl
                refine wl (wl_skip hl rfl ⟨_, _, rfl, rfl, rfl⟩ ?_)
                clear hl a; intro a hl
                refine wl (wl_skip hl rfl ⟨_, _, rfl, rfl, rfl⟩ ?_)
                clear hl a; intro a hl
                refine wl (wl_skip hl rfl ⟨_, _, rfl, rfl, rfl⟩ ?_)
                clear hl a; intro a hl
                refine wl (wl_skip hl rfl ⟨_, _, rfl, rfl, rfl⟩ ?_)
                clear hl a; intro a hl
                refine wl (wl_skip hl rfl ⟨_, _, rfl, rfl, rfl⟩ ?_)
                clear hl a; intro a hl
                refine wl (wl_skipU hl rfl ⟨_, _, rfl, rfl, rfl⟩ ?_)
                clear hl a; intro a hl
                refine wl (wl_skipU hl rfl ⟨_, _, rfl, rfl, rfl⟩ ?_)
                clear hl a; intro a hl
                refine wl (wl_skipU hl rfl ⟨_, _, rfl, rfl, rfl⟩ ?_)
                clear hl a; intro a hl
                refine wl (wl_skipU hl rfl ⟨_, _, rfl, rfl, rfl⟩ ?_)
                clear hl a; intro a hl
                refine wl (wl_skip hl rfl ⟨_, _, rfl, rfl, rfl⟩ ?_)
                clear hl a; intro a hl
                refine wl (wl_val hl rfl trivial (r_pickF hl rfl rfl) ?_)
                clear hl a; intro a hl
                refine wl (wl_val hl rfl trivial (r_assign hl rfl) ?_)
                clear hl a; intro a hl
                refine w_nil ?_
                have hl2 := hl.add (t := 0) (hl.add (t := 2) (hl.add (t := 4) (hl.add (t := 5) (hl.add (t := 291) (hl.nil) rfl) rfl) rfl) rfl) rfl; clear hl; have hl := hl2; clear hl2
                refine then_normal ?_
                refine c_condF hl rfl ?_
                refine wp_skip ?_
                refine blk_normal ?_
                refine then_normal ?_
                refine c_seq ?_
                refine c_region ?_
                refine wl (w_loadA hl hh rfl trivial agg162 rfl (by repeat (first | exact find_head | apply find_tail)) (by first | (simp only [List.getElem?_cons_zero, List.getElem?_cons_succ, Value.cells, List.take_zero, List.take_succ_cons, List.take_nil, List.drop_zero, List.drop_succ_cons, List.drop_nil, List.length_cons, List.length_nil, List.cons_append, List.nil_append, List.append_nil, Nat.zero_add, Nat.add_zero, Nat.reduceAdd, Nat.reduceBEq, Nat.reduceEqDiff, Nat.ble, BEq.rfl, Bool.and_true, Bool.and_self, cond_true, beq_self_eq_true]; rfl)) (by first | rfl | (simp; done)) ?_)
                clear hl a; intro a hl
                refine wl (w_storeA hl hh trivial agg162 rfl rfl (by repeat (first | exact find_head | apply find_tail)) (by first | rfl | (simp; done)) (by first | (simp; done) | (simp; omega)) (by first | rfl | (simp; done)) (by first | (simp only [setL, List.getElem?_cons_zero, List.getElem?_cons_succ, Value.cells, List.take_zero, List.take_succ_cons, List.take_nil, List.drop_zero, List.drop_succ_cons, List.drop_nil, List.length_cons, List.length_nil, List.cons_append, List.nil_append, List.append_nil, Nat.zero_add, Nat.add_zero, Nat.reduceAdd, Nat.reduceBEq, Nat.reduceEqDiff, Nat.ble, BEq.rfl, Bool.and_true, Bool.and_self, cond_true, beq_self_eq_true]; rfl)) ?_)
                clear hh w; intro w hh
                refine wl (wl_val hl rfl trivial (r_assign hl rfl) ?_)
                clear hl a; intro a hl
                refine w_nil ?_
                have hl2 := hl.add (t := 2) (hl.add (t := 3) (hl.nil) rfl) rfl; clear hl; have hl := hl2; clear hl2
                refine then_normal ?_
                refine wp_ret ?_
                refine f_retCT (F' := []) hl hh rfl rfl agg162 (by repeat (first | exact find_head | apply find_tail)) (by first | rfl | exact arrL_length _ _ | (simp; done)) rfl (by repeat (first | exact keeps_nil | apply keeps_cons (by repeat (first | exact find_head | apply find_tail)) (by first  | rfl) | exact keeps_self | exact keeps_left | exact keeps_right | exact keeps_swap | apply keeps_mv)) ?_
                exact ⟨ln_no (kd := 0) rfl (by decide) ⟨0, dvG x2, 0, 0, false, 0, 0, 0, false, 0, 0, 0⟩ (by constructor <;> (simp only [dvG, nmG]; omega)) rfl, rfl⟩

theorem lnM_o : ∀ (ws : List ByteArray), ws.length ≠ 8 ∧ ws.length ≠ 7 ∧ ws.length ≠ 6 ∧ ws.length ≠ 10 ∧ ws.length ≠ 4 → lnM ws = none := by
  intro ws h
  unfold lnM
  split <;> first | rfl | (simp at h)
theorem lineM (p : Option Addr) (cap : Nat) (ws : List ByteArray) (E : List (Nat × Obj)) (hR : Row (.slice p ws.length cap) ws.length (ws.map .string) 1 9 E) (hs : ∀ u, u ∈ ws → u.size ≤ 9223372036854775807) : SpK Tryz.prog 55 #[.slice p ws.length cap] (Mem E) [] (fun v F' => LnR (lnM ws) v ∧ F' = []) := by
  by_cases ho : ws.length ≠ 8 ∧ ws.length ≠ 7 ∧ ws.length ≠ 6 ∧ ws.length ≠ 10 ∧ ws.length ≠ 4
  · rw [lnM_o ws ho]
    exact lineO p ws.length cap ws rfl E hR hs ho
  · rcases (show ws.length = 8 ∨ ws.length = 7 ∨ ws.length = 6 ∨ ws.length = 10 ∨ ws.length = 4 by omega) with h | h | h | h | h
    · obtain ⟨x0, x1, x2, x3, x4, x5, x6, x7, rfl⟩ : ∃ x0 x1 x2 x3 x4 x5 x6 x7, ws = [x0, x1, x2, x3, x4, x5, x6, x7] := by
        match ws, h with
        | [x0, x1, x2, x3, x4, x5, x6, x7], _ => exact ⟨x0, x1, x2, x3, x4, x5, x6, x7, rfl⟩
      exact line8 p cap x0 x1 x2 x3 x4 x5 x6 x7 E hR hs
    · obtain ⟨x0, x1, x2, x3, x4, x5, x6, rfl⟩ : ∃ x0 x1 x2 x3 x4 x5 x6, ws = [x0, x1, x2, x3, x4, x5, x6] := by
        match ws, h with
        | [x0, x1, x2, x3, x4, x5, x6], _ => exact ⟨x0, x1, x2, x3, x4, x5, x6, rfl⟩
      exact line7 p cap x0 x1 x2 x3 x4 x5 x6 E hR hs
    · obtain ⟨x0, x1, x2, x3, x4, x5, rfl⟩ : ∃ x0 x1 x2 x3 x4 x5, ws = [x0, x1, x2, x3, x4, x5] := by
        match ws, h with
        | [x0, x1, x2, x3, x4, x5], _ => exact ⟨x0, x1, x2, x3, x4, x5, rfl⟩
      exact line6 p cap x0 x1 x2 x3 x4 x5 E hR hs
    · obtain ⟨x0, x1, x2, x3, x4, x5, x6, x7, x8, x9, rfl⟩ : ∃ x0 x1 x2 x3 x4 x5 x6 x7 x8 x9, ws = [x0, x1, x2, x3, x4, x5, x6, x7, x8, x9] := by
        match ws, h with
        | [x0, x1, x2, x3, x4, x5, x6, x7, x8, x9], _ => exact ⟨x0, x1, x2, x3, x4, x5, x6, x7, x8, x9, rfl⟩
      exact line10 p cap x0 x1 x2 x3 x4 x5 x6 x7 x8 x9 E hR hs
    · obtain ⟨x0, x1, x2, x3, rfl⟩ : ∃ x0 x1 x2 x3, ws = [x0, x1, x2, x3] := by
        match ws, h with
        | [x0, x1, x2, x3], _ => exact ⟨x0, x1, x2, x3, rfl⟩
      exact line4 p cap x0 x1 x2 x3 E hR hs
end Go.Proofs.Qxb6500908aGreat

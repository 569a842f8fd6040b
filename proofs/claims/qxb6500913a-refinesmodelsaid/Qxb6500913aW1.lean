import Derived.Test.Qxb6500913aMem
namespace Go.Proofs.Qxb6500913a
open Go.Eng
set_option linter.unusedVariables false
set_option linter.unusedSimpArgs false
theorem cal41 : callable Try.prog 41 = true := by kernel_rfl
theorem fld87_0 : fieldOk Try.prog 87 0 0 = true := by kernel_rfl
theorem arr58 : arrOk Try.prog 58 4096 1 = true := by kernel_rfl
theorem one27 : oneOk Try.prog 27 = true := by kernel_rfl
theorem fld87_1 : fieldOk Try.prog 87 1 4096 = true := by kernel_rfl
theorem arr84 : arrOk Try.prog 84 4096 4 = true := by kernel_rfl
theorem fld83_0 : fieldOk Try.prog 83 0 0 = true := by kernel_rfl
theorem fld83_3 : fieldOk Try.prog 83 3 3 = true := by kernel_rfl
theorem one81 : oneOk Try.prog 81 = true := by kernel_rfl
theorem cal27 : callable Try.prog 27 = true := by kernel_rfl
theorem cal31 : callable Try.prog 31 = true := by kernel_rfl
theorem fld87_4 : fieldOk Try.prog 87 4 20497 = true := by kernel_rfl
theorem cal42 : callable Try.prog 42 = true := by kernel_rfl
theorem fld83_2 : fieldOk Try.prog 83 2 2 = true := by kernel_rfl
theorem one5 : oneOk Try.prog 5 = true := by kernel_rfl
theorem fld87_5 : fieldOk Try.prog 87 5 20498 = true := by kernel_rfl
theorem fld47_1 : fieldOk Try.prog 47 1 1 = true := by kernel_rfl
theorem one3 : oneOk Try.prog 3 = true := by kernel_rfl
theorem cal43 : callable Try.prog 43 = true := by kernel_rfl
theorem fld47_3 : fieldOk Try.prog 47 3 3 = true := by kernel_rfl
theorem cal44 : callable Try.prog 44 = true := by kernel_rfl
theorem fld87_2 : fieldOk Try.prog 87 2 20480 = true := by kernel_rfl
theorem arr85 : arrOk Try.prog 85 16 1 = true := by kernel_rfl
theorem one34 : oneOk Try.prog 34 = true := by kernel_rfl
theorem fld83_1 : fieldOk Try.prog 83 1 1 = true := by kernel_rfl
theorem fld47_2 : fieldOk Try.prog 47 2 2 = true := by kernel_rfl
theorem cal46 : callable Try.prog 46 = true := by kernel_rfl
theorem fld87_3 : fieldOk Try.prog 87 3 20496 = true := by kernel_rfl
theorem mixed : Try.prog.follows .mixedOrders = true := by kernel_rfl
theorem cal40 : callable Try.prog 40 = true := by kernel_rfl
theorem fld47_4 : fieldOk Try.prog 47 4 4 = true := by kernel_rfl
set_option maxHeartbeats 1000000 in
theorem inArena_spec (x : Int) : Sp Try.prog 41 #[.int .u32 x] [] (fun v F' => v = .bool (decide (2 ≤ x) && decide (x < 4096)) ∧ F' = []) := by
  refine f_enter (args := [.int .u32 x]) Try.func41 rfl Try.ntmps41 rfl ?_
  intro w0 w a hpre hl hh
  simp only [slotsFrom, Nat.reduceAdd] at hl
  refine c_seq ?_
  refine c_region ?_
  refine wl (wl_val hl rfl trivial (r_assign hl rfl) ?_)
  clear hl a; intro a hl
  refine w_nil ?_
  have hl2 := hl.add (t := 0) (hl.nil) rfl; clear hl; have hl := hl2; clear hl2
  refine then_normal ?_
  refine c_seq ?_
  refine c_region ?_
  refine wl (wl_val hl rfl trivial (r_move hl rfl) ?_)
  clear hl a; intro a hl
  refine wl (wl_val hl rfl trivial (r_geq hl rfl rfl) ?_)
  clear hl a; intro a hl
  refine wl (wl_val hl rfl trivial (r_move hl rfl) ?_)
  clear hl a; intro a hl
  refine sl_split (t := 5) hl rfl ?_ ?_
  · intro hg1; clear hl; intro hl
    try simp only [decide_eq_true_eq, decide_eq_false_iff_not, Bool.not_eq_true', Bool.not_eq_false', Bool.not_eq_true, Bool.not_eq_false, Bool.and_eq_true, Bool.or_eq_true, Bool.and_eq_false_iff, Bool.or_eq_false_iff, Bool.not_not, ne_eq, Int.not_lt, Int.not_le, Decidable.not_not, beq_iff_eq, bne_iff_ne] at hg1
    refine wl (wl_val hl rfl ⟨_, _, rfl, rfl, rfl⟩ (r_move hl rfl) ?_)
    clear hl a; intro a hl
    refine wl (wl_val hl rfl ⟨_, _, rfl, rfl, rfl⟩ (r_lss hl rfl rfl) ?_)
    clear hl a; intro a hl
    refine wl (wl_val hl rfl trivial (r_pickT hl rfl rfl) ?_)
    clear hl a; intro a hl
    refine wl (wl_val hl rfl trivial (r_assign hl rfl) ?_)
    clear hl a; intro a hl
    refine w_nil ?_
    have hl2 := hl.add (t := 2) (hl.nil) rfl; clear hl; have hl := hl2; clear hl2
    refine then_normal ?_
    refine wp_ret ?_
    refine f_ret1 (F' := []) hl hh rfl rfl (by repeat (first | exact keeps_nil | apply keeps_cons (by repeat (first | exact find_head | apply find_tail)) (by first  | rfl) | exact keeps_self | apply keeps_mv)) ?_
    exact ⟨by first | (simp [hg1]; done) | (simp; omega), rfl⟩
  · intro hg1; clear hl; intro hl
    try simp only [decide_eq_true_eq, decide_eq_false_iff_not, Bool.not_eq_true', Bool.not_eq_false', Bool.not_eq_true, Bool.not_eq_false, Bool.and_eq_true, Bool.or_eq_true, Bool.and_eq_false_iff, Bool.or_eq_false_iff, Bool.not_not, ne_eq, Int.not_lt, Int.not_le, Decidable.not_not, beq_iff_eq, bne_iff_ne] at hg1
    refine wl (wl_skip hl rfl ⟨_, _, rfl, rfl, rfl⟩ ?_)
    clear hl a; intro a hl
    refine wl (wl_skip hl rfl ⟨_, _, rfl, rfl, rfl⟩ ?_)
    clear hl a; intro a hl
    refine wl (wl_val hl rfl trivial (r_pickF hl rfl rfl) ?_)
    clear hl a; intro a hl
    refine wl (wl_val hl rfl trivial (r_assign hl rfl) ?_)
    clear hl a; intro a hl
    refine w_nil ?_
    have hl2 := hl.add (t := 2) (hl.nil) rfl; clear hl; have hl := hl2; clear hl2
    refine then_normal ?_
    refine wp_ret ?_
    refine f_ret1 (F' := []) hl hh rfl rfl (by repeat (first | exact keeps_nil | apply keeps_cons (by repeat (first | exact find_head | apply find_tail)) (by first  | rfl) | exact keeps_self | apply keeps_mv)) ?_
    exact ⟨by first | (simp [hg1]; done) | (simp; omega), rfl⟩

set_option maxHeartbeats 1000000 in
theorem roundUp_spec (x : Int) : Sp Try.prog 46 #[.int .i64 x] [] (fun v F' => v = (if 1 ≤ x ∧ x ≤ 32 then .tuple #[.int .i64 ((x + 1) / 2 * 2), .bool true] else .tuple #[.int .i64 0, .bool false]) ∧ F' = []) := by
  refine f_enter (args := [.int .i64 x]) Try.func46 rfl Try.ntmps46 rfl ?_
  intro w0 w a hpre hl hh
  simp only [slotsFrom, Nat.reduceAdd] at hl
  refine c_seq ?_
  refine c_region ?_
  refine wl (wl_val hl rfl trivial (r_assign hl rfl) ?_)
  clear hl a; intro a hl
  refine wl (wl_val hl rfl trivial (r_assign hl rfl) ?_)
  clear hl a; intro a hl
  refine w_nil ?_
  have hl2 := hl.add (t := 0) (hl.nil) rfl; clear hl; have hl := hl2; clear hl2
  refine then_normal ?_
  refine c_seq ?_
  refine c_seq ?_
  refine c_region ?_
  refine wl (wl_val hl rfl trivial (r_move hl rfl) ?_)
  clear hl a; intro a hl
  refine wl (wl_val hl rfl trivial (r_lss hl rfl rfl) ?_)
  clear hl a; intro a hl
  refine wl (wl_val hl rfl trivial (r_move hl rfl) ?_)
  clear hl a; intro a hl
  refine sl_split (t := 6) hl rfl ?_ ?_
  · intro hg1; clear hl; intro hl
    try simp only [decide_eq_true_eq, decide_eq_false_iff_not, Bool.not_eq_true', Bool.not_eq_false', Bool.not_eq_true, Bool.not_eq_false, Bool.and_eq_true, Bool.or_eq_true, Bool.and_eq_false_iff, Bool.or_eq_false_iff, Bool.not_not, ne_eq, Int.not_lt, Int.not_le, Decidable.not_not, beq_iff_eq, bne_iff_ne] at hg1
    refine wl (wl_skip hl rfl ⟨_, _, rfl, rfl, rfl⟩ ?_)
    clear hl a; intro a hl
    refine wl (wl_skip hl rfl ⟨_, _, rfl, rfl, rfl⟩ ?_)
    clear hl a; intro a hl
    refine wl (wl_val hl rfl trivial (r_pickT hl rfl rfl) ?_)
    clear hl a; intro a hl
    refine w_nil ?_
    have hl2 := hl.add (t := 0) (hl.add (t := 9) (hl.nil) rfl) rfl; clear hl; have hl := hl2; clear hl2
    refine then_normal ?_
    refine c_condT hl rfl ?_
    refine c_seq ?_
    refine c_region ?_
    refine wl (wl_val hl rfl trivial (r_assign hl rfl) ?_)
    clear hl a; intro a hl
    refine wl (wl_val hl rfl trivial (r_assign hl rfl) ?_)
    clear hl a; intro a hl
    refine w_nil ?_
    have hl2 := hl.add (t := 2) (hl.add (t := 3) (hl.nil) rfl) rfl; clear hl; have hl := hl2; clear hl2
    refine then_normal ?_
    refine wp_ret ?_
    refine then_ret ?_
    refine f_ret2 (F' := []) hl hh rfl rfl rfl (by repeat (first | exact keeps_nil | apply keeps_cons (by repeat (first | exact find_head | apply find_tail)) (by first  | rfl) | exact keeps_self | apply keeps_mv)) ?_
    exact ⟨by rw [if_neg (by omega)], rfl⟩
  · intro hg1; clear hl; intro hl
    try simp only [decide_eq_true_eq, decide_eq_false_iff_not, Bool.not_eq_true', Bool.not_eq_false', Bool.not_eq_true, Bool.not_eq_false, Bool.and_eq_true, Bool.or_eq_true, Bool.and_eq_false_iff, Bool.or_eq_false_iff, Bool.not_not, ne_eq, Int.not_lt, Int.not_le, Decidable.not_not, beq_iff_eq, bne_iff_ne] at hg1
    refine wl (wl_val hl rfl ⟨_, _, rfl, rfl, rfl⟩ (r_move hl rfl) ?_)
    clear hl a; intro a hl
    refine wl (wl_val hl rfl ⟨_, _, rfl, rfl, rfl⟩ (r_gtr hl rfl rfl) ?_)
    clear hl a; intro a hl
    refine wl (wl_val hl rfl trivial (r_pickF hl rfl rfl) ?_)
    clear hl a; intro a hl
    refine w_nil ?_
    have hl2 := hl.add (t := 0) (hl.add (t := 9) (hl.nil) rfl) rfl; clear hl; have hl := hl2; clear hl2
    refine then_normal ?_
    refine c_cond hl rfl ?_ ?_
    · intro hc0
      try simp only [decide_eq_true_eq, decide_eq_false_iff_not, Bool.not_eq_true', Bool.not_eq_false', Bool.not_eq_true, Bool.not_eq_false, Bool.and_eq_true, Bool.or_eq_true, Bool.and_eq_false_iff, Bool.or_eq_false_iff, Bool.not_not, ne_eq, Int.not_lt, Int.not_le, Decidable.not_not, beq_iff_eq, bne_iff_ne] at hc0
      refine c_seq ?_
      refine c_region ?_
      refine wl (wl_val hl rfl trivial (r_assign hl rfl) ?_)
      clear hl a; intro a hl
      refine wl (wl_val hl rfl trivial (r_assign hl rfl) ?_)
      clear hl a; intro a hl
      refine w_nil ?_
      have hl2 := hl.add (t := 2) (hl.add (t := 3) (hl.nil) rfl) rfl; clear hl; have hl := hl2; clear hl2
      refine then_normal ?_
      refine wp_ret ?_
      refine then_ret ?_
      refine f_ret2 (F' := []) hl hh rfl rfl rfl (by repeat (first | exact keeps_nil | apply keeps_cons (by repeat (first | exact find_head | apply find_tail)) (by first  | rfl) | exact keeps_self | apply keeps_mv)) ?_
      exact ⟨by rw [if_neg (by omega)], rfl⟩
    · intro hc0
      try simp only [decide_eq_true_eq, decide_eq_false_iff_not, Bool.not_eq_true', Bool.not_eq_false', Bool.not_eq_true, Bool.not_eq_false, Bool.and_eq_true, Bool.or_eq_true, Bool.and_eq_false_iff, Bool.or_eq_false_iff, Bool.not_not, ne_eq, Int.not_lt, Int.not_le, Decidable.not_not, beq_iff_eq, bne_iff_ne] at hc0
      refine wp_skip ?_
      refine then_normal ?_
      refine c_seq ?_
      refine c_region ?_
      refine wl (wl_val hl rfl trivial (r_move hl rfl) ?_)
      clear hl a; intro a hl
      first | refine wl (wl_val hl rfl trivial (r_add hl rfl rfl (by simp only [Fits]; omega)) ?_) | refine wl (wl_val hl rfl trivial (r_addW hl rfl rfl) ?_)
      clear hl a; intro a hl
      first | refine wl (wl_val hl rfl trivial (r_sub hl rfl rfl (by simp only [Fits]; omega)) ?_) | refine wl (wl_val hl rfl trivial (r_subW hl rfl rfl) ?_)
      clear hl a; intro a hl
      first | refine wl (wl_val hl rfl trivial (r_quo hl rfl rfl (by omega) (by omega) (by simp only [Fits]; omega)) ?_) | refine wl (wl_val hl rfl trivial (r_quoT hl rfl rfl (by omega)) ?_)
      clear hl a; intro a hl
      first | refine wl (wl_val hl rfl trivial (r_mul hl rfl rfl (by simp only [Fits]; omega)) ?_) | refine wl (wl_val hl rfl trivial (r_mulW hl rfl rfl) ?_)
      clear hl a; intro a hl
      refine wl (wl_val hl rfl trivial (r_assign hl rfl) ?_)
      clear hl a; intro a hl
      refine wl (wl_val hl rfl trivial (r_assign hl rfl) ?_)
      clear hl a; intro a hl
      refine w_nil ?_
      have hl2 := hl.add (t := 2) (hl.add (t := 3) (hl.nil) rfl) rfl; clear hl; have hl := hl2; clear hl2
      refine then_normal ?_
      refine wp_ret ?_
      refine f_ret2 (F' := []) hl hh rfl rfl rfl (by repeat (first | exact keeps_nil | apply keeps_cons (by repeat (first | exact find_head | apply find_tail)) (by first  | rfl) | exact keeps_self | apply keeps_mv)) ?_
      exact ⟨by rw [if_pos (by omega)]; rw [show x + 2 - 1 = x + 1 by omega], rfl⟩

set_option maxHeartbeats 1000000 in
theorem classOf_spec (x : Int) (h : 0 ≤ x) (h' : x ≤ 4096) : Sp Try.prog 44 #[.int .i64 x] [] (fun v F' => v = .int .i64 (x / 2 - 1) ∧ F' = []) := by
  refine f_enter (args := [.int .i64 x]) Try.func44 rfl Try.ntmps44 rfl ?_
  intro w0 w a hpre hl hh
  simp only [slotsFrom, Nat.reduceAdd] at hl
  refine c_seq ?_
  refine c_region ?_
  refine wl (wl_val hl rfl trivial (r_assign hl rfl) ?_)
  clear hl a; intro a hl
  refine w_nil ?_
  have hl2 := hl.add (t := 0) (hl.nil) rfl; clear hl; have hl := hl2; clear hl2
  refine then_normal ?_
  refine c_seq ?_
  refine c_region ?_
  refine wl (wl_val hl rfl trivial (r_move hl rfl) ?_)
  clear hl a; intro a hl
  first | refine wl (wl_val hl rfl trivial (r_quo hl rfl rfl (by omega) (by omega) (by simp only [Fits]; omega)) ?_) | refine wl (wl_val hl rfl trivial (r_quoT hl rfl rfl (by omega)) ?_)
  clear hl a; intro a hl
  first | refine wl (wl_val hl rfl trivial (r_sub hl rfl rfl (by simp only [Fits]; omega)) ?_) | refine wl (wl_val hl rfl trivial (r_subW hl rfl rfl) ?_)
  clear hl a; intro a hl
  refine wl (wl_val hl rfl trivial (r_assign hl rfl) ?_)
  clear hl a; intro a hl
  refine w_nil ?_
  have hl2 := hl.add (t := 2) (hl.nil) rfl; clear hl; have hl := hl2; clear hl2
  refine then_normal ?_
  refine wp_ret ?_
  refine f_ret1 (F' := []) hl hh rfl rfl (by repeat (first | exact keeps_nil | apply keeps_cons (by repeat (first | exact find_head | apply find_tail)) (by first  | rfl) | exact keeps_self | apply keeps_mv)) ?_
  exact ⟨rfl, rfl⟩

set_option maxHeartbeats 1000000 in
theorem load_spec (b : Nat) (f : Nat → Int) (x : Nat) : Sp Try.prog 21 #[.pointer (some ⟨b, 0, none⟩), .int .u32 x] [(b, C (encL (f)) 87)] (fun v F' => v = (if 2 ≤ x ∧ x < 4096 then .tuple #[.int .u64 (word f x), .int .u8 0] else .tuple #[.int .u64 0, .int .u8 1]) ∧ F' = [(b, C (encL (f)) 87)]) := by
  refine f_enter (args := [.pointer (some ⟨b, 0, none⟩), .int .u32 x]) Try.func21 rfl Try.ntmps21 rfl ?_
  intro w0 w a hpre hl hh
  simp only [slotsFrom, Nat.reduceAdd] at hl
  refine c_seq ?_
  refine c_region ?_
  refine wl (wl_val hl rfl trivial (r_assign hl rfl) ?_)
  clear hl a; intro a hl
  refine wl (wl_val hl rfl trivial (r_assign hl rfl) ?_)
  clear hl a; intro a hl
  refine w_nil ?_
  have hl2 := hl.add (t := 0) (hl.add (t := 1) (hl.nil) rfl) rfl; clear hl; have hl := hl2; clear hl2
  refine then_normal ?_
  refine c_seq ?_
  refine c_seq ?_
  refine c_region ?_
  refine wl (wl_val hl rfl trivial (r_move hl rfl) ?_)
  clear hl a; intro a hl
  refine wl (w_call hl hh rfl trivial rfl cal41 rfl (inArena_spec _) (by repeat (first | exact keeps_nil | apply keeps_cons (by repeat (first | exact find_head | apply find_tail)) (by first  | rfl) | exact keeps_self | apply keeps_mv)) trivial ?_)
  clear hl hh a w; intro vc Fc a w hR hl hh
  obtain ⟨rfl, rfl⟩ := hR
  simp only [List.cons_append, List.nil_append] at hh
  refine wl (wl_val hl rfl trivial (r_not hl rfl) ?_)
  clear hl a; intro a hl
  refine w_nil ?_
  have hl2 := hl.add (t := 0) (hl.add (t := 1) (hl.add (t := 8) (hl.nil) rfl) rfl) rfl; clear hl; have hl := hl2; clear hl2
  refine then_normal ?_
  refine c_cond hl rfl ?_ ?_
  · intro hc0
    try simp only [decide_eq_true_eq, decide_eq_false_iff_not, Bool.not_eq_true', Bool.not_eq_false', Bool.not_eq_true, Bool.not_eq_false, Bool.and_eq_true, Bool.or_eq_true, Bool.and_eq_false_iff, Bool.or_eq_false_iff, Bool.not_not, ne_eq, Int.not_lt, Int.not_le, Decidable.not_not, beq_iff_eq, bne_iff_ne] at hc0
    refine c_seq ?_
    refine c_region ?_
    refine wl (wl_val hl rfl trivial (r_assign hl rfl) ?_)
    clear hl a; intro a hl
    refine wl (wl_val hl rfl trivial (r_assign hl rfl) ?_)
    clear hl a; intro a hl
    refine w_nil ?_
    have hl2 := hl.add (t := 4) (hl.add (t := 5) (hl.nil) rfl) rfl; clear hl; have hl := hl2; clear hl2
    refine then_normal ?_
    refine wp_ret ?_
    refine then_ret ?_
    refine f_ret2 (F' := [(b, C (encL (f)) 87)]) hl hh rfl rfl rfl (by repeat (first | exact keeps_nil | apply keeps_cons (by repeat (first | exact find_head | apply find_tail)) (by first  | rfl) | exact keeps_self | apply keeps_mv)) ?_
    exact ⟨by rw [if_neg (by omega)], rfl⟩
  · intro hc0
    try simp only [decide_eq_true_eq, decide_eq_false_iff_not, Bool.not_eq_true', Bool.not_eq_false', Bool.not_eq_true, Bool.not_eq_false, Bool.and_eq_true, Bool.or_eq_true, Bool.and_eq_false_iff, Bool.or_eq_false_iff, Bool.not_not, ne_eq, Int.not_lt, Int.not_le, Decidable.not_not, beq_iff_eq, bne_iff_ne] at hc0
    refine wp_skip ?_
    refine then_normal ?_
    refine c_seq ?_
    refine c_region ?_
    refine wl (wl_val hl rfl trivial (r_move hl rfl) ?_)
    clear hl a; intro a hl
    refine wl (wl_val hl rfl trivial (r_move hl rfl) ?_)
    clear hl a; intro a hl
    refine wl (wl_val hl rfl trivial (r_nilCheck hl rfl) ?_)
    clear hl a; intro a hl
    refine wl (wl_val hl rfl trivial (r_field hl rfl fld87_0) ?_)
    clear hl a; intro a hl
    refine wl (wl_val hl rfl trivial (r_indexA hl rfl rfl arr58 (by omega) (by omega) (by first | (simp only [Int.reduceToNat]; rfl) | exact toNat_add1 _ | exact toNat_add2 _ _ | exact toNat_emod _ _ | exact Int.toNat_natCast _ | rfl)) ?_)
    clear hl a; intro a hl
    refine wl (w_load hl hh rfl trivial one27 rfl (by repeat (first | exact find_head | apply find_tail)) (by exact cell_word _ _ (by omega)) ?_)
    clear hl a; intro a hl
    refine wl (wl_val hl rfl trivial (r_assign hl rfl) ?_)
    clear hl a; intro a hl
    refine wl (wl_val hl rfl trivial (r_assign hl rfl) ?_)
    clear hl a; intro a hl
    refine w_nil ?_
    have hl2 := hl.add (t := 4) (hl.add (t := 5) (hl.nil) rfl) rfl; clear hl; have hl := hl2; clear hl2
    refine then_normal ?_
    refine wp_ret ?_
    refine f_ret2 (F' := [(b, C (encL (f)) 87)]) hl hh rfl rfl rfl (by repeat (first | exact keeps_nil | apply keeps_cons (by repeat (first | exact find_head | apply find_tail)) (by first  | rfl) | exact keeps_self | apply keeps_mv)) ?_
    exact ⟨by rw [if_pos (by omega)], rfl⟩

set_option maxHeartbeats 1000000 in
theorem gen_spec (b : Nat) (f : Nat → Int) (x : Nat) : Sp Try.prog 22 #[.pointer (some ⟨b, 0, none⟩), .int .u32 x] [(b, C (encL (f)) 87)] (fun v F' => v = (if 2 ≤ x ∧ x < 4096 then .tuple #[.int .u64 (gen f x), .int .u8 0] else .tuple #[.int .u64 0, .int .u8 1]) ∧ F' = [(b, C (encL (f)) 87)]) := by
  refine f_enter (args := [.pointer (some ⟨b, 0, none⟩), .int .u32 x]) Try.func22 rfl Try.ntmps22 rfl ?_
  intro w0 w a hpre hl hh
  simp only [slotsFrom, Nat.reduceAdd] at hl
  refine c_seq ?_
  refine c_region ?_
  refine wl (wl_val hl rfl trivial (r_assign hl rfl) ?_)
  clear hl a; intro a hl
  refine wl (wl_val hl rfl trivial (r_assign hl rfl) ?_)
  clear hl a; intro a hl
  refine w_nil ?_
  have hl2 := hl.add (t := 0) (hl.add (t := 1) (hl.nil) rfl) rfl; clear hl; have hl := hl2; clear hl2
  refine then_normal ?_
  refine c_seq ?_
  refine c_seq ?_
  refine c_region ?_
  refine wl (wl_val hl rfl trivial (r_move hl rfl) ?_)
  clear hl a; intro a hl
  refine wl (w_call hl hh rfl trivial rfl cal41 rfl (inArena_spec _) (by repeat (first | exact keeps_nil | apply keeps_cons (by repeat (first | exact find_head | apply find_tail)) (by first  | rfl) | exact keeps_self | apply keeps_mv)) trivial ?_)
  clear hl hh a w; intro vc Fc a w hR hl hh
  obtain ⟨rfl, rfl⟩ := hR
  simp only [List.cons_append, List.nil_append] at hh
  refine wl (wl_val hl rfl trivial (r_not hl rfl) ?_)
  clear hl a; intro a hl
  refine w_nil ?_
  have hl2 := hl.add (t := 0) (hl.add (t := 1) (hl.add (t := 8) (hl.nil) rfl) rfl) rfl; clear hl; have hl := hl2; clear hl2
  refine then_normal ?_
  refine c_cond hl rfl ?_ ?_
  · intro hc0
    try simp only [decide_eq_true_eq, decide_eq_false_iff_not, Bool.not_eq_true', Bool.not_eq_false', Bool.not_eq_true, Bool.not_eq_false, Bool.and_eq_true, Bool.or_eq_true, Bool.and_eq_false_iff, Bool.or_eq_false_iff, Bool.not_not, ne_eq, Int.not_lt, Int.not_le, Decidable.not_not, beq_iff_eq, bne_iff_ne] at hc0
    refine c_seq ?_
    refine c_region ?_
    refine wl (wl_val hl rfl trivial (r_assign hl rfl) ?_)
    clear hl a; intro a hl
    refine wl (wl_val hl rfl trivial (r_assign hl rfl) ?_)
    clear hl a; intro a hl
    refine w_nil ?_
    have hl2 := hl.add (t := 4) (hl.add (t := 5) (hl.nil) rfl) rfl; clear hl; have hl := hl2; clear hl2
    refine then_normal ?_
    refine wp_ret ?_
    refine then_ret ?_
    refine f_ret2 (F' := [(b, C (encL (f)) 87)]) hl hh rfl rfl rfl (by repeat (first | exact keeps_nil | apply keeps_cons (by repeat (first | exact find_head | apply find_tail)) (by first  | rfl) | exact keeps_self | apply keeps_mv)) ?_
    exact ⟨by rw [if_neg (by omega)], rfl⟩
  · intro hc0
    try simp only [decide_eq_true_eq, decide_eq_false_iff_not, Bool.not_eq_true', Bool.not_eq_false', Bool.not_eq_true, Bool.not_eq_false, Bool.and_eq_true, Bool.or_eq_true, Bool.and_eq_false_iff, Bool.or_eq_false_iff, Bool.not_not, ne_eq, Int.not_lt, Int.not_le, Decidable.not_not, beq_iff_eq, bne_iff_ne] at hc0
    refine wp_skip ?_
    refine then_normal ?_
    refine c_seq ?_
    refine c_region ?_
    refine wl (wl_val hl rfl trivial (r_move hl rfl) ?_)
    clear hl a; intro a hl
    refine wl (wl_val hl rfl trivial (r_move hl rfl) ?_)
    clear hl a; intro a hl
    refine wl (wl_val hl rfl trivial (r_nilCheck hl rfl) ?_)
    clear hl a; intro a hl
    refine wl (wl_val hl rfl trivial (r_field hl rfl fld87_1) ?_)
    clear hl a; intro a hl
    refine wl (wl_val hl rfl trivial (r_indexA hl rfl rfl arr84 (by omega) (by omega) (by first | (simp only [Int.reduceToNat]; rfl) | exact toNat_add1 _ | exact toNat_add2 _ _ | exact toNat_emod _ _ | exact Int.toNat_natCast _ | rfl)) ?_)
    clear hl a; intro a hl
    refine wl (wl_val hl rfl trivial (r_field hl rfl fld83_0) ?_)
    clear hl a; intro a hl
    refine wl (w_load hl hh rfl trivial one27 rfl (by repeat (first | exact find_head | apply find_tail)) (by exact cell_gen _ _ (by omega)) ?_)
    clear hl a; intro a hl
    refine wl (wl_val hl rfl trivial (r_assign hl rfl) ?_)
    clear hl a; intro a hl
    refine wl (wl_val hl rfl trivial (r_assign hl rfl) ?_)
    clear hl a; intro a hl
    refine w_nil ?_
    have hl2 := hl.add (t := 4) (hl.add (t := 5) (hl.nil) rfl) rfl; clear hl; have hl := hl2; clear hl2
    refine then_normal ?_
    refine wp_ret ?_
    refine f_ret2 (F' := [(b, C (encL (f)) 87)]) hl hh rfl rfl rfl (by repeat (first | exact keeps_nil | apply keeps_cons (by repeat (first | exact find_head | apply find_tail)) (by first  | rfl) | exact keeps_self | apply keeps_mv)) ?_
    exact ⟨by rw [if_pos (by omega)], rfl⟩

def storeF (f : Nat → Int) (x : Nat) (y : Int) : Nat → Int := if 2 ≤ x ∧ x < 4096 then setWord f x y else f

set_option maxHeartbeats 1000000 in
theorem store_spec (b : Nat) (f : Nat → Int) (x : Nat) (y : Int) : Sp Try.prog 36 #[.pointer (some ⟨b, 0, none⟩), .int .u32 x, .int .u64 y] [(b, C (encL (f)) 87)] (fun v F' => v = (if 2 ≤ x ∧ x < 4096 then .int .u8 0 else .int .u8 1) ∧ F' = [(b, C (encL (storeF f x y)) 87)]) := by
  refine f_enter (args := [.pointer (some ⟨b, 0, none⟩), .int .u32 x, .int .u64 y]) Try.func36 rfl Try.ntmps36 rfl ?_
  intro w0 w a hpre hl hh
  simp only [slotsFrom, Nat.reduceAdd] at hl
  refine c_seq ?_
  refine c_region ?_
  refine wl (wl_val hl rfl trivial (r_assign hl rfl) ?_)
  clear hl a; intro a hl
  refine w_nil ?_
  have hl2 := hl.add (t := 0) (hl.add (t := 1) (hl.add (t := 2) (hl.nil) rfl) rfl) rfl; clear hl; have hl := hl2; clear hl2
  refine then_normal ?_
  refine c_seq ?_
  refine c_seq ?_
  refine c_region ?_
  refine wl (wl_val hl rfl trivial (r_move hl rfl) ?_)
  clear hl a; intro a hl
  refine wl (w_call hl hh rfl trivial rfl cal41 rfl (inArena_spec _) (by repeat (first | exact keeps_nil | apply keeps_cons (by repeat (first | exact find_head | apply find_tail)) (by first  | rfl) | exact keeps_self | apply keeps_mv)) trivial ?_)
  clear hl hh a w; intro vc Fc a w hR hl hh
  obtain ⟨rfl, rfl⟩ := hR
  simp only [List.cons_append, List.nil_append] at hh
  refine wl (wl_val hl rfl trivial (r_not hl rfl) ?_)
  clear hl a; intro a hl
  refine w_nil ?_
  have hl2 := hl.add (t := 0) (hl.add (t := 1) (hl.add (t := 2) (hl.add (t := 9) (hl.nil) rfl) rfl) rfl) rfl; clear hl; have hl := hl2; clear hl2
  refine then_normal ?_
  refine c_cond hl rfl ?_ ?_
  · intro hc0
    try simp only [decide_eq_true_eq, decide_eq_false_iff_not, Bool.not_eq_true', Bool.not_eq_false', Bool.not_eq_true, Bool.not_eq_false, Bool.and_eq_true, Bool.or_eq_true, Bool.and_eq_false_iff, Bool.or_eq_false_iff, Bool.not_not, ne_eq, Int.not_lt, Int.not_le, Decidable.not_not, beq_iff_eq, bne_iff_ne] at hc0
    refine c_seq ?_
    refine c_region ?_
    refine wl (wl_val hl rfl trivial (r_assign hl rfl) ?_)
    clear hl a; intro a hl
    refine w_nil ?_
    have hl2 := hl.add (t := 6) (hl.nil) rfl; clear hl; have hl := hl2; clear hl2
    refine then_normal ?_
    refine wp_ret ?_
    refine then_ret ?_
    refine f_ret1 (F' := [(b, C (encL (f)) 87)]) hl hh rfl rfl (by repeat (first | exact keeps_nil | apply keeps_cons (by repeat (first | exact find_head | apply find_tail)) (by first  | rfl) | exact keeps_self | apply keeps_mv)) ?_
    exact ⟨by rw [if_neg (by omega)], by unfold storeF; rw [if_neg (by omega)]⟩
  · intro hc0
    try simp only [decide_eq_true_eq, decide_eq_false_iff_not, Bool.not_eq_true', Bool.not_eq_false', Bool.not_eq_true, Bool.not_eq_false, Bool.and_eq_true, Bool.or_eq_true, Bool.and_eq_false_iff, Bool.or_eq_false_iff, Bool.not_not, ne_eq, Int.not_lt, Int.not_le, Decidable.not_not, beq_iff_eq, bne_iff_ne] at hc0
    refine wp_skip ?_
    refine then_normal ?_
    refine c_seq ?_
    refine c_region ?_
    refine wl (wl_val hl rfl trivial (r_move hl rfl) ?_)
    clear hl a; intro a hl
    refine wl (wl_val hl rfl trivial (r_move hl rfl) ?_)
    clear hl a; intro a hl
    refine wl (wl_val hl rfl trivial (r_move hl rfl) ?_)
    clear hl a; intro a hl
    refine wl (wl_val hl rfl trivial (r_nilCheck hl rfl) ?_)
    clear hl a; intro a hl
    refine wl (wl_val hl rfl trivial (r_field hl rfl fld87_0) ?_)
    clear hl a; intro a hl
    refine wl (wl_val hl rfl trivial (r_indexA hl rfl rfl arr58 (by omega) (by omega) (by first | (simp only [Int.reduceToNat]; rfl) | exact toNat_add1 _ | exact toNat_add2 _ _ | exact toNat_emod _ _ | exact Int.toNat_natCast _ | rfl)) ?_)
    clear hl a; intro a hl
    refine wl (w_store hl hh trivial one27 rfl rfl (by repeat (first | exact find_head | apply find_tail)) (by rw [encL_length]; omega) (by first | rfl | (apply Row.one; assumption)) (by exact st_word _ _ _ (by omega)) ?_)
    clear hh w; intro w hh
    refine w_nil ?_
    have hl2 := hl.nil; clear hl; have hl := hl2; clear hl2
    refine then_normal ?_
    refine c_seq ?_
    refine c_region ?_
    refine wl (wl_val hl rfl trivial (r_assign hl rfl) ?_)
    clear hl a; intro a hl
    refine w_nil ?_
    have hl2 := hl.add (t := 6) (hl.nil) rfl; clear hl; have hl := hl2; clear hl2
    refine then_normal ?_
    refine wp_ret ?_
    refine f_ret1 (F' := [(b, C (encL (setWord f x y)) 87)]) hl hh rfl rfl (by repeat (first | exact keeps_nil | apply keeps_cons (by repeat (first | exact find_head | apply find_tail)) (by first  | rfl) | exact keeps_self | apply keeps_mv)) ?_
    exact ⟨by rw [if_pos (by omega)], by unfold storeF; rw [if_pos (by omega)]⟩

def casF (f : Nat → Int) (x : Nat) (y z : Int) : Nat → Int := if 2 ≤ x ∧ x < 4096 ∧ word f x = y then setWord f x z else f

set_option maxHeartbeats 1000000 in
theorem cas_spec (b : Nat) (f : Nat → Int) (x : Nat) (y z : Int) : Sp Try.prog 47 #[.pointer (some ⟨b, 0, none⟩), .int .u32 x, .int .u64 y, .int .u64 z] [(b, C (encL (f)) 87)] (fun v F' => v = (if 2 ≤ x ∧ x < 4096 then .tuple #[.int .u64 (word f x), .bool (decide (word f x = y)), .int .u8 0] else .tuple #[.int .u64 0, .bool false, .int .u8 1]) ∧ F' = [(b, C (encL (casF f x y z)) 87)]) := by
  refine f_enter (args := [.pointer (some ⟨b, 0, none⟩), .int .u32 x, .int .u64 y, .int .u64 z]) Try.func47 rfl Try.ntmps47 rfl ?_
  intro w0 w a hpre hl hh
  simp only [slotsFrom, Nat.reduceAdd] at hl
  refine c_seq ?_
  refine c_region ?_
  refine wl (wl_val hl rfl trivial (r_assign hl rfl) ?_)
  clear hl a; intro a hl
  refine wl (wl_val hl rfl trivial (r_assign hl rfl) ?_)
  clear hl a; intro a hl
  refine wl (wl_val hl rfl trivial (r_assign hl rfl) ?_)
  clear hl a; intro a hl
  refine w_nil ?_
  have hl2 := hl.add (t := 0) (hl.add (t := 1) (hl.add (t := 2) (hl.add (t := 3) (hl.nil) rfl) rfl) rfl) rfl; clear hl; have hl := hl2; clear hl2
  refine then_normal ?_
  refine c_seq ?_
  refine c_seq ?_
  refine c_region ?_
  refine wl (wl_val hl rfl trivial (r_move hl rfl) ?_)
  clear hl a; intro a hl
  refine wl (w_call hl hh rfl trivial rfl cal41 rfl (inArena_spec _) (by repeat (first | exact keeps_nil | apply keeps_cons (by repeat (first | exact find_head | apply find_tail)) (by first  | rfl) | exact keeps_self | apply keeps_mv)) trivial ?_)
  clear hl hh a w; intro vc Fc a w hR hl hh
  obtain ⟨rfl, rfl⟩ := hR
  simp only [List.cons_append, List.nil_append] at hh
  refine wl (wl_val hl rfl trivial (r_not hl rfl) ?_)
  clear hl a; intro a hl
  refine w_nil ?_
  have hl2 := hl.add (t := 0) (hl.add (t := 1) (hl.add (t := 2) (hl.add (t := 3) (hl.add (t := 13) (hl.nil) rfl) rfl) rfl) rfl) rfl; clear hl; have hl := hl2; clear hl2
  refine then_normal ?_
  refine c_cond hl rfl ?_ ?_
  · intro hc0
    try simp only [decide_eq_true_eq, decide_eq_false_iff_not, Bool.not_eq_true', Bool.not_eq_false', Bool.not_eq_true, Bool.not_eq_false, Bool.and_eq_true, Bool.or_eq_true, Bool.and_eq_false_iff, Bool.or_eq_false_iff, Bool.not_not, ne_eq, Int.not_lt, Int.not_le, Decidable.not_not, beq_iff_eq, bne_iff_ne] at hc0
    refine c_seq ?_
    refine c_region ?_
    refine wl (wl_val hl rfl trivial (r_assign hl rfl) ?_)
    clear hl a; intro a hl
    refine wl (wl_val hl rfl trivial (r_assign hl rfl) ?_)
    clear hl a; intro a hl
    refine wl (wl_val hl rfl trivial (r_assign hl rfl) ?_)
    clear hl a; intro a hl
    refine w_nil ?_
    have hl2 := hl.add (t := 8) (hl.add (t := 9) (hl.add (t := 10) (hl.nil) rfl) rfl) rfl; clear hl; have hl := hl2; clear hl2
    refine then_normal ?_
    refine wp_ret ?_
    refine then_ret ?_
    refine f_ret3 (F' := [(b, C (encL (f)) 87)]) hl hh rfl rfl rfl rfl (by repeat (first | exact keeps_nil | apply keeps_cons (by repeat (first | exact find_head | apply find_tail)) (by first  | rfl) | exact keeps_self | apply keeps_mv)) ?_
    exact ⟨by rw [if_neg (by omega)], by unfold casF; rw [if_neg (by omega)]⟩
  · intro hc0
    try simp only [decide_eq_true_eq, decide_eq_false_iff_not, Bool.not_eq_true', Bool.not_eq_false', Bool.not_eq_true, Bool.not_eq_false, Bool.and_eq_true, Bool.or_eq_true, Bool.and_eq_false_iff, Bool.or_eq_false_iff, Bool.not_not, ne_eq, Int.not_lt, Int.not_le, Decidable.not_not, beq_iff_eq, bne_iff_ne] at hc0
    refine wp_skip ?_
    refine then_normal ?_
    refine c_seq ?_
    refine c_region ?_
    refine wl (wl_val hl rfl trivial (r_move hl rfl) ?_)
    clear hl a; intro a hl
    refine wl (wl_val hl rfl trivial (r_move hl rfl) ?_)
    clear hl a; intro a hl
    refine wl (wl_val hl rfl trivial (r_nilCheck hl rfl) ?_)
    clear hl a; intro a hl
    refine wl (wl_val hl rfl trivial (r_field hl rfl fld87_0) ?_)
    clear hl a; intro a hl
    refine wl (wl_val hl rfl trivial (r_indexA hl rfl rfl arr58 (by omega) (by omega) (by first | (simp only [Int.reduceToNat]; rfl) | exact toNat_add1 _ | exact toNat_add2 _ _ | exact toNat_emod _ _ | exact Int.toNat_natCast _ | rfl)) ?_)
    clear hl a; intro a hl
    refine wl (w_load hl hh rfl trivial one27 rfl (by repeat (first | exact find_head | apply find_tail)) (by exact cell_word _ _ (by omega)) ?_)
    clear hl a; intro a hl
    refine wl (wl_val hl rfl trivial (r_assign hl rfl) ?_)
    clear hl a; intro a hl
    refine w_nil ?_
    have hl2 := hl.add (t := 0) (hl.add (t := 1) (hl.add (t := 2) (hl.add (t := 3) (hl.add (t := 8) (hl.nil) rfl) rfl) rfl) rfl) rfl; clear hl; have hl := hl2; clear hl2
    refine then_normal ?_
    refine c_seq ?_
    refine c_seq ?_
    refine c_region ?_
    refine wl (wl_val hl rfl trivial (r_move hl rfl) ?_)
    clear hl a; intro a hl
    refine wl (wl_val hl rfl trivial (r_move hl rfl) ?_)
    clear hl a; intro a hl
    refine wl (wl_val hl rfl trivial (r_neq hl rfl rfl) ?_)
    clear hl a; intro a hl
    refine w_nil ?_
    have hl2 := hl.add (t := 0) (hl.add (t := 1) (hl.add (t := 3) (hl.add (t := 8) (hl.add (t := 22) (hl.nil) rfl) rfl) rfl) rfl) rfl; clear hl; have hl := hl2; clear hl2
    refine then_normal ?_
    refine c_cond hl rfl ?_ ?_
    · intro hc1
      try simp only [decide_eq_true_eq, decide_eq_false_iff_not, Bool.not_eq_true', Bool.not_eq_false', Bool.not_eq_true, Bool.not_eq_false, Bool.and_eq_true, Bool.or_eq_true, Bool.and_eq_false_iff, Bool.or_eq_false_iff, Bool.not_not, ne_eq, Int.not_lt, Int.not_le, Decidable.not_not, beq_iff_eq, bne_iff_ne] at hc1
      refine c_seq ?_
      refine c_region ?_
      refine wl (wl_val hl rfl trivial (r_move hl rfl) ?_)
      clear hl a; intro a hl
      refine wl (wl_val hl rfl trivial (r_assign hl rfl) ?_)
      clear hl a; intro a hl
      refine wl (wl_val hl rfl trivial (r_assign hl rfl) ?_)
      clear hl a; intro a hl
      refine wl (wl_val hl rfl trivial (r_assign hl rfl) ?_)
      clear hl a; intro a hl
      refine w_nil ?_
      have hl2 := hl.add (t := 8) (hl.add (t := 9) (hl.add (t := 10) (hl.nil) rfl) rfl) rfl; clear hl; have hl := hl2; clear hl2
      refine then_normal ?_
      refine wp_ret ?_
      refine then_ret ?_
      refine f_ret3 (F' := [(b, C (encL (f)) 87)]) hl hh rfl rfl rfl rfl (by repeat (first | exact keeps_nil | apply keeps_cons (by repeat (first | exact find_head | apply find_tail)) (by first  | rfl) | exact keeps_self | apply keeps_mv)) ?_
      exact ⟨by rw [if_pos (by omega)]; simp [hc1], by unfold casF; rw [if_neg (by omega)]⟩
    · intro hc1
      try simp only [decide_eq_true_eq, decide_eq_false_iff_not, Bool.not_eq_true', Bool.not_eq_false', Bool.not_eq_true, Bool.not_eq_false, Bool.and_eq_true, Bool.or_eq_true, Bool.and_eq_false_iff, Bool.or_eq_false_iff, Bool.not_not, ne_eq, Int.not_lt, Int.not_le, Decidable.not_not, beq_iff_eq, bne_iff_ne] at hc1
      refine wp_skip ?_
      refine then_normal ?_
      refine c_seq ?_
      refine c_region ?_
      refine wl (wl_val hl rfl trivial (r_move hl rfl) ?_)
      clear hl a; intro a hl
      refine wl (wl_val hl rfl trivial (r_move hl rfl) ?_)
      clear hl a; intro a hl
      refine wl (wl_val hl rfl trivial (r_move hl rfl) ?_)
      clear hl a; intro a hl
      refine wl (wl_val hl rfl trivial (r_nilCheck hl rfl) ?_)
      clear hl a; intro a hl
      refine wl (wl_val hl rfl trivial (r_field hl rfl fld87_0) ?_)
      clear hl a; intro a hl
      refine wl (wl_val hl rfl trivial (r_indexA hl rfl rfl arr58 (by omega) (by omega) (by first | (simp only [Int.reduceToNat]; rfl) | exact toNat_add1 _ | exact toNat_add2 _ _ | exact toNat_emod _ _ | exact Int.toNat_natCast _ | rfl)) ?_)
      clear hl a; intro a hl
      refine wl (w_store hl hh trivial one27 rfl rfl (by repeat (first | exact find_head | apply find_tail)) (by rw [encL_length]; omega) (by first | rfl | (apply Row.one; assumption)) (by exact st_word _ _ _ (by omega)) ?_)
      clear hh w; intro w hh
      refine w_nil ?_
      have hl2 := hl.add (t := 8) (hl.nil) rfl; clear hl; have hl := hl2; clear hl2
      refine then_normal ?_
      refine c_seq ?_
      refine c_region ?_
      refine wl (wl_val hl rfl trivial (r_move hl rfl) ?_)
      clear hl a; intro a hl
      refine wl (wl_val hl rfl trivial (r_assign hl rfl) ?_)
      clear hl a; intro a hl
      refine wl (wl_val hl rfl trivial (r_assign hl rfl) ?_)
      clear hl a; intro a hl
      refine wl (wl_val hl rfl trivial (r_assign hl rfl) ?_)
      clear hl a; intro a hl
      refine w_nil ?_
      have hl2 := hl.add (t := 8) (hl.add (t := 9) (hl.add (t := 10) (hl.nil) rfl) rfl) rfl; clear hl; have hl := hl2; clear hl2
      refine then_normal ?_
      refine wp_ret ?_
      refine f_ret3 (F' := [(b, C (encL (setWord f x z)) 87)]) hl hh rfl rfl rfl rfl (by repeat (first | exact keeps_nil | apply keeps_cons (by repeat (first | exact find_head | apply find_tail)) (by first  | rfl) | exact keeps_self | apply keeps_mv)) ?_
      exact ⟨by rw [if_pos (by omega)]; simp [hc1], by unfold casF; rw [if_pos (by omega)]⟩

def addF (f : Nat → Int) (x : Nat) (y : Int) : Nat → Int := if 2 ≤ x ∧ x < 4096 then setWord f x (IntKind.u64.wrap (word f x + y)) else f

set_option maxHeartbeats 1000000 in
theorem fetchAdd_spec (b : Nat) (f : Nat → Int) (x : Nat) (y : Int) : Sp Try.prog 48 #[.pointer (some ⟨b, 0, none⟩), .int .u32 x, .int .u64 y] [(b, C (encL (f)) 87)] (fun v F' => v = (if 2 ≤ x ∧ x < 4096 then .tuple #[.int .u64 (word f x), .int .u8 0] else .tuple #[.int .u64 0, .int .u8 1]) ∧ F' = [(b, C (encL (addF f x y)) 87)]) := by
  refine f_enter (args := [.pointer (some ⟨b, 0, none⟩), .int .u32 x, .int .u64 y]) Try.func48 rfl Try.ntmps48 rfl ?_
  intro w0 w a hpre hl hh
  simp only [slotsFrom, Nat.reduceAdd] at hl
  refine c_seq ?_
  refine c_region ?_
  refine wl (wl_val hl rfl trivial (r_assign hl rfl) ?_)
  clear hl a; intro a hl
  refine wl (wl_val hl rfl trivial (r_assign hl rfl) ?_)
  clear hl a; intro a hl
  refine w_nil ?_
  have hl2 := hl.add (t := 0) (hl.add (t := 1) (hl.add (t := 2) (hl.nil) rfl) rfl) rfl; clear hl; have hl := hl2; clear hl2
  refine then_normal ?_
  refine c_seq ?_
  refine c_seq ?_
  refine c_region ?_
  refine wl (wl_val hl rfl trivial (r_move hl rfl) ?_)
  clear hl a; intro a hl
  refine wl (w_call hl hh rfl trivial rfl cal41 rfl (inArena_spec _) (by repeat (first | exact keeps_nil | apply keeps_cons (by repeat (first | exact find_head | apply find_tail)) (by first  | rfl) | exact keeps_self | apply keeps_mv)) trivial ?_)
  clear hl hh a w; intro vc Fc a w hR hl hh
  obtain ⟨rfl, rfl⟩ := hR
  simp only [List.cons_append, List.nil_append] at hh
  refine wl (wl_val hl rfl trivial (r_not hl rfl) ?_)
  clear hl a; intro a hl
  refine w_nil ?_
  have hl2 := hl.add (t := 0) (hl.add (t := 1) (hl.add (t := 2) (hl.add (t := 10) (hl.nil) rfl) rfl) rfl) rfl; clear hl; have hl := hl2; clear hl2
  refine then_normal ?_
  refine c_cond hl rfl ?_ ?_
  · intro hc0
    try simp only [decide_eq_true_eq, decide_eq_false_iff_not, Bool.not_eq_true', Bool.not_eq_false', Bool.not_eq_true, Bool.not_eq_false, Bool.and_eq_true, Bool.or_eq_true, Bool.and_eq_false_iff, Bool.or_eq_false_iff, Bool.not_not, ne_eq, Int.not_lt, Int.not_le, Decidable.not_not, beq_iff_eq, bne_iff_ne] at hc0
    refine c_seq ?_
    refine c_region ?_
    refine wl (wl_val hl rfl trivial (r_assign hl rfl) ?_)
    clear hl a; intro a hl
    refine wl (wl_val hl rfl trivial (r_assign hl rfl) ?_)
    clear hl a; intro a hl
    refine w_nil ?_
    have hl2 := hl.add (t := 6) (hl.add (t := 7) (hl.nil) rfl) rfl; clear hl; have hl := hl2; clear hl2
    refine then_normal ?_
    refine wp_ret ?_
    refine then_ret ?_
    refine f_ret2 (F' := [(b, C (encL (f)) 87)]) hl hh rfl rfl rfl (by repeat (first | exact keeps_nil | apply keeps_cons (by repeat (first | exact find_head | apply find_tail)) (by first  | rfl) | exact keeps_self | apply keeps_mv)) ?_
    exact ⟨by rw [if_neg (by omega)], by unfold addF; rw [if_neg (by omega)]⟩
  · intro hc0
    try simp only [decide_eq_true_eq, decide_eq_false_iff_not, Bool.not_eq_true', Bool.not_eq_false', Bool.not_eq_true, Bool.not_eq_false, Bool.and_eq_true, Bool.or_eq_true, Bool.and_eq_false_iff, Bool.or_eq_false_iff, Bool.not_not, ne_eq, Int.not_lt, Int.not_le, Decidable.not_not, beq_iff_eq, bne_iff_ne] at hc0
    refine wp_skip ?_
    refine then_normal ?_
    refine c_seq ?_
    refine c_region ?_
    refine wl (wl_val hl rfl trivial (r_move hl rfl) ?_)
    clear hl a; intro a hl
    refine wl (wl_val hl rfl trivial (r_move hl rfl) ?_)
    clear hl a; intro a hl
    refine wl (wl_val hl rfl trivial (r_nilCheck hl rfl) ?_)
    clear hl a; intro a hl
    refine wl (wl_val hl rfl trivial (r_field hl rfl fld87_0) ?_)
    clear hl a; intro a hl
    refine wl (wl_val hl rfl trivial (r_indexA hl rfl rfl arr58 (by omega) (by omega) (by first | (simp only [Int.reduceToNat]; rfl) | exact toNat_add1 _ | exact toNat_add2 _ _ | exact toNat_emod _ _ | exact Int.toNat_natCast _ | rfl)) ?_)
    clear hl a; intro a hl
    refine wl (w_load hl hh rfl trivial one27 rfl (by repeat (first | exact find_head | apply find_tail)) (by exact cell_word _ _ (by omega)) ?_)
    clear hl a; intro a hl
    refine wl (wl_val hl rfl trivial (r_assign hl rfl) ?_)
    clear hl a; intro a hl
    refine w_nil ?_
    have hl2 := hl.add (t := 0) (hl.add (t := 1) (hl.add (t := 2) (hl.add (t := 6) (hl.nil) rfl) rfl) rfl) rfl; clear hl; have hl := hl2; clear hl2
    refine then_normal ?_
    refine c_seq ?_
    refine c_region ?_
    refine wl (wl_val hl rfl trivial (r_move hl rfl) ?_)
    clear hl a; intro a hl
    refine wl (wl_val hl rfl trivial (r_move hl rfl) ?_)
    clear hl a; intro a hl
    refine wl (wl_val hl rfl trivial (r_move hl rfl) ?_)
    clear hl a; intro a hl
    refine wl (wl_val hl rfl trivial (r_move hl rfl) ?_)
    clear hl a; intro a hl
    refine wl (wl_val hl rfl trivial (r_addW hl rfl rfl) ?_)
    clear hl a; intro a hl
    refine wl (wl_val hl rfl trivial (r_nilCheck hl rfl) ?_)
    clear hl a; intro a hl
    refine wl (wl_val hl rfl trivial (r_field hl rfl fld87_0) ?_)
    clear hl a; intro a hl
    refine wl (wl_val hl rfl trivial (r_indexA hl rfl rfl arr58 (by omega) (by omega) (by first | (simp only [Int.reduceToNat]; rfl) | exact toNat_add1 _ | exact toNat_add2 _ _ | exact toNat_emod _ _ | exact Int.toNat_natCast _ | rfl)) ?_)
    clear hl a; intro a hl
    refine wl (w_store hl hh trivial one27 rfl rfl (by repeat (first | exact find_head | apply find_tail)) (by rw [encL_length]; omega) (by first | rfl | (apply Row.one; assumption)) (by exact st_word _ _ _ (by omega)) ?_)
    clear hh w; intro w hh
    refine w_nil ?_
    have hl2 := hl.add (t := 6) (hl.nil) rfl; clear hl; have hl := hl2; clear hl2
    refine then_normal ?_
    refine c_seq ?_
    refine c_region ?_
    refine wl (wl_val hl rfl trivial (r_move hl rfl) ?_)
    clear hl a; intro a hl
    refine wl (wl_val hl rfl trivial (r_assign hl rfl) ?_)
    clear hl a; intro a hl
    refine wl (wl_val hl rfl trivial (r_assign hl rfl) ?_)
    clear hl a; intro a hl
    refine w_nil ?_
    have hl2 := hl.add (t := 6) (hl.add (t := 7) (hl.nil) rfl) rfl; clear hl; have hl := hl2; clear hl2
    refine then_normal ?_
    refine wp_ret ?_
    refine f_ret2 (F' := [(b, C (encL (setWord f x (IntKind.u64.wrap (word f x + y)))) 87)]) hl hh rfl rfl rfl (by repeat (first | exact keeps_nil | apply keeps_cons (by repeat (first | exact find_head | apply find_tail)) (by first  | rfl) | exact keeps_self | apply keeps_mv)) ?_
    exact ⟨by rw [if_pos (by omega)], by unfold addF; rw [if_pos (by omega)]⟩


theorem and_mask (r : Nat) : bitsOf .and .u64 (r : Int) 65535 = ((r % 65536 : Nat) : Int) := by
  have e : (BitVec.ofInt 64 (r : Int) &&& BitVec.ofInt 64 65535).toNat = r % 65536 := by
    rw [BitVec.toNat_and, BitVec.toNat_ofInt, BitVec.toNat_ofInt]
    have h1 : (((r : Int) % ((2 ^ 64 : Nat) : Int))).toNat = r % 2 ^ 64 := by omega
    have h2 : (((65535 : Int) % ((2 ^ 64 : Nat) : Int))).toNat = 2 ^ 16 - 1 := by decide
    rw [h1, h2, Nat.and_two_pow_sub_one_eq_mod]
    omega
  show IntKind.u64.wrap ((BitVec.ofInt 64 (r : Int) &&& BitVec.ofInt 64 65535).toNat : Int) = _
  rw [e]
  exact wrap_fits (by simp only [Fits]; omega)
theorem or_ref (x y : Nat) (hx : x < 65536) (hy : y < 281474976710656) : bitsOf .or .u64 (IntKind.u64.wrap ((y : Int) * 2 ^ 16)) (bitsOf .and .u64 (x : Int) 65535) = ((y * 65536 + x : Nat) : Int) := by
  rw [and_mask, Nat.mod_eq_of_lt hx]
  rw [wrap_fits (k := .u64) (r := (y : Int) * 2 ^ 16) (by simp only [Fits]; omega)]
  have e : (BitVec.ofInt 64 ((y : Int) * 2 ^ 16) ||| BitVec.ofInt 64 (x : Int)).toNat = y * 65536 + x := by
    rw [BitVec.toNat_or, BitVec.toNat_ofInt, BitVec.toNat_ofInt]
    have h1 : (((y : Int) * 2 ^ 16 % ((2 ^ 64 : Nat) : Int))).toNat = 2 ^ 16 * y := by omega
    have h2 : (((x : Int) % ((2 ^ 64 : Nat) : Int))).toNat = x := by omega
    rw [h1, h2, ← Nat.two_pow_add_eq_or_of_lt (by omega)]
    omega
  show IntKind.u64.wrap ((BitVec.ofInt 64 ((y : Int) * 2 ^ 16) ||| BitVec.ofInt 64 (x : Int)).toNat : Int) = _
  rw [e]
  exact wrap_fits (by simp only [Fits]; omega)


set_option maxHeartbeats 1000000 in
theorem refAddr_spec (r : Nat) : Sp Try.prog 27 #[.int .u64 r] [] (fun v F' => v = .int .u32 ((r % 65536 : Nat) : Int) ∧ F' = []) := by
  refine f_enter (args := [.int .u64 r]) Try.func27 rfl Try.ntmps27 rfl ?_
  intro w0 w a hpre hl hh
  simp only [slotsFrom, Nat.reduceAdd] at hl
  refine c_seq ?_
  refine c_region ?_
  refine wl (wl_val hl rfl trivial (r_assign hl rfl) ?_)
  clear hl a; intro a hl
  refine w_nil ?_
  have hl2 := hl.add (t := 0) (hl.nil) rfl; clear hl; have hl := hl2; clear hl2
  refine then_normal ?_
  refine c_seq ?_
  refine c_region ?_
  refine wl (wl_val hl rfl trivial (r_move hl rfl) ?_)
  clear hl a; intro a hl
  refine wl (wl_val hl rfl trivial (r_and hl rfl rfl) ?_)
  clear hl a; intro a hl
  refine wl (wl_val hl rfl trivial (r_convW hl rfl Try.underlying63 Try.underlying34) ?_)
  clear hl a; intro a hl
  refine wl (wl_val hl rfl trivial (r_assign hl rfl) ?_)
  clear hl a; intro a hl
  refine w_nil ?_
  have hl2 := hl.add (t := 2) (hl.nil) rfl; clear hl; have hl := hl2; clear hl2
  refine then_normal ?_
  refine wp_ret ?_
  refine f_ret1 (F' := []) hl hh rfl rfl (by repeat (first | exact keeps_nil | apply keeps_cons (by repeat (first | exact find_head | apply find_tail)) (by first  | rfl) | exact keeps_self | apply keeps_mv)) ?_
  exact ⟨by rw [and_mask, wrap_fits (by simp only [Fits]; omega)], rfl⟩

set_option maxHeartbeats 1000000 in
theorem refGen_spec (r : Nat) : Sp Try.prog 31 #[.int .u64 r] [] (fun v F' => v = .int .u64 ((r / 65536 : Nat) : Int) ∧ F' = []) := by
  refine f_enter (args := [.int .u64 r]) Try.func31 rfl Try.ntmps31 rfl ?_
  intro w0 w a hpre hl hh
  simp only [slotsFrom, Nat.reduceAdd] at hl
  refine c_seq ?_
  refine c_region ?_
  refine wl (wl_val hl rfl trivial (r_assign hl rfl) ?_)
  clear hl a; intro a hl
  refine w_nil ?_
  have hl2 := hl.add (t := 0) (hl.nil) rfl; clear hl; have hl := hl2; clear hl2
  refine then_normal ?_
  refine c_seq ?_
  refine c_region ?_
  refine wl (wl_val hl rfl trivial (r_move hl rfl) ?_)
  clear hl a; intro a hl
  refine wl (wl_val hl rfl trivial (r_shr hl rfl rfl (by omega)) ?_)
  clear hl a; intro a hl
  refine wl (wl_val hl rfl trivial (r_assign hl rfl) ?_)
  clear hl a; intro a hl
  refine w_nil ?_
  have hl2 := hl.add (t := 2) (hl.nil) rfl; clear hl; have hl := hl2; clear hl2
  refine then_normal ?_
  refine wp_ret ?_
  refine f_ret1 (F' := []) hl hh rfl rfl (by repeat (first | exact keeps_nil | apply keeps_cons (by repeat (first | exact find_head | apply find_tail)) (by first  | rfl) | exact keeps_self | apply keeps_mv)) ?_
  exact ⟨congrArg (Value.int .u64) (by show Int.fdiv (r : Int) 65536 = _; rw [Int.fdiv_eq_ediv_of_nonneg _ (by decide)]; omega), rfl⟩

set_option maxHeartbeats 1000000 in
theorem makeRef_spec (x y : Nat) (hx : x < 65536) (hy : y < 281474976710656) : Sp Try.prog 40 #[.int .u32 x, .int .u64 y] [] (fun v F' => v = .int .u64 ((y * 65536 + x : Nat) : Int) ∧ F' = []) := by
  refine f_enter (args := [.int .u32 x, .int .u64 y]) Try.func40 rfl Try.ntmps40 rfl ?_
  intro w0 w a hpre hl hh
  simp only [slotsFrom, Nat.reduceAdd] at hl
  refine c_seq ?_
  refine c_region ?_
  refine wl (wl_val hl rfl trivial (r_assign hl rfl) ?_)
  clear hl a; intro a hl
  refine w_nil ?_
  have hl2 := hl.add (t := 0) (hl.add (t := 1) (hl.nil) rfl) rfl; clear hl; have hl := hl2; clear hl2
  refine then_normal ?_
  refine c_seq ?_
  refine c_region ?_
  refine wl (wl_val hl rfl trivial (r_move hl rfl) ?_)
  clear hl a; intro a hl
  refine wl (wl_val hl rfl trivial (r_shl hl rfl rfl (by omega)) ?_)
  clear hl a; intro a hl
  refine wl (wl_val hl rfl trivial (r_move hl rfl) ?_)
  clear hl a; intro a hl
  first | refine wl (wl_val hl rfl trivial (r_conv hl rfl Try.underlying34 Try.underlying63 (by simp only [Fits]; omega)) ?_) | refine wl (wl_val hl rfl trivial (r_convW hl rfl Try.underlying34 Try.underlying63) ?_)
  clear hl a; intro a hl
  refine wl (wl_val hl rfl trivial (r_and hl rfl rfl) ?_)
  clear hl a; intro a hl
  refine wl (wl_val hl rfl trivial (r_or hl rfl rfl) ?_)
  clear hl a; intro a hl
  refine wl (wl_val hl rfl trivial (r_assign hl rfl) ?_)
  clear hl a; intro a hl
  refine w_nil ?_
  have hl2 := hl.add (t := 4) (hl.nil) rfl; clear hl; have hl := hl2; clear hl2
  refine then_normal ?_
  refine wp_ret ?_
  refine f_ret1 (F' := []) hl hh rfl rfl (by repeat (first | exact keeps_nil | apply keeps_cons (by repeat (first | exact find_head | apply find_tail)) (by first  | rfl) | exact keeps_self | apply keeps_mv)) ?_
  exact ⟨congrArg (Value.int .u64) (or_ref x y hx hy), rfl⟩


def paintTo (f : Nat → Int) (a : Nat) (hd bd : Int) (i : Nat) : Nat → Int := fun j => if 4096 ≤ j ∧ j < 20480 ∧ j % 4 = 3 ∧ a ≤ (j - 4096) / 4 ∧ (j - 4096) / 4 < a + i then (if (j - 4096) / 4 = a then hd else bd) else f j
def genTo (f : Nat → Int) (a : Nat) (i : Nat) : Nat → Int := fun j => if 4096 ≤ j ∧ j < 20480 ∧ j % 4 = 0 ∧ a ≤ (j - 4096) / 4 ∧ (j - 4096) / 4 < a + i then f j + 1 else f j
theorem paintTo_one (f : Nat → Int) (a : Nat) (hd bd : Int) (h : a < 4096) : setRole f a hd = paintTo f a hd bd 1 := by
  funext j; unfold setRole upd paintTo
  by_cases e : j = 4096 + a * 4 + 3
  · rw [if_pos e, if_pos (by omega), if_pos (by omega)]
  · rw [if_neg e, if_neg (by omega)]
theorem paintTo_succ (f : Nat → Int) (a : Nat) (hd bd : Int) (i : Nat) (h1 : 1 ≤ i) (h : a + i < 4096) : setRole (paintTo f a hd bd i) (a + i) bd = paintTo f a hd bd (i + 1) := by
  funext j; unfold setRole upd paintTo
  by_cases e : j = 4096 + (a + i) * 4 + 3
  · rw [if_pos e, if_pos (by omega), if_neg (by omega)]
  · rw [if_neg e]
    by_cases c : 4096 ≤ j ∧ j < 20480 ∧ j % 4 = 3 ∧ a ≤ (j - 4096) / 4 ∧ (j - 4096) / 4 < a + i
    · have c' : 4096 ≤ j ∧ j < 20480 ∧ j % 4 = 3 ∧ a ≤ (j - 4096) / 4 ∧ (j - 4096) / 4 < a + (i + 1) := by omega
      rw [if_pos c, if_pos c']
    · rw [if_neg c, if_neg (by omega)]
theorem genTo_zero (f : Nat → Int) (a : Nat) : genTo f a 0 = f := by
  funext j; unfold genTo; rw [if_neg (by omega)]
theorem genTo_succ (f : Nat → Int) (a i : Nat) (h : a + i < 4096) : setGen (genTo f a i) (a + i) (gen (genTo f a i) (a + i) + 1) = genTo f a (i + 1) := by
  funext j; unfold setGen upd gen genTo
  by_cases e : j = 4096 + (a + i) * 4
  · subst e; rw [if_pos rfl, if_neg (by omega), if_pos (by omega)]
  · rw [if_neg e]
    by_cases c : 4096 ≤ j ∧ j < 20480 ∧ j % 4 = 0 ∧ a ≤ (j - 4096) / 4 ∧ (j - 4096) / 4 < a + i
    · rw [if_pos c, if_pos (by omega)]
    · rw [if_neg c, if_neg (by omega)]
theorem gen_genTo (f : Nat → Int) (a i c : Nat) (hc : c < 4096) : gen (genTo f a i) c = if a ≤ c ∧ c < a + i then gen f c + 1 else gen f c := by
  unfold gen genTo
  by_cases h : a ≤ c ∧ c < a + i
  · rw [if_pos h, if_pos (by omega)]
  · rw [if_neg h, if_neg (by omega)]
theorem role_paintTo (f : Nat → Int) (a : Nat) (hd bd : Int) (i c : Nat) (hc : c < 4096) : role (paintTo f a hd bd i) c = if a ≤ c ∧ c < a + i then (if c = a then hd else bd) else role f c := by
  unfold role paintTo
  by_cases h : a ≤ c ∧ c < a + i
  · rw [if_pos h, if_pos (by omega)]
    by_cases e : c = a
    · rw [if_pos e, if_pos (by omega)]
    · rw [if_neg e, if_neg (by omega)]
  · rw [if_neg h, if_neg (by omega)]


theorem word_paintTo (f : Nat → Int) (a : Nat) (hd bd : Int) (i c : Nat) (hc : c < 4096) : word (paintTo f a hd bd i) c = word f c := by
  unfold word paintTo; rw [if_neg (by omega)]

theorem word_genTo (f : Nat → Int) (a i c : Nat) (hc : c < 4096) : word (genTo f a i) c = word f c := by
  unfold word genTo; rw [if_neg (by omega)]

theorem gen_paintTo (f : Nat → Int) (a : Nat) (hd bd : Int) (i c : Nat) (hc : c < 4096) : gen (paintTo f a hd bd i) c = gen f c := by
  unfold gen paintTo; rw [if_neg (by omega)]

theorem nxt_paintTo (f : Nat → Int) (a : Nat) (hd bd : Int) (i c : Nat) (hc : c < 4096) : nxt (paintTo f a hd bd i) c = nxt f c := by
  unfold nxt paintTo; rw [if_neg (by omega)]

theorem nxt_genTo (f : Nat → Int) (a i c : Nat) (hc : c < 4096) : nxt (genTo f a i) c = nxt f c := by
  unfold nxt genTo; rw [if_neg (by omega)]

theorem sz_paintTo (f : Nat → Int) (a : Nat) (hd bd : Int) (i c : Nat) (hc : c < 4096) : sz (paintTo f a hd bd i) c = sz f c := by
  unfold sz paintTo; rw [if_neg (by omega)]

theorem sz_genTo (f : Nat → Int) (a i c : Nat) (hc : c < 4096) : sz (genTo f a i) c = sz f c := by
  unfold sz genTo; rw [if_neg (by omega)]

theorem role_genTo (f : Nat → Int) (a i c : Nat) (hc : c < 4096) : role (genTo f a i) c = role f c := by
  unfold role genTo; rw [if_neg (by omega)]

theorem lst_paintTo (f : Nat → Int) (a : Nat) (hd bd : Int) (i c : Nat) (hc : c < 16) : lst (paintTo f a hd bd i) c = lst f c := by
  unfold lst paintTo; rw [if_neg (by omega)]

theorem lst_genTo (f : Nat → Int) (a i c : Nat) (hc : c < 16) : lst (genTo f a i) c = lst f c := by
  unfold lst genTo; rw [if_neg (by omega)]

theorem fresh_paintTo (f : Nat → Int) (a : Nat) (hd bd : Int) (i : Nat) : fresh (paintTo f a hd bd i) = fresh f := by
  unfold fresh paintTo; rw [if_neg (by omega)]

theorem fresh_genTo (f : Nat → Int) (a i : Nat) : fresh (genTo f a i) = fresh f := by
  unfold fresh genTo; rw [if_neg (by omega)]

theorem boot_paintTo (f : Nat → Int) (a : Nat) (hd bd : Int) (i : Nat) : boot (paintTo f a hd bd i) = boot f := by
  unfold boot paintTo; rw [if_neg (by omega)]

theorem boot_genTo (f : Nat → Int) (a i : Nat) : boot (genTo f a i) = boot f := by
  unfold boot genTo; rw [if_neg (by omega)]

theorem cnNil_paintTo (f : Nat → Int) (a : Nat) (hd bd : Int) (i : Nat) : cnNil (paintTo f a hd bd i) = cnNil f := by
  unfold cnNil paintTo; rw [if_neg (by omega)]

theorem cnNil_genTo (f : Nat → Int) (a i : Nat) : cnNil (genTo f a i) = cnNil f := by
  unfold cnNil genTo; rw [if_neg (by omega)]

theorem cnLive_paintTo (f : Nat → Int) (a : Nat) (hd bd : Int) (i : Nat) : cnLive (paintTo f a hd bd i) = cnLive f := by
  unfold cnLive paintTo; rw [if_neg (by omega)]

theorem cnLive_genTo (f : Nat → Int) (a i : Nat) : cnLive (genTo f a i) = cnLive f := by
  unfold cnLive genTo; rw [if_neg (by omega)]

theorem cnFree_paintTo (f : Nat → Int) (a : Nat) (hd bd : Int) (i : Nat) : cnFree (paintTo f a hd bd i) = cnFree f := by
  unfold cnFree paintTo; rw [if_neg (by omega)]

theorem cnFree_genTo (f : Nat → Int) (a i : Nat) : cnFree (genTo f a i) = cnFree f := by
  unfold cnFree genTo; rw [if_neg (by omega)]

theorem cnSpent_paintTo (f : Nat → Int) (a : Nat) (hd bd : Int) (i : Nat) : cnSpent (paintTo f a hd bd i) = cnSpent f := by
  unfold cnSpent paintTo; rw [if_neg (by omega)]

theorem cnSpent_genTo (f : Nat → Int) (a i : Nat) : cnSpent (genTo f a i) = cnSpent f := by
  unfold cnSpent genTo; rw [if_neg (by omega)]

theorem cnUnt_paintTo (f : Nat → Int) (a : Nat) (hd bd : Int) (i : Nat) : cnUnt (paintTo f a hd bd i) = cnUnt f := by
  unfold cnUnt paintTo; rw [if_neg (by omega)]

theorem cnUnt_genTo (f : Nat → Int) (a i : Nat) : cnUnt (genTo f a i) = cnUnt f := by
  unfold cnUnt genTo; rw [if_neg (by omega)]

set_option maxHeartbeats 1000000 in
theorem paint_spec (b : Nat) (f : Nat → Int) (x n : Nat) (hd bd : Int) (h1 : 1 ≤ n) (h2 : x + n ≤ 4096) : Sp Try.prog 43 #[.pointer (some ⟨b, 0, none⟩), .int .u32 x, .int .i64 n, .int .u8 hd, .int .u8 bd] [(b, C (encL (f)) 87)] (fun v F' => v = .tuple #[] ∧ F' = [(b, C (encL (paintTo f x hd bd n)) 87)]) := by
  refine f_enter (args := [.pointer (some ⟨b, 0, none⟩), .int .u32 x, .int .i64 n, .int .u8 hd, .int .u8 bd]) Try.func43 rfl Try.ntmps43 rfl ?_
  intro w0 w a hpre hl hh
  simp only [slotsFrom, Nat.reduceAdd] at hl
  refine c_seq ?_
  refine c_region ?_
  refine wl (wl_val hl rfl trivial (r_move hl rfl) ?_)
  clear hl a; intro a hl
  refine wl (wl_val hl rfl trivial (r_move hl rfl) ?_)
  clear hl a; intro a hl
  refine wl (wl_val hl rfl trivial (r_move hl rfl) ?_)
  clear hl a; intro a hl
  refine wl (wl_val hl rfl trivial (r_nilCheck hl rfl) ?_)
  clear hl a; intro a hl
  refine wl (wl_val hl rfl trivial (r_field hl rfl fld87_1) ?_)
  clear hl a; intro a hl
  refine wl (wl_val hl rfl trivial (r_indexA hl rfl rfl arr84 (by omega) (by omega) (by first | (simp only [Int.reduceToNat]; rfl) | exact toNat_add1 _ | exact toNat_add2 _ _ | exact toNat_emod _ _ | exact Int.toNat_natCast _ | rfl)) ?_)
  clear hl a; intro a hl
  refine wl (wl_val hl rfl trivial (r_field hl rfl fld83_3) ?_)
  clear hl a; intro a hl
  refine wl (w_store hl hh trivial one81 rfl rfl (by repeat (first | exact find_head | apply find_tail)) (by rw [encL_length]; omega) (by first | rfl | (apply Row.one; assumption)) (by exact st_role _ _ _ (by omega)) ?_)
  clear hh w; intro w hh
  refine w_nil ?_
  have hl2 := hl.add (t := 0) (hl.add (t := 1) (hl.add (t := 2) (hl.add (t := 4) (hl.nil) rfl) rfl) rfl) rfl; clear hl; have hl := hl2; clear hl2
  refine then_normal ?_
  refine c_seq ?_
  refine c_region ?_
  refine wl (wl_val hl rfl trivial (r_assign hl rfl) ?_)
  clear hl a; intro a hl
  refine w_nil ?_
  have hl2 := hl.add (t := 0) (hl.add (t := 1) (hl.add (t := 2) (hl.add (t := 4) (hl.add (t := 10) (hl.nil) rfl) rfl) rfl) rfl) rfl; clear hl; have hl := hl2; clear hl2
  refine then_normal ?_
  refine wp_block ?_
  obtain ⟨KS0, hKS0, hk⟩ := (hl.add (t := 0) (hl.add (t := 1) (hl.add (t := 2) (hl.add (t := 4) (hl.nil) rfl) rfl) rfl) rfl).name
  obtain ⟨HS0, hHS0, hh2⟩ := hh.name (keeps_cons (b := b) (o' := C (encL (paintTo f x hd bd 1)) 87) (by repeat (first | exact find_head | apply find_tail)) (by first | exact congrArg (fun q => C (encL q) 87) (paintTo_one f x hd bd (by omega)) | rfl) (keeps_nil))
  refine c_loop (α := Nat) (fun i => n - i) (fun i a w => (1 ≤ i ∧ i ≤ n) ∧ Sl 33 ([(10, .int .i64 i)] ++ KS0) a ∧ Has _ w0 ([(b, C (encL (paintTo f x hd bd i)) 87)] ++ HS0) w) 1 ⟨⟨Nat.le_refl _, h1⟩, hl.addE (t := 10) (hk) rfl (by first | rfl), hh2⟩ ?_
  clear hk hh2 hl hh a w
  intro i a w hI
  obtain ⟨⟨hi1, hi2⟩, hl, hh⟩ := hI
  subst hKS0; subst hHS0
  simp only [List.cons_append, List.nil_append] at hl hh
  refine c_seq ?_
  refine c_seq ?_
  refine c_region ?_
  refine wl (wl_val hl rfl trivial (r_move hl rfl) ?_)
  clear hl a; intro a hl
  refine wl (wl_val hl rfl trivial (r_move hl rfl) ?_)
  clear hl a; intro a hl
  refine wl (wl_val hl rfl trivial (r_lss hl rfl rfl) ?_)
  clear hl a; intro a hl
  refine w_nil ?_
  have hl2 := hl.add (t := 0) (hl.add (t := 1) (hl.add (t := 2) (hl.add (t := 4) (hl.add (t := 10) (hl.add (t := 20) (hl.nil) rfl) rfl) rfl) rfl) rfl) rfl; clear hl; have hl := hl2; clear hl2
  refine then_normal ?_
  refine c_cond hl rfl ?_ ?_
  · intro hc0
    try simp only [decide_eq_true_eq, decide_eq_false_iff_not, Bool.not_eq_true', Bool.not_eq_false', Bool.not_eq_true, Bool.not_eq_false, Bool.and_eq_true, Bool.or_eq_true, Bool.and_eq_false_iff, Bool.or_eq_false_iff, Bool.not_not, ne_eq, Int.not_lt, Int.not_le, Decidable.not_not, beq_iff_eq, bne_iff_ne] at hc0
    refine wp_skip ?_
    refine then_normal ?_
    refine c_seq ?_
    refine wp_block ?_
    refine c_region ?_
    refine wl (wl_val hl rfl trivial (r_move hl rfl) ?_)
    clear hl a; intro a hl
    refine wl (wl_val hl rfl trivial (r_move hl rfl) ?_)
    clear hl a; intro a hl
    refine wl (wl_val hl rfl trivial (r_move hl rfl) ?_)
    clear hl a; intro a hl
    first | refine wl (wl_val hl rfl trivial (r_conv hl rfl Try.underlying3 Try.underlying34 (by simp only [Fits]; omega)) ?_) | refine wl (wl_val hl rfl trivial (r_convW hl rfl Try.underlying3 Try.underlying34) ?_)
    clear hl a; intro a hl
    first | refine wl (wl_val hl rfl trivial (r_add hl rfl rfl (by simp only [Fits]; omega)) ?_) | refine wl (wl_val hl rfl trivial (r_addW hl rfl rfl) ?_)
    clear hl a; intro a hl
    refine wl (wl_val hl rfl trivial (r_move hl rfl) ?_)
    clear hl a; intro a hl
    refine wl (wl_val hl rfl trivial (r_nilCheck hl rfl) ?_)
    clear hl a; intro a hl
    refine wl (wl_val hl rfl trivial (r_field hl rfl fld87_1) ?_)
    clear hl a; intro a hl
    refine wl (wl_val hl rfl trivial (r_indexA hl rfl rfl arr84 (by omega) (by omega) (by first | (simp only [Int.reduceToNat]; rfl) | exact toNat_add1 _ | exact toNat_add2 _ _ | exact toNat_emod _ _ | exact Int.toNat_natCast _ | rfl)) ?_)
    clear hl a; intro a hl
    refine wl (wl_val hl rfl trivial (r_field hl rfl fld83_3) ?_)
    clear hl a; intro a hl
    refine wl (w_store hl hh trivial one81 rfl rfl (by repeat (first | exact find_head | apply find_tail)) (by rw [encL_length]; omega) (by first | rfl | (apply Row.one; assumption)) (by exact st_role _ _ _ (by omega)) ?_)
    clear hh w; intro w hh
    refine w_nil ?_
    have hl2 := hl.add (t := 0) (hl.add (t := 1) (hl.add (t := 2) (hl.add (t := 4) (hl.add (t := 10) (hl.nil) rfl) rfl) rfl) rfl) rfl; clear hl; have hl := hl2; clear hl2
    refine blk_normal ?_
    refine then_normal ?_
    refine c_region ?_
    refine wl (wl_val hl rfl trivial (r_move hl rfl) ?_)
    clear hl a; intro a hl
    first | refine wl (wl_val hl rfl trivial (r_add hl rfl rfl (by simp only [Fits]; omega)) ?_) | refine wl (wl_val hl rfl trivial (r_addW hl rfl rfl) ?_)
    clear hl a; intro a hl
    refine wl (wl_val hl rfl trivial (r_assign hl rfl) ?_)
    clear hl a; intro a hl
    refine w_nil ?_
    have hl2 := hl.add (t := 0) (hl.add (t := 1) (hl.add (t := 2) (hl.add (t := 4) (hl.add (t := 10) (hl.nil) rfl) rfl) rfl) rfl) rfl; clear hl; have hl := hl2; clear hl2
    refine then_normal ?_
    refine ⟨i + 1, (by omega), ⟨by omega, by omega⟩, hl.addE (t := 10) (hl.addE (t := 0) (hl.addE (t := 1) (hl.addE (t := 2) (hl.addE (t := 4) (hl.nil) rfl (by first | rfl | (congr 1; omega))) rfl (by first | rfl | (congr 1; omega))) rfl (by first | rfl | (congr 1; omega))) rfl (by first | rfl | (congr 1; omega))) rfl (by first | rfl | (congr 1; omega)), hh.keep (by repeat (first | exact keeps_nil | apply keeps_cons (by repeat (first | exact find_head | apply find_tail)) (by first  | exact congrArg (fun q => C (encL q) 87) (paintTo_succ f x hd bd i hi1 (by omega)) | rfl) | exact keeps_self | apply keeps_mv))⟩
  · intro hc0
    try simp only [decide_eq_true_eq, decide_eq_false_iff_not, Bool.not_eq_true', Bool.not_eq_false', Bool.not_eq_true, Bool.not_eq_false, Bool.and_eq_true, Bool.or_eq_true, Bool.and_eq_false_iff, Bool.or_eq_false_iff, Bool.not_not, ne_eq, Int.not_lt, Int.not_le, Decidable.not_not, beq_iff_eq, bne_iff_ne] at hc0
    refine wp_exit ?_
    refine then_exit ?_
    refine then_exit ?_
    refine blk_exit ?_
    refine f_end0 (F' := [(b, C (encL (paintTo f x hd bd n)) 87)]) hl hh rfl (by repeat (first | exact keeps_nil | apply keeps_cons (by repeat (first | exact find_head | apply find_tail)) (by first  | exact congrArg (fun q => C (encL (paintTo f x hd bd q)) 87) (by omega) | rfl) | exact keeps_self | apply keeps_mv)) ?_
    exact ⟨rfl, rfl⟩


def judgeF (f : Nat → Int) (r : Nat) : Int :=
  if ¬ (2 ≤ r % 65536 ∧ r % 65536 < 4096) then 5
  else if ¬ (role f (r % 65536) = 1 ∨ role f (r % 65536) = 3 ∨ role f (r % 65536) = 5) then 5
  else if ((r / 65536 : Nat) : Int) ≤ boot f ∨ gen f (r % 65536) < ((r / 65536 : Nat) : Int) then 5
  else if ((r / 65536 : Nat) : Int) < gen f (r % 65536) ∨ role f (r % 65536) ≠ 1 then 6
  else 0


set_option maxHeartbeats 1000000 in
theorem judge_spec (b : Nat) (f : Nat → Int) (r : Nat) : Sp Try.prog 42 #[.pointer (some ⟨b, 0, none⟩), .int .u64 r] [(b, C (encL (f)) 87)] (fun v F' => v = .int .u8 (judgeF f r) ∧ F' = [(b, C (encL (f)) 87)]) := by
  refine f_enter (args := [.pointer (some ⟨b, 0, none⟩), .int .u64 r]) Try.func42 rfl Try.ntmps42 rfl ?_
  intro w0 w a hpre hl hh
  simp only [slotsFrom, Nat.reduceAdd] at hl
  refine c_seq ?_
  refine c_region ?_
  refine wl (wl_val hl rfl trivial (r_assign hl rfl) ?_)
  clear hl a; intro a hl
  refine w_nil ?_
  have hl2 := hl.add (t := 0) (hl.add (t := 1) (hl.nil) rfl) rfl; clear hl; have hl := hl2; clear hl2
  refine then_normal ?_
  refine c_seq ?_
  refine c_region ?_
  refine wl (wl_val hl rfl trivial (r_move hl rfl) ?_)
  clear hl a; intro a hl
  refine wl (w_call hl hh rfl trivial rfl cal27 rfl (refAddr_spec _) (by repeat (first | exact keeps_nil | apply keeps_cons (by repeat (first | exact find_head | apply find_tail)) (by first  | rfl) | exact keeps_self | apply keeps_mv)) trivial ?_)
  clear hl hh a w; intro vc Fc a w hR hl hh
  obtain ⟨rfl, rfl⟩ := hR
  simp only [List.cons_append, List.nil_append] at hh
  refine wl (wl_val hl rfl trivial (r_assign hl rfl) ?_)
  clear hl a; intro a hl
  refine w_nil ?_
  have hl2 := hl.add (t := 0) (hl.add (t := 1) (hl.add (t := 5) (hl.nil) rfl) rfl) rfl; clear hl; have hl := hl2; clear hl2
  refine then_normal ?_
  refine c_seq ?_
  refine c_seq ?_
  refine c_region ?_
  refine wl (wl_val hl rfl trivial (r_move hl rfl) ?_)
  clear hl a; intro a hl
  refine wl (w_call hl hh rfl trivial rfl cal41 rfl (inArena_spec _) (by repeat (first | exact keeps_nil | apply keeps_cons (by repeat (first | exact find_head | apply find_tail)) (by first  | rfl) | exact keeps_self | apply keeps_mv)) trivial ?_)
  clear hl hh a w; intro vc Fc a w hR hl hh
  obtain ⟨rfl, rfl⟩ := hR
  simp only [List.cons_append, List.nil_append] at hh
  refine wl (wl_val hl rfl trivial (r_not hl rfl) ?_)
  clear hl a; intro a hl
  refine w_nil ?_
  have hl2 := hl.add (t := 0) (hl.add (t := 1) (hl.add (t := 5) (hl.add (t := 12) (hl.nil) rfl) rfl) rfl) rfl; clear hl; have hl := hl2; clear hl2
  refine then_normal ?_
  refine c_cond hl rfl ?_ ?_
  · intro hc0
    try simp only [decide_eq_true_eq, decide_eq_false_iff_not, Bool.not_eq_true', Bool.not_eq_false', Bool.not_eq_true, Bool.not_eq_false, Bool.and_eq_true, Bool.or_eq_true, Bool.and_eq_false_iff, Bool.or_eq_false_iff, Bool.not_not, ne_eq, Int.not_lt, Int.not_le, Decidable.not_not, beq_iff_eq, bne_iff_ne] at hc0
    refine c_seq ?_
    refine c_region ?_
    refine wl (wl_val hl rfl trivial (r_assign hl rfl) ?_)
    clear hl a; intro a hl
    refine w_nil ?_
    have hl2 := hl.add (t := 4) (hl.nil) rfl; clear hl; have hl := hl2; clear hl2
    refine then_normal ?_
    refine wp_ret ?_
    refine then_ret ?_
    refine f_ret1 (F' := [(b, C (encL (f)) 87)]) hl hh rfl rfl (by repeat (first | exact keeps_nil | apply keeps_cons (by repeat (first | exact find_head | apply find_tail)) (by first  | rfl) | exact keeps_self | apply keeps_mv)) ?_
    first | (exfalso; omega) | exact ⟨congrArg (Value.int .u8) (by unfold judgeF; repeat (first | rw [if_pos (by omega)] | rw [if_neg (by omega)])), rfl⟩
  · intro hc0
    try simp only [decide_eq_true_eq, decide_eq_false_iff_not, Bool.not_eq_true', Bool.not_eq_false', Bool.not_eq_true, Bool.not_eq_false, Bool.and_eq_true, Bool.or_eq_true, Bool.and_eq_false_iff, Bool.or_eq_false_iff, Bool.not_not, ne_eq, Int.not_lt, Int.not_le, Decidable.not_not, beq_iff_eq, bne_iff_ne] at hc0
    refine wp_skip ?_
    refine then_normal ?_
    refine c_seq ?_
    refine c_region ?_
    refine wl (wl_val hl rfl trivial (r_move hl rfl) ?_)
    clear hl a; intro a hl
    refine wl (wl_val hl rfl trivial (r_move hl rfl) ?_)
    clear hl a; intro a hl
    refine wl (wl_val hl rfl trivial (r_nilCheck hl rfl) ?_)
    clear hl a; intro a hl
    refine wl (wl_val hl rfl trivial (r_field hl rfl fld87_1) ?_)
    clear hl a; intro a hl
    refine wl (wl_val hl rfl trivial (r_indexA hl rfl rfl arr84 (by omega) (by omega) (by first | (simp only [Int.reduceToNat]; rfl) | exact toNat_add1 _ | exact toNat_add2 _ _ | exact toNat_emod _ _ | exact Int.toNat_natCast _ | rfl)) ?_)
    clear hl a; intro a hl
    refine wl (wl_val hl rfl trivial (r_assign hl rfl) ?_)
    clear hl a; intro a hl
    refine w_nil ?_
    have hl2 := hl.add (t := 0) (hl.add (t := 1) (hl.add (t := 6) (hl.nil) rfl) rfl) rfl; clear hl; have hl := hl2; clear hl2
    refine then_normal ?_
    refine c_seq ?_
    refine c_seq ?_
    refine c_region ?_
    refine wl (wl_val hl rfl trivial (r_move hl rfl) ?_)
    clear hl a; intro a hl
    refine wl (wl_val hl rfl trivial (r_nilCheck hl rfl) ?_)
    clear hl a; intro a hl
    refine wl (wl_val hl rfl trivial (r_field hl rfl fld83_3) ?_)
    clear hl a; intro a hl
    refine wl (w_load hl hh rfl trivial one81 rfl (by repeat (first | exact find_head | apply find_tail)) (by exact cell_role _ _ (by omega)) ?_)
    clear hl a; intro a hl
    refine w_nil ?_
    have hl2 := hl.add (t := 0) (hl.add (t := 1) (hl.add (t := 6) (hl.add (t := 21) (hl.nil) rfl) rfl) rfl) rfl; clear hl; have hl := hl2; clear hl2
    refine then_normal ?_
    refine wp_block ?_
    refine c_seq ?_
    refine c_seq ?_
    refine c_region ?_
    refine wl (wl_val hl rfl trivial (r_eql hl rfl rfl) ?_)
    clear hl a; intro a hl
    refine wl (wl_val hl rfl trivial (r_assign hl rfl) ?_)
    clear hl a; intro a hl
    refine w_nil ?_
    have hl2 := hl.add (t := 0) (hl.add (t := 1) (hl.add (t := 6) (hl.add (t := 21) (hl.add (t := 22) (hl.nil) rfl) rfl) rfl) rfl) rfl; clear hl; have hl := hl2; clear hl2
    refine then_normal ?_
    refine c_cond hl rfl ?_ ?_
    · intro hc1
      try simp only [decide_eq_true_eq, decide_eq_false_iff_not, Bool.not_eq_true', Bool.not_eq_false', Bool.not_eq_true, Bool.not_eq_false, Bool.and_eq_true, Bool.or_eq_true, Bool.and_eq_false_iff, Bool.or_eq_false_iff, Bool.not_not, ne_eq, Int.not_lt, Int.not_le, Decidable.not_not, beq_iff_eq, bne_iff_ne] at hc1
      refine wp_skip ?_
      refine then_normal ?_
      refine c_cond hl rfl ?_ ?_
      · intro hc3
        try simp only [decide_eq_true_eq, decide_eq_false_iff_not, Bool.not_eq_true', Bool.not_eq_false', Bool.not_eq_true, Bool.not_eq_false, Bool.and_eq_true, Bool.or_eq_true, Bool.and_eq_false_iff, Bool.or_eq_false_iff, Bool.not_not, ne_eq, Int.not_lt, Int.not_le, Decidable.not_not, beq_iff_eq, bne_iff_ne] at hc3
        refine wp_skip ?_
        refine blk_normal ?_
        refine then_normal ?_
        refine c_seq ?_
        refine c_seq ?_
        refine c_region ?_
        refine wl (wl_val hl rfl trivial (r_move hl rfl) ?_)
        clear hl a; intro a hl
        refine wl (w_call hl hh rfl trivial rfl cal31 rfl (refGen_spec _) (by repeat (first | exact keeps_nil | apply keeps_cons (by repeat (first | exact find_head | apply find_tail)) (by first  | rfl) | exact keeps_self | apply keeps_mv)) trivial ?_)
        clear hl hh a w; intro vc Fc a w hR hl hh
        obtain ⟨rfl, rfl⟩ := hR
        simp only [List.cons_append, List.nil_append] at hh
        refine wl (wl_val hl rfl trivial (r_assign hl rfl) ?_)
        clear hl a; intro a hl
        refine w_nil ?_
        have hl2 := hl.add (t := 0) (hl.add (t := 6) (hl.add (t := 7) (hl.nil) rfl) rfl) rfl; clear hl; have hl := hl2; clear hl2
        refine then_normal ?_
        refine wp_block ?_
        refine c_seq ?_
        refine c_region ?_
        refine wl (wl_val hl rfl trivial (r_move hl rfl) ?_)
        clear hl a; intro a hl
        refine wl (wl_val hl rfl trivial (r_move hl rfl) ?_)
        clear hl a; intro a hl
        refine wl (wl_val hl rfl trivial (r_nilCheck hl rfl) ?_)
        clear hl a; intro a hl
        refine wl (wl_val hl rfl trivial (r_field hl rfl fld87_4) ?_)
        clear hl a; intro a hl
        refine wl (w_load hl hh rfl trivial one27 rfl (by repeat (first | exact find_head | apply find_tail)) (by exact cell_boot _) ?_)
        clear hl a; intro a hl
        refine wl (wl_val hl rfl trivial (r_leq hl rfl rfl) ?_)
        clear hl a; intro a hl
        refine wl (wl_val hl rfl trivial (r_move hl rfl) ?_)
        clear hl a; intro a hl
        refine sl_split (t := 35) hl rfl ?_ ?_
        · intro hg1; clear hl; intro hl
          try simp only [decide_eq_true_eq, decide_eq_false_iff_not, Bool.not_eq_true', Bool.not_eq_false', Bool.not_eq_true, Bool.not_eq_false, Bool.and_eq_true, Bool.or_eq_true, Bool.and_eq_false_iff, Bool.or_eq_false_iff, Bool.not_not, ne_eq, Int.not_lt, Int.not_le, Decidable.not_not, beq_iff_eq, bne_iff_ne] at hg1
          refine wl (wl_skip hl rfl ⟨_, _, rfl, rfl, rfl⟩ ?_)
          clear hl a; intro a hl
          refine wl (wl_skip hl rfl ⟨_, _, rfl, rfl, rfl⟩ ?_)
          clear hl a; intro a hl
          refine wl (wl_skip hl rfl ⟨_, _, rfl, rfl, rfl⟩ ?_)
          clear hl a; intro a hl
          refine wl (wl_skip hl rfl ⟨_, _, rfl, rfl, rfl⟩ ?_)
          clear hl a; intro a hl
          refine wl (wl_skip hl rfl ⟨_, _, rfl, rfl, rfl⟩ ?_)
          clear hl a; intro a hl
          refine wl (wl_skip hl rfl ⟨_, _, rfl, rfl, rfl⟩ ?_)
          clear hl a; intro a hl
          refine wl (wl_val hl rfl trivial (r_pickT hl rfl rfl) ?_)
          clear hl a; intro a hl
          refine wl (wl_val hl rfl trivial (r_assign hl rfl) ?_)
          clear hl a; intro a hl
          refine w_nil ?_
          have hl2 := hl.add (t := 6) (hl.add (t := 7) (hl.add (t := 28) (hl.nil) rfl) rfl) rfl; clear hl; have hl := hl2; clear hl2
          refine then_normal ?_
          refine c_condT hl rfl ?_
          refine c_seq ?_
          refine c_region ?_
          refine wl (wl_val hl rfl trivial (r_assign hl rfl) ?_)
          clear hl a; intro a hl
          refine w_nil ?_
          have hl2 := hl.add (t := 4) (hl.nil) rfl; clear hl; have hl := hl2; clear hl2
          refine then_normal ?_
          refine wp_ret ?_
          refine blk_ret ?_
          refine then_ret ?_
          refine f_ret1 (F' := [(b, C (encL (f)) 87)]) hl hh rfl rfl (by repeat (first | exact keeps_nil | apply keeps_cons (by repeat (first | exact find_head | apply find_tail)) (by first  | rfl) | exact keeps_self | apply keeps_mv)) ?_
          first | (exfalso; omega) | exact ⟨congrArg (Value.int .u8) (by unfold judgeF; repeat (first | rw [if_pos (by omega)] | rw [if_neg (by omega)])), rfl⟩
        · intro hg1; clear hl; intro hl
          try simp only [decide_eq_true_eq, decide_eq_false_iff_not, Bool.not_eq_true', Bool.not_eq_false', Bool.not_eq_true, Bool.not_eq_false, Bool.and_eq_true, Bool.or_eq_true, Bool.and_eq_false_iff, Bool.or_eq_false_iff, Bool.not_not, ne_eq, Int.not_lt, Int.not_le, Decidable.not_not, beq_iff_eq, bne_iff_ne] at hg1
          refine wl (wl_val hl rfl ⟨_, _, rfl, rfl, rfl⟩ (r_move hl rfl) ?_)
          clear hl a; intro a hl
          refine wl (wl_val hl rfl ⟨_, _, rfl, rfl, rfl⟩ (r_move hl rfl) ?_)
          clear hl a; intro a hl
          refine wl (wl_val hl rfl ⟨_, _, rfl, rfl, rfl⟩ (r_nilCheck hl rfl) ?_)
          clear hl a; intro a hl
          refine wl (wl_val hl rfl ⟨_, _, rfl, rfl, rfl⟩ (r_field hl rfl fld83_0) ?_)
          clear hl a; intro a hl
          refine wl (w_load hl hh rfl ⟨_, _, rfl, rfl, rfl⟩ one27 rfl (by repeat (first | exact find_head | apply find_tail)) (by exact cell_gen _ _ (by omega)) ?_)
          clear hl a; intro a hl
          refine wl (wl_val hl rfl ⟨_, _, rfl, rfl, rfl⟩ (r_gtr hl rfl rfl) ?_)
          clear hl a; intro a hl
          refine wl (wl_val hl rfl trivial (r_pickF hl rfl rfl) ?_)
          clear hl a; intro a hl
          refine wl (wl_val hl rfl trivial (r_assign hl rfl) ?_)
          clear hl a; intro a hl
          refine w_nil ?_
          have hl2 := hl.add (t := 6) (hl.add (t := 7) (hl.add (t := 28) (hl.nil) rfl) rfl) rfl; clear hl; have hl := hl2; clear hl2
          refine then_normal ?_
          refine c_cond hl rfl ?_ ?_
          · intro hc4
            try simp only [decide_eq_true_eq, decide_eq_false_iff_not, Bool.not_eq_true', Bool.not_eq_false', Bool.not_eq_true, Bool.not_eq_false, Bool.and_eq_true, Bool.or_eq_true, Bool.and_eq_false_iff, Bool.or_eq_false_iff, Bool.not_not, ne_eq, Int.not_lt, Int.not_le, Decidable.not_not, beq_iff_eq, bne_iff_ne] at hc4
            refine c_seq ?_
            refine c_region ?_
            refine wl (wl_val hl rfl trivial (r_assign hl rfl) ?_)
            clear hl a; intro a hl
            refine w_nil ?_
            have hl2 := hl.add (t := 4) (hl.nil) rfl; clear hl; have hl := hl2; clear hl2
            refine then_normal ?_
            refine wp_ret ?_
            refine blk_ret ?_
            refine then_ret ?_
            refine f_ret1 (F' := [(b, C (encL (f)) 87)]) hl hh rfl rfl (by repeat (first | exact keeps_nil | apply keeps_cons (by repeat (first | exact find_head | apply find_tail)) (by first  | rfl) | exact keeps_self | apply keeps_mv)) ?_
            first | (exfalso; omega) | exact ⟨congrArg (Value.int .u8) (by unfold judgeF; repeat (first | rw [if_pos (by omega)] | rw [if_neg (by omega)])), rfl⟩
          · intro hc4
            try simp only [decide_eq_true_eq, decide_eq_false_iff_not, Bool.not_eq_true', Bool.not_eq_false', Bool.not_eq_true, Bool.not_eq_false, Bool.and_eq_true, Bool.or_eq_true, Bool.and_eq_false_iff, Bool.or_eq_false_iff, Bool.not_not, ne_eq, Int.not_lt, Int.not_le, Decidable.not_not, beq_iff_eq, bne_iff_ne] at hc4
            refine c_seq ?_
            refine c_region ?_
            refine wl (wl_val hl rfl trivial (r_move hl rfl) ?_)
            clear hl a; intro a hl
            refine wl (wl_val hl rfl trivial (r_move hl rfl) ?_)
            clear hl a; intro a hl
            refine wl (wl_val hl rfl trivial (r_nilCheck hl rfl) ?_)
            clear hl a; intro a hl
            refine wl (wl_val hl rfl trivial (r_field hl rfl fld83_0) ?_)
            clear hl a; intro a hl
            refine wl (w_load hl hh rfl trivial one27 rfl (by repeat (first | exact find_head | apply find_tail)) (by exact cell_gen _ _ (by omega)) ?_)
            clear hl a; intro a hl
            refine wl (wl_val hl rfl trivial (r_lss hl rfl rfl) ?_)
            clear hl a; intro a hl
            refine wl (wl_val hl rfl trivial (r_move hl rfl) ?_)
            clear hl a; intro a hl
            refine sl_split (t := 50) hl rfl ?_ ?_
            · intro hg2; clear hl; intro hl
              try simp only [decide_eq_true_eq, decide_eq_false_iff_not, Bool.not_eq_true', Bool.not_eq_false', Bool.not_eq_true, Bool.not_eq_false, Bool.and_eq_true, Bool.or_eq_true, Bool.and_eq_false_iff, Bool.or_eq_false_iff, Bool.not_not, ne_eq, Int.not_lt, Int.not_le, Decidable.not_not, beq_iff_eq, bne_iff_ne] at hg2
              refine wl (wl_skip hl rfl ⟨_, _, rfl, rfl, rfl⟩ ?_)
              clear hl a; intro a hl
              refine wl (wl_skip hl rfl ⟨_, _, rfl, rfl, rfl⟩ ?_)
              clear hl a; intro a hl
              refine wl (wl_skip hl rfl ⟨_, _, rfl, rfl, rfl⟩ ?_)
              clear hl a; intro a hl
              refine wl (wl_skip hl rfl ⟨_, _, rfl, rfl, rfl⟩ ?_)
              clear hl a; intro a hl
              refine wl (wl_skip hl rfl ⟨_, _, rfl, rfl, rfl⟩ ?_)
              clear hl a; intro a hl
              refine wl (wl_val hl rfl trivial (r_pickT hl rfl rfl) ?_)
              clear hl a; intro a hl
              refine wl (wl_val hl rfl trivial (r_assign hl rfl) ?_)
              clear hl a; intro a hl
              refine w_nil ?_
              have hl2 := hl.add (t := 43) (hl.nil) rfl; clear hl; have hl := hl2; clear hl2
              refine then_normal ?_
              refine c_condT hl rfl ?_
              refine c_seq ?_
              refine c_region ?_
              refine wl (wl_val hl rfl trivial (r_assign hl rfl) ?_)
              clear hl a; intro a hl
              refine w_nil ?_
              have hl2 := hl.add (t := 4) (hl.nil) rfl; clear hl; have hl := hl2; clear hl2
              refine then_normal ?_
              refine wp_ret ?_
              refine blk_ret ?_
              refine then_ret ?_
              refine f_ret1 (F' := [(b, C (encL (f)) 87)]) hl hh rfl rfl (by repeat (first | exact keeps_nil | apply keeps_cons (by repeat (first | exact find_head | apply find_tail)) (by first  | rfl) | exact keeps_self | apply keeps_mv)) ?_
              first | (exfalso; omega) | exact ⟨congrArg (Value.int .u8) (by unfold judgeF; repeat (first | rw [if_pos (by omega)] | rw [if_neg (by omega)])), rfl⟩
            · intro hg2; clear hl; intro hl
              try simp only [decide_eq_true_eq, decide_eq_false_iff_not, Bool.not_eq_true', Bool.not_eq_false', Bool.not_eq_true, Bool.not_eq_false, Bool.and_eq_true, Bool.or_eq_true, Bool.and_eq_false_iff, Bool.or_eq_false_iff, Bool.not_not, ne_eq, Int.not_lt, Int.not_le, Decidable.not_not, beq_iff_eq, bne_iff_ne] at hg2
              refine wl (wl_val hl rfl ⟨_, _, rfl, rfl, rfl⟩ (r_move hl rfl) ?_)
              clear hl a; intro a hl
              refine wl (wl_val hl rfl ⟨_, _, rfl, rfl, rfl⟩ (r_nilCheck hl rfl) ?_)
              clear hl a; intro a hl
              refine wl (wl_val hl rfl ⟨_, _, rfl, rfl, rfl⟩ (r_field hl rfl fld83_3) ?_)
              clear hl a; intro a hl
              refine wl (w_load hl hh rfl ⟨_, _, rfl, rfl, rfl⟩ one81 rfl (by repeat (first | exact find_head | apply find_tail)) (by exact cell_role _ _ (by omega)) ?_)
              clear hl a; intro a hl
              refine wl (wl_val hl rfl ⟨_, _, rfl, rfl, rfl⟩ (r_neq hl rfl rfl) ?_)
              clear hl a; intro a hl
              refine wl (wl_val hl rfl trivial (r_pickF hl rfl rfl) ?_)
              clear hl a; intro a hl
              refine wl (wl_val hl rfl trivial (r_assign hl rfl) ?_)
              clear hl a; intro a hl
              refine w_nil ?_
              have hl2 := hl.add (t := 43) (hl.nil) rfl; clear hl; have hl := hl2; clear hl2
              refine then_normal ?_
              refine c_cond hl rfl ?_ ?_
              · intro hc5
                try simp only [decide_eq_true_eq, decide_eq_false_iff_not, Bool.not_eq_true', Bool.not_eq_false', Bool.not_eq_true, Bool.not_eq_false, Bool.and_eq_true, Bool.or_eq_true, Bool.and_eq_false_iff, Bool.or_eq_false_iff, Bool.not_not, ne_eq, Int.not_lt, Int.not_le, Decidable.not_not, beq_iff_eq, bne_iff_ne] at hc5
                refine c_seq ?_
                refine c_region ?_
                refine wl (wl_val hl rfl trivial (r_assign hl rfl) ?_)
                clear hl a; intro a hl
                refine w_nil ?_
                have hl2 := hl.add (t := 4) (hl.nil) rfl; clear hl; have hl := hl2; clear hl2
                refine then_normal ?_
                refine wp_ret ?_
                refine blk_ret ?_
                refine then_ret ?_
                refine f_ret1 (F' := [(b, C (encL (f)) 87)]) hl hh rfl rfl (by repeat (first | exact keeps_nil | apply keeps_cons (by repeat (first | exact find_head | apply find_tail)) (by first  | rfl) | exact keeps_self | apply keeps_mv)) ?_
                first | (exfalso; omega) | exact ⟨congrArg (Value.int .u8) (by unfold judgeF; repeat (first | rw [if_pos (by omega)] | rw [if_neg (by omega)])), rfl⟩
              · intro hc5
                try simp only [decide_eq_true_eq, decide_eq_false_iff_not, Bool.not_eq_true', Bool.not_eq_false', Bool.not_eq_true, Bool.not_eq_false, Bool.and_eq_true, Bool.or_eq_true, Bool.and_eq_false_iff, Bool.or_eq_false_iff, Bool.not_not, ne_eq, Int.not_lt, Int.not_le, Decidable.not_not, beq_iff_eq, bne_iff_ne] at hc5
                refine wp_skip ?_
                refine blk_normal ?_
                refine then_normal ?_
                refine c_seq ?_
                refine c_region ?_
                refine wl (wl_val hl rfl trivial (r_assign hl rfl) ?_)
                clear hl a; intro a hl
                refine w_nil ?_
                have hl2 := hl.add (t := 4) (hl.nil) rfl; clear hl; have hl := hl2; clear hl2
                refine then_normal ?_
                refine wp_ret ?_
                refine f_ret1 (F' := [(b, C (encL (f)) 87)]) hl hh rfl rfl (by repeat (first | exact keeps_nil | apply keeps_cons (by repeat (first | exact find_head | apply find_tail)) (by first  | rfl) | exact keeps_self | apply keeps_mv)) ?_
                first | (exfalso; omega) | exact ⟨congrArg (Value.int .u8) (by unfold judgeF; repeat (first | rw [if_pos (by omega)] | rw [if_neg (by omega)])), rfl⟩
      · intro hc3
        try simp only [decide_eq_true_eq, decide_eq_false_iff_not, Bool.not_eq_true', Bool.not_eq_false', Bool.not_eq_true, Bool.not_eq_false, Bool.and_eq_true, Bool.or_eq_true, Bool.and_eq_false_iff, Bool.or_eq_false_iff, Bool.not_not, ne_eq, Int.not_lt, Int.not_le, Decidable.not_not, beq_iff_eq, bne_iff_ne] at hc3
        refine c_seq ?_
        refine c_region ?_
        refine wl (wl_val hl rfl trivial (r_assign hl rfl) ?_)
        clear hl a; intro a hl
        refine w_nil ?_
        have hl2 := hl.add (t := 4) (hl.nil) rfl; clear hl; have hl := hl2; clear hl2
        refine then_normal ?_
        refine wp_ret ?_
        refine blk_ret ?_
        refine then_ret ?_
        refine f_ret1 (F' := [(b, C (encL (f)) 87)]) hl hh rfl rfl (by repeat (first | exact keeps_nil | apply keeps_cons (by repeat (first | exact find_head | apply find_tail)) (by first  | rfl) | exact keeps_self | apply keeps_mv)) ?_
        first | (exfalso; omega) | exact ⟨congrArg (Value.int .u8) (by unfold judgeF; repeat (first | rw [if_pos (by omega)] | rw [if_neg (by omega)])), rfl⟩
    · intro hc1
      try simp only [decide_eq_true_eq, decide_eq_false_iff_not, Bool.not_eq_true', Bool.not_eq_false', Bool.not_eq_true, Bool.not_eq_false, Bool.and_eq_true, Bool.or_eq_true, Bool.and_eq_false_iff, Bool.or_eq_false_iff, Bool.not_not, ne_eq, Int.not_lt, Int.not_le, Decidable.not_not, beq_iff_eq, bne_iff_ne] at hc1
      refine c_seq ?_
      refine c_region ?_
      refine wl (wl_val hl rfl trivial (r_eql hl rfl rfl) ?_)
      clear hl a; intro a hl
      refine wl (wl_val hl rfl trivial (r_assign hl rfl) ?_)
      clear hl a; intro a hl
      refine w_nil ?_
      have hl2 := hl.add (t := 0) (hl.add (t := 1) (hl.add (t := 6) (hl.add (t := 21) (hl.add (t := 22) (hl.nil) rfl) rfl) rfl) rfl) rfl; clear hl; have hl := hl2; clear hl2
      refine then_normal ?_
      refine c_cond hl rfl ?_ ?_
      · intro hc2
        try simp only [decide_eq_true_eq, decide_eq_false_iff_not, Bool.not_eq_true', Bool.not_eq_false', Bool.not_eq_true, Bool.not_eq_false, Bool.and_eq_true, Bool.or_eq_true, Bool.and_eq_false_iff, Bool.or_eq_false_iff, Bool.not_not, ne_eq, Int.not_lt, Int.not_le, Decidable.not_not, beq_iff_eq, bne_iff_ne] at hc2
        refine wp_skip ?_
        refine then_normal ?_
        refine c_cond hl rfl ?_ ?_
        · intro hc3
          try simp only [decide_eq_true_eq, decide_eq_false_iff_not, Bool.not_eq_true', Bool.not_eq_false', Bool.not_eq_true, Bool.not_eq_false, Bool.and_eq_true, Bool.or_eq_true, Bool.and_eq_false_iff, Bool.or_eq_false_iff, Bool.not_not, ne_eq, Int.not_lt, Int.not_le, Decidable.not_not, beq_iff_eq, bne_iff_ne] at hc3
          refine wp_skip ?_
          refine blk_normal ?_
          refine then_normal ?_
          refine c_seq ?_
          refine c_seq ?_
          refine c_region ?_
          refine wl (wl_val hl rfl trivial (r_move hl rfl) ?_)
          clear hl a; intro a hl
          refine wl (w_call hl hh rfl trivial rfl cal31 rfl (refGen_spec _) (by repeat (first | exact keeps_nil | apply keeps_cons (by repeat (first | exact find_head | apply find_tail)) (by first  | rfl) | exact keeps_self | apply keeps_mv)) trivial ?_)
          clear hl hh a w; intro vc Fc a w hR hl hh
          obtain ⟨rfl, rfl⟩ := hR
          simp only [List.cons_append, List.nil_append] at hh
          refine wl (wl_val hl rfl trivial (r_assign hl rfl) ?_)
          clear hl a; intro a hl
          refine w_nil ?_
          have hl2 := hl.add (t := 0) (hl.add (t := 6) (hl.add (t := 7) (hl.nil) rfl) rfl) rfl; clear hl; have hl := hl2; clear hl2
          refine then_normal ?_
          refine wp_block ?_
          refine c_seq ?_
          refine c_region ?_
          refine wl (wl_val hl rfl trivial (r_move hl rfl) ?_)
          clear hl a; intro a hl
          refine wl (wl_val hl rfl trivial (r_move hl rfl) ?_)
          clear hl a; intro a hl
          refine wl (wl_val hl rfl trivial (r_nilCheck hl rfl) ?_)
          clear hl a; intro a hl
          refine wl (wl_val hl rfl trivial (r_field hl rfl fld87_4) ?_)
          clear hl a; intro a hl
          refine wl (w_load hl hh rfl trivial one27 rfl (by repeat (first | exact find_head | apply find_tail)) (by exact cell_boot _) ?_)
          clear hl a; intro a hl
          refine wl (wl_val hl rfl trivial (r_leq hl rfl rfl) ?_)
          clear hl a; intro a hl
          refine wl (wl_val hl rfl trivial (r_move hl rfl) ?_)
          clear hl a; intro a hl
          refine sl_split (t := 35) hl rfl ?_ ?_
          · intro hg3; clear hl; intro hl
            try simp only [decide_eq_true_eq, decide_eq_false_iff_not, Bool.not_eq_true', Bool.not_eq_false', Bool.not_eq_true, Bool.not_eq_false, Bool.and_eq_true, Bool.or_eq_true, Bool.and_eq_false_iff, Bool.or_eq_false_iff, Bool.not_not, ne_eq, Int.not_lt, Int.not_le, Decidable.not_not, beq_iff_eq, bne_iff_ne] at hg3
            refine wl (wl_skip hl rfl ⟨_, _, rfl, rfl, rfl⟩ ?_)
            clear hl a; intro a hl
            refine wl (wl_skip hl rfl ⟨_, _, rfl, rfl, rfl⟩ ?_)
            clear hl a; intro a hl
            refine wl (wl_skip hl rfl ⟨_, _, rfl, rfl, rfl⟩ ?_)
            clear hl a; intro a hl
            refine wl (wl_skip hl rfl ⟨_, _, rfl, rfl, rfl⟩ ?_)
            clear hl a; intro a hl
            refine wl (wl_skip hl rfl ⟨_, _, rfl, rfl, rfl⟩ ?_)
            clear hl a; intro a hl
            refine wl (wl_skip hl rfl ⟨_, _, rfl, rfl, rfl⟩ ?_)
            clear hl a; intro a hl
            refine wl (wl_val hl rfl trivial (r_pickT hl rfl rfl) ?_)
            clear hl a; intro a hl
            refine wl (wl_val hl rfl trivial (r_assign hl rfl) ?_)
            clear hl a; intro a hl
            refine w_nil ?_
            have hl2 := hl.add (t := 6) (hl.add (t := 7) (hl.add (t := 28) (hl.nil) rfl) rfl) rfl; clear hl; have hl := hl2; clear hl2
            refine then_normal ?_
            refine c_condT hl rfl ?_
            refine c_seq ?_
            refine c_region ?_
            refine wl (wl_val hl rfl trivial (r_assign hl rfl) ?_)
            clear hl a; intro a hl
            refine w_nil ?_
            have hl2 := hl.add (t := 4) (hl.nil) rfl; clear hl; have hl := hl2; clear hl2
            refine then_normal ?_
            refine wp_ret ?_
            refine blk_ret ?_
            refine then_ret ?_
            refine f_ret1 (F' := [(b, C (encL (f)) 87)]) hl hh rfl rfl (by repeat (first | exact keeps_nil | apply keeps_cons (by repeat (first | exact find_head | apply find_tail)) (by first  | rfl) | exact keeps_self | apply keeps_mv)) ?_
            first | (exfalso; omega) | exact ⟨congrArg (Value.int .u8) (by unfold judgeF; repeat (first | rw [if_pos (by omega)] | rw [if_neg (by omega)])), rfl⟩
          · intro hg3; clear hl; intro hl
            try simp only [decide_eq_true_eq, decide_eq_false_iff_not, Bool.not_eq_true', Bool.not_eq_false', Bool.not_eq_true, Bool.not_eq_false, Bool.and_eq_true, Bool.or_eq_true, Bool.and_eq_false_iff, Bool.or_eq_false_iff, Bool.not_not, ne_eq, Int.not_lt, Int.not_le, Decidable.not_not, beq_iff_eq, bne_iff_ne] at hg3
            refine wl (wl_val hl rfl ⟨_, _, rfl, rfl, rfl⟩ (r_move hl rfl) ?_)
            clear hl a; intro a hl
            refine wl (wl_val hl rfl ⟨_, _, rfl, rfl, rfl⟩ (r_move hl rfl) ?_)
            clear hl a; intro a hl
            refine wl (wl_val hl rfl ⟨_, _, rfl, rfl, rfl⟩ (r_nilCheck hl rfl) ?_)
            clear hl a; intro a hl
            refine wl (wl_val hl rfl ⟨_, _, rfl, rfl, rfl⟩ (r_field hl rfl fld83_0) ?_)
            clear hl a; intro a hl
            refine wl (w_load hl hh rfl ⟨_, _, rfl, rfl, rfl⟩ one27 rfl (by repeat (first | exact find_head | apply find_tail)) (by exact cell_gen _ _ (by omega)) ?_)
            clear hl a; intro a hl
            refine wl (wl_val hl rfl ⟨_, _, rfl, rfl, rfl⟩ (r_gtr hl rfl rfl) ?_)
            clear hl a; intro a hl
            refine wl (wl_val hl rfl trivial (r_pickF hl rfl rfl) ?_)
            clear hl a; intro a hl
            refine wl (wl_val hl rfl trivial (r_assign hl rfl) ?_)
            clear hl a; intro a hl
            refine w_nil ?_
            have hl2 := hl.add (t := 6) (hl.add (t := 7) (hl.add (t := 28) (hl.nil) rfl) rfl) rfl; clear hl; have hl := hl2; clear hl2
            refine then_normal ?_
            refine c_cond hl rfl ?_ ?_
            · intro hc4
              try simp only [decide_eq_true_eq, decide_eq_false_iff_not, Bool.not_eq_true', Bool.not_eq_false', Bool.not_eq_true, Bool.not_eq_false, Bool.and_eq_true, Bool.or_eq_true, Bool.and_eq_false_iff, Bool.or_eq_false_iff, Bool.not_not, ne_eq, Int.not_lt, Int.not_le, Decidable.not_not, beq_iff_eq, bne_iff_ne] at hc4
              refine c_seq ?_
              refine c_region ?_
              refine wl (wl_val hl rfl trivial (r_assign hl rfl) ?_)
              clear hl a; intro a hl
              refine w_nil ?_
              have hl2 := hl.add (t := 4) (hl.nil) rfl; clear hl; have hl := hl2; clear hl2
              refine then_normal ?_
              refine wp_ret ?_
              refine blk_ret ?_
              refine then_ret ?_
              refine f_ret1 (F' := [(b, C (encL (f)) 87)]) hl hh rfl rfl (by repeat (first | exact keeps_nil | apply keeps_cons (by repeat (first | exact find_head | apply find_tail)) (by first  | rfl) | exact keeps_self | apply keeps_mv)) ?_
              first | (exfalso; omega) | exact ⟨congrArg (Value.int .u8) (by unfold judgeF; repeat (first | rw [if_pos (by omega)] | rw [if_neg (by omega)])), rfl⟩
            · intro hc4
              try simp only [decide_eq_true_eq, decide_eq_false_iff_not, Bool.not_eq_true', Bool.not_eq_false', Bool.not_eq_true, Bool.not_eq_false, Bool.and_eq_true, Bool.or_eq_true, Bool.and_eq_false_iff, Bool.or_eq_false_iff, Bool.not_not, ne_eq, Int.not_lt, Int.not_le, Decidable.not_not, beq_iff_eq, bne_iff_ne] at hc4
              refine c_seq ?_
              refine c_region ?_
              refine wl (wl_val hl rfl trivial (r_move hl rfl) ?_)
              clear hl a; intro a hl
              refine wl (wl_val hl rfl trivial (r_move hl rfl) ?_)
              clear hl a; intro a hl
              refine wl (wl_val hl rfl trivial (r_nilCheck hl rfl) ?_)
              clear hl a; intro a hl
              refine wl (wl_val hl rfl trivial (r_field hl rfl fld83_0) ?_)
              clear hl a; intro a hl
              refine wl (w_load hl hh rfl trivial one27 rfl (by repeat (first | exact find_head | apply find_tail)) (by exact cell_gen _ _ (by omega)) ?_)
              clear hl a; intro a hl
              refine wl (wl_val hl rfl trivial (r_lss hl rfl rfl) ?_)
              clear hl a; intro a hl
              refine wl (wl_val hl rfl trivial (r_move hl rfl) ?_)
              clear hl a; intro a hl
              refine sl_split (t := 50) hl rfl ?_ ?_
              · intro hg4; clear hl; intro hl
                try simp only [decide_eq_true_eq, decide_eq_false_iff_not, Bool.not_eq_true', Bool.not_eq_false', Bool.not_eq_true, Bool.not_eq_false, Bool.and_eq_true, Bool.or_eq_true, Bool.and_eq_false_iff, Bool.or_eq_false_iff, Bool.not_not, ne_eq, Int.not_lt, Int.not_le, Decidable.not_not, beq_iff_eq, bne_iff_ne] at hg4
                refine wl (wl_skip hl rfl ⟨_, _, rfl, rfl, rfl⟩ ?_)
                clear hl a; intro a hl
                refine wl (wl_skip hl rfl ⟨_, _, rfl, rfl, rfl⟩ ?_)
                clear hl a; intro a hl
                refine wl (wl_skip hl rfl ⟨_, _, rfl, rfl, rfl⟩ ?_)
                clear hl a; intro a hl
                refine wl (wl_skip hl rfl ⟨_, _, rfl, rfl, rfl⟩ ?_)
                clear hl a; intro a hl
                refine wl (wl_skip hl rfl ⟨_, _, rfl, rfl, rfl⟩ ?_)
                clear hl a; intro a hl
                refine wl (wl_val hl rfl trivial (r_pickT hl rfl rfl) ?_)
                clear hl a; intro a hl
                refine wl (wl_val hl rfl trivial (r_assign hl rfl) ?_)
                clear hl a; intro a hl
                refine w_nil ?_
                have hl2 := hl.add (t := 43) (hl.nil) rfl; clear hl; have hl := hl2; clear hl2
                refine then_normal ?_
                refine c_condT hl rfl ?_
                refine c_seq ?_
                refine c_region ?_
                refine wl (wl_val hl rfl trivial (r_assign hl rfl) ?_)
                clear hl a; intro a hl
                refine w_nil ?_
                have hl2 := hl.add (t := 4) (hl.nil) rfl; clear hl; have hl := hl2; clear hl2
                refine then_normal ?_
                refine wp_ret ?_
                refine blk_ret ?_
                refine then_ret ?_
                refine f_ret1 (F' := [(b, C (encL (f)) 87)]) hl hh rfl rfl (by repeat (first | exact keeps_nil | apply keeps_cons (by repeat (first | exact find_head | apply find_tail)) (by first  | rfl) | exact keeps_self | apply keeps_mv)) ?_
                first | (exfalso; omega) | exact ⟨congrArg (Value.int .u8) (by unfold judgeF; repeat (first | rw [if_pos (by omega)] | rw [if_neg (by omega)])), rfl⟩
              · intro hg4; clear hl; intro hl
                try simp only [decide_eq_true_eq, decide_eq_false_iff_not, Bool.not_eq_true', Bool.not_eq_false', Bool.not_eq_true, Bool.not_eq_false, Bool.and_eq_true, Bool.or_eq_true, Bool.and_eq_false_iff, Bool.or_eq_false_iff, Bool.not_not, ne_eq, Int.not_lt, Int.not_le, Decidable.not_not, beq_iff_eq, bne_iff_ne] at hg4
                refine wl (wl_val hl rfl ⟨_, _, rfl, rfl, rfl⟩ (r_move hl rfl) ?_)
                clear hl a; intro a hl
                refine wl (wl_val hl rfl ⟨_, _, rfl, rfl, rfl⟩ (r_nilCheck hl rfl) ?_)
                clear hl a; intro a hl
                refine wl (wl_val hl rfl ⟨_, _, rfl, rfl, rfl⟩ (r_field hl rfl fld83_3) ?_)
                clear hl a; intro a hl
                refine wl (w_load hl hh rfl ⟨_, _, rfl, rfl, rfl⟩ one81 rfl (by repeat (first | exact find_head | apply find_tail)) (by exact cell_role _ _ (by omega)) ?_)
                clear hl a; intro a hl
                refine wl (wl_val hl rfl ⟨_, _, rfl, rfl, rfl⟩ (r_neq hl rfl rfl) ?_)
                clear hl a; intro a hl
                refine wl (wl_val hl rfl trivial (r_pickF hl rfl rfl) ?_)
                clear hl a; intro a hl
                refine wl (wl_val hl rfl trivial (r_assign hl rfl) ?_)
                clear hl a; intro a hl
                refine w_nil ?_
                have hl2 := hl.add (t := 43) (hl.nil) rfl; clear hl; have hl := hl2; clear hl2
                refine then_normal ?_
                refine c_cond hl rfl ?_ ?_
                · intro hc5
                  try simp only [decide_eq_true_eq, decide_eq_false_iff_not, Bool.not_eq_true', Bool.not_eq_false', Bool.not_eq_true, Bool.not_eq_false, Bool.and_eq_true, Bool.or_eq_true, Bool.and_eq_false_iff, Bool.or_eq_false_iff, Bool.not_not, ne_eq, Int.not_lt, Int.not_le, Decidable.not_not, beq_iff_eq, bne_iff_ne] at hc5
                  refine c_seq ?_
                  refine c_region ?_
                  refine wl (wl_val hl rfl trivial (r_assign hl rfl) ?_)
                  clear hl a; intro a hl
                  refine w_nil ?_
                  have hl2 := hl.add (t := 4) (hl.nil) rfl; clear hl; have hl := hl2; clear hl2
                  refine then_normal ?_
                  refine wp_ret ?_
                  refine blk_ret ?_
                  refine then_ret ?_
                  refine f_ret1 (F' := [(b, C (encL (f)) 87)]) hl hh rfl rfl (by repeat (first | exact keeps_nil | apply keeps_cons (by repeat (first | exact find_head | apply find_tail)) (by first  | rfl) | exact keeps_self | apply keeps_mv)) ?_
                  first | (exfalso; omega) | exact ⟨congrArg (Value.int .u8) (by unfold judgeF; repeat (first | rw [if_pos (by omega)] | rw [if_neg (by omega)])), rfl⟩
                · intro hc5
                  try simp only [decide_eq_true_eq, decide_eq_false_iff_not, Bool.not_eq_true', Bool.not_eq_false', Bool.not_eq_true, Bool.not_eq_false, Bool.and_eq_true, Bool.or_eq_true, Bool.and_eq_false_iff, Bool.or_eq_false_iff, Bool.not_not, ne_eq, Int.not_lt, Int.not_le, Decidable.not_not, beq_iff_eq, bne_iff_ne] at hc5
                  refine wp_skip ?_
                  refine blk_normal ?_
                  refine then_normal ?_
                  refine c_seq ?_
                  refine c_region ?_
                  refine wl (wl_val hl rfl trivial (r_assign hl rfl) ?_)
                  clear hl a; intro a hl
                  refine w_nil ?_
                  have hl2 := hl.add (t := 4) (hl.nil) rfl; clear hl; have hl := hl2; clear hl2
                  refine then_normal ?_
                  refine wp_ret ?_
                  refine f_ret1 (F' := [(b, C (encL (f)) 87)]) hl hh rfl rfl (by repeat (first | exact keeps_nil | apply keeps_cons (by repeat (first | exact find_head | apply find_tail)) (by first  | rfl) | exact keeps_self | apply keeps_mv)) ?_
                  first | (exfalso; omega) | exact ⟨congrArg (Value.int .u8) (by unfold judgeF; repeat (first | rw [if_pos (by omega)] | rw [if_neg (by omega)])), rfl⟩
        · intro hc3
          try simp only [decide_eq_true_eq, decide_eq_false_iff_not, Bool.not_eq_true', Bool.not_eq_false', Bool.not_eq_true, Bool.not_eq_false, Bool.and_eq_true, Bool.or_eq_true, Bool.and_eq_false_iff, Bool.or_eq_false_iff, Bool.not_not, ne_eq, Int.not_lt, Int.not_le, Decidable.not_not, beq_iff_eq, bne_iff_ne] at hc3
          refine c_seq ?_
          refine c_region ?_
          refine wl (wl_val hl rfl trivial (r_assign hl rfl) ?_)
          clear hl a; intro a hl
          refine w_nil ?_
          have hl2 := hl.add (t := 4) (hl.nil) rfl; clear hl; have hl := hl2; clear hl2
          refine then_normal ?_
          refine wp_ret ?_
          refine blk_ret ?_
          refine then_ret ?_
          refine f_ret1 (F' := [(b, C (encL (f)) 87)]) hl hh rfl rfl (by repeat (first | exact keeps_nil | apply keeps_cons (by repeat (first | exact find_head | apply find_tail)) (by first  | rfl) | exact keeps_self | apply keeps_mv)) ?_
          first | (exfalso; omega) | exact ⟨congrArg (Value.int .u8) (by unfold judgeF; repeat (first | rw [if_pos (by omega)] | rw [if_neg (by omega)])), rfl⟩
      · intro hc2
        try simp only [decide_eq_true_eq, decide_eq_false_iff_not, Bool.not_eq_true', Bool.not_eq_false', Bool.not_eq_true, Bool.not_eq_false, Bool.and_eq_true, Bool.or_eq_true, Bool.and_eq_false_iff, Bool.or_eq_false_iff, Bool.not_not, ne_eq, Int.not_lt, Int.not_le, Decidable.not_not, beq_iff_eq, bne_iff_ne] at hc2
        refine c_region ?_
        refine wl (wl_val hl rfl trivial (r_eql hl rfl rfl) ?_)
        clear hl a; intro a hl
        refine wl (wl_val hl rfl trivial (r_assign hl rfl) ?_)
        clear hl a; intro a hl
        refine w_nil ?_
        have hl2 := hl.add (t := 0) (hl.add (t := 1) (hl.add (t := 6) (hl.add (t := 22) (hl.nil) rfl) rfl) rfl) rfl; clear hl; have hl := hl2; clear hl2
        refine then_normal ?_
        refine c_cond hl rfl ?_ ?_
        · intro hc3
          try simp only [decide_eq_true_eq, decide_eq_false_iff_not, Bool.not_eq_true', Bool.not_eq_false', Bool.not_eq_true, Bool.not_eq_false, Bool.and_eq_true, Bool.or_eq_true, Bool.and_eq_false_iff, Bool.or_eq_false_iff, Bool.not_not, ne_eq, Int.not_lt, Int.not_le, Decidable.not_not, beq_iff_eq, bne_iff_ne] at hc3
          refine wp_skip ?_
          refine blk_normal ?_
          refine then_normal ?_
          refine c_seq ?_
          refine c_seq ?_
          refine c_region ?_
          refine wl (wl_val hl rfl trivial (r_move hl rfl) ?_)
          clear hl a; intro a hl
          refine wl (w_call hl hh rfl trivial rfl cal31 rfl (refGen_spec _) (by repeat (first | exact keeps_nil | apply keeps_cons (by repeat (first | exact find_head | apply find_tail)) (by first  | rfl) | exact keeps_self | apply keeps_mv)) trivial ?_)
          clear hl hh a w; intro vc Fc a w hR hl hh
          obtain ⟨rfl, rfl⟩ := hR
          simp only [List.cons_append, List.nil_append] at hh
          refine wl (wl_val hl rfl trivial (r_assign hl rfl) ?_)
          clear hl a; intro a hl
          refine w_nil ?_
          have hl2 := hl.add (t := 0) (hl.add (t := 6) (hl.add (t := 7) (hl.nil) rfl) rfl) rfl; clear hl; have hl := hl2; clear hl2
          refine then_normal ?_
          refine wp_block ?_
          refine c_seq ?_
          refine c_region ?_
          refine wl (wl_val hl rfl trivial (r_move hl rfl) ?_)
          clear hl a; intro a hl
          refine wl (wl_val hl rfl trivial (r_move hl rfl) ?_)
          clear hl a; intro a hl
          refine wl (wl_val hl rfl trivial (r_nilCheck hl rfl) ?_)
          clear hl a; intro a hl
          refine wl (wl_val hl rfl trivial (r_field hl rfl fld87_4) ?_)
          clear hl a; intro a hl
          refine wl (w_load hl hh rfl trivial one27 rfl (by repeat (first | exact find_head | apply find_tail)) (by exact cell_boot _) ?_)
          clear hl a; intro a hl
          refine wl (wl_val hl rfl trivial (r_leq hl rfl rfl) ?_)
          clear hl a; intro a hl
          refine wl (wl_val hl rfl trivial (r_move hl rfl) ?_)
          clear hl a; intro a hl
          refine sl_split (t := 35) hl rfl ?_ ?_
          · intro hg5; clear hl; intro hl
            try simp only [decide_eq_true_eq, decide_eq_false_iff_not, Bool.not_eq_true', Bool.not_eq_false', Bool.not_eq_true, Bool.not_eq_false, Bool.and_eq_true, Bool.or_eq_true, Bool.and_eq_false_iff, Bool.or_eq_false_iff, Bool.not_not, ne_eq, Int.not_lt, Int.not_le, Decidable.not_not, beq_iff_eq, bne_iff_ne] at hg5
            refine wl (wl_skip hl rfl ⟨_, _, rfl, rfl, rfl⟩ ?_)
            clear hl a; intro a hl
            refine wl (wl_skip hl rfl ⟨_, _, rfl, rfl, rfl⟩ ?_)
            clear hl a; intro a hl
            refine wl (wl_skip hl rfl ⟨_, _, rfl, rfl, rfl⟩ ?_)
            clear hl a; intro a hl
            refine wl (wl_skip hl rfl ⟨_, _, rfl, rfl, rfl⟩ ?_)
            clear hl a; intro a hl
            refine wl (wl_skip hl rfl ⟨_, _, rfl, rfl, rfl⟩ ?_)
            clear hl a; intro a hl
            refine wl (wl_skip hl rfl ⟨_, _, rfl, rfl, rfl⟩ ?_)
            clear hl a; intro a hl
            refine wl (wl_val hl rfl trivial (r_pickT hl rfl rfl) ?_)
            clear hl a; intro a hl
            refine wl (wl_val hl rfl trivial (r_assign hl rfl) ?_)
            clear hl a; intro a hl
            refine w_nil ?_
            have hl2 := hl.add (t := 6) (hl.add (t := 7) (hl.add (t := 28) (hl.nil) rfl) rfl) rfl; clear hl; have hl := hl2; clear hl2
            refine then_normal ?_
            refine c_condT hl rfl ?_
            refine c_seq ?_
            refine c_region ?_
            refine wl (wl_val hl rfl trivial (r_assign hl rfl) ?_)
            clear hl a; intro a hl
            refine w_nil ?_
            have hl2 := hl.add (t := 4) (hl.nil) rfl; clear hl; have hl := hl2; clear hl2
            refine then_normal ?_
            refine wp_ret ?_
            refine blk_ret ?_
            refine then_ret ?_
            refine f_ret1 (F' := [(b, C (encL (f)) 87)]) hl hh rfl rfl (by repeat (first | exact keeps_nil | apply keeps_cons (by repeat (first | exact find_head | apply find_tail)) (by first  | rfl) | exact keeps_self | apply keeps_mv)) ?_
            first | (exfalso; omega) | exact ⟨congrArg (Value.int .u8) (by unfold judgeF; repeat (first | rw [if_pos (by omega)] | rw [if_neg (by omega)])), rfl⟩
          · intro hg5; clear hl; intro hl
            try simp only [decide_eq_true_eq, decide_eq_false_iff_not, Bool.not_eq_true', Bool.not_eq_false', Bool.not_eq_true, Bool.not_eq_false, Bool.and_eq_true, Bool.or_eq_true, Bool.and_eq_false_iff, Bool.or_eq_false_iff, Bool.not_not, ne_eq, Int.not_lt, Int.not_le, Decidable.not_not, beq_iff_eq, bne_iff_ne] at hg5
            refine wl (wl_val hl rfl ⟨_, _, rfl, rfl, rfl⟩ (r_move hl rfl) ?_)
            clear hl a; intro a hl
            refine wl (wl_val hl rfl ⟨_, _, rfl, rfl, rfl⟩ (r_move hl rfl) ?_)
            clear hl a; intro a hl
            refine wl (wl_val hl rfl ⟨_, _, rfl, rfl, rfl⟩ (r_nilCheck hl rfl) ?_)
            clear hl a; intro a hl
            refine wl (wl_val hl rfl ⟨_, _, rfl, rfl, rfl⟩ (r_field hl rfl fld83_0) ?_)
            clear hl a; intro a hl
            refine wl (w_load hl hh rfl ⟨_, _, rfl, rfl, rfl⟩ one27 rfl (by repeat (first | exact find_head | apply find_tail)) (by exact cell_gen _ _ (by omega)) ?_)
            clear hl a; intro a hl
            refine wl (wl_val hl rfl ⟨_, _, rfl, rfl, rfl⟩ (r_gtr hl rfl rfl) ?_)
            clear hl a; intro a hl
            refine wl (wl_val hl rfl trivial (r_pickF hl rfl rfl) ?_)
            clear hl a; intro a hl
            refine wl (wl_val hl rfl trivial (r_assign hl rfl) ?_)
            clear hl a; intro a hl
            refine w_nil ?_
            have hl2 := hl.add (t := 6) (hl.add (t := 7) (hl.add (t := 28) (hl.nil) rfl) rfl) rfl; clear hl; have hl := hl2; clear hl2
            refine then_normal ?_
            refine c_cond hl rfl ?_ ?_
            · intro hc4
              try simp only [decide_eq_true_eq, decide_eq_false_iff_not, Bool.not_eq_true', Bool.not_eq_false', Bool.not_eq_true, Bool.not_eq_false, Bool.and_eq_true, Bool.or_eq_true, Bool.and_eq_false_iff, Bool.or_eq_false_iff, Bool.not_not, ne_eq, Int.not_lt, Int.not_le, Decidable.not_not, beq_iff_eq, bne_iff_ne] at hc4
              refine c_seq ?_
              refine c_region ?_
              refine wl (wl_val hl rfl trivial (r_assign hl rfl) ?_)
              clear hl a; intro a hl
              refine w_nil ?_
              have hl2 := hl.add (t := 4) (hl.nil) rfl; clear hl; have hl := hl2; clear hl2
              refine then_normal ?_
              refine wp_ret ?_
              refine blk_ret ?_
              refine then_ret ?_
              refine f_ret1 (F' := [(b, C (encL (f)) 87)]) hl hh rfl rfl (by repeat (first | exact keeps_nil | apply keeps_cons (by repeat (first | exact find_head | apply find_tail)) (by first  | rfl) | exact keeps_self | apply keeps_mv)) ?_
              first | (exfalso; omega) | exact ⟨congrArg (Value.int .u8) (by unfold judgeF; repeat (first | rw [if_pos (by omega)] | rw [if_neg (by omega)])), rfl⟩
            · intro hc4
              try simp only [decide_eq_true_eq, decide_eq_false_iff_not, Bool.not_eq_true', Bool.not_eq_false', Bool.not_eq_true, Bool.not_eq_false, Bool.and_eq_true, Bool.or_eq_true, Bool.and_eq_false_iff, Bool.or_eq_false_iff, Bool.not_not, ne_eq, Int.not_lt, Int.not_le, Decidable.not_not, beq_iff_eq, bne_iff_ne] at hc4
              refine c_seq ?_
              refine c_region ?_
              refine wl (wl_val hl rfl trivial (r_move hl rfl) ?_)
              clear hl a; intro a hl
              refine wl (wl_val hl rfl trivial (r_move hl rfl) ?_)
              clear hl a; intro a hl
              refine wl (wl_val hl rfl trivial (r_nilCheck hl rfl) ?_)
              clear hl a; intro a hl
              refine wl (wl_val hl rfl trivial (r_field hl rfl fld83_0) ?_)
              clear hl a; intro a hl
              refine wl (w_load hl hh rfl trivial one27 rfl (by repeat (first | exact find_head | apply find_tail)) (by exact cell_gen _ _ (by omega)) ?_)
              clear hl a; intro a hl
              refine wl (wl_val hl rfl trivial (r_lss hl rfl rfl) ?_)
              clear hl a; intro a hl
              refine wl (wl_val hl rfl trivial (r_move hl rfl) ?_)
              clear hl a; intro a hl
              refine sl_split (t := 50) hl rfl ?_ ?_
              · intro hg6; clear hl; intro hl
                try simp only [decide_eq_true_eq, decide_eq_false_iff_not, Bool.not_eq_true', Bool.not_eq_false', Bool.not_eq_true, Bool.not_eq_false, Bool.and_eq_true, Bool.or_eq_true, Bool.and_eq_false_iff, Bool.or_eq_false_iff, Bool.not_not, ne_eq, Int.not_lt, Int.not_le, Decidable.not_not, beq_iff_eq, bne_iff_ne] at hg6
                refine wl (wl_skip hl rfl ⟨_, _, rfl, rfl, rfl⟩ ?_)
                clear hl a; intro a hl
                refine wl (wl_skip hl rfl ⟨_, _, rfl, rfl, rfl⟩ ?_)
                clear hl a; intro a hl
                refine wl (wl_skip hl rfl ⟨_, _, rfl, rfl, rfl⟩ ?_)
                clear hl a; intro a hl
                refine wl (wl_skip hl rfl ⟨_, _, rfl, rfl, rfl⟩ ?_)
                clear hl a; intro a hl
                refine wl (wl_skip hl rfl ⟨_, _, rfl, rfl, rfl⟩ ?_)
                clear hl a; intro a hl
                refine wl (wl_val hl rfl trivial (r_pickT hl rfl rfl) ?_)
                clear hl a; intro a hl
                refine wl (wl_val hl rfl trivial (r_assign hl rfl) ?_)
                clear hl a; intro a hl
                refine w_nil ?_
                have hl2 := hl.add (t := 43) (hl.nil) rfl; clear hl; have hl := hl2; clear hl2
                refine then_normal ?_
                refine c_condT hl rfl ?_
                refine c_seq ?_
                refine c_region ?_
                refine wl (wl_val hl rfl trivial (r_assign hl rfl) ?_)
                clear hl a; intro a hl
                refine w_nil ?_
                have hl2 := hl.add (t := 4) (hl.nil) rfl; clear hl; have hl := hl2; clear hl2
                refine then_normal ?_
                refine wp_ret ?_
                refine blk_ret ?_
                refine then_ret ?_
                refine f_ret1 (F' := [(b, C (encL (f)) 87)]) hl hh rfl rfl (by repeat (first | exact keeps_nil | apply keeps_cons (by repeat (first | exact find_head | apply find_tail)) (by first  | rfl) | exact keeps_self | apply keeps_mv)) ?_
                first | (exfalso; omega) | exact ⟨congrArg (Value.int .u8) (by unfold judgeF; repeat (first | rw [if_pos (by omega)] | rw [if_neg (by omega)])), rfl⟩
              · intro hg6; clear hl; intro hl
                try simp only [decide_eq_true_eq, decide_eq_false_iff_not, Bool.not_eq_true', Bool.not_eq_false', Bool.not_eq_true, Bool.not_eq_false, Bool.and_eq_true, Bool.or_eq_true, Bool.and_eq_false_iff, Bool.or_eq_false_iff, Bool.not_not, ne_eq, Int.not_lt, Int.not_le, Decidable.not_not, beq_iff_eq, bne_iff_ne] at hg6
                refine wl (wl_val hl rfl ⟨_, _, rfl, rfl, rfl⟩ (r_move hl rfl) ?_)
                clear hl a; intro a hl
                refine wl (wl_val hl rfl ⟨_, _, rfl, rfl, rfl⟩ (r_nilCheck hl rfl) ?_)
                clear hl a; intro a hl
                refine wl (wl_val hl rfl ⟨_, _, rfl, rfl, rfl⟩ (r_field hl rfl fld83_3) ?_)
                clear hl a; intro a hl
                refine wl (w_load hl hh rfl ⟨_, _, rfl, rfl, rfl⟩ one81 rfl (by repeat (first | exact find_head | apply find_tail)) (by exact cell_role _ _ (by omega)) ?_)
                clear hl a; intro a hl
                refine wl (wl_val hl rfl ⟨_, _, rfl, rfl, rfl⟩ (r_neq hl rfl rfl) ?_)
                clear hl a; intro a hl
                refine wl (wl_val hl rfl trivial (r_pickF hl rfl rfl) ?_)
                clear hl a; intro a hl
                refine wl (wl_val hl rfl trivial (r_assign hl rfl) ?_)
                clear hl a; intro a hl
                refine w_nil ?_
                have hl2 := hl.add (t := 43) (hl.nil) rfl; clear hl; have hl := hl2; clear hl2
                refine then_normal ?_
                refine c_cond hl rfl ?_ ?_
                · intro hc5
                  try simp only [decide_eq_true_eq, decide_eq_false_iff_not, Bool.not_eq_true', Bool.not_eq_false', Bool.not_eq_true, Bool.not_eq_false, Bool.and_eq_true, Bool.or_eq_true, Bool.and_eq_false_iff, Bool.or_eq_false_iff, Bool.not_not, ne_eq, Int.not_lt, Int.not_le, Decidable.not_not, beq_iff_eq, bne_iff_ne] at hc5
                  refine c_seq ?_
                  refine c_region ?_
                  refine wl (wl_val hl rfl trivial (r_assign hl rfl) ?_)
                  clear hl a; intro a hl
                  refine w_nil ?_
                  have hl2 := hl.add (t := 4) (hl.nil) rfl; clear hl; have hl := hl2; clear hl2
                  refine then_normal ?_
                  refine wp_ret ?_
                  refine blk_ret ?_
                  refine then_ret ?_
                  refine f_ret1 (F' := [(b, C (encL (f)) 87)]) hl hh rfl rfl (by repeat (first | exact keeps_nil | apply keeps_cons (by repeat (first | exact find_head | apply find_tail)) (by first  | rfl) | exact keeps_self | apply keeps_mv)) ?_
                  first | (exfalso; omega) | exact ⟨congrArg (Value.int .u8) (by unfold judgeF; repeat (first | rw [if_pos (by omega)] | rw [if_neg (by omega)])), rfl⟩
                · intro hc5
                  try simp only [decide_eq_true_eq, decide_eq_false_iff_not, Bool.not_eq_true', Bool.not_eq_false', Bool.not_eq_true, Bool.not_eq_false, Bool.and_eq_true, Bool.or_eq_true, Bool.and_eq_false_iff, Bool.or_eq_false_iff, Bool.not_not, ne_eq, Int.not_lt, Int.not_le, Decidable.not_not, beq_iff_eq, bne_iff_ne] at hc5
                  refine wp_skip ?_
                  refine blk_normal ?_
                  refine then_normal ?_
                  refine c_seq ?_
                  refine c_region ?_
                  refine wl (wl_val hl rfl trivial (r_assign hl rfl) ?_)
                  clear hl a; intro a hl
                  refine w_nil ?_
                  have hl2 := hl.add (t := 4) (hl.nil) rfl; clear hl; have hl := hl2; clear hl2
                  refine then_normal ?_
                  refine wp_ret ?_
                  refine f_ret1 (F' := [(b, C (encL (f)) 87)]) hl hh rfl rfl (by repeat (first | exact keeps_nil | apply keeps_cons (by repeat (first | exact find_head | apply find_tail)) (by first  | rfl) | exact keeps_self | apply keeps_mv)) ?_
                  first | (exfalso; omega) | exact ⟨congrArg (Value.int .u8) (by unfold judgeF; repeat (first | rw [if_pos (by omega)] | rw [if_neg (by omega)])), rfl⟩
        · intro hc3
          try simp only [decide_eq_true_eq, decide_eq_false_iff_not, Bool.not_eq_true', Bool.not_eq_false', Bool.not_eq_true, Bool.not_eq_false, Bool.and_eq_true, Bool.or_eq_true, Bool.and_eq_false_iff, Bool.or_eq_false_iff, Bool.not_not, ne_eq, Int.not_lt, Int.not_le, Decidable.not_not, beq_iff_eq, bne_iff_ne] at hc3
          refine c_seq ?_
          refine c_region ?_
          refine wl (wl_val hl rfl trivial (r_assign hl rfl) ?_)
          clear hl a; intro a hl
          refine w_nil ?_
          have hl2 := hl.add (t := 4) (hl.nil) rfl; clear hl; have hl := hl2; clear hl2
          refine then_normal ?_
          refine wp_ret ?_
          refine blk_ret ?_
          refine then_ret ?_
          refine f_ret1 (F' := [(b, C (encL (f)) 87)]) hl hh rfl rfl (by repeat (first | exact keeps_nil | apply keeps_cons (by repeat (first | exact find_head | apply find_tail)) (by first  | rfl) | exact keeps_self | apply keeps_mv)) ?_
          first | (exfalso; omega) | exact ⟨congrArg (Value.int .u8) (by unfold judgeF; repeat (first | rw [if_pos (by omega)] | rw [if_neg (by omega)])), rfl⟩

set_option maxHeartbeats 1000000 in
theorem free_no_spec (b : Nat) (f : Nat → Int) (r : Nat) (h : judgeF f r ≠ 0) : Sp Try.prog 34 #[.pointer (some ⟨b, 0, none⟩), .int .u64 r] [(b, C (encL (f)) 87)] (fun v F' => v = .int .u8 (judgeF f r) ∧ F' = [(b, C (encL (f)) 87)]) := by
  refine f_enter (args := [.pointer (some ⟨b, 0, none⟩), .int .u64 r]) Try.func34 rfl Try.ntmps34 rfl ?_
  intro w0 w a hpre hl hh
  simp only [slotsFrom, Nat.reduceAdd] at hl
  refine c_seq ?_
  refine c_region ?_
  refine wl (wl_val hl rfl trivial (r_assign hl rfl) ?_)
  clear hl a; intro a hl
  refine w_nil ?_
  have hl2 := hl.add (t := 0) (hl.add (t := 1) (hl.nil) rfl) rfl; clear hl; have hl := hl2; clear hl2
  refine then_normal ?_
  refine c_seq ?_
  refine c_seq ?_
  refine c_region ?_
  refine wl (wl_val hl rfl trivial (r_move hl rfl) ?_)
  clear hl a; intro a hl
  refine wl (wl_val hl rfl trivial (r_move hl rfl) ?_)
  clear hl a; intro a hl
  refine wl (w_call hl hh rfl trivial rfl cal42 rfl (judge_spec _ _ _) (by repeat (first | exact keeps_nil | apply keeps_cons (by repeat (first | exact find_head | apply find_tail)) (by first  | rfl) | exact keeps_self | apply keeps_mv)) trivial ?_)
  clear hl hh a w; intro vc Fc a w hR hl hh
  obtain ⟨rfl, rfl⟩ := hR
  simp only [List.cons_append, List.nil_append] at hh
  refine wl (wl_val hl rfl trivial (r_assign hl rfl) ?_)
  clear hl a; intro a hl
  refine w_nil ?_
  have hl2 := hl.add (t := 0) (hl.add (t := 1) (hl.add (t := 5) (hl.nil) rfl) rfl) rfl; clear hl; have hl := hl2; clear hl2
  refine then_normal ?_
  refine c_seq ?_
  refine c_region ?_
  refine wl (wl_val hl rfl trivial (r_move hl rfl) ?_)
  clear hl a; intro a hl
  refine wl (wl_val hl rfl trivial (r_neq hl rfl rfl) ?_)
  clear hl a; intro a hl
  refine w_nil ?_
  have hl2 := hl.add (t := 0) (hl.add (t := 1) (hl.add (t := 5) (hl.add (t := 14) (hl.nil) rfl) rfl) rfl) rfl; clear hl; have hl := hl2; clear hl2
  refine then_normal ?_
  refine c_cond hl rfl ?_ ?_
  · intro hc0
    try simp only [decide_eq_true_eq, decide_eq_false_iff_not, Bool.not_eq_true', Bool.not_eq_false', Bool.not_eq_true, Bool.not_eq_false, Bool.and_eq_true, Bool.or_eq_true, Bool.and_eq_false_iff, Bool.or_eq_false_iff, Bool.not_not, ne_eq, Int.not_lt, Int.not_le, Decidable.not_not, beq_iff_eq, bne_iff_ne] at hc0
    refine c_seq ?_
    refine c_region ?_
    refine wl (wl_val hl rfl trivial (r_move hl rfl) ?_)
    clear hl a; intro a hl
    refine wl (wl_val hl rfl trivial (r_assign hl rfl) ?_)
    clear hl a; intro a hl
    refine w_nil ?_
    have hl2 := hl.add (t := 4) (hl.nil) rfl; clear hl; have hl := hl2; clear hl2
    refine then_normal ?_
    refine wp_ret ?_
    refine then_ret ?_
    refine f_ret1 (F' := [(b, C (encL (f)) 87)]) hl hh rfl rfl (by repeat (first | exact keeps_nil | apply keeps_cons (by repeat (first | exact find_head | apply find_tail)) (by first  | rfl) | exact keeps_self | apply keeps_mv)) ?_
    exact ⟨rfl, rfl⟩
  · intro hc0
    try simp only [decide_eq_true_eq, decide_eq_false_iff_not, Bool.not_eq_true', Bool.not_eq_false', Bool.not_eq_true, Bool.not_eq_false, Bool.and_eq_true, Bool.or_eq_true, Bool.and_eq_false_iff, Bool.or_eq_false_iff, Bool.not_not, ne_eq, Int.not_lt, Int.not_le, Decidable.not_not, beq_iff_eq, bne_iff_ne] at hc0
    exfalso; omega


/-- the node at x, of size s, is spent -/
def spendF (f : Nat → Int) (x s : Nat) : Nat → Int := setCnSpent (paintTo (setCnLive f (cnLive f - s)) x 5 6 s) (cnSpent f + s)
/-- the node at x, of size s, is put on its list -/
def pushF (f : Nat → Int) (x s : Nat) : Nat → Int :=
  setCnFree (paintTo (setLst (setNxt (setCnLive f (cnLive f - s)) x (lst f (s / 2 - 1))) (s / 2 - 1) x) x 3 4 s) (cnFree f + s)


set_option maxHeartbeats 1000000 in
theorem free_spent_spec (b : Nat) (f : Nat → Int) (r : Nat) (x s : Nat) (hx : r % 65536 = x) (h : judgeF f r = 0) (hx1 : 2 ≤ x) (hs : sz f x = s) (hs1 : 2 ≤ s) (hs2 : s ≤ 32) (hs3 : x + s ≤ 4096) (hc1 : -1000000000 ≤ cnLive f) (hc2 : cnLive f ≤ 1000000000) (hc3 : -1000000000 ≤ cnFree f) (hc4 : cnFree f ≤ 1000000000) (hc5 : -1000000000 ≤ cnSpent f) (hc6 : cnSpent f ≤ 1000000000) (hg : gen f x = 281474976710655) : Sp Try.prog 34 #[.pointer (some ⟨b, 0, none⟩), .int .u64 r] [(b, C (encL (f)) 87)] (fun v F' => v = .int .u8 0 ∧ F' = [(b, C (encL (spendF f x s)) 87)]) := by
  refine f_enter (args := [.pointer (some ⟨b, 0, none⟩), .int .u64 r]) Try.func34 rfl Try.ntmps34 rfl ?_
  intro w0 w a hpre hl hh
  simp only [slotsFrom, Nat.reduceAdd] at hl
  refine c_seq ?_
  refine c_region ?_
  refine wl (wl_val hl rfl trivial (r_assign hl rfl) ?_)
  clear hl a; intro a hl
  refine w_nil ?_
  have hl2 := hl.add (t := 0) (hl.add (t := 1) (hl.nil) rfl) rfl; clear hl; have hl := hl2; clear hl2
  refine then_normal ?_
  refine c_seq ?_
  refine c_seq ?_
  refine c_region ?_
  refine wl (wl_val hl rfl trivial (r_move hl rfl) ?_)
  clear hl a; intro a hl
  refine wl (wl_val hl rfl trivial (r_move hl rfl) ?_)
  clear hl a; intro a hl
  refine wl (w_call hl hh rfl trivial rfl cal42 rfl (judge_spec _ _ _) (by repeat (first | exact keeps_nil | apply keeps_cons (by repeat (first | exact find_head | apply find_tail)) (by first  | rfl) | exact keeps_self | apply keeps_mv)) trivial ?_)
  clear hl hh a w; intro vc Fc a w hR hl hh
  obtain ⟨rfl, rfl⟩ := hR
  simp only [List.cons_append, List.nil_append] at hh
  refine wl (wl_val hl rfl trivial (r_assign hl rfl) ?_)
  clear hl a; intro a hl
  refine w_nil ?_
  have hl2 := hl.add (t := 0) (hl.add (t := 1) (hl.add (t := 5) (hl.nil) rfl) rfl) rfl; clear hl; have hl := hl2; clear hl2
  refine then_normal ?_
  refine c_seq ?_
  refine c_region ?_
  refine wl (wl_val hl rfl trivial (r_move hl rfl) ?_)
  clear hl a; intro a hl
  refine wl (wl_val hl rfl trivial (r_neq hl rfl rfl) ?_)
  clear hl a; intro a hl
  refine w_nil ?_
  have hl2 := hl.add (t := 0) (hl.add (t := 1) (hl.add (t := 5) (hl.add (t := 14) (hl.nil) rfl) rfl) rfl) rfl; clear hl; have hl := hl2; clear hl2
  refine then_normal ?_
  refine c_cond hl rfl ?_ ?_
  · intro hc0
    try simp only [decide_eq_true_eq, decide_eq_false_iff_not, Bool.not_eq_true', Bool.not_eq_false', Bool.not_eq_true, Bool.not_eq_false, Bool.and_eq_true, Bool.or_eq_true, Bool.and_eq_false_iff, Bool.or_eq_false_iff, Bool.not_not, ne_eq, Int.not_lt, Int.not_le, Decidable.not_not, beq_iff_eq, bne_iff_ne] at hc0
    exfalso; omega
  · intro hc0
    try simp only [decide_eq_true_eq, decide_eq_false_iff_not, Bool.not_eq_true', Bool.not_eq_false', Bool.not_eq_true, Bool.not_eq_false, Bool.and_eq_true, Bool.or_eq_true, Bool.and_eq_false_iff, Bool.or_eq_false_iff, Bool.not_not, ne_eq, Int.not_lt, Int.not_le, Decidable.not_not, beq_iff_eq, bne_iff_ne] at hc0
    refine wp_skip ?_
    refine then_normal ?_
    refine c_seq ?_
    refine c_region ?_
    refine wl (wl_val hl rfl trivial (r_move hl rfl) ?_)
    clear hl a; intro a hl
    refine wl (w_call hl hh rfl trivial rfl cal27 rfl (refAddr_spec _) (by repeat (first | exact keeps_nil | apply keeps_cons (by repeat (first | exact find_head | apply find_tail)) (by first  | rfl) | exact keeps_self | apply keeps_mv)) trivial ?_)
    clear hl hh a w; intro vc Fc a w hR hl hh
    obtain ⟨rfl, rfl⟩ := hR
    simp only [List.cons_append, List.nil_append] at hh
    refine wl (wl_val hl rfl trivial (r_assign hl rfl) ?_)
    clear hl a; intro a hl
    refine w_nil ?_
    have hl2 := hl.add (t := 0) (hl.add (t := 6) (hl.nil) rfl) rfl; clear hl; have hl := hl2; clear hl2
    rw [hx] at hl
    refine then_normal ?_
    refine c_seq ?_
    refine c_region ?_
    refine wl (wl_val hl rfl trivial (r_move hl rfl) ?_)
    clear hl a; intro a hl
    refine wl (wl_val hl rfl trivial (r_move hl rfl) ?_)
    clear hl a; intro a hl
    refine wl (wl_val hl rfl trivial (r_nilCheck hl rfl) ?_)
    clear hl a; intro a hl
    refine wl (wl_val hl rfl trivial (r_field hl rfl fld87_1) ?_)
    clear hl a; intro a hl
    refine wl (wl_val hl rfl trivial (r_indexA hl rfl rfl arr84 (by omega) (by omega) (by first | (simp only [Int.reduceToNat]; rfl) | exact toNat_add1 _ | exact toNat_add2 _ _ | exact toNat_emod _ _ | exact Int.toNat_natCast _ | rfl)) ?_)
    clear hl a; intro a hl
    refine wl (wl_val hl rfl trivial (r_assign hl rfl) ?_)
    clear hl a; intro a hl
    refine w_nil ?_
    have hl2 := hl.add (t := 0) (hl.add (t := 6) (hl.add (t := 7) (hl.nil) rfl) rfl) rfl; clear hl; have hl := hl2; clear hl2
    refine then_normal ?_
    refine c_seq ?_
    refine c_region ?_
    refine wl (wl_val hl rfl trivial (r_move hl rfl) ?_)
    clear hl a; intro a hl
    refine wl (wl_val hl rfl trivial (r_nilCheck hl rfl) ?_)
    clear hl a; intro a hl
    refine wl (wl_val hl rfl trivial (r_field hl rfl fld83_2) ?_)
    clear hl a; intro a hl
    refine wl (w_load hl hh rfl trivial one5 rfl (by repeat (first | exact find_head | apply find_tail)) (by exact cell_sz _ _ (by omega)) ?_)
    clear hl a; intro a hl
    try simp (disch := omega) only [word_setGen, word_setNxt, word_setSz, word_setRole, word_setLst, word_setFresh, word_setBoot, word_setCnNil, word_setCnLive, word_setCnFree, word_setCnSpent, word_setCnUnt, word_paintTo, word_genTo, gen_setWord, gen_setNxt, gen_setSz, gen_setRole, gen_setLst, gen_setFresh, gen_setBoot, gen_setCnNil, gen_setCnLive, gen_setCnFree, gen_setCnSpent, gen_setCnUnt, gen_paintTo, nxt_setWord, nxt_setGen, nxt_setSz, nxt_setRole, nxt_setLst, nxt_setFresh, nxt_setBoot, nxt_setCnNil, nxt_setCnLive, nxt_setCnFree, nxt_setCnSpent, nxt_setCnUnt, nxt_paintTo, nxt_genTo, sz_setWord, sz_setGen, sz_setNxt, sz_setRole, sz_setLst, sz_setFresh, sz_setBoot, sz_setCnNil, sz_setCnLive, sz_setCnFree, sz_setCnSpent, sz_setCnUnt, sz_paintTo, sz_genTo, role_setWord, role_setGen, role_setNxt, role_setSz, role_setLst, role_setFresh, role_setBoot, role_setCnNil, role_setCnLive, role_setCnFree, role_setCnSpent, role_setCnUnt, role_genTo, lst_setWord, lst_setGen, lst_setNxt, lst_setSz, lst_setRole, lst_setFresh, lst_setBoot, lst_setCnNil, lst_setCnLive, lst_setCnFree, lst_setCnSpent, lst_setCnUnt, lst_paintTo, lst_genTo, fresh_setWord, fresh_setGen, fresh_setNxt, fresh_setSz, fresh_setRole, fresh_setLst, fresh_setBoot, fresh_setCnNil, fresh_setCnLive, fresh_setCnFree, fresh_setCnSpent, fresh_setCnUnt, fresh_setFresh, fresh_paintTo, fresh_genTo, boot_setWord, boot_setGen, boot_setNxt, boot_setSz, boot_setRole, boot_setLst, boot_setFresh, boot_setCnNil, boot_setCnLive, boot_setCnFree, boot_setCnSpent, boot_setCnUnt, boot_setBoot, boot_paintTo, boot_genTo, cnNil_setWord, cnNil_setGen, cnNil_setNxt, cnNil_setSz, cnNil_setRole, cnNil_setLst, cnNil_setFresh, cnNil_setBoot, cnNil_setCnLive, cnNil_setCnFree, cnNil_setCnSpent, cnNil_setCnUnt, cnNil_setCnNil, cnNil_paintTo, cnNil_genTo, cnLive_setWord, cnLive_setGen, cnLive_setNxt, cnLive_setSz, cnLive_setRole, cnLive_setLst, cnLive_setFresh, cnLive_setBoot, cnLive_setCnNil, cnLive_setCnFree, cnLive_setCnSpent, cnLive_setCnUnt, cnLive_setCnLive, cnLive_paintTo, cnLive_genTo, cnFree_setWord, cnFree_setGen, cnFree_setNxt, cnFree_setSz, cnFree_setRole, cnFree_setLst, cnFree_setFresh, cnFree_setBoot, cnFree_setCnNil, cnFree_setCnLive, cnFree_setCnSpent, cnFree_setCnUnt, cnFree_setCnFree, cnFree_paintTo, cnFree_genTo, cnSpent_setWord, cnSpent_setGen, cnSpent_setNxt, cnSpent_setSz, cnSpent_setRole, cnSpent_setLst, cnSpent_setFresh, cnSpent_setBoot, cnSpent_setCnNil, cnSpent_setCnLive, cnSpent_setCnFree, cnSpent_setCnUnt, cnSpent_setCnSpent, cnSpent_paintTo, cnSpent_genTo, cnUnt_setWord, cnUnt_setGen, cnUnt_setNxt, cnUnt_setSz, cnUnt_setRole, cnUnt_setLst, cnUnt_setFresh, cnUnt_setBoot, cnUnt_setCnNil, cnUnt_setCnLive, cnUnt_setCnFree, cnUnt_setCnSpent, cnUnt_setCnUnt, cnUnt_paintTo, cnUnt_genTo] at hl
    first | refine wl (wl_val hl rfl trivial (r_conv hl rfl Try.underlying5 Try.underlying3 (by simp only [Fits]; omega)) ?_) | refine wl (wl_val hl rfl trivial (r_convW hl rfl Try.underlying5 Try.underlying3) ?_)
    clear hl a; intro a hl
    refine wl (wl_val hl rfl trivial (r_assign hl rfl) ?_)
    clear hl a; intro a hl
    refine w_nil ?_
    have hl2 := hl.add (t := 0) (hl.add (t := 6) (hl.add (t := 7) (hl.add (t := 8) (hl.nil) rfl) rfl) rfl) rfl; clear hl; have hl := hl2; clear hl2
    rw [hs] at hl
    refine then_normal ?_
    refine c_seq ?_
    refine c_region ?_
    refine wl (wl_val hl rfl trivial (r_move hl rfl) ?_)
    clear hl a; intro a hl
    refine wl (wl_val hl rfl trivial (r_nilCheck hl rfl) ?_)
    clear hl a; intro a hl
    refine wl (wl_val hl rfl trivial (r_field hl rfl fld87_5) ?_)
    clear hl a; intro a hl
    refine wl (wl_val hl rfl trivial (r_field hl rfl fld47_1) ?_)
    clear hl a; intro a hl
    refine wl (w_load hl hh rfl trivial one3 rfl (by repeat (first | exact find_head | apply find_tail)) (by exact cell_cnLive _) ?_)
    clear hl a; intro a hl
    try simp (disch := omega) only [word_setGen, word_setNxt, word_setSz, word_setRole, word_setLst, word_setFresh, word_setBoot, word_setCnNil, word_setCnLive, word_setCnFree, word_setCnSpent, word_setCnUnt, word_paintTo, word_genTo, gen_setWord, gen_setNxt, gen_setSz, gen_setRole, gen_setLst, gen_setFresh, gen_setBoot, gen_setCnNil, gen_setCnLive, gen_setCnFree, gen_setCnSpent, gen_setCnUnt, gen_paintTo, nxt_setWord, nxt_setGen, nxt_setSz, nxt_setRole, nxt_setLst, nxt_setFresh, nxt_setBoot, nxt_setCnNil, nxt_setCnLive, nxt_setCnFree, nxt_setCnSpent, nxt_setCnUnt, nxt_paintTo, nxt_genTo, sz_setWord, sz_setGen, sz_setNxt, sz_setRole, sz_setLst, sz_setFresh, sz_setBoot, sz_setCnNil, sz_setCnLive, sz_setCnFree, sz_setCnSpent, sz_setCnUnt, sz_paintTo, sz_genTo, role_setWord, role_setGen, role_setNxt, role_setSz, role_setLst, role_setFresh, role_setBoot, role_setCnNil, role_setCnLive, role_setCnFree, role_setCnSpent, role_setCnUnt, role_genTo, lst_setWord, lst_setGen, lst_setNxt, lst_setSz, lst_setRole, lst_setFresh, lst_setBoot, lst_setCnNil, lst_setCnLive, lst_setCnFree, lst_setCnSpent, lst_setCnUnt, lst_paintTo, lst_genTo, fresh_setWord, fresh_setGen, fresh_setNxt, fresh_setSz, fresh_setRole, fresh_setLst, fresh_setBoot, fresh_setCnNil, fresh_setCnLive, fresh_setCnFree, fresh_setCnSpent, fresh_setCnUnt, fresh_setFresh, fresh_paintTo, fresh_genTo, boot_setWord, boot_setGen, boot_setNxt, boot_setSz, boot_setRole, boot_setLst, boot_setFresh, boot_setCnNil, boot_setCnLive, boot_setCnFree, boot_setCnSpent, boot_setCnUnt, boot_setBoot, boot_paintTo, boot_genTo, cnNil_setWord, cnNil_setGen, cnNil_setNxt, cnNil_setSz, cnNil_setRole, cnNil_setLst, cnNil_setFresh, cnNil_setBoot, cnNil_setCnLive, cnNil_setCnFree, cnNil_setCnSpent, cnNil_setCnUnt, cnNil_setCnNil, cnNil_paintTo, cnNil_genTo, cnLive_setWord, cnLive_setGen, cnLive_setNxt, cnLive_setSz, cnLive_setRole, cnLive_setLst, cnLive_setFresh, cnLive_setBoot, cnLive_setCnNil, cnLive_setCnFree, cnLive_setCnSpent, cnLive_setCnUnt, cnLive_setCnLive, cnLive_paintTo, cnLive_genTo, cnFree_setWord, cnFree_setGen, cnFree_setNxt, cnFree_setSz, cnFree_setRole, cnFree_setLst, cnFree_setFresh, cnFree_setBoot, cnFree_setCnNil, cnFree_setCnLive, cnFree_setCnSpent, cnFree_setCnUnt, cnFree_setCnFree, cnFree_paintTo, cnFree_genTo, cnSpent_setWord, cnSpent_setGen, cnSpent_setNxt, cnSpent_setSz, cnSpent_setRole, cnSpent_setLst, cnSpent_setFresh, cnSpent_setBoot, cnSpent_setCnNil, cnSpent_setCnLive, cnSpent_setCnFree, cnSpent_setCnUnt, cnSpent_setCnSpent, cnSpent_paintTo, cnSpent_genTo, cnUnt_setWord, cnUnt_setGen, cnUnt_setNxt, cnUnt_setSz, cnUnt_setRole, cnUnt_setLst, cnUnt_setFresh, cnUnt_setBoot, cnUnt_setCnNil, cnUnt_setCnLive, cnUnt_setCnFree, cnUnt_setCnSpent, cnUnt_setCnUnt, cnUnt_paintTo, cnUnt_genTo] at hl
    refine wl (wl_val hl rfl trivial (r_move hl rfl) ?_)
    clear hl a; intro a hl
    first | refine wl (wl_val hl rfl trivial (r_sub hl rfl rfl (by simp only [Fits]; omega)) ?_) | refine wl (wl_val hl rfl trivial (r_subW hl rfl rfl) ?_)
    clear hl a; intro a hl
    refine wl (wl_val hl rfl trivial (r_nilCheck hl rfl) ?_)
    clear hl a; intro a hl
    refine wl (wl_val hl rfl trivial (r_field hl rfl fld87_5) ?_)
    clear hl a; intro a hl
    refine wl (wl_val hl rfl trivial (r_field hl rfl fld47_1) ?_)
    clear hl a; intro a hl
    refine wl (w_store hl hh trivial one3 rfl rfl (by repeat (first | exact find_head | apply find_tail)) (by rw [encL_length]; omega) (by first | rfl | (apply Row.one; assumption)) (by exact st_cnLive _ _) ?_)
    clear hh w; intro w hh
    refine w_nil ?_
    have hl2 := hl.add (t := 0) (hl.add (t := 6) (hl.add (t := 7) (hl.add (t := 8) (hl.nil) rfl) rfl) rfl) rfl; clear hl; have hl := hl2; clear hl2
    refine then_normal ?_
    refine c_seq ?_
    refine c_seq ?_
    refine c_region ?_
    refine wl (wl_val hl rfl trivial (r_move hl rfl) ?_)
    clear hl a; intro a hl
    refine wl (wl_val hl rfl trivial (r_nilCheck hl rfl) ?_)
    clear hl a; intro a hl
    refine wl (wl_val hl rfl trivial (r_field hl rfl fld83_0) ?_)
    clear hl a; intro a hl
    refine wl (w_load hl hh rfl trivial one27 rfl (by repeat (first | exact find_head | apply find_tail)) (by exact cell_gen _ _ (by omega)) ?_)
    clear hl a; intro a hl
    try simp (disch := omega) only [word_setGen, word_setNxt, word_setSz, word_setRole, word_setLst, word_setFresh, word_setBoot, word_setCnNil, word_setCnLive, word_setCnFree, word_setCnSpent, word_setCnUnt, word_paintTo, word_genTo, gen_setWord, gen_setNxt, gen_setSz, gen_setRole, gen_setLst, gen_setFresh, gen_setBoot, gen_setCnNil, gen_setCnLive, gen_setCnFree, gen_setCnSpent, gen_setCnUnt, gen_paintTo, nxt_setWord, nxt_setGen, nxt_setSz, nxt_setRole, nxt_setLst, nxt_setFresh, nxt_setBoot, nxt_setCnNil, nxt_setCnLive, nxt_setCnFree, nxt_setCnSpent, nxt_setCnUnt, nxt_paintTo, nxt_genTo, sz_setWord, sz_setGen, sz_setNxt, sz_setRole, sz_setLst, sz_setFresh, sz_setBoot, sz_setCnNil, sz_setCnLive, sz_setCnFree, sz_setCnSpent, sz_setCnUnt, sz_paintTo, sz_genTo, role_setWord, role_setGen, role_setNxt, role_setSz, role_setLst, role_setFresh, role_setBoot, role_setCnNil, role_setCnLive, role_setCnFree, role_setCnSpent, role_setCnUnt, role_genTo, lst_setWord, lst_setGen, lst_setNxt, lst_setSz, lst_setRole, lst_setFresh, lst_setBoot, lst_setCnNil, lst_setCnLive, lst_setCnFree, lst_setCnSpent, lst_setCnUnt, lst_paintTo, lst_genTo, fresh_setWord, fresh_setGen, fresh_setNxt, fresh_setSz, fresh_setRole, fresh_setLst, fresh_setBoot, fresh_setCnNil, fresh_setCnLive, fresh_setCnFree, fresh_setCnSpent, fresh_setCnUnt, fresh_setFresh, fresh_paintTo, fresh_genTo, boot_setWord, boot_setGen, boot_setNxt, boot_setSz, boot_setRole, boot_setLst, boot_setFresh, boot_setCnNil, boot_setCnLive, boot_setCnFree, boot_setCnSpent, boot_setCnUnt, boot_setBoot, boot_paintTo, boot_genTo, cnNil_setWord, cnNil_setGen, cnNil_setNxt, cnNil_setSz, cnNil_setRole, cnNil_setLst, cnNil_setFresh, cnNil_setBoot, cnNil_setCnLive, cnNil_setCnFree, cnNil_setCnSpent, cnNil_setCnUnt, cnNil_setCnNil, cnNil_paintTo, cnNil_genTo, cnLive_setWord, cnLive_setGen, cnLive_setNxt, cnLive_setSz, cnLive_setRole, cnLive_setLst, cnLive_setFresh, cnLive_setBoot, cnLive_setCnNil, cnLive_setCnFree, cnLive_setCnSpent, cnLive_setCnUnt, cnLive_setCnLive, cnLive_paintTo, cnLive_genTo, cnFree_setWord, cnFree_setGen, cnFree_setNxt, cnFree_setSz, cnFree_setRole, cnFree_setLst, cnFree_setFresh, cnFree_setBoot, cnFree_setCnNil, cnFree_setCnLive, cnFree_setCnSpent, cnFree_setCnUnt, cnFree_setCnFree, cnFree_paintTo, cnFree_genTo, cnSpent_setWord, cnSpent_setGen, cnSpent_setNxt, cnSpent_setSz, cnSpent_setRole, cnSpent_setLst, cnSpent_setFresh, cnSpent_setBoot, cnSpent_setCnNil, cnSpent_setCnLive, cnSpent_setCnFree, cnSpent_setCnUnt, cnSpent_setCnSpent, cnSpent_paintTo, cnSpent_genTo, cnUnt_setWord, cnUnt_setGen, cnUnt_setNxt, cnUnt_setSz, cnUnt_setRole, cnUnt_setLst, cnUnt_setFresh, cnUnt_setBoot, cnUnt_setCnNil, cnUnt_setCnLive, cnUnt_setCnFree, cnUnt_setCnSpent, cnUnt_setCnUnt, cnUnt_paintTo, cnUnt_genTo] at hl
    refine wl (wl_val hl rfl trivial (r_eql hl rfl rfl) ?_)
    clear hl a; intro a hl
    refine w_nil ?_
    have hl2 := hl.add (t := 0) (hl.add (t := 6) (hl.add (t := 7) (hl.add (t := 8) (hl.add (t := 42) (hl.nil) rfl) rfl) rfl) rfl) rfl; clear hl; have hl := hl2; clear hl2
    refine then_normal ?_
    refine c_cond hl rfl ?_ ?_
    · intro hc1
      try simp only [decide_eq_true_eq, decide_eq_false_iff_not, Bool.not_eq_true', Bool.not_eq_false', Bool.not_eq_true, Bool.not_eq_false, Bool.and_eq_true, Bool.or_eq_true, Bool.and_eq_false_iff, Bool.or_eq_false_iff, Bool.not_not, ne_eq, Int.not_lt, Int.not_le, Decidable.not_not, beq_iff_eq, bne_iff_ne] at hc1
      refine c_seq ?_
      refine c_region ?_
      refine wl (wl_val hl rfl trivial (r_move hl rfl) ?_)
      clear hl a; intro a hl
      refine wl (wl_val hl rfl trivial (r_move hl rfl) ?_)
      clear hl a; intro a hl
      refine wl (wl_val hl rfl trivial (r_move hl rfl) ?_)
      clear hl a; intro a hl
      refine wl (w_call hl hh rfl trivial rfl cal43 rfl (paint_spec _ _ _ _ _ _ (by omega) (by omega)) (by repeat (first | exact keeps_nil | apply keeps_cons (by repeat (first | exact find_head | apply find_tail)) (by first  | rfl) | exact keeps_self | apply keeps_mv)) trivial ?_)
      clear hl hh a w; intro vc Fc a w hR hl hh
      obtain ⟨rfl, rfl⟩ := hR
      simp only [List.cons_append, List.nil_append] at hh
      refine w_nil ?_
      have hl2 := hl.add (t := 0) (hl.add (t := 8) (hl.nil) rfl) rfl; clear hl; have hl := hl2; clear hl2
      refine then_normal ?_
      refine c_seq ?_
      refine c_region ?_
      refine wl (wl_val hl rfl trivial (r_move hl rfl) ?_)
      clear hl a; intro a hl
      refine wl (wl_val hl rfl trivial (r_nilCheck hl rfl) ?_)
      clear hl a; intro a hl
      refine wl (wl_val hl rfl trivial (r_field hl rfl fld87_5) ?_)
      clear hl a; intro a hl
      refine wl (wl_val hl rfl trivial (r_field hl rfl fld47_3) ?_)
      clear hl a; intro a hl
      refine wl (w_load hl hh rfl trivial one3 rfl (by repeat (first | exact find_head | apply find_tail)) (by exact cell_cnSpent _) ?_)
      clear hl a; intro a hl
      try simp (disch := omega) only [word_setGen, word_setNxt, word_setSz, word_setRole, word_setLst, word_setFresh, word_setBoot, word_setCnNil, word_setCnLive, word_setCnFree, word_setCnSpent, word_setCnUnt, word_paintTo, word_genTo, gen_setWord, gen_setNxt, gen_setSz, gen_setRole, gen_setLst, gen_setFresh, gen_setBoot, gen_setCnNil, gen_setCnLive, gen_setCnFree, gen_setCnSpent, gen_setCnUnt, gen_paintTo, nxt_setWord, nxt_setGen, nxt_setSz, nxt_setRole, nxt_setLst, nxt_setFresh, nxt_setBoot, nxt_setCnNil, nxt_setCnLive, nxt_setCnFree, nxt_setCnSpent, nxt_setCnUnt, nxt_paintTo, nxt_genTo, sz_setWord, sz_setGen, sz_setNxt, sz_setRole, sz_setLst, sz_setFresh, sz_setBoot, sz_setCnNil, sz_setCnLive, sz_setCnFree, sz_setCnSpent, sz_setCnUnt, sz_paintTo, sz_genTo, role_setWord, role_setGen, role_setNxt, role_setSz, role_setLst, role_setFresh, role_setBoot, role_setCnNil, role_setCnLive, role_setCnFree, role_setCnSpent, role_setCnUnt, role_genTo, lst_setWord, lst_setGen, lst_setNxt, lst_setSz, lst_setRole, lst_setFresh, lst_setBoot, lst_setCnNil, lst_setCnLive, lst_setCnFree, lst_setCnSpent, lst_setCnUnt, lst_paintTo, lst_genTo, fresh_setWord, fresh_setGen, fresh_setNxt, fresh_setSz, fresh_setRole, fresh_setLst, fresh_setBoot, fresh_setCnNil, fresh_setCnLive, fresh_setCnFree, fresh_setCnSpent, fresh_setCnUnt, fresh_setFresh, fresh_paintTo, fresh_genTo, boot_setWord, boot_setGen, boot_setNxt, boot_setSz, boot_setRole, boot_setLst, boot_setFresh, boot_setCnNil, boot_setCnLive, boot_setCnFree, boot_setCnSpent, boot_setCnUnt, boot_setBoot, boot_paintTo, boot_genTo, cnNil_setWord, cnNil_setGen, cnNil_setNxt, cnNil_setSz, cnNil_setRole, cnNil_setLst, cnNil_setFresh, cnNil_setBoot, cnNil_setCnLive, cnNil_setCnFree, cnNil_setCnSpent, cnNil_setCnUnt, cnNil_setCnNil, cnNil_paintTo, cnNil_genTo, cnLive_setWord, cnLive_setGen, cnLive_setNxt, cnLive_setSz, cnLive_setRole, cnLive_setLst, cnLive_setFresh, cnLive_setBoot, cnLive_setCnNil, cnLive_setCnFree, cnLive_setCnSpent, cnLive_setCnUnt, cnLive_setCnLive, cnLive_paintTo, cnLive_genTo, cnFree_setWord, cnFree_setGen, cnFree_setNxt, cnFree_setSz, cnFree_setRole, cnFree_setLst, cnFree_setFresh, cnFree_setBoot, cnFree_setCnNil, cnFree_setCnLive, cnFree_setCnSpent, cnFree_setCnUnt, cnFree_setCnFree, cnFree_paintTo, cnFree_genTo, cnSpent_setWord, cnSpent_setGen, cnSpent_setNxt, cnSpent_setSz, cnSpent_setRole, cnSpent_setLst, cnSpent_setFresh, cnSpent_setBoot, cnSpent_setCnNil, cnSpent_setCnLive, cnSpent_setCnFree, cnSpent_setCnUnt, cnSpent_setCnSpent, cnSpent_paintTo, cnSpent_genTo, cnUnt_setWord, cnUnt_setGen, cnUnt_setNxt, cnUnt_setSz, cnUnt_setRole, cnUnt_setLst, cnUnt_setFresh, cnUnt_setBoot, cnUnt_setCnNil, cnUnt_setCnLive, cnUnt_setCnFree, cnUnt_setCnSpent, cnUnt_setCnUnt, cnUnt_paintTo, cnUnt_genTo] at hl
      refine wl (wl_val hl rfl trivial (r_move hl rfl) ?_)
      clear hl a; intro a hl
      first | refine wl (wl_val hl rfl trivial (r_add hl rfl rfl (by simp only [Fits]; omega)) ?_) | refine wl (wl_val hl rfl trivial (r_addW hl rfl rfl) ?_)
      clear hl a; intro a hl
      refine wl (wl_val hl rfl trivial (r_nilCheck hl rfl) ?_)
      clear hl a; intro a hl
      refine wl (wl_val hl rfl trivial (r_field hl rfl fld87_5) ?_)
      clear hl a; intro a hl
      refine wl (wl_val hl rfl trivial (r_field hl rfl fld47_3) ?_)
      clear hl a; intro a hl
      refine wl (w_store hl hh trivial one3 rfl rfl (by repeat (first | exact find_head | apply find_tail)) (by rw [encL_length]; omega) (by first | rfl | (apply Row.one; assumption)) (by exact st_cnSpent _ _) ?_)
      clear hh w; intro w hh
      refine w_nil ?_
      have hl2 := hl.nil; clear hl; have hl := hl2; clear hl2
      refine then_normal ?_
      refine c_seq ?_
      refine c_region ?_
      refine wl (wl_val hl rfl trivial (r_assign hl rfl) ?_)
      clear hl a; intro a hl
      refine w_nil ?_
      have hl2 := hl.add (t := 4) (hl.nil) rfl; clear hl; have hl := hl2; clear hl2
      refine then_normal ?_
      refine wp_ret ?_
      refine then_ret ?_
      refine f_ret1 (F' := [(b, C (encL (spendF f x s)) 87)]) hl hh rfl rfl (by repeat (first | exact keeps_nil | apply keeps_cons (by repeat (first | exact find_head | apply find_tail)) (by first  | exact congrArg (fun q => C (encL q) 87) (by unfold spendF; rfl) | rfl) | exact keeps_self | apply keeps_mv)) ?_
      exact ⟨rfl, rfl⟩
    · intro hc1
      try simp only [decide_eq_true_eq, decide_eq_false_iff_not, Bool.not_eq_true', Bool.not_eq_false', Bool.not_eq_true, Bool.not_eq_false, Bool.and_eq_true, Bool.or_eq_true, Bool.and_eq_false_iff, Bool.or_eq_false_iff, Bool.not_not, ne_eq, Int.not_lt, Int.not_le, Decidable.not_not, beq_iff_eq, bne_iff_ne] at hc1
      exfalso; omega

set_option maxHeartbeats 1000000 in
theorem free_push_spec (b : Nat) (f : Nat → Int) (r : Nat) (x s : Nat) (hx : r % 65536 = x) (h : judgeF f r = 0) (hx1 : 2 ≤ x) (hs : sz f x = s) (hs1 : 2 ≤ s) (hs2 : s ≤ 32) (hs3 : x + s ≤ 4096) (hc1 : -1000000000 ≤ cnLive f) (hc2 : cnLive f ≤ 1000000000) (hc3 : -1000000000 ≤ cnFree f) (hc4 : cnFree f ≤ 1000000000) (hc5 : -1000000000 ≤ cnSpent f) (hc6 : cnSpent f ≤ 1000000000) (hg : gen f x ≠ 281474976710655) : Sp Try.prog 34 #[.pointer (some ⟨b, 0, none⟩), .int .u64 r] [(b, C (encL (f)) 87)] (fun v F' => v = .int .u8 0 ∧ F' = [(b, C (encL (pushF f x s)) 87)]) := by
  refine f_enter (args := [.pointer (some ⟨b, 0, none⟩), .int .u64 r]) Try.func34 rfl Try.ntmps34 rfl ?_
  intro w0 w a hpre hl hh
  simp only [slotsFrom, Nat.reduceAdd] at hl
  refine c_seq ?_
  refine c_region ?_
  refine wl (wl_val hl rfl trivial (r_assign hl rfl) ?_)
  clear hl a; intro a hl
  refine w_nil ?_
  have hl2 := hl.add (t := 0) (hl.add (t := 1) (hl.nil) rfl) rfl; clear hl; have hl := hl2; clear hl2
  refine then_normal ?_
  refine c_seq ?_
  refine c_seq ?_
  refine c_region ?_
  refine wl (wl_val hl rfl trivial (r_move hl rfl) ?_)
  clear hl a; intro a hl
  refine wl (wl_val hl rfl trivial (r_move hl rfl) ?_)
  clear hl a; intro a hl
  refine wl (w_call hl hh rfl trivial rfl cal42 rfl (judge_spec _ _ _) (by repeat (first | exact keeps_nil | apply keeps_cons (by repeat (first | exact find_head | apply find_tail)) (by first  | rfl) | exact keeps_self | apply keeps_mv)) trivial ?_)
  clear hl hh a w; intro vc Fc a w hR hl hh
  obtain ⟨rfl, rfl⟩ := hR
  simp only [List.cons_append, List.nil_append] at hh
  refine wl (wl_val hl rfl trivial (r_assign hl rfl) ?_)
  clear hl a; intro a hl
  refine w_nil ?_
  have hl2 := hl.add (t := 0) (hl.add (t := 1) (hl.add (t := 5) (hl.nil) rfl) rfl) rfl; clear hl; have hl := hl2; clear hl2
  refine then_normal ?_
  refine c_seq ?_
  refine c_region ?_
  refine wl (wl_val hl rfl trivial (r_move hl rfl) ?_)
  clear hl a; intro a hl
  refine wl (wl_val hl rfl trivial (r_neq hl rfl rfl) ?_)
  clear hl a; intro a hl
  refine w_nil ?_
  have hl2 := hl.add (t := 0) (hl.add (t := 1) (hl.add (t := 5) (hl.add (t := 14) (hl.nil) rfl) rfl) rfl) rfl; clear hl; have hl := hl2; clear hl2
  refine then_normal ?_
  refine c_cond hl rfl ?_ ?_
  · intro hc0
    try simp only [decide_eq_true_eq, decide_eq_false_iff_not, Bool.not_eq_true', Bool.not_eq_false', Bool.not_eq_true, Bool.not_eq_false, Bool.and_eq_true, Bool.or_eq_true, Bool.and_eq_false_iff, Bool.or_eq_false_iff, Bool.not_not, ne_eq, Int.not_lt, Int.not_le, Decidable.not_not, beq_iff_eq, bne_iff_ne] at hc0
    exfalso; omega
  · intro hc0
    try simp only [decide_eq_true_eq, decide_eq_false_iff_not, Bool.not_eq_true', Bool.not_eq_false', Bool.not_eq_true, Bool.not_eq_false, Bool.and_eq_true, Bool.or_eq_true, Bool.and_eq_false_iff, Bool.or_eq_false_iff, Bool.not_not, ne_eq, Int.not_lt, Int.not_le, Decidable.not_not, beq_iff_eq, bne_iff_ne] at hc0
    refine wp_skip ?_
    refine then_normal ?_
    refine c_seq ?_
    refine c_region ?_
    refine wl (wl_val hl rfl trivial (r_move hl rfl) ?_)
    clear hl a; intro a hl
    refine wl (w_call hl hh rfl trivial rfl cal27 rfl (refAddr_spec _) (by repeat (first | exact keeps_nil | apply keeps_cons (by repeat (first | exact find_head | apply find_tail)) (by first  | rfl) | exact keeps_self | apply keeps_mv)) trivial ?_)
    clear hl hh a w; intro vc Fc a w hR hl hh
    obtain ⟨rfl, rfl⟩ := hR
    simp only [List.cons_append, List.nil_append] at hh
    refine wl (wl_val hl rfl trivial (r_assign hl rfl) ?_)
    clear hl a; intro a hl
    refine w_nil ?_
    have hl2 := hl.add (t := 0) (hl.add (t := 6) (hl.nil) rfl) rfl; clear hl; have hl := hl2; clear hl2
    rw [hx] at hl
    refine then_normal ?_
    refine c_seq ?_
    refine c_region ?_
    refine wl (wl_val hl rfl trivial (r_move hl rfl) ?_)
    clear hl a; intro a hl
    refine wl (wl_val hl rfl trivial (r_move hl rfl) ?_)
    clear hl a; intro a hl
    refine wl (wl_val hl rfl trivial (r_nilCheck hl rfl) ?_)
    clear hl a; intro a hl
    refine wl (wl_val hl rfl trivial (r_field hl rfl fld87_1) ?_)
    clear hl a; intro a hl
    refine wl (wl_val hl rfl trivial (r_indexA hl rfl rfl arr84 (by omega) (by omega) (by first | (simp only [Int.reduceToNat]; rfl) | exact toNat_add1 _ | exact toNat_add2 _ _ | exact toNat_emod _ _ | exact Int.toNat_natCast _ | rfl)) ?_)
    clear hl a; intro a hl
    refine wl (wl_val hl rfl trivial (r_assign hl rfl) ?_)
    clear hl a; intro a hl
    refine w_nil ?_
    have hl2 := hl.add (t := 0) (hl.add (t := 6) (hl.add (t := 7) (hl.nil) rfl) rfl) rfl; clear hl; have hl := hl2; clear hl2
    refine then_normal ?_
    refine c_seq ?_
    refine c_region ?_
    refine wl (wl_val hl rfl trivial (r_move hl rfl) ?_)
    clear hl a; intro a hl
    refine wl (wl_val hl rfl trivial (r_nilCheck hl rfl) ?_)
    clear hl a; intro a hl
    refine wl (wl_val hl rfl trivial (r_field hl rfl fld83_2) ?_)
    clear hl a; intro a hl
    refine wl (w_load hl hh rfl trivial one5 rfl (by repeat (first | exact find_head | apply find_tail)) (by exact cell_sz _ _ (by omega)) ?_)
    clear hl a; intro a hl
    try simp (disch := omega) only [word_setGen, word_setNxt, word_setSz, word_setRole, word_setLst, word_setFresh, word_setBoot, word_setCnNil, word_setCnLive, word_setCnFree, word_setCnSpent, word_setCnUnt, word_paintTo, word_genTo, gen_setWord, gen_setNxt, gen_setSz, gen_setRole, gen_setLst, gen_setFresh, gen_setBoot, gen_setCnNil, gen_setCnLive, gen_setCnFree, gen_setCnSpent, gen_setCnUnt, gen_paintTo, nxt_setWord, nxt_setGen, nxt_setSz, nxt_setRole, nxt_setLst, nxt_setFresh, nxt_setBoot, nxt_setCnNil, nxt_setCnLive, nxt_setCnFree, nxt_setCnSpent, nxt_setCnUnt, nxt_paintTo, nxt_genTo, sz_setWord, sz_setGen, sz_setNxt, sz_setRole, sz_setLst, sz_setFresh, sz_setBoot, sz_setCnNil, sz_setCnLive, sz_setCnFree, sz_setCnSpent, sz_setCnUnt, sz_paintTo, sz_genTo, role_setWord, role_setGen, role_setNxt, role_setSz, role_setLst, role_setFresh, role_setBoot, role_setCnNil, role_setCnLive, role_setCnFree, role_setCnSpent, role_setCnUnt, role_genTo, lst_setWord, lst_setGen, lst_setNxt, lst_setSz, lst_setRole, lst_setFresh, lst_setBoot, lst_setCnNil, lst_setCnLive, lst_setCnFree, lst_setCnSpent, lst_setCnUnt, lst_paintTo, lst_genTo, fresh_setWord, fresh_setGen, fresh_setNxt, fresh_setSz, fresh_setRole, fresh_setLst, fresh_setBoot, fresh_setCnNil, fresh_setCnLive, fresh_setCnFree, fresh_setCnSpent, fresh_setCnUnt, fresh_setFresh, fresh_paintTo, fresh_genTo, boot_setWord, boot_setGen, boot_setNxt, boot_setSz, boot_setRole, boot_setLst, boot_setFresh, boot_setCnNil, boot_setCnLive, boot_setCnFree, boot_setCnSpent, boot_setCnUnt, boot_setBoot, boot_paintTo, boot_genTo, cnNil_setWord, cnNil_setGen, cnNil_setNxt, cnNil_setSz, cnNil_setRole, cnNil_setLst, cnNil_setFresh, cnNil_setBoot, cnNil_setCnLive, cnNil_setCnFree, cnNil_setCnSpent, cnNil_setCnUnt, cnNil_setCnNil, cnNil_paintTo, cnNil_genTo, cnLive_setWord, cnLive_setGen, cnLive_setNxt, cnLive_setSz, cnLive_setRole, cnLive_setLst, cnLive_setFresh, cnLive_setBoot, cnLive_setCnNil, cnLive_setCnFree, cnLive_setCnSpent, cnLive_setCnUnt, cnLive_setCnLive, cnLive_paintTo, cnLive_genTo, cnFree_setWord, cnFree_setGen, cnFree_setNxt, cnFree_setSz, cnFree_setRole, cnFree_setLst, cnFree_setFresh, cnFree_setBoot, cnFree_setCnNil, cnFree_setCnLive, cnFree_setCnSpent, cnFree_setCnUnt, cnFree_setCnFree, cnFree_paintTo, cnFree_genTo, cnSpent_setWord, cnSpent_setGen, cnSpent_setNxt, cnSpent_setSz, cnSpent_setRole, cnSpent_setLst, cnSpent_setFresh, cnSpent_setBoot, cnSpent_setCnNil, cnSpent_setCnLive, cnSpent_setCnFree, cnSpent_setCnUnt, cnSpent_setCnSpent, cnSpent_paintTo, cnSpent_genTo, cnUnt_setWord, cnUnt_setGen, cnUnt_setNxt, cnUnt_setSz, cnUnt_setRole, cnUnt_setLst, cnUnt_setFresh, cnUnt_setBoot, cnUnt_setCnNil, cnUnt_setCnLive, cnUnt_setCnFree, cnUnt_setCnSpent, cnUnt_setCnUnt, cnUnt_paintTo, cnUnt_genTo] at hl
    first | refine wl (wl_val hl rfl trivial (r_conv hl rfl Try.underlying5 Try.underlying3 (by simp only [Fits]; omega)) ?_) | refine wl (wl_val hl rfl trivial (r_convW hl rfl Try.underlying5 Try.underlying3) ?_)
    clear hl a; intro a hl
    refine wl (wl_val hl rfl trivial (r_assign hl rfl) ?_)
    clear hl a; intro a hl
    refine w_nil ?_
    have hl2 := hl.add (t := 0) (hl.add (t := 6) (hl.add (t := 7) (hl.add (t := 8) (hl.nil) rfl) rfl) rfl) rfl; clear hl; have hl := hl2; clear hl2
    rw [hs] at hl
    refine then_normal ?_
    refine c_seq ?_
    refine c_region ?_
    refine wl (wl_val hl rfl trivial (r_move hl rfl) ?_)
    clear hl a; intro a hl
    refine wl (wl_val hl rfl trivial (r_nilCheck hl rfl) ?_)
    clear hl a; intro a hl
    refine wl (wl_val hl rfl trivial (r_field hl rfl fld87_5) ?_)
    clear hl a; intro a hl
    refine wl (wl_val hl rfl trivial (r_field hl rfl fld47_1) ?_)
    clear hl a; intro a hl
    refine wl (w_load hl hh rfl trivial one3 rfl (by repeat (first | exact find_head | apply find_tail)) (by exact cell_cnLive _) ?_)
    clear hl a; intro a hl
    try simp (disch := omega) only [word_setGen, word_setNxt, word_setSz, word_setRole, word_setLst, word_setFresh, word_setBoot, word_setCnNil, word_setCnLive, word_setCnFree, word_setCnSpent, word_setCnUnt, word_paintTo, word_genTo, gen_setWord, gen_setNxt, gen_setSz, gen_setRole, gen_setLst, gen_setFresh, gen_setBoot, gen_setCnNil, gen_setCnLive, gen_setCnFree, gen_setCnSpent, gen_setCnUnt, gen_paintTo, nxt_setWord, nxt_setGen, nxt_setSz, nxt_setRole, nxt_setLst, nxt_setFresh, nxt_setBoot, nxt_setCnNil, nxt_setCnLive, nxt_setCnFree, nxt_setCnSpent, nxt_setCnUnt, nxt_paintTo, nxt_genTo, sz_setWord, sz_setGen, sz_setNxt, sz_setRole, sz_setLst, sz_setFresh, sz_setBoot, sz_setCnNil, sz_setCnLive, sz_setCnFree, sz_setCnSpent, sz_setCnUnt, sz_paintTo, sz_genTo, role_setWord, role_setGen, role_setNxt, role_setSz, role_setLst, role_setFresh, role_setBoot, role_setCnNil, role_setCnLive, role_setCnFree, role_setCnSpent, role_setCnUnt, role_genTo, lst_setWord, lst_setGen, lst_setNxt, lst_setSz, lst_setRole, lst_setFresh, lst_setBoot, lst_setCnNil, lst_setCnLive, lst_setCnFree, lst_setCnSpent, lst_setCnUnt, lst_paintTo, lst_genTo, fresh_setWord, fresh_setGen, fresh_setNxt, fresh_setSz, fresh_setRole, fresh_setLst, fresh_setBoot, fresh_setCnNil, fresh_setCnLive, fresh_setCnFree, fresh_setCnSpent, fresh_setCnUnt, fresh_setFresh, fresh_paintTo, fresh_genTo, boot_setWord, boot_setGen, boot_setNxt, boot_setSz, boot_setRole, boot_setLst, boot_setFresh, boot_setCnNil, boot_setCnLive, boot_setCnFree, boot_setCnSpent, boot_setCnUnt, boot_setBoot, boot_paintTo, boot_genTo, cnNil_setWord, cnNil_setGen, cnNil_setNxt, cnNil_setSz, cnNil_setRole, cnNil_setLst, cnNil_setFresh, cnNil_setBoot, cnNil_setCnLive, cnNil_setCnFree, cnNil_setCnSpent, cnNil_setCnUnt, cnNil_setCnNil, cnNil_paintTo, cnNil_genTo, cnLive_setWord, cnLive_setGen, cnLive_setNxt, cnLive_setSz, cnLive_setRole, cnLive_setLst, cnLive_setFresh, cnLive_setBoot, cnLive_setCnNil, cnLive_setCnFree, cnLive_setCnSpent, cnLive_setCnUnt, cnLive_setCnLive, cnLive_paintTo, cnLive_genTo, cnFree_setWord, cnFree_setGen, cnFree_setNxt, cnFree_setSz, cnFree_setRole, cnFree_setLst, cnFree_setFresh, cnFree_setBoot, cnFree_setCnNil, cnFree_setCnLive, cnFree_setCnSpent, cnFree_setCnUnt, cnFree_setCnFree, cnFree_paintTo, cnFree_genTo, cnSpent_setWord, cnSpent_setGen, cnSpent_setNxt, cnSpent_setSz, cnSpent_setRole, cnSpent_setLst, cnSpent_setFresh, cnSpent_setBoot, cnSpent_setCnNil, cnSpent_setCnLive, cnSpent_setCnFree, cnSpent_setCnUnt, cnSpent_setCnSpent, cnSpent_paintTo, cnSpent_genTo, cnUnt_setWord, cnUnt_setGen, cnUnt_setNxt, cnUnt_setSz, cnUnt_setRole, cnUnt_setLst, cnUnt_setFresh, cnUnt_setBoot, cnUnt_setCnNil, cnUnt_setCnLive, cnUnt_setCnFree, cnUnt_setCnSpent, cnUnt_setCnUnt, cnUnt_paintTo, cnUnt_genTo] at hl
    refine wl (wl_val hl rfl trivial (r_move hl rfl) ?_)
    clear hl a; intro a hl
    first | refine wl (wl_val hl rfl trivial (r_sub hl rfl rfl (by simp only [Fits]; omega)) ?_) | refine wl (wl_val hl rfl trivial (r_subW hl rfl rfl) ?_)
    clear hl a; intro a hl
    refine wl (wl_val hl rfl trivial (r_nilCheck hl rfl) ?_)
    clear hl a; intro a hl
    refine wl (wl_val hl rfl trivial (r_field hl rfl fld87_5) ?_)
    clear hl a; intro a hl
    refine wl (wl_val hl rfl trivial (r_field hl rfl fld47_1) ?_)
    clear hl a; intro a hl
    refine wl (w_store hl hh trivial one3 rfl rfl (by repeat (first | exact find_head | apply find_tail)) (by rw [encL_length]; omega) (by first | rfl | (apply Row.one; assumption)) (by exact st_cnLive _ _) ?_)
    clear hh w; intro w hh
    refine w_nil ?_
    have hl2 := hl.add (t := 0) (hl.add (t := 6) (hl.add (t := 7) (hl.add (t := 8) (hl.nil) rfl) rfl) rfl) rfl; clear hl; have hl := hl2; clear hl2
    refine then_normal ?_
    refine c_seq ?_
    refine c_seq ?_
    refine c_region ?_
    refine wl (wl_val hl rfl trivial (r_move hl rfl) ?_)
    clear hl a; intro a hl
    refine wl (wl_val hl rfl trivial (r_nilCheck hl rfl) ?_)
    clear hl a; intro a hl
    refine wl (wl_val hl rfl trivial (r_field hl rfl fld83_0) ?_)
    clear hl a; intro a hl
    refine wl (w_load hl hh rfl trivial one27 rfl (by repeat (first | exact find_head | apply find_tail)) (by exact cell_gen _ _ (by omega)) ?_)
    clear hl a; intro a hl
    try simp (disch := omega) only [word_setGen, word_setNxt, word_setSz, word_setRole, word_setLst, word_setFresh, word_setBoot, word_setCnNil, word_setCnLive, word_setCnFree, word_setCnSpent, word_setCnUnt, word_paintTo, word_genTo, gen_setWord, gen_setNxt, gen_setSz, gen_setRole, gen_setLst, gen_setFresh, gen_setBoot, gen_setCnNil, gen_setCnLive, gen_setCnFree, gen_setCnSpent, gen_setCnUnt, gen_paintTo, nxt_setWord, nxt_setGen, nxt_setSz, nxt_setRole, nxt_setLst, nxt_setFresh, nxt_setBoot, nxt_setCnNil, nxt_setCnLive, nxt_setCnFree, nxt_setCnSpent, nxt_setCnUnt, nxt_paintTo, nxt_genTo, sz_setWord, sz_setGen, sz_setNxt, sz_setRole, sz_setLst, sz_setFresh, sz_setBoot, sz_setCnNil, sz_setCnLive, sz_setCnFree, sz_setCnSpent, sz_setCnUnt, sz_paintTo, sz_genTo, role_setWord, role_setGen, role_setNxt, role_setSz, role_setLst, role_setFresh, role_setBoot, role_setCnNil, role_setCnLive, role_setCnFree, role_setCnSpent, role_setCnUnt, role_genTo, lst_setWord, lst_setGen, lst_setNxt, lst_setSz, lst_setRole, lst_setFresh, lst_setBoot, lst_setCnNil, lst_setCnLive, lst_setCnFree, lst_setCnSpent, lst_setCnUnt, lst_paintTo, lst_genTo, fresh_setWord, fresh_setGen, fresh_setNxt, fresh_setSz, fresh_setRole, fresh_setLst, fresh_setBoot, fresh_setCnNil, fresh_setCnLive, fresh_setCnFree, fresh_setCnSpent, fresh_setCnUnt, fresh_setFresh, fresh_paintTo, fresh_genTo, boot_setWord, boot_setGen, boot_setNxt, boot_setSz, boot_setRole, boot_setLst, boot_setFresh, boot_setCnNil, boot_setCnLive, boot_setCnFree, boot_setCnSpent, boot_setCnUnt, boot_setBoot, boot_paintTo, boot_genTo, cnNil_setWord, cnNil_setGen, cnNil_setNxt, cnNil_setSz, cnNil_setRole, cnNil_setLst, cnNil_setFresh, cnNil_setBoot, cnNil_setCnLive, cnNil_setCnFree, cnNil_setCnSpent, cnNil_setCnUnt, cnNil_setCnNil, cnNil_paintTo, cnNil_genTo, cnLive_setWord, cnLive_setGen, cnLive_setNxt, cnLive_setSz, cnLive_setRole, cnLive_setLst, cnLive_setFresh, cnLive_setBoot, cnLive_setCnNil, cnLive_setCnFree, cnLive_setCnSpent, cnLive_setCnUnt, cnLive_setCnLive, cnLive_paintTo, cnLive_genTo, cnFree_setWord, cnFree_setGen, cnFree_setNxt, cnFree_setSz, cnFree_setRole, cnFree_setLst, cnFree_setFresh, cnFree_setBoot, cnFree_setCnNil, cnFree_setCnLive, cnFree_setCnSpent, cnFree_setCnUnt, cnFree_setCnFree, cnFree_paintTo, cnFree_genTo, cnSpent_setWord, cnSpent_setGen, cnSpent_setNxt, cnSpent_setSz, cnSpent_setRole, cnSpent_setLst, cnSpent_setFresh, cnSpent_setBoot, cnSpent_setCnNil, cnSpent_setCnLive, cnSpent_setCnFree, cnSpent_setCnUnt, cnSpent_setCnSpent, cnSpent_paintTo, cnSpent_genTo, cnUnt_setWord, cnUnt_setGen, cnUnt_setNxt, cnUnt_setSz, cnUnt_setRole, cnUnt_setLst, cnUnt_setFresh, cnUnt_setBoot, cnUnt_setCnNil, cnUnt_setCnLive, cnUnt_setCnFree, cnUnt_setCnSpent, cnUnt_setCnUnt, cnUnt_paintTo, cnUnt_genTo] at hl
    refine wl (wl_val hl rfl trivial (r_eql hl rfl rfl) ?_)
    clear hl a; intro a hl
    refine w_nil ?_
    have hl2 := hl.add (t := 0) (hl.add (t := 6) (hl.add (t := 7) (hl.add (t := 8) (hl.add (t := 42) (hl.nil) rfl) rfl) rfl) rfl) rfl; clear hl; have hl := hl2; clear hl2
    refine then_normal ?_
    refine c_cond hl rfl ?_ ?_
    · intro hc1
      try simp only [decide_eq_true_eq, decide_eq_false_iff_not, Bool.not_eq_true', Bool.not_eq_false', Bool.not_eq_true, Bool.not_eq_false, Bool.and_eq_true, Bool.or_eq_true, Bool.and_eq_false_iff, Bool.or_eq_false_iff, Bool.not_not, ne_eq, Int.not_lt, Int.not_le, Decidable.not_not, beq_iff_eq, bne_iff_ne] at hc1
      exfalso; omega
    · intro hc1
      try simp only [decide_eq_true_eq, decide_eq_false_iff_not, Bool.not_eq_true', Bool.not_eq_false', Bool.not_eq_true, Bool.not_eq_false, Bool.and_eq_true, Bool.or_eq_true, Bool.and_eq_false_iff, Bool.or_eq_false_iff, Bool.not_not, ne_eq, Int.not_lt, Int.not_le, Decidable.not_not, beq_iff_eq, bne_iff_ne] at hc1
      refine wp_skip ?_
      refine then_normal ?_
      refine c_seq ?_
      refine c_region ?_
      refine wl (wl_val hl rfl trivial (r_move hl rfl) ?_)
      clear hl a; intro a hl
      refine wl (w_call hl hh rfl trivial rfl cal44 rfl (classOf_spec _ (by omega) (by omega)) (by repeat (first | exact keeps_nil | apply keeps_cons (by repeat (first | exact find_head | apply find_tail)) (by first  | rfl) | exact keeps_self | apply keeps_mv)) trivial ?_)
      clear hl hh a w; intro vc Fc a w hR hl hh
      obtain ⟨rfl, rfl⟩ := hR
      simp only [List.cons_append, List.nil_append] at hh
      rw [show (s : Int) / 2 - 1 = ((s / 2 - 1 : Nat) : Int) by omega] at hl
      refine wl (wl_val hl rfl trivial (r_assign hl rfl) ?_)
      clear hl a; intro a hl
      refine w_nil ?_
      have hl2 := hl.add (t := 0) (hl.add (t := 6) (hl.add (t := 7) (hl.add (t := 8) (hl.add (t := 9) (hl.nil) rfl) rfl) rfl) rfl) rfl; clear hl; have hl := hl2; clear hl2
      refine then_normal ?_
      refine c_seq ?_
      refine c_region ?_
      refine wl (wl_val hl rfl trivial (r_move hl rfl) ?_)
      clear hl a; intro a hl
      refine wl (wl_val hl rfl trivial (r_move hl rfl) ?_)
      clear hl a; intro a hl
      refine wl (wl_val hl rfl trivial (r_move hl rfl) ?_)
      clear hl a; intro a hl
      refine wl (wl_val hl rfl trivial (r_nilCheck hl rfl) ?_)
      clear hl a; intro a hl
      refine wl (wl_val hl rfl trivial (r_field hl rfl fld87_2) ?_)
      clear hl a; intro a hl
      refine wl (wl_val hl rfl trivial (r_indexA hl rfl rfl arr85 (by omega) (by omega) (by first | (simp only [Int.reduceToNat]; rfl) | exact toNat_add1 _ | exact toNat_add2 _ _ | exact toNat_emod _ _ | exact Int.toNat_natCast _ | rfl)) ?_)
      clear hl a; intro a hl
      refine wl (w_load hl hh rfl trivial one34 rfl (by repeat (first | exact find_head | apply find_tail)) (by exact cell_lst _ _ (by omega)) ?_)
      clear hl a; intro a hl
      try simp (disch := omega) only [word_setGen, word_setNxt, word_setSz, word_setRole, word_setLst, word_setFresh, word_setBoot, word_setCnNil, word_setCnLive, word_setCnFree, word_setCnSpent, word_setCnUnt, word_paintTo, word_genTo, gen_setWord, gen_setNxt, gen_setSz, gen_setRole, gen_setLst, gen_setFresh, gen_setBoot, gen_setCnNil, gen_setCnLive, gen_setCnFree, gen_setCnSpent, gen_setCnUnt, gen_paintTo, nxt_setWord, nxt_setGen, nxt_setSz, nxt_setRole, nxt_setLst, nxt_setFresh, nxt_setBoot, nxt_setCnNil, nxt_setCnLive, nxt_setCnFree, nxt_setCnSpent, nxt_setCnUnt, nxt_paintTo, nxt_genTo, sz_setWord, sz_setGen, sz_setNxt, sz_setRole, sz_setLst, sz_setFresh, sz_setBoot, sz_setCnNil, sz_setCnLive, sz_setCnFree, sz_setCnSpent, sz_setCnUnt, sz_paintTo, sz_genTo, role_setWord, role_setGen, role_setNxt, role_setSz, role_setLst, role_setFresh, role_setBoot, role_setCnNil, role_setCnLive, role_setCnFree, role_setCnSpent, role_setCnUnt, role_genTo, lst_setWord, lst_setGen, lst_setNxt, lst_setSz, lst_setRole, lst_setFresh, lst_setBoot, lst_setCnNil, lst_setCnLive, lst_setCnFree, lst_setCnSpent, lst_setCnUnt, lst_paintTo, lst_genTo, fresh_setWord, fresh_setGen, fresh_setNxt, fresh_setSz, fresh_setRole, fresh_setLst, fresh_setBoot, fresh_setCnNil, fresh_setCnLive, fresh_setCnFree, fresh_setCnSpent, fresh_setCnUnt, fresh_setFresh, fresh_paintTo, fresh_genTo, boot_setWord, boot_setGen, boot_setNxt, boot_setSz, boot_setRole, boot_setLst, boot_setFresh, boot_setCnNil, boot_setCnLive, boot_setCnFree, boot_setCnSpent, boot_setCnUnt, boot_setBoot, boot_paintTo, boot_genTo, cnNil_setWord, cnNil_setGen, cnNil_setNxt, cnNil_setSz, cnNil_setRole, cnNil_setLst, cnNil_setFresh, cnNil_setBoot, cnNil_setCnLive, cnNil_setCnFree, cnNil_setCnSpent, cnNil_setCnUnt, cnNil_setCnNil, cnNil_paintTo, cnNil_genTo, cnLive_setWord, cnLive_setGen, cnLive_setNxt, cnLive_setSz, cnLive_setRole, cnLive_setLst, cnLive_setFresh, cnLive_setBoot, cnLive_setCnNil, cnLive_setCnFree, cnLive_setCnSpent, cnLive_setCnUnt, cnLive_setCnLive, cnLive_paintTo, cnLive_genTo, cnFree_setWord, cnFree_setGen, cnFree_setNxt, cnFree_setSz, cnFree_setRole, cnFree_setLst, cnFree_setFresh, cnFree_setBoot, cnFree_setCnNil, cnFree_setCnLive, cnFree_setCnSpent, cnFree_setCnUnt, cnFree_setCnFree, cnFree_paintTo, cnFree_genTo, cnSpent_setWord, cnSpent_setGen, cnSpent_setNxt, cnSpent_setSz, cnSpent_setRole, cnSpent_setLst, cnSpent_setFresh, cnSpent_setBoot, cnSpent_setCnNil, cnSpent_setCnLive, cnSpent_setCnFree, cnSpent_setCnUnt, cnSpent_setCnSpent, cnSpent_paintTo, cnSpent_genTo, cnUnt_setWord, cnUnt_setGen, cnUnt_setNxt, cnUnt_setSz, cnUnt_setRole, cnUnt_setLst, cnUnt_setFresh, cnUnt_setBoot, cnUnt_setCnNil, cnUnt_setCnLive, cnUnt_setCnFree, cnUnt_setCnSpent, cnUnt_setCnUnt, cnUnt_paintTo, cnUnt_genTo] at hl
      refine wl (wl_val hl rfl trivial (r_nilCheck hl rfl) ?_)
      clear hl a; intro a hl
      refine wl (wl_val hl rfl trivial (r_field hl rfl fld83_1) ?_)
      clear hl a; intro a hl
      refine wl (w_store hl hh trivial one34 rfl rfl (by repeat (first | exact find_head | apply find_tail)) (by rw [encL_length]; omega) (by first | rfl | (apply Row.one; assumption)) (by exact st_nxt _ _ _ (by omega)) ?_)
      clear hh w; intro w hh
      refine w_nil ?_
      have hl2 := hl.add (t := 0) (hl.add (t := 6) (hl.add (t := 8) (hl.add (t := 9) (hl.nil) rfl) rfl) rfl) rfl; clear hl; have hl := hl2; clear hl2
      refine then_normal ?_
      refine c_seq ?_
      refine c_region ?_
      refine wl (wl_val hl rfl trivial (r_move hl rfl) ?_)
      clear hl a; intro a hl
      refine wl (wl_val hl rfl trivial (r_move hl rfl) ?_)
      clear hl a; intro a hl
      refine wl (wl_val hl rfl trivial (r_move hl rfl) ?_)
      clear hl a; intro a hl
      refine wl (wl_val hl rfl trivial (r_nilCheck hl rfl) ?_)
      clear hl a; intro a hl
      refine wl (wl_val hl rfl trivial (r_field hl rfl fld87_2) ?_)
      clear hl a; intro a hl
      refine wl (wl_val hl rfl trivial (r_indexA hl rfl rfl arr85 (by omega) (by omega) (by first | (simp only [Int.reduceToNat]; rfl) | exact toNat_add1 _ | exact toNat_add2 _ _ | exact toNat_emod _ _ | exact Int.toNat_natCast _ | rfl)) ?_)
      clear hl a; intro a hl
      refine wl (w_store hl hh trivial one34 rfl rfl (by repeat (first | exact find_head | apply find_tail)) (by rw [encL_length]; omega) (by first | rfl | (apply Row.one; assumption)) (by exact st_lst _ _ _ (by omega)) ?_)
      clear hh w; intro w hh
      refine w_nil ?_
      have hl2 := hl.add (t := 0) (hl.add (t := 6) (hl.add (t := 8) (hl.nil) rfl) rfl) rfl; clear hl; have hl := hl2; clear hl2
      refine then_normal ?_
      refine c_seq ?_
      refine c_region ?_
      refine wl (wl_val hl rfl trivial (r_move hl rfl) ?_)
      clear hl a; intro a hl
      refine wl (wl_val hl rfl trivial (r_move hl rfl) ?_)
      clear hl a; intro a hl
      refine wl (wl_val hl rfl trivial (r_move hl rfl) ?_)
      clear hl a; intro a hl
      refine wl (w_call hl hh rfl trivial rfl cal43 rfl (paint_spec _ _ _ _ _ _ (by omega) (by omega)) (by repeat (first | exact keeps_nil | apply keeps_cons (by repeat (first | exact find_head | apply find_tail)) (by first  | rfl) | exact keeps_self | apply keeps_mv)) trivial ?_)
      clear hl hh a w; intro vc Fc a w hR hl hh
      obtain ⟨rfl, rfl⟩ := hR
      simp only [List.cons_append, List.nil_append] at hh
      refine w_nil ?_
      have hl2 := hl.add (t := 0) (hl.add (t := 8) (hl.nil) rfl) rfl; clear hl; have hl := hl2; clear hl2
      refine then_normal ?_
      refine c_seq ?_
      refine c_region ?_
      refine wl (wl_val hl rfl trivial (r_move hl rfl) ?_)
      clear hl a; intro a hl
      refine wl (wl_val hl rfl trivial (r_nilCheck hl rfl) ?_)
      clear hl a; intro a hl
      refine wl (wl_val hl rfl trivial (r_field hl rfl fld87_5) ?_)
      clear hl a; intro a hl
      refine wl (wl_val hl rfl trivial (r_field hl rfl fld47_2) ?_)
      clear hl a; intro a hl
      refine wl (w_load hl hh rfl trivial one3 rfl (by repeat (first | exact find_head | apply find_tail)) (by exact cell_cnFree _) ?_)
      clear hl a; intro a hl
      try simp (disch := omega) only [word_setGen, word_setNxt, word_setSz, word_setRole, word_setLst, word_setFresh, word_setBoot, word_setCnNil, word_setCnLive, word_setCnFree, word_setCnSpent, word_setCnUnt, word_paintTo, word_genTo, gen_setWord, gen_setNxt, gen_setSz, gen_setRole, gen_setLst, gen_setFresh, gen_setBoot, gen_setCnNil, gen_setCnLive, gen_setCnFree, gen_setCnSpent, gen_setCnUnt, gen_paintTo, nxt_setWord, nxt_setGen, nxt_setSz, nxt_setRole, nxt_setLst, nxt_setFresh, nxt_setBoot, nxt_setCnNil, nxt_setCnLive, nxt_setCnFree, nxt_setCnSpent, nxt_setCnUnt, nxt_paintTo, nxt_genTo, sz_setWord, sz_setGen, sz_setNxt, sz_setRole, sz_setLst, sz_setFresh, sz_setBoot, sz_setCnNil, sz_setCnLive, sz_setCnFree, sz_setCnSpent, sz_setCnUnt, sz_paintTo, sz_genTo, role_setWord, role_setGen, role_setNxt, role_setSz, role_setLst, role_setFresh, role_setBoot, role_setCnNil, role_setCnLive, role_setCnFree, role_setCnSpent, role_setCnUnt, role_genTo, lst_setWord, lst_setGen, lst_setNxt, lst_setSz, lst_setRole, lst_setFresh, lst_setBoot, lst_setCnNil, lst_setCnLive, lst_setCnFree, lst_setCnSpent, lst_setCnUnt, lst_paintTo, lst_genTo, fresh_setWord, fresh_setGen, fresh_setNxt, fresh_setSz, fresh_setRole, fresh_setLst, fresh_setBoot, fresh_setCnNil, fresh_setCnLive, fresh_setCnFree, fresh_setCnSpent, fresh_setCnUnt, fresh_setFresh, fresh_paintTo, fresh_genTo, boot_setWord, boot_setGen, boot_setNxt, boot_setSz, boot_setRole, boot_setLst, boot_setFresh, boot_setCnNil, boot_setCnLive, boot_setCnFree, boot_setCnSpent, boot_setCnUnt, boot_setBoot, boot_paintTo, boot_genTo, cnNil_setWord, cnNil_setGen, cnNil_setNxt, cnNil_setSz, cnNil_setRole, cnNil_setLst, cnNil_setFresh, cnNil_setBoot, cnNil_setCnLive, cnNil_setCnFree, cnNil_setCnSpent, cnNil_setCnUnt, cnNil_setCnNil, cnNil_paintTo, cnNil_genTo, cnLive_setWord, cnLive_setGen, cnLive_setNxt, cnLive_setSz, cnLive_setRole, cnLive_setLst, cnLive_setFresh, cnLive_setBoot, cnLive_setCnNil, cnLive_setCnFree, cnLive_setCnSpent, cnLive_setCnUnt, cnLive_setCnLive, cnLive_paintTo, cnLive_genTo, cnFree_setWord, cnFree_setGen, cnFree_setNxt, cnFree_setSz, cnFree_setRole, cnFree_setLst, cnFree_setFresh, cnFree_setBoot, cnFree_setCnNil, cnFree_setCnLive, cnFree_setCnSpent, cnFree_setCnUnt, cnFree_setCnFree, cnFree_paintTo, cnFree_genTo, cnSpent_setWord, cnSpent_setGen, cnSpent_setNxt, cnSpent_setSz, cnSpent_setRole, cnSpent_setLst, cnSpent_setFresh, cnSpent_setBoot, cnSpent_setCnNil, cnSpent_setCnLive, cnSpent_setCnFree, cnSpent_setCnUnt, cnSpent_setCnSpent, cnSpent_paintTo, cnSpent_genTo, cnUnt_setWord, cnUnt_setGen, cnUnt_setNxt, cnUnt_setSz, cnUnt_setRole, cnUnt_setLst, cnUnt_setFresh, cnUnt_setBoot, cnUnt_setCnNil, cnUnt_setCnLive, cnUnt_setCnFree, cnUnt_setCnSpent, cnUnt_setCnUnt, cnUnt_paintTo, cnUnt_genTo] at hl
      refine wl (wl_val hl rfl trivial (r_move hl rfl) ?_)
      clear hl a; intro a hl
      first | refine wl (wl_val hl rfl trivial (r_add hl rfl rfl (by simp only [Fits]; omega)) ?_) | refine wl (wl_val hl rfl trivial (r_addW hl rfl rfl) ?_)
      clear hl a; intro a hl
      refine wl (wl_val hl rfl trivial (r_nilCheck hl rfl) ?_)
      clear hl a; intro a hl
      refine wl (wl_val hl rfl trivial (r_field hl rfl fld87_5) ?_)
      clear hl a; intro a hl
      refine wl (wl_val hl rfl trivial (r_field hl rfl fld47_2) ?_)
      clear hl a; intro a hl
      refine wl (w_store hl hh trivial one3 rfl rfl (by repeat (first | exact find_head | apply find_tail)) (by rw [encL_length]; omega) (by first | rfl | (apply Row.one; assumption)) (by exact st_cnFree _ _) ?_)
      clear hh w; intro w hh
      refine w_nil ?_
      have hl2 := hl.nil; clear hl; have hl := hl2; clear hl2
      refine then_normal ?_
      refine c_seq ?_
      refine c_region ?_
      refine wl (wl_val hl rfl trivial (r_assign hl rfl) ?_)
      clear hl a; intro a hl
      refine w_nil ?_
      have hl2 := hl.add (t := 4) (hl.nil) rfl; clear hl; have hl := hl2; clear hl2
      refine then_normal ?_
      refine wp_ret ?_
      refine f_ret1 (F' := [(b, C (encL (pushF f x s)) 87)]) hl hh rfl rfl (by repeat (first | exact keeps_nil | apply keeps_cons (by repeat (first | exact find_head | apply find_tail)) (by first  | exact congrArg (fun q => C (encL q) 87) (by unfold pushF; rfl) | rfl) | exact keeps_self | apply keeps_mv)) ?_
      exact ⟨rfl, rfl⟩


/-- a node of size s at x, off its list -/
def popF (f : Nat → Int) (x s : Nat) : Nat → Int := setCnFree (setNxt (setLst f (s / 2 - 1) (nxt f x)) x 0) (cnFree f - s)
/-- a node of size s, carved at x -/
def carveF (f : Nat → Int) (x s : Nat) : Nat → Int := setCnUnt (setSz (setFresh f (fresh f + (s : Int))) x s) (cnUnt f - s)
/-- handed out -/
def handF (f : Nat → Int) (x s : Nat) : Nat → Int := setCnLive (paintTo (genTo f x s) x 1 2 s) (cnLive f + s)
theorem roundUp_yes (n : Nat) (h1 : 1 ≤ n) (h2 : n ≤ 32) (s : Nat) (hs : (n + 1) / 2 * 2 = s) : Sp Try.prog 46 #[.int .i64 n] [] (fun v F' => v = .tuple #[.int .i64 s, .bool true] ∧ F' = []) := by
  have := roundUp_spec n
  rw [if_pos (by omega)] at this
  rw [show ((n : Int) + 1) / 2 * 2 = (s : Int) by omega] at this
  exact this
theorem roundUp_no (n : Nat) (h1 : n = 0 ∨ 32 < n) : Sp Try.prog 46 #[.int .i64 n] [] (fun v F' => v = .tuple #[.int .i64 0, .bool false] ∧ F' = []) := by
  have := roundUp_spec n
  rw [if_neg (by omega)] at this
  exact this


set_option maxHeartbeats 1000000 in
theorem alloc_bad_spec (b : Nat) (f : Nat → Int) (n : Nat) (h : n = 0 ∨ 32 < n) : Sp Try.prog 37 #[.pointer (some ⟨b, 0, none⟩), .int .i64 n] [(b, C (encL (f)) 87)] (fun v F' => v = .tuple #[.int .u64 0, .int .u8 3] ∧ F' = [(b, C (encL (f)) 87)]) := by
  refine f_enter (args := [.pointer (some ⟨b, 0, none⟩), .int .i64 n]) Try.func37 rfl Try.ntmps37 rfl ?_
  intro w0 w a hpre hl hh
  simp only [slotsFrom, Nat.reduceAdd] at hl
  refine c_seq ?_
  refine c_region ?_
  refine wl (wl_val hl rfl trivial (r_assign hl rfl) ?_)
  clear hl a; intro a hl
  refine wl (wl_val hl rfl trivial (r_assign hl rfl) ?_)
  clear hl a; intro a hl
  refine w_nil ?_
  have hl2 := hl.add (t := 0) (hl.add (t := 1) (hl.nil) rfl) rfl; clear hl; have hl := hl2; clear hl2
  refine then_normal ?_
  refine c_seq ?_
  refine c_region ?_
  refine wl (wl_val hl rfl trivial (r_move hl rfl) ?_)
  clear hl a; intro a hl
  refine wl (w_call hl hh rfl trivial rfl cal46 rfl (roundUp_no n h) (by repeat (first | exact keeps_nil | apply keeps_cons (by repeat (first | exact find_head | apply find_tail)) (by first  | rfl) | exact keeps_self | apply keeps_mv)) trivial ?_)
  clear hl hh a w; intro vc Fc a w hR hl hh
  obtain ⟨rfl, rfl⟩ := hR
  simp only [List.cons_append, List.nil_append] at hh
  refine wl (wl_val hl rfl trivial (r_move hl rfl) ?_)
  clear hl a; intro a hl
  refine wl (wl_val hl rfl trivial (r_extract hl rfl (by simp only [List.getElem?_toArray, List.getElem?_cons_zero, List.getElem?_cons_succ]; rfl)) ?_)
  clear hl a; intro a hl
  refine wl (wl_val hl rfl trivial (r_extract hl rfl (by simp only [List.getElem?_toArray, List.getElem?_cons_zero, List.getElem?_cons_succ]; rfl)) ?_)
  clear hl a; intro a hl
  refine wl (wl_val hl rfl trivial (r_assign hl rfl) ?_)
  clear hl a; intro a hl
  refine wl (wl_val hl rfl trivial (r_assign hl rfl) ?_)
  clear hl a; intro a hl
  refine w_nil ?_
  have hl2 := hl.add (t := 0) (hl.add (t := 6) (hl.add (t := 7) (hl.nil) rfl) rfl) rfl; clear hl; have hl := hl2; clear hl2
  refine then_normal ?_
  refine c_seq ?_
  refine c_seq ?_
  refine c_region ?_
  refine wl (wl_val hl rfl trivial (r_move hl rfl) ?_)
  clear hl a; intro a hl
  refine wl (wl_val hl rfl trivial (r_not hl rfl) ?_)
  clear hl a; intro a hl
  refine w_nil ?_
  have hl2 := hl.add (t := 0) (hl.add (t := 6) (hl.add (t := 17) (hl.nil) rfl) rfl) rfl; clear hl; have hl := hl2; clear hl2
  refine then_normal ?_
  refine c_cond hl rfl ?_ ?_
  · intro hc0
    try simp only [decide_eq_true_eq, decide_eq_false_iff_not, Bool.not_eq_true', Bool.not_eq_false', Bool.not_eq_true, Bool.not_eq_false, Bool.and_eq_true, Bool.or_eq_true, Bool.and_eq_false_iff, Bool.or_eq_false_iff, Bool.not_not, ne_eq, Int.not_lt, Int.not_le, Decidable.not_not, beq_iff_eq, bne_iff_ne] at hc0
    refine c_seq ?_
    refine c_region ?_
    refine wl (wl_val hl rfl trivial (r_assign hl rfl) ?_)
    clear hl a; intro a hl
    refine wl (wl_val hl rfl trivial (r_assign hl rfl) ?_)
    clear hl a; intro a hl
    refine w_nil ?_
    have hl2 := hl.add (t := 4) (hl.add (t := 5) (hl.nil) rfl) rfl; clear hl; have hl := hl2; clear hl2
    refine then_normal ?_
    refine wp_ret ?_
    refine then_ret ?_
    refine f_ret2 (F' := [(b, C (encL (f)) 87)]) hl hh rfl rfl rfl (by repeat (first | exact keeps_nil | apply keeps_cons (by repeat (first | exact find_head | apply find_tail)) (by first  | rfl) | exact keeps_self | apply keeps_mv)) ?_
    exact ⟨rfl, rfl⟩
  · intro hc0
    try simp only [decide_eq_true_eq, decide_eq_false_iff_not, Bool.not_eq_true', Bool.not_eq_false', Bool.not_eq_true, Bool.not_eq_false, Bool.and_eq_true, Bool.or_eq_true, Bool.and_eq_false_iff, Bool.or_eq_false_iff, Bool.not_not, ne_eq, Int.not_lt, Int.not_le, Decidable.not_not, beq_iff_eq, bne_iff_ne] at hc0
    simp at hc0

set_option maxHeartbeats 1000000 in
theorem alloc_oom_spec (b : Nat) (f : Nat → Int) (n s : Nat) (hn1 : 1 ≤ n) (hn2 : n ≤ 32) (hs : (n + 1) / 2 * 2 = s) (h0 : lst f (s / 2 - 1) = 0) (hfr : 0 ≤ fresh f) (hfr2 : fresh f ≤ 4096) (h : 4096 < fresh f + s ∨ boot f = 281474976710655) (hb : boot f ≤ 281474976710655) : Sp Try.prog 37 #[.pointer (some ⟨b, 0, none⟩), .int .i64 n] [(b, C (encL (f)) 87)] (fun v F' => v = .tuple #[.int .u64 0, .int .u8 4] ∧ F' = [(b, C (encL (f)) 87)]) := by
  refine f_enter (args := [.pointer (some ⟨b, 0, none⟩), .int .i64 n]) Try.func37 rfl Try.ntmps37 rfl ?_
  intro w0 w a hpre hl hh
  simp only [slotsFrom, Nat.reduceAdd] at hl
  refine c_seq ?_
  refine c_region ?_
  refine wl (wl_val hl rfl trivial (r_assign hl rfl) ?_)
  clear hl a; intro a hl
  refine wl (wl_val hl rfl trivial (r_assign hl rfl) ?_)
  clear hl a; intro a hl
  refine w_nil ?_
  have hl2 := hl.add (t := 0) (hl.add (t := 1) (hl.nil) rfl) rfl; clear hl; have hl := hl2; clear hl2
  refine then_normal ?_
  refine c_seq ?_
  refine c_region ?_
  refine wl (wl_val hl rfl trivial (r_move hl rfl) ?_)
  clear hl a; intro a hl
  refine wl (w_call hl hh rfl trivial rfl cal46 rfl (roundUp_yes n hn1 hn2 s hs) (by repeat (first | exact keeps_nil | apply keeps_cons (by repeat (first | exact find_head | apply find_tail)) (by first  | rfl) | exact keeps_self | apply keeps_mv)) trivial ?_)
  clear hl hh a w; intro vc Fc a w hR hl hh
  obtain ⟨rfl, rfl⟩ := hR
  simp only [List.cons_append, List.nil_append] at hh
  refine wl (wl_val hl rfl trivial (r_move hl rfl) ?_)
  clear hl a; intro a hl
  refine wl (wl_val hl rfl trivial (r_extract hl rfl (by simp only [List.getElem?_toArray, List.getElem?_cons_zero, List.getElem?_cons_succ]; rfl)) ?_)
  clear hl a; intro a hl
  refine wl (wl_val hl rfl trivial (r_extract hl rfl (by simp only [List.getElem?_toArray, List.getElem?_cons_zero, List.getElem?_cons_succ]; rfl)) ?_)
  clear hl a; intro a hl
  refine wl (wl_val hl rfl trivial (r_assign hl rfl) ?_)
  clear hl a; intro a hl
  refine wl (wl_val hl rfl trivial (r_assign hl rfl) ?_)
  clear hl a; intro a hl
  refine w_nil ?_
  have hl2 := hl.add (t := 0) (hl.add (t := 6) (hl.add (t := 7) (hl.nil) rfl) rfl) rfl; clear hl; have hl := hl2; clear hl2
  refine then_normal ?_
  refine c_seq ?_
  refine c_seq ?_
  refine c_region ?_
  refine wl (wl_val hl rfl trivial (r_move hl rfl) ?_)
  clear hl a; intro a hl
  refine wl (wl_val hl rfl trivial (r_not hl rfl) ?_)
  clear hl a; intro a hl
  refine w_nil ?_
  have hl2 := hl.add (t := 0) (hl.add (t := 6) (hl.add (t := 17) (hl.nil) rfl) rfl) rfl; clear hl; have hl := hl2; clear hl2
  refine then_normal ?_
  refine c_cond hl rfl ?_ ?_
  · intro hc0
    try simp only [decide_eq_true_eq, decide_eq_false_iff_not, Bool.not_eq_true', Bool.not_eq_false', Bool.not_eq_true, Bool.not_eq_false, Bool.and_eq_true, Bool.or_eq_true, Bool.and_eq_false_iff, Bool.or_eq_false_iff, Bool.not_not, ne_eq, Int.not_lt, Int.not_le, Decidable.not_not, beq_iff_eq, bne_iff_ne] at hc0
    simp at hc0
  · intro hc0
    try simp only [decide_eq_true_eq, decide_eq_false_iff_not, Bool.not_eq_true', Bool.not_eq_false', Bool.not_eq_true, Bool.not_eq_false, Bool.and_eq_true, Bool.or_eq_true, Bool.and_eq_false_iff, Bool.or_eq_false_iff, Bool.not_not, ne_eq, Int.not_lt, Int.not_le, Decidable.not_not, beq_iff_eq, bne_iff_ne] at hc0
    refine wp_skip ?_
    refine then_normal ?_
    refine c_seq ?_
    refine c_region ?_
    refine wl (wl_val hl rfl trivial (r_move hl rfl) ?_)
    clear hl a; intro a hl
    refine wl (w_call hl hh rfl trivial rfl cal44 rfl (classOf_spec _ (by omega) (by omega)) (by repeat (first | exact keeps_nil | apply keeps_cons (by repeat (first | exact find_head | apply find_tail)) (by first  | rfl) | exact keeps_self | apply keeps_mv)) trivial ?_)
    clear hl hh a w; intro vc Fc a w hR hl hh
    obtain ⟨rfl, rfl⟩ := hR
    simp only [List.cons_append, List.nil_append] at hh
    rw [show (s : Int) / 2 - 1 = ((s / 2 - 1 : Nat) : Int) by omega] at hl
    refine wl (wl_val hl rfl trivial (r_assign hl rfl) ?_)
    clear hl a; intro a hl
    refine w_nil ?_
    have hl2 := hl.add (t := 0) (hl.add (t := 6) (hl.add (t := 8) (hl.nil) rfl) rfl) rfl; clear hl; have hl := hl2; clear hl2
    refine then_normal ?_
    refine c_seq ?_
    refine c_region ?_
    refine wl (wl_val hl rfl trivial (r_move hl rfl) ?_)
    clear hl a; intro a hl
    refine wl (wl_val hl rfl trivial (r_move hl rfl) ?_)
    clear hl a; intro a hl
    refine wl (wl_val hl rfl trivial (r_nilCheck hl rfl) ?_)
    clear hl a; intro a hl
    refine wl (wl_val hl rfl trivial (r_field hl rfl fld87_2) ?_)
    clear hl a; intro a hl
    refine wl (wl_val hl rfl trivial (r_indexA hl rfl rfl arr85 (by omega) (by omega) (by first | (simp only [Int.reduceToNat]; rfl) | exact toNat_add1 _ | exact toNat_add2 _ _ | exact toNat_emod _ _ | exact Int.toNat_natCast _ | rfl)) ?_)
    clear hl a; intro a hl
    refine wl (w_load hl hh rfl trivial one34 rfl (by repeat (first | exact find_head | apply find_tail)) (by exact cell_lst _ _ (by omega)) ?_)
    clear hl a; intro a hl
    try simp (disch := omega) only [word_setGen, word_setNxt, word_setSz, word_setRole, word_setLst, word_setFresh, word_setBoot, word_setCnNil, word_setCnLive, word_setCnFree, word_setCnSpent, word_setCnUnt, word_paintTo, word_genTo, gen_setWord, gen_setNxt, gen_setSz, gen_setRole, gen_setLst, gen_setFresh, gen_setBoot, gen_setCnNil, gen_setCnLive, gen_setCnFree, gen_setCnSpent, gen_setCnUnt, gen_paintTo, nxt_setWord, nxt_setGen, nxt_setSz, nxt_setRole, nxt_setLst, nxt_setFresh, nxt_setBoot, nxt_setCnNil, nxt_setCnLive, nxt_setCnFree, nxt_setCnSpent, nxt_setCnUnt, nxt_paintTo, nxt_genTo, sz_setWord, sz_setGen, sz_setNxt, sz_setRole, sz_setLst, sz_setFresh, sz_setBoot, sz_setCnNil, sz_setCnLive, sz_setCnFree, sz_setCnSpent, sz_setCnUnt, sz_paintTo, sz_genTo, role_setWord, role_setGen, role_setNxt, role_setSz, role_setLst, role_setFresh, role_setBoot, role_setCnNil, role_setCnLive, role_setCnFree, role_setCnSpent, role_setCnUnt, role_genTo, lst_setWord, lst_setGen, lst_setNxt, lst_setSz, lst_setRole, lst_setFresh, lst_setBoot, lst_setCnNil, lst_setCnLive, lst_setCnFree, lst_setCnSpent, lst_setCnUnt, lst_paintTo, lst_genTo, fresh_setWord, fresh_setGen, fresh_setNxt, fresh_setSz, fresh_setRole, fresh_setLst, fresh_setBoot, fresh_setCnNil, fresh_setCnLive, fresh_setCnFree, fresh_setCnSpent, fresh_setCnUnt, fresh_setFresh, fresh_paintTo, fresh_genTo, boot_setWord, boot_setGen, boot_setNxt, boot_setSz, boot_setRole, boot_setLst, boot_setFresh, boot_setCnNil, boot_setCnLive, boot_setCnFree, boot_setCnSpent, boot_setCnUnt, boot_setBoot, boot_paintTo, boot_genTo, cnNil_setWord, cnNil_setGen, cnNil_setNxt, cnNil_setSz, cnNil_setRole, cnNil_setLst, cnNil_setFresh, cnNil_setBoot, cnNil_setCnLive, cnNil_setCnFree, cnNil_setCnSpent, cnNil_setCnUnt, cnNil_setCnNil, cnNil_paintTo, cnNil_genTo, cnLive_setWord, cnLive_setGen, cnLive_setNxt, cnLive_setSz, cnLive_setRole, cnLive_setLst, cnLive_setFresh, cnLive_setBoot, cnLive_setCnNil, cnLive_setCnFree, cnLive_setCnSpent, cnLive_setCnUnt, cnLive_setCnLive, cnLive_paintTo, cnLive_genTo, cnFree_setWord, cnFree_setGen, cnFree_setNxt, cnFree_setSz, cnFree_setRole, cnFree_setLst, cnFree_setFresh, cnFree_setBoot, cnFree_setCnNil, cnFree_setCnLive, cnFree_setCnSpent, cnFree_setCnUnt, cnFree_setCnFree, cnFree_paintTo, cnFree_genTo, cnSpent_setWord, cnSpent_setGen, cnSpent_setNxt, cnSpent_setSz, cnSpent_setRole, cnSpent_setLst, cnSpent_setFresh, cnSpent_setBoot, cnSpent_setCnNil, cnSpent_setCnLive, cnSpent_setCnFree, cnSpent_setCnUnt, cnSpent_setCnSpent, cnSpent_paintTo, cnSpent_genTo, cnUnt_setWord, cnUnt_setGen, cnUnt_setNxt, cnUnt_setSz, cnUnt_setRole, cnUnt_setLst, cnUnt_setFresh, cnUnt_setBoot, cnUnt_setCnNil, cnUnt_setCnLive, cnUnt_setCnFree, cnUnt_setCnSpent, cnUnt_setCnUnt, cnUnt_paintTo, cnUnt_genTo] at hl
    refine wl (wl_val hl rfl trivial (r_assign hl rfl) ?_)
    clear hl a; intro a hl
    refine w_nil ?_
    have hl2 := hl.add (t := 0) (hl.add (t := 6) (hl.add (t := 8) (hl.add (t := 9) (hl.nil) rfl) rfl) rfl) rfl; clear hl; have hl := hl2; clear hl2
    refine then_normal ?_
    refine c_seq ?_
    refine wp_block ?_
    refine c_seq ?_
    refine c_region ?_
    refine wl (wl_val hl rfl trivial (r_move hl rfl) ?_)
    clear hl a; intro a hl
    refine wl (wl_val hl rfl trivial (r_neq hl rfl rfl) ?_)
    clear hl a; intro a hl
    refine wl (wl_val hl rfl trivial (r_assign hl rfl) ?_)
    clear hl a; intro a hl
    refine w_nil ?_
    have hl2 := hl.add (t := 0) (hl.add (t := 6) (hl.add (t := 8) (hl.add (t := 9) (hl.add (t := 26) (hl.nil) rfl) rfl) rfl) rfl) rfl; clear hl; have hl := hl2; clear hl2
    refine then_normal ?_
    refine c_cond hl rfl ?_ ?_
    · intro hc1
      try simp only [decide_eq_true_eq, decide_eq_false_iff_not, Bool.not_eq_true', Bool.not_eq_false', Bool.not_eq_true, Bool.not_eq_false, Bool.and_eq_true, Bool.or_eq_true, Bool.and_eq_false_iff, Bool.or_eq_false_iff, Bool.not_not, ne_eq, Int.not_lt, Int.not_le, Decidable.not_not, beq_iff_eq, bne_iff_ne] at hc1
      exfalso; omega
    · intro hc1
      try simp only [decide_eq_true_eq, decide_eq_false_iff_not, Bool.not_eq_true', Bool.not_eq_false', Bool.not_eq_true, Bool.not_eq_false, Bool.and_eq_true, Bool.or_eq_true, Bool.and_eq_false_iff, Bool.or_eq_false_iff, Bool.not_not, ne_eq, Int.not_lt, Int.not_le, Decidable.not_not, beq_iff_eq, bne_iff_ne] at hc1
      refine c_seq ?_
      refine c_region ?_
      refine wl (wl_val hl rfl trivial (r_move hl rfl) ?_)
      clear hl a; intro a hl
      refine wl (wl_val hl rfl trivial (r_nilCheck hl rfl) ?_)
      clear hl a; intro a hl
      refine wl (wl_val hl rfl trivial (r_field hl rfl fld87_3) ?_)
      clear hl a; intro a hl
      refine wl (w_load hl hh rfl trivial one34 rfl (by repeat (first | exact find_head | apply find_tail)) (by exact cell_fresh _) ?_)
      clear hl a; intro a hl
      try simp (disch := omega) only [word_setGen, word_setNxt, word_setSz, word_setRole, word_setLst, word_setFresh, word_setBoot, word_setCnNil, word_setCnLive, word_setCnFree, word_setCnSpent, word_setCnUnt, word_paintTo, word_genTo, gen_setWord, gen_setNxt, gen_setSz, gen_setRole, gen_setLst, gen_setFresh, gen_setBoot, gen_setCnNil, gen_setCnLive, gen_setCnFree, gen_setCnSpent, gen_setCnUnt, gen_paintTo, nxt_setWord, nxt_setGen, nxt_setSz, nxt_setRole, nxt_setLst, nxt_setFresh, nxt_setBoot, nxt_setCnNil, nxt_setCnLive, nxt_setCnFree, nxt_setCnSpent, nxt_setCnUnt, nxt_paintTo, nxt_genTo, sz_setWord, sz_setGen, sz_setNxt, sz_setRole, sz_setLst, sz_setFresh, sz_setBoot, sz_setCnNil, sz_setCnLive, sz_setCnFree, sz_setCnSpent, sz_setCnUnt, sz_paintTo, sz_genTo, role_setWord, role_setGen, role_setNxt, role_setSz, role_setLst, role_setFresh, role_setBoot, role_setCnNil, role_setCnLive, role_setCnFree, role_setCnSpent, role_setCnUnt, role_genTo, lst_setWord, lst_setGen, lst_setNxt, lst_setSz, lst_setRole, lst_setFresh, lst_setBoot, lst_setCnNil, lst_setCnLive, lst_setCnFree, lst_setCnSpent, lst_setCnUnt, lst_paintTo, lst_genTo, fresh_setWord, fresh_setGen, fresh_setNxt, fresh_setSz, fresh_setRole, fresh_setLst, fresh_setBoot, fresh_setCnNil, fresh_setCnLive, fresh_setCnFree, fresh_setCnSpent, fresh_setCnUnt, fresh_setFresh, fresh_paintTo, fresh_genTo, boot_setWord, boot_setGen, boot_setNxt, boot_setSz, boot_setRole, boot_setLst, boot_setFresh, boot_setCnNil, boot_setCnLive, boot_setCnFree, boot_setCnSpent, boot_setCnUnt, boot_setBoot, boot_paintTo, boot_genTo, cnNil_setWord, cnNil_setGen, cnNil_setNxt, cnNil_setSz, cnNil_setRole, cnNil_setLst, cnNil_setFresh, cnNil_setBoot, cnNil_setCnLive, cnNil_setCnFree, cnNil_setCnSpent, cnNil_setCnUnt, cnNil_setCnNil, cnNil_paintTo, cnNil_genTo, cnLive_setWord, cnLive_setGen, cnLive_setNxt, cnLive_setSz, cnLive_setRole, cnLive_setLst, cnLive_setFresh, cnLive_setBoot, cnLive_setCnNil, cnLive_setCnFree, cnLive_setCnSpent, cnLive_setCnUnt, cnLive_setCnLive, cnLive_paintTo, cnLive_genTo, cnFree_setWord, cnFree_setGen, cnFree_setNxt, cnFree_setSz, cnFree_setRole, cnFree_setLst, cnFree_setFresh, cnFree_setBoot, cnFree_setCnNil, cnFree_setCnLive, cnFree_setCnSpent, cnFree_setCnUnt, cnFree_setCnFree, cnFree_paintTo, cnFree_genTo, cnSpent_setWord, cnSpent_setGen, cnSpent_setNxt, cnSpent_setSz, cnSpent_setRole, cnSpent_setLst, cnSpent_setFresh, cnSpent_setBoot, cnSpent_setCnNil, cnSpent_setCnLive, cnSpent_setCnFree, cnSpent_setCnUnt, cnSpent_setCnSpent, cnSpent_paintTo, cnSpent_genTo, cnUnt_setWord, cnUnt_setGen, cnUnt_setNxt, cnUnt_setSz, cnUnt_setRole, cnUnt_setLst, cnUnt_setFresh, cnUnt_setBoot, cnUnt_setCnNil, cnUnt_setCnLive, cnUnt_setCnFree, cnUnt_setCnSpent, cnUnt_setCnUnt, cnUnt_paintTo, cnUnt_genTo] at hl
      first | refine wl (wl_val hl rfl trivial (r_conv hl rfl Try.underlying34 Try.underlying3 (by simp only [Fits]; omega)) ?_) | refine wl (wl_val hl rfl trivial (r_convW hl rfl Try.underlying34 Try.underlying3) ?_)
      clear hl a; intro a hl
      refine wl (wl_val hl rfl trivial (r_move hl rfl) ?_)
      clear hl a; intro a hl
      first | refine wl (wl_val hl rfl trivial (r_add hl rfl rfl (by simp only [Fits]; omega)) ?_) | refine wl (wl_val hl rfl trivial (r_addW hl rfl rfl) ?_)
      clear hl a; intro a hl
      refine wl (wl_val hl rfl trivial (r_leq hl rfl rfl) ?_)
      clear hl a; intro a hl
      refine wl (wl_val hl rfl trivial (r_move hl rfl) ?_)
      clear hl a; intro a hl
      refine sl_split (t := 66) hl rfl ?_ ?_
      · intro hg1; clear hl; intro hl
        try simp only [decide_eq_true_eq, decide_eq_false_iff_not, Bool.not_eq_true', Bool.not_eq_false', Bool.not_eq_true, Bool.not_eq_false, Bool.and_eq_true, Bool.or_eq_true, Bool.and_eq_false_iff, Bool.or_eq_false_iff, Bool.not_not, ne_eq, Int.not_lt, Int.not_le, Decidable.not_not, beq_iff_eq, bne_iff_ne] at hg1
        refine wl (wl_val hl rfl ⟨_, _, rfl, rfl, rfl⟩ (r_move hl rfl) ?_)
        clear hl a; intro a hl
        refine wl (wl_val hl rfl ⟨_, _, rfl, rfl, rfl⟩ (r_nilCheck hl rfl) ?_)
        clear hl a; intro a hl
        refine wl (wl_val hl rfl ⟨_, _, rfl, rfl, rfl⟩ (r_field hl rfl fld87_4) ?_)
        clear hl a; intro a hl
        refine wl (w_load hl hh rfl ⟨_, _, rfl, rfl, rfl⟩ one27 rfl (by repeat (first | exact find_head | apply find_tail)) (by exact cell_boot _) ?_)
        clear hl a; intro a hl
        try simp (disch := omega) only [word_setGen, word_setNxt, word_setSz, word_setRole, word_setLst, word_setFresh, word_setBoot, word_setCnNil, word_setCnLive, word_setCnFree, word_setCnSpent, word_setCnUnt, word_paintTo, word_genTo, gen_setWord, gen_setNxt, gen_setSz, gen_setRole, gen_setLst, gen_setFresh, gen_setBoot, gen_setCnNil, gen_setCnLive, gen_setCnFree, gen_setCnSpent, gen_setCnUnt, gen_paintTo, nxt_setWord, nxt_setGen, nxt_setSz, nxt_setRole, nxt_setLst, nxt_setFresh, nxt_setBoot, nxt_setCnNil, nxt_setCnLive, nxt_setCnFree, nxt_setCnSpent, nxt_setCnUnt, nxt_paintTo, nxt_genTo, sz_setWord, sz_setGen, sz_setNxt, sz_setRole, sz_setLst, sz_setFresh, sz_setBoot, sz_setCnNil, sz_setCnLive, sz_setCnFree, sz_setCnSpent, sz_setCnUnt, sz_paintTo, sz_genTo, role_setWord, role_setGen, role_setNxt, role_setSz, role_setLst, role_setFresh, role_setBoot, role_setCnNil, role_setCnLive, role_setCnFree, role_setCnSpent, role_setCnUnt, role_genTo, lst_setWord, lst_setGen, lst_setNxt, lst_setSz, lst_setRole, lst_setFresh, lst_setBoot, lst_setCnNil, lst_setCnLive, lst_setCnFree, lst_setCnSpent, lst_setCnUnt, lst_paintTo, lst_genTo, fresh_setWord, fresh_setGen, fresh_setNxt, fresh_setSz, fresh_setRole, fresh_setLst, fresh_setBoot, fresh_setCnNil, fresh_setCnLive, fresh_setCnFree, fresh_setCnSpent, fresh_setCnUnt, fresh_setFresh, fresh_paintTo, fresh_genTo, boot_setWord, boot_setGen, boot_setNxt, boot_setSz, boot_setRole, boot_setLst, boot_setFresh, boot_setCnNil, boot_setCnLive, boot_setCnFree, boot_setCnSpent, boot_setCnUnt, boot_setBoot, boot_paintTo, boot_genTo, cnNil_setWord, cnNil_setGen, cnNil_setNxt, cnNil_setSz, cnNil_setRole, cnNil_setLst, cnNil_setFresh, cnNil_setBoot, cnNil_setCnLive, cnNil_setCnFree, cnNil_setCnSpent, cnNil_setCnUnt, cnNil_setCnNil, cnNil_paintTo, cnNil_genTo, cnLive_setWord, cnLive_setGen, cnLive_setNxt, cnLive_setSz, cnLive_setRole, cnLive_setLst, cnLive_setFresh, cnLive_setBoot, cnLive_setCnNil, cnLive_setCnFree, cnLive_setCnSpent, cnLive_setCnUnt, cnLive_setCnLive, cnLive_paintTo, cnLive_genTo, cnFree_setWord, cnFree_setGen, cnFree_setNxt, cnFree_setSz, cnFree_setRole, cnFree_setLst, cnFree_setFresh, cnFree_setBoot, cnFree_setCnNil, cnFree_setCnLive, cnFree_setCnSpent, cnFree_setCnUnt, cnFree_setCnFree, cnFree_paintTo, cnFree_genTo, cnSpent_setWord, cnSpent_setGen, cnSpent_setNxt, cnSpent_setSz, cnSpent_setRole, cnSpent_setLst, cnSpent_setFresh, cnSpent_setBoot, cnSpent_setCnNil, cnSpent_setCnLive, cnSpent_setCnFree, cnSpent_setCnUnt, cnSpent_setCnSpent, cnSpent_paintTo, cnSpent_genTo, cnUnt_setWord, cnUnt_setGen, cnUnt_setNxt, cnUnt_setSz, cnUnt_setRole, cnUnt_setLst, cnUnt_setFresh, cnUnt_setBoot, cnUnt_setCnNil, cnUnt_setCnLive, cnUnt_setCnFree, cnUnt_setCnSpent, cnUnt_setCnUnt, cnUnt_paintTo, cnUnt_genTo] at hl
        refine wl (wl_val hl rfl ⟨_, _, rfl, rfl, rfl⟩ (r_lss hl rfl rfl) ?_)
        clear hl a; intro a hl
        refine wl (wl_val hl rfl trivial (r_pickT hl rfl rfl) ?_)
        clear hl a; intro a hl
        refine wl (wl_val hl rfl trivial (r_assign hl rfl) ?_)
        clear hl a; intro a hl
        refine w_nil ?_
        have hl2 := hl.add (t := 0) (hl.add (t := 6) (hl.add (t := 57) (hl.nil) rfl) rfl) rfl; clear hl; have hl := hl2; clear hl2
        refine then_normal ?_
        refine c_cond hl rfl ?_ ?_
        · intro hc2
          try simp only [decide_eq_true_eq, decide_eq_false_iff_not, Bool.not_eq_true', Bool.not_eq_false', Bool.not_eq_true, Bool.not_eq_false, Bool.and_eq_true, Bool.or_eq_true, Bool.and_eq_false_iff, Bool.or_eq_false_iff, Bool.not_not, ne_eq, Int.not_lt, Int.not_le, Decidable.not_not, beq_iff_eq, bne_iff_ne] at hc2
          exfalso; omega
        · intro hc2
          try simp only [decide_eq_true_eq, decide_eq_false_iff_not, Bool.not_eq_true', Bool.not_eq_false', Bool.not_eq_true, Bool.not_eq_false, Bool.and_eq_true, Bool.or_eq_true, Bool.and_eq_false_iff, Bool.or_eq_false_iff, Bool.not_not, ne_eq, Int.not_lt, Int.not_le, Decidable.not_not, beq_iff_eq, bne_iff_ne] at hc2
          refine c_seq ?_
          refine c_region ?_
          refine wl (wl_val hl rfl trivial (r_assign hl rfl) ?_)
          clear hl a; intro a hl
          refine wl (wl_val hl rfl trivial (r_assign hl rfl) ?_)
          clear hl a; intro a hl
          refine w_nil ?_
          have hl2 := hl.add (t := 4) (hl.add (t := 5) (hl.nil) rfl) rfl; clear hl; have hl := hl2; clear hl2
          refine then_normal ?_
          refine wp_ret ?_
          refine blk_ret ?_
          refine then_ret ?_
          refine f_ret2 (F' := [(b, C (encL (f)) 87)]) hl hh rfl rfl rfl (by repeat (first | exact keeps_nil | apply keeps_cons (by repeat (first | exact find_head | apply find_tail)) (by first  | rfl) | exact keeps_self | apply keeps_mv)) ?_
          exact ⟨rfl, rfl⟩
      · intro hg1; clear hl; intro hl
        try simp only [decide_eq_true_eq, decide_eq_false_iff_not, Bool.not_eq_true', Bool.not_eq_false', Bool.not_eq_true, Bool.not_eq_false, Bool.and_eq_true, Bool.or_eq_true, Bool.and_eq_false_iff, Bool.or_eq_false_iff, Bool.not_not, ne_eq, Int.not_lt, Int.not_le, Decidable.not_not, beq_iff_eq, bne_iff_ne] at hg1
        refine wl (wl_skip hl rfl ⟨_, _, rfl, rfl, rfl⟩ ?_)
        clear hl a; intro a hl
        refine wl (wl_skip hl rfl ⟨_, _, rfl, rfl, rfl⟩ ?_)
        clear hl a; intro a hl
        refine wl (wl_skip hl rfl ⟨_, _, rfl, rfl, rfl⟩ ?_)
        clear hl a; intro a hl
        refine wl (wl_skip hl rfl ⟨_, _, rfl, rfl, rfl⟩ ?_)
        clear hl a; intro a hl
        refine wl (wl_skip hl rfl ⟨_, _, rfl, rfl, rfl⟩ ?_)
        clear hl a; intro a hl
        refine wl (wl_val hl rfl trivial (r_pickF hl rfl rfl) ?_)
        clear hl a; intro a hl
        refine wl (wl_val hl rfl trivial (r_assign hl rfl) ?_)
        clear hl a; intro a hl
        refine w_nil ?_
        have hl2 := hl.add (t := 0) (hl.add (t := 6) (hl.add (t := 57) (hl.nil) rfl) rfl) rfl; clear hl; have hl := hl2; clear hl2
        refine then_normal ?_
        refine c_condF hl rfl ?_
        refine c_seq ?_
        refine c_region ?_
        refine wl (wl_val hl rfl trivial (r_assign hl rfl) ?_)
        clear hl a; intro a hl
        refine wl (wl_val hl rfl trivial (r_assign hl rfl) ?_)
        clear hl a; intro a hl
        refine w_nil ?_
        have hl2 := hl.add (t := 4) (hl.add (t := 5) (hl.nil) rfl) rfl; clear hl; have hl := hl2; clear hl2
        refine then_normal ?_
        refine wp_ret ?_
        refine blk_ret ?_
        refine then_ret ?_
        refine f_ret2 (F' := [(b, C (encL (f)) 87)]) hl hh rfl rfl rfl (by repeat (first | exact keeps_nil | apply keeps_cons (by repeat (first | exact find_head | apply find_tail)) (by first  | rfl) | exact keeps_self | apply keeps_mv)) ?_
        exact ⟨rfl, rfl⟩

theorem word_popF (f : Nat → Int) (x s c : Nat) (hx : x < 4096) (hs : s ≤ 32) (hc : c < 4096) : word (popF f x s) c = word f c := by
  unfold popF; simp (disch := omega) only [word_setGen, word_setNxt, word_setSz, word_setRole, word_setLst, word_setFresh, word_setBoot, word_setCnNil, word_setCnLive, word_setCnFree, word_setCnSpent, word_setCnUnt, word_paintTo, word_genTo, gen_setWord, gen_setNxt, gen_setSz, gen_setRole, gen_setLst, gen_setFresh, gen_setBoot, gen_setCnNil, gen_setCnLive, gen_setCnFree, gen_setCnSpent, gen_setCnUnt, gen_paintTo, nxt_setWord, nxt_setGen, nxt_setSz, nxt_setRole, nxt_setLst, nxt_setFresh, nxt_setBoot, nxt_setCnNil, nxt_setCnLive, nxt_setCnFree, nxt_setCnSpent, nxt_setCnUnt, nxt_paintTo, nxt_genTo, sz_setWord, sz_setGen, sz_setNxt, sz_setRole, sz_setLst, sz_setFresh, sz_setBoot, sz_setCnNil, sz_setCnLive, sz_setCnFree, sz_setCnSpent, sz_setCnUnt, sz_paintTo, sz_genTo, role_setWord, role_setGen, role_setNxt, role_setSz, role_setLst, role_setFresh, role_setBoot, role_setCnNil, role_setCnLive, role_setCnFree, role_setCnSpent, role_setCnUnt, role_genTo, lst_setWord, lst_setGen, lst_setNxt, lst_setSz, lst_setRole, lst_setFresh, lst_setBoot, lst_setCnNil, lst_setCnLive, lst_setCnFree, lst_setCnSpent, lst_setCnUnt, lst_paintTo, lst_genTo, fresh_setWord, fresh_setGen, fresh_setNxt, fresh_setSz, fresh_setRole, fresh_setLst, fresh_setBoot, fresh_setCnNil, fresh_setCnLive, fresh_setCnFree, fresh_setCnSpent, fresh_setCnUnt, fresh_setFresh, fresh_paintTo, fresh_genTo, boot_setWord, boot_setGen, boot_setNxt, boot_setSz, boot_setRole, boot_setLst, boot_setFresh, boot_setCnNil, boot_setCnLive, boot_setCnFree, boot_setCnSpent, boot_setCnUnt, boot_setBoot, boot_paintTo, boot_genTo, cnNil_setWord, cnNil_setGen, cnNil_setNxt, cnNil_setSz, cnNil_setRole, cnNil_setLst, cnNil_setFresh, cnNil_setBoot, cnNil_setCnLive, cnNil_setCnFree, cnNil_setCnSpent, cnNil_setCnUnt, cnNil_setCnNil, cnNil_paintTo, cnNil_genTo, cnLive_setWord, cnLive_setGen, cnLive_setNxt, cnLive_setSz, cnLive_setRole, cnLive_setLst, cnLive_setFresh, cnLive_setBoot, cnLive_setCnNil, cnLive_setCnFree, cnLive_setCnSpent, cnLive_setCnUnt, cnLive_setCnLive, cnLive_paintTo, cnLive_genTo, cnFree_setWord, cnFree_setGen, cnFree_setNxt, cnFree_setSz, cnFree_setRole, cnFree_setLst, cnFree_setFresh, cnFree_setBoot, cnFree_setCnNil, cnFree_setCnLive, cnFree_setCnSpent, cnFree_setCnUnt, cnFree_setCnFree, cnFree_paintTo, cnFree_genTo, cnSpent_setWord, cnSpent_setGen, cnSpent_setNxt, cnSpent_setSz, cnSpent_setRole, cnSpent_setLst, cnSpent_setFresh, cnSpent_setBoot, cnSpent_setCnNil, cnSpent_setCnLive, cnSpent_setCnFree, cnSpent_setCnUnt, cnSpent_setCnSpent, cnSpent_paintTo, cnSpent_genTo, cnUnt_setWord, cnUnt_setGen, cnUnt_setNxt, cnUnt_setSz, cnUnt_setRole, cnUnt_setLst, cnUnt_setFresh, cnUnt_setBoot, cnUnt_setCnNil, cnUnt_setCnLive, cnUnt_setCnFree, cnUnt_setCnSpent, cnUnt_setCnUnt, cnUnt_paintTo, cnUnt_genTo]

theorem gen_popF (f : Nat → Int) (x s c : Nat) (hx : x < 4096) (hs : s ≤ 32) (hc : c < 4096) : gen (popF f x s) c = gen f c := by
  unfold popF; simp (disch := omega) only [word_setGen, word_setNxt, word_setSz, word_setRole, word_setLst, word_setFresh, word_setBoot, word_setCnNil, word_setCnLive, word_setCnFree, word_setCnSpent, word_setCnUnt, word_paintTo, word_genTo, gen_setWord, gen_setNxt, gen_setSz, gen_setRole, gen_setLst, gen_setFresh, gen_setBoot, gen_setCnNil, gen_setCnLive, gen_setCnFree, gen_setCnSpent, gen_setCnUnt, gen_paintTo, nxt_setWord, nxt_setGen, nxt_setSz, nxt_setRole, nxt_setLst, nxt_setFresh, nxt_setBoot, nxt_setCnNil, nxt_setCnLive, nxt_setCnFree, nxt_setCnSpent, nxt_setCnUnt, nxt_paintTo, nxt_genTo, sz_setWord, sz_setGen, sz_setNxt, sz_setRole, sz_setLst, sz_setFresh, sz_setBoot, sz_setCnNil, sz_setCnLive, sz_setCnFree, sz_setCnSpent, sz_setCnUnt, sz_paintTo, sz_genTo, role_setWord, role_setGen, role_setNxt, role_setSz, role_setLst, role_setFresh, role_setBoot, role_setCnNil, role_setCnLive, role_setCnFree, role_setCnSpent, role_setCnUnt, role_genTo, lst_setWord, lst_setGen, lst_setNxt, lst_setSz, lst_setRole, lst_setFresh, lst_setBoot, lst_setCnNil, lst_setCnLive, lst_setCnFree, lst_setCnSpent, lst_setCnUnt, lst_paintTo, lst_genTo, fresh_setWord, fresh_setGen, fresh_setNxt, fresh_setSz, fresh_setRole, fresh_setLst, fresh_setBoot, fresh_setCnNil, fresh_setCnLive, fresh_setCnFree, fresh_setCnSpent, fresh_setCnUnt, fresh_setFresh, fresh_paintTo, fresh_genTo, boot_setWord, boot_setGen, boot_setNxt, boot_setSz, boot_setRole, boot_setLst, boot_setFresh, boot_setCnNil, boot_setCnLive, boot_setCnFree, boot_setCnSpent, boot_setCnUnt, boot_setBoot, boot_paintTo, boot_genTo, cnNil_setWord, cnNil_setGen, cnNil_setNxt, cnNil_setSz, cnNil_setRole, cnNil_setLst, cnNil_setFresh, cnNil_setBoot, cnNil_setCnLive, cnNil_setCnFree, cnNil_setCnSpent, cnNil_setCnUnt, cnNil_setCnNil, cnNil_paintTo, cnNil_genTo, cnLive_setWord, cnLive_setGen, cnLive_setNxt, cnLive_setSz, cnLive_setRole, cnLive_setLst, cnLive_setFresh, cnLive_setBoot, cnLive_setCnNil, cnLive_setCnFree, cnLive_setCnSpent, cnLive_setCnUnt, cnLive_setCnLive, cnLive_paintTo, cnLive_genTo, cnFree_setWord, cnFree_setGen, cnFree_setNxt, cnFree_setSz, cnFree_setRole, cnFree_setLst, cnFree_setFresh, cnFree_setBoot, cnFree_setCnNil, cnFree_setCnLive, cnFree_setCnSpent, cnFree_setCnUnt, cnFree_setCnFree, cnFree_paintTo, cnFree_genTo, cnSpent_setWord, cnSpent_setGen, cnSpent_setNxt, cnSpent_setSz, cnSpent_setRole, cnSpent_setLst, cnSpent_setFresh, cnSpent_setBoot, cnSpent_setCnNil, cnSpent_setCnLive, cnSpent_setCnFree, cnSpent_setCnUnt, cnSpent_setCnSpent, cnSpent_paintTo, cnSpent_genTo, cnUnt_setWord, cnUnt_setGen, cnUnt_setNxt, cnUnt_setSz, cnUnt_setRole, cnUnt_setLst, cnUnt_setFresh, cnUnt_setBoot, cnUnt_setCnNil, cnUnt_setCnLive, cnUnt_setCnFree, cnUnt_setCnSpent, cnUnt_setCnUnt, cnUnt_paintTo, cnUnt_genTo]

theorem sz_popF (f : Nat → Int) (x s c : Nat) (hx : x < 4096) (hs : s ≤ 32) (hc : c < 4096) : sz (popF f x s) c = sz f c := by
  unfold popF; simp (disch := omega) only [word_setGen, word_setNxt, word_setSz, word_setRole, word_setLst, word_setFresh, word_setBoot, word_setCnNil, word_setCnLive, word_setCnFree, word_setCnSpent, word_setCnUnt, word_paintTo, word_genTo, gen_setWord, gen_setNxt, gen_setSz, gen_setRole, gen_setLst, gen_setFresh, gen_setBoot, gen_setCnNil, gen_setCnLive, gen_setCnFree, gen_setCnSpent, gen_setCnUnt, gen_paintTo, nxt_setWord, nxt_setGen, nxt_setSz, nxt_setRole, nxt_setLst, nxt_setFresh, nxt_setBoot, nxt_setCnNil, nxt_setCnLive, nxt_setCnFree, nxt_setCnSpent, nxt_setCnUnt, nxt_paintTo, nxt_genTo, sz_setWord, sz_setGen, sz_setNxt, sz_setRole, sz_setLst, sz_setFresh, sz_setBoot, sz_setCnNil, sz_setCnLive, sz_setCnFree, sz_setCnSpent, sz_setCnUnt, sz_paintTo, sz_genTo, role_setWord, role_setGen, role_setNxt, role_setSz, role_setLst, role_setFresh, role_setBoot, role_setCnNil, role_setCnLive, role_setCnFree, role_setCnSpent, role_setCnUnt, role_genTo, lst_setWord, lst_setGen, lst_setNxt, lst_setSz, lst_setRole, lst_setFresh, lst_setBoot, lst_setCnNil, lst_setCnLive, lst_setCnFree, lst_setCnSpent, lst_setCnUnt, lst_paintTo, lst_genTo, fresh_setWord, fresh_setGen, fresh_setNxt, fresh_setSz, fresh_setRole, fresh_setLst, fresh_setBoot, fresh_setCnNil, fresh_setCnLive, fresh_setCnFree, fresh_setCnSpent, fresh_setCnUnt, fresh_setFresh, fresh_paintTo, fresh_genTo, boot_setWord, boot_setGen, boot_setNxt, boot_setSz, boot_setRole, boot_setLst, boot_setFresh, boot_setCnNil, boot_setCnLive, boot_setCnFree, boot_setCnSpent, boot_setCnUnt, boot_setBoot, boot_paintTo, boot_genTo, cnNil_setWord, cnNil_setGen, cnNil_setNxt, cnNil_setSz, cnNil_setRole, cnNil_setLst, cnNil_setFresh, cnNil_setBoot, cnNil_setCnLive, cnNil_setCnFree, cnNil_setCnSpent, cnNil_setCnUnt, cnNil_setCnNil, cnNil_paintTo, cnNil_genTo, cnLive_setWord, cnLive_setGen, cnLive_setNxt, cnLive_setSz, cnLive_setRole, cnLive_setLst, cnLive_setFresh, cnLive_setBoot, cnLive_setCnNil, cnLive_setCnFree, cnLive_setCnSpent, cnLive_setCnUnt, cnLive_setCnLive, cnLive_paintTo, cnLive_genTo, cnFree_setWord, cnFree_setGen, cnFree_setNxt, cnFree_setSz, cnFree_setRole, cnFree_setLst, cnFree_setFresh, cnFree_setBoot, cnFree_setCnNil, cnFree_setCnLive, cnFree_setCnSpent, cnFree_setCnUnt, cnFree_setCnFree, cnFree_paintTo, cnFree_genTo, cnSpent_setWord, cnSpent_setGen, cnSpent_setNxt, cnSpent_setSz, cnSpent_setRole, cnSpent_setLst, cnSpent_setFresh, cnSpent_setBoot, cnSpent_setCnNil, cnSpent_setCnLive, cnSpent_setCnFree, cnSpent_setCnUnt, cnSpent_setCnSpent, cnSpent_paintTo, cnSpent_genTo, cnUnt_setWord, cnUnt_setGen, cnUnt_setNxt, cnUnt_setSz, cnUnt_setRole, cnUnt_setLst, cnUnt_setFresh, cnUnt_setBoot, cnUnt_setCnNil, cnUnt_setCnLive, cnUnt_setCnFree, cnUnt_setCnSpent, cnUnt_setCnUnt, cnUnt_paintTo, cnUnt_genTo]

theorem role_popF (f : Nat → Int) (x s c : Nat) (hx : x < 4096) (hs : s ≤ 32) (hc : c < 4096) : role (popF f x s) c = role f c := by
  unfold popF; simp (disch := omega) only [word_setGen, word_setNxt, word_setSz, word_setRole, word_setLst, word_setFresh, word_setBoot, word_setCnNil, word_setCnLive, word_setCnFree, word_setCnSpent, word_setCnUnt, word_paintTo, word_genTo, gen_setWord, gen_setNxt, gen_setSz, gen_setRole, gen_setLst, gen_setFresh, gen_setBoot, gen_setCnNil, gen_setCnLive, gen_setCnFree, gen_setCnSpent, gen_setCnUnt, gen_paintTo, nxt_setWord, nxt_setGen, nxt_setSz, nxt_setRole, nxt_setLst, nxt_setFresh, nxt_setBoot, nxt_setCnNil, nxt_setCnLive, nxt_setCnFree, nxt_setCnSpent, nxt_setCnUnt, nxt_paintTo, nxt_genTo, sz_setWord, sz_setGen, sz_setNxt, sz_setRole, sz_setLst, sz_setFresh, sz_setBoot, sz_setCnNil, sz_setCnLive, sz_setCnFree, sz_setCnSpent, sz_setCnUnt, sz_paintTo, sz_genTo, role_setWord, role_setGen, role_setNxt, role_setSz, role_setLst, role_setFresh, role_setBoot, role_setCnNil, role_setCnLive, role_setCnFree, role_setCnSpent, role_setCnUnt, role_genTo, lst_setWord, lst_setGen, lst_setNxt, lst_setSz, lst_setRole, lst_setFresh, lst_setBoot, lst_setCnNil, lst_setCnLive, lst_setCnFree, lst_setCnSpent, lst_setCnUnt, lst_paintTo, lst_genTo, fresh_setWord, fresh_setGen, fresh_setNxt, fresh_setSz, fresh_setRole, fresh_setLst, fresh_setBoot, fresh_setCnNil, fresh_setCnLive, fresh_setCnFree, fresh_setCnSpent, fresh_setCnUnt, fresh_setFresh, fresh_paintTo, fresh_genTo, boot_setWord, boot_setGen, boot_setNxt, boot_setSz, boot_setRole, boot_setLst, boot_setFresh, boot_setCnNil, boot_setCnLive, boot_setCnFree, boot_setCnSpent, boot_setCnUnt, boot_setBoot, boot_paintTo, boot_genTo, cnNil_setWord, cnNil_setGen, cnNil_setNxt, cnNil_setSz, cnNil_setRole, cnNil_setLst, cnNil_setFresh, cnNil_setBoot, cnNil_setCnLive, cnNil_setCnFree, cnNil_setCnSpent, cnNil_setCnUnt, cnNil_setCnNil, cnNil_paintTo, cnNil_genTo, cnLive_setWord, cnLive_setGen, cnLive_setNxt, cnLive_setSz, cnLive_setRole, cnLive_setLst, cnLive_setFresh, cnLive_setBoot, cnLive_setCnNil, cnLive_setCnFree, cnLive_setCnSpent, cnLive_setCnUnt, cnLive_setCnLive, cnLive_paintTo, cnLive_genTo, cnFree_setWord, cnFree_setGen, cnFree_setNxt, cnFree_setSz, cnFree_setRole, cnFree_setLst, cnFree_setFresh, cnFree_setBoot, cnFree_setCnNil, cnFree_setCnLive, cnFree_setCnSpent, cnFree_setCnUnt, cnFree_setCnFree, cnFree_paintTo, cnFree_genTo, cnSpent_setWord, cnSpent_setGen, cnSpent_setNxt, cnSpent_setSz, cnSpent_setRole, cnSpent_setLst, cnSpent_setFresh, cnSpent_setBoot, cnSpent_setCnNil, cnSpent_setCnLive, cnSpent_setCnFree, cnSpent_setCnUnt, cnSpent_setCnSpent, cnSpent_paintTo, cnSpent_genTo, cnUnt_setWord, cnUnt_setGen, cnUnt_setNxt, cnUnt_setSz, cnUnt_setRole, cnUnt_setLst, cnUnt_setFresh, cnUnt_setBoot, cnUnt_setCnNil, cnUnt_setCnLive, cnUnt_setCnFree, cnUnt_setCnSpent, cnUnt_setCnUnt, cnUnt_paintTo, cnUnt_genTo]

theorem fresh_popF (f : Nat → Int) (x s : Nat) (hx : x < 4096) (hs : s ≤ 32) : fresh (popF f x s) = fresh f := by
  unfold popF; simp (disch := omega) only [word_setGen, word_setNxt, word_setSz, word_setRole, word_setLst, word_setFresh, word_setBoot, word_setCnNil, word_setCnLive, word_setCnFree, word_setCnSpent, word_setCnUnt, word_paintTo, word_genTo, gen_setWord, gen_setNxt, gen_setSz, gen_setRole, gen_setLst, gen_setFresh, gen_setBoot, gen_setCnNil, gen_setCnLive, gen_setCnFree, gen_setCnSpent, gen_setCnUnt, gen_paintTo, nxt_setWord, nxt_setGen, nxt_setSz, nxt_setRole, nxt_setLst, nxt_setFresh, nxt_setBoot, nxt_setCnNil, nxt_setCnLive, nxt_setCnFree, nxt_setCnSpent, nxt_setCnUnt, nxt_paintTo, nxt_genTo, sz_setWord, sz_setGen, sz_setNxt, sz_setRole, sz_setLst, sz_setFresh, sz_setBoot, sz_setCnNil, sz_setCnLive, sz_setCnFree, sz_setCnSpent, sz_setCnUnt, sz_paintTo, sz_genTo, role_setWord, role_setGen, role_setNxt, role_setSz, role_setLst, role_setFresh, role_setBoot, role_setCnNil, role_setCnLive, role_setCnFree, role_setCnSpent, role_setCnUnt, role_genTo, lst_setWord, lst_setGen, lst_setNxt, lst_setSz, lst_setRole, lst_setFresh, lst_setBoot, lst_setCnNil, lst_setCnLive, lst_setCnFree, lst_setCnSpent, lst_setCnUnt, lst_paintTo, lst_genTo, fresh_setWord, fresh_setGen, fresh_setNxt, fresh_setSz, fresh_setRole, fresh_setLst, fresh_setBoot, fresh_setCnNil, fresh_setCnLive, fresh_setCnFree, fresh_setCnSpent, fresh_setCnUnt, fresh_setFresh, fresh_paintTo, fresh_genTo, boot_setWord, boot_setGen, boot_setNxt, boot_setSz, boot_setRole, boot_setLst, boot_setFresh, boot_setCnNil, boot_setCnLive, boot_setCnFree, boot_setCnSpent, boot_setCnUnt, boot_setBoot, boot_paintTo, boot_genTo, cnNil_setWord, cnNil_setGen, cnNil_setNxt, cnNil_setSz, cnNil_setRole, cnNil_setLst, cnNil_setFresh, cnNil_setBoot, cnNil_setCnLive, cnNil_setCnFree, cnNil_setCnSpent, cnNil_setCnUnt, cnNil_setCnNil, cnNil_paintTo, cnNil_genTo, cnLive_setWord, cnLive_setGen, cnLive_setNxt, cnLive_setSz, cnLive_setRole, cnLive_setLst, cnLive_setFresh, cnLive_setBoot, cnLive_setCnNil, cnLive_setCnFree, cnLive_setCnSpent, cnLive_setCnUnt, cnLive_setCnLive, cnLive_paintTo, cnLive_genTo, cnFree_setWord, cnFree_setGen, cnFree_setNxt, cnFree_setSz, cnFree_setRole, cnFree_setLst, cnFree_setFresh, cnFree_setBoot, cnFree_setCnNil, cnFree_setCnLive, cnFree_setCnSpent, cnFree_setCnUnt, cnFree_setCnFree, cnFree_paintTo, cnFree_genTo, cnSpent_setWord, cnSpent_setGen, cnSpent_setNxt, cnSpent_setSz, cnSpent_setRole, cnSpent_setLst, cnSpent_setFresh, cnSpent_setBoot, cnSpent_setCnNil, cnSpent_setCnLive, cnSpent_setCnFree, cnSpent_setCnUnt, cnSpent_setCnSpent, cnSpent_paintTo, cnSpent_genTo, cnUnt_setWord, cnUnt_setGen, cnUnt_setNxt, cnUnt_setSz, cnUnt_setRole, cnUnt_setLst, cnUnt_setFresh, cnUnt_setBoot, cnUnt_setCnNil, cnUnt_setCnLive, cnUnt_setCnFree, cnUnt_setCnSpent, cnUnt_setCnUnt, cnUnt_paintTo, cnUnt_genTo]

theorem boot_popF (f : Nat → Int) (x s : Nat) (hx : x < 4096) (hs : s ≤ 32) : boot (popF f x s) = boot f := by
  unfold popF; simp (disch := omega) only [word_setGen, word_setNxt, word_setSz, word_setRole, word_setLst, word_setFresh, word_setBoot, word_setCnNil, word_setCnLive, word_setCnFree, word_setCnSpent, word_setCnUnt, word_paintTo, word_genTo, gen_setWord, gen_setNxt, gen_setSz, gen_setRole, gen_setLst, gen_setFresh, gen_setBoot, gen_setCnNil, gen_setCnLive, gen_setCnFree, gen_setCnSpent, gen_setCnUnt, gen_paintTo, nxt_setWord, nxt_setGen, nxt_setSz, nxt_setRole, nxt_setLst, nxt_setFresh, nxt_setBoot, nxt_setCnNil, nxt_setCnLive, nxt_setCnFree, nxt_setCnSpent, nxt_setCnUnt, nxt_paintTo, nxt_genTo, sz_setWord, sz_setGen, sz_setNxt, sz_setRole, sz_setLst, sz_setFresh, sz_setBoot, sz_setCnNil, sz_setCnLive, sz_setCnFree, sz_setCnSpent, sz_setCnUnt, sz_paintTo, sz_genTo, role_setWord, role_setGen, role_setNxt, role_setSz, role_setLst, role_setFresh, role_setBoot, role_setCnNil, role_setCnLive, role_setCnFree, role_setCnSpent, role_setCnUnt, role_genTo, lst_setWord, lst_setGen, lst_setNxt, lst_setSz, lst_setRole, lst_setFresh, lst_setBoot, lst_setCnNil, lst_setCnLive, lst_setCnFree, lst_setCnSpent, lst_setCnUnt, lst_paintTo, lst_genTo, fresh_setWord, fresh_setGen, fresh_setNxt, fresh_setSz, fresh_setRole, fresh_setLst, fresh_setBoot, fresh_setCnNil, fresh_setCnLive, fresh_setCnFree, fresh_setCnSpent, fresh_setCnUnt, fresh_setFresh, fresh_paintTo, fresh_genTo, boot_setWord, boot_setGen, boot_setNxt, boot_setSz, boot_setRole, boot_setLst, boot_setFresh, boot_setCnNil, boot_setCnLive, boot_setCnFree, boot_setCnSpent, boot_setCnUnt, boot_setBoot, boot_paintTo, boot_genTo, cnNil_setWord, cnNil_setGen, cnNil_setNxt, cnNil_setSz, cnNil_setRole, cnNil_setLst, cnNil_setFresh, cnNil_setBoot, cnNil_setCnLive, cnNil_setCnFree, cnNil_setCnSpent, cnNil_setCnUnt, cnNil_setCnNil, cnNil_paintTo, cnNil_genTo, cnLive_setWord, cnLive_setGen, cnLive_setNxt, cnLive_setSz, cnLive_setRole, cnLive_setLst, cnLive_setFresh, cnLive_setBoot, cnLive_setCnNil, cnLive_setCnFree, cnLive_setCnSpent, cnLive_setCnUnt, cnLive_setCnLive, cnLive_paintTo, cnLive_genTo, cnFree_setWord, cnFree_setGen, cnFree_setNxt, cnFree_setSz, cnFree_setRole, cnFree_setLst, cnFree_setFresh, cnFree_setBoot, cnFree_setCnNil, cnFree_setCnLive, cnFree_setCnSpent, cnFree_setCnUnt, cnFree_setCnFree, cnFree_paintTo, cnFree_genTo, cnSpent_setWord, cnSpent_setGen, cnSpent_setNxt, cnSpent_setSz, cnSpent_setRole, cnSpent_setLst, cnSpent_setFresh, cnSpent_setBoot, cnSpent_setCnNil, cnSpent_setCnLive, cnSpent_setCnFree, cnSpent_setCnUnt, cnSpent_setCnSpent, cnSpent_paintTo, cnSpent_genTo, cnUnt_setWord, cnUnt_setGen, cnUnt_setNxt, cnUnt_setSz, cnUnt_setRole, cnUnt_setLst, cnUnt_setFresh, cnUnt_setBoot, cnUnt_setCnNil, cnUnt_setCnLive, cnUnt_setCnFree, cnUnt_setCnSpent, cnUnt_setCnUnt, cnUnt_paintTo, cnUnt_genTo]

theorem cnNil_popF (f : Nat → Int) (x s : Nat) (hx : x < 4096) (hs : s ≤ 32) : cnNil (popF f x s) = cnNil f := by
  unfold popF; simp (disch := omega) only [word_setGen, word_setNxt, word_setSz, word_setRole, word_setLst, word_setFresh, word_setBoot, word_setCnNil, word_setCnLive, word_setCnFree, word_setCnSpent, word_setCnUnt, word_paintTo, word_genTo, gen_setWord, gen_setNxt, gen_setSz, gen_setRole, gen_setLst, gen_setFresh, gen_setBoot, gen_setCnNil, gen_setCnLive, gen_setCnFree, gen_setCnSpent, gen_setCnUnt, gen_paintTo, nxt_setWord, nxt_setGen, nxt_setSz, nxt_setRole, nxt_setLst, nxt_setFresh, nxt_setBoot, nxt_setCnNil, nxt_setCnLive, nxt_setCnFree, nxt_setCnSpent, nxt_setCnUnt, nxt_paintTo, nxt_genTo, sz_setWord, sz_setGen, sz_setNxt, sz_setRole, sz_setLst, sz_setFresh, sz_setBoot, sz_setCnNil, sz_setCnLive, sz_setCnFree, sz_setCnSpent, sz_setCnUnt, sz_paintTo, sz_genTo, role_setWord, role_setGen, role_setNxt, role_setSz, role_setLst, role_setFresh, role_setBoot, role_setCnNil, role_setCnLive, role_setCnFree, role_setCnSpent, role_setCnUnt, role_genTo, lst_setWord, lst_setGen, lst_setNxt, lst_setSz, lst_setRole, lst_setFresh, lst_setBoot, lst_setCnNil, lst_setCnLive, lst_setCnFree, lst_setCnSpent, lst_setCnUnt, lst_paintTo, lst_genTo, fresh_setWord, fresh_setGen, fresh_setNxt, fresh_setSz, fresh_setRole, fresh_setLst, fresh_setBoot, fresh_setCnNil, fresh_setCnLive, fresh_setCnFree, fresh_setCnSpent, fresh_setCnUnt, fresh_setFresh, fresh_paintTo, fresh_genTo, boot_setWord, boot_setGen, boot_setNxt, boot_setSz, boot_setRole, boot_setLst, boot_setFresh, boot_setCnNil, boot_setCnLive, boot_setCnFree, boot_setCnSpent, boot_setCnUnt, boot_setBoot, boot_paintTo, boot_genTo, cnNil_setWord, cnNil_setGen, cnNil_setNxt, cnNil_setSz, cnNil_setRole, cnNil_setLst, cnNil_setFresh, cnNil_setBoot, cnNil_setCnLive, cnNil_setCnFree, cnNil_setCnSpent, cnNil_setCnUnt, cnNil_setCnNil, cnNil_paintTo, cnNil_genTo, cnLive_setWord, cnLive_setGen, cnLive_setNxt, cnLive_setSz, cnLive_setRole, cnLive_setLst, cnLive_setFresh, cnLive_setBoot, cnLive_setCnNil, cnLive_setCnFree, cnLive_setCnSpent, cnLive_setCnUnt, cnLive_setCnLive, cnLive_paintTo, cnLive_genTo, cnFree_setWord, cnFree_setGen, cnFree_setNxt, cnFree_setSz, cnFree_setRole, cnFree_setLst, cnFree_setFresh, cnFree_setBoot, cnFree_setCnNil, cnFree_setCnLive, cnFree_setCnSpent, cnFree_setCnUnt, cnFree_setCnFree, cnFree_paintTo, cnFree_genTo, cnSpent_setWord, cnSpent_setGen, cnSpent_setNxt, cnSpent_setSz, cnSpent_setRole, cnSpent_setLst, cnSpent_setFresh, cnSpent_setBoot, cnSpent_setCnNil, cnSpent_setCnLive, cnSpent_setCnFree, cnSpent_setCnUnt, cnSpent_setCnSpent, cnSpent_paintTo, cnSpent_genTo, cnUnt_setWord, cnUnt_setGen, cnUnt_setNxt, cnUnt_setSz, cnUnt_setRole, cnUnt_setLst, cnUnt_setFresh, cnUnt_setBoot, cnUnt_setCnNil, cnUnt_setCnLive, cnUnt_setCnFree, cnUnt_setCnSpent, cnUnt_setCnUnt, cnUnt_paintTo, cnUnt_genTo]

theorem cnLive_popF (f : Nat → Int) (x s : Nat) (hx : x < 4096) (hs : s ≤ 32) : cnLive (popF f x s) = cnLive f := by
  unfold popF; simp (disch := omega) only [word_setGen, word_setNxt, word_setSz, word_setRole, word_setLst, word_setFresh, word_setBoot, word_setCnNil, word_setCnLive, word_setCnFree, word_setCnSpent, word_setCnUnt, word_paintTo, word_genTo, gen_setWord, gen_setNxt, gen_setSz, gen_setRole, gen_setLst, gen_setFresh, gen_setBoot, gen_setCnNil, gen_setCnLive, gen_setCnFree, gen_setCnSpent, gen_setCnUnt, gen_paintTo, nxt_setWord, nxt_setGen, nxt_setSz, nxt_setRole, nxt_setLst, nxt_setFresh, nxt_setBoot, nxt_setCnNil, nxt_setCnLive, nxt_setCnFree, nxt_setCnSpent, nxt_setCnUnt, nxt_paintTo, nxt_genTo, sz_setWord, sz_setGen, sz_setNxt, sz_setRole, sz_setLst, sz_setFresh, sz_setBoot, sz_setCnNil, sz_setCnLive, sz_setCnFree, sz_setCnSpent, sz_setCnUnt, sz_paintTo, sz_genTo, role_setWord, role_setGen, role_setNxt, role_setSz, role_setLst, role_setFresh, role_setBoot, role_setCnNil, role_setCnLive, role_setCnFree, role_setCnSpent, role_setCnUnt, role_genTo, lst_setWord, lst_setGen, lst_setNxt, lst_setSz, lst_setRole, lst_setFresh, lst_setBoot, lst_setCnNil, lst_setCnLive, lst_setCnFree, lst_setCnSpent, lst_setCnUnt, lst_paintTo, lst_genTo, fresh_setWord, fresh_setGen, fresh_setNxt, fresh_setSz, fresh_setRole, fresh_setLst, fresh_setBoot, fresh_setCnNil, fresh_setCnLive, fresh_setCnFree, fresh_setCnSpent, fresh_setCnUnt, fresh_setFresh, fresh_paintTo, fresh_genTo, boot_setWord, boot_setGen, boot_setNxt, boot_setSz, boot_setRole, boot_setLst, boot_setFresh, boot_setCnNil, boot_setCnLive, boot_setCnFree, boot_setCnSpent, boot_setCnUnt, boot_setBoot, boot_paintTo, boot_genTo, cnNil_setWord, cnNil_setGen, cnNil_setNxt, cnNil_setSz, cnNil_setRole, cnNil_setLst, cnNil_setFresh, cnNil_setBoot, cnNil_setCnLive, cnNil_setCnFree, cnNil_setCnSpent, cnNil_setCnUnt, cnNil_setCnNil, cnNil_paintTo, cnNil_genTo, cnLive_setWord, cnLive_setGen, cnLive_setNxt, cnLive_setSz, cnLive_setRole, cnLive_setLst, cnLive_setFresh, cnLive_setBoot, cnLive_setCnNil, cnLive_setCnFree, cnLive_setCnSpent, cnLive_setCnUnt, cnLive_setCnLive, cnLive_paintTo, cnLive_genTo, cnFree_setWord, cnFree_setGen, cnFree_setNxt, cnFree_setSz, cnFree_setRole, cnFree_setLst, cnFree_setFresh, cnFree_setBoot, cnFree_setCnNil, cnFree_setCnLive, cnFree_setCnSpent, cnFree_setCnUnt, cnFree_setCnFree, cnFree_paintTo, cnFree_genTo, cnSpent_setWord, cnSpent_setGen, cnSpent_setNxt, cnSpent_setSz, cnSpent_setRole, cnSpent_setLst, cnSpent_setFresh, cnSpent_setBoot, cnSpent_setCnNil, cnSpent_setCnLive, cnSpent_setCnFree, cnSpent_setCnUnt, cnSpent_setCnSpent, cnSpent_paintTo, cnSpent_genTo, cnUnt_setWord, cnUnt_setGen, cnUnt_setNxt, cnUnt_setSz, cnUnt_setRole, cnUnt_setLst, cnUnt_setFresh, cnUnt_setBoot, cnUnt_setCnNil, cnUnt_setCnLive, cnUnt_setCnFree, cnUnt_setCnSpent, cnUnt_setCnUnt, cnUnt_paintTo, cnUnt_genTo]

theorem cnSpent_popF (f : Nat → Int) (x s : Nat) (hx : x < 4096) (hs : s ≤ 32) : cnSpent (popF f x s) = cnSpent f := by
  unfold popF; simp (disch := omega) only [word_setGen, word_setNxt, word_setSz, word_setRole, word_setLst, word_setFresh, word_setBoot, word_setCnNil, word_setCnLive, word_setCnFree, word_setCnSpent, word_setCnUnt, word_paintTo, word_genTo, gen_setWord, gen_setNxt, gen_setSz, gen_setRole, gen_setLst, gen_setFresh, gen_setBoot, gen_setCnNil, gen_setCnLive, gen_setCnFree, gen_setCnSpent, gen_setCnUnt, gen_paintTo, nxt_setWord, nxt_setGen, nxt_setSz, nxt_setRole, nxt_setLst, nxt_setFresh, nxt_setBoot, nxt_setCnNil, nxt_setCnLive, nxt_setCnFree, nxt_setCnSpent, nxt_setCnUnt, nxt_paintTo, nxt_genTo, sz_setWord, sz_setGen, sz_setNxt, sz_setRole, sz_setLst, sz_setFresh, sz_setBoot, sz_setCnNil, sz_setCnLive, sz_setCnFree, sz_setCnSpent, sz_setCnUnt, sz_paintTo, sz_genTo, role_setWord, role_setGen, role_setNxt, role_setSz, role_setLst, role_setFresh, role_setBoot, role_setCnNil, role_setCnLive, role_setCnFree, role_setCnSpent, role_setCnUnt, role_genTo, lst_setWord, lst_setGen, lst_setNxt, lst_setSz, lst_setRole, lst_setFresh, lst_setBoot, lst_setCnNil, lst_setCnLive, lst_setCnFree, lst_setCnSpent, lst_setCnUnt, lst_paintTo, lst_genTo, fresh_setWord, fresh_setGen, fresh_setNxt, fresh_setSz, fresh_setRole, fresh_setLst, fresh_setBoot, fresh_setCnNil, fresh_setCnLive, fresh_setCnFree, fresh_setCnSpent, fresh_setCnUnt, fresh_setFresh, fresh_paintTo, fresh_genTo, boot_setWord, boot_setGen, boot_setNxt, boot_setSz, boot_setRole, boot_setLst, boot_setFresh, boot_setCnNil, boot_setCnLive, boot_setCnFree, boot_setCnSpent, boot_setCnUnt, boot_setBoot, boot_paintTo, boot_genTo, cnNil_setWord, cnNil_setGen, cnNil_setNxt, cnNil_setSz, cnNil_setRole, cnNil_setLst, cnNil_setFresh, cnNil_setBoot, cnNil_setCnLive, cnNil_setCnFree, cnNil_setCnSpent, cnNil_setCnUnt, cnNil_setCnNil, cnNil_paintTo, cnNil_genTo, cnLive_setWord, cnLive_setGen, cnLive_setNxt, cnLive_setSz, cnLive_setRole, cnLive_setLst, cnLive_setFresh, cnLive_setBoot, cnLive_setCnNil, cnLive_setCnFree, cnLive_setCnSpent, cnLive_setCnUnt, cnLive_setCnLive, cnLive_paintTo, cnLive_genTo, cnFree_setWord, cnFree_setGen, cnFree_setNxt, cnFree_setSz, cnFree_setRole, cnFree_setLst, cnFree_setFresh, cnFree_setBoot, cnFree_setCnNil, cnFree_setCnLive, cnFree_setCnSpent, cnFree_setCnUnt, cnFree_setCnFree, cnFree_paintTo, cnFree_genTo, cnSpent_setWord, cnSpent_setGen, cnSpent_setNxt, cnSpent_setSz, cnSpent_setRole, cnSpent_setLst, cnSpent_setFresh, cnSpent_setBoot, cnSpent_setCnNil, cnSpent_setCnLive, cnSpent_setCnFree, cnSpent_setCnUnt, cnSpent_setCnSpent, cnSpent_paintTo, cnSpent_genTo, cnUnt_setWord, cnUnt_setGen, cnUnt_setNxt, cnUnt_setSz, cnUnt_setRole, cnUnt_setLst, cnUnt_setFresh, cnUnt_setBoot, cnUnt_setCnNil, cnUnt_setCnLive, cnUnt_setCnFree, cnUnt_setCnSpent, cnUnt_setCnUnt, cnUnt_paintTo, cnUnt_genTo]

theorem cnUnt_popF (f : Nat → Int) (x s : Nat) (hx : x < 4096) (hs : s ≤ 32) : cnUnt (popF f x s) = cnUnt f := by
  unfold popF; simp (disch := omega) only [word_setGen, word_setNxt, word_setSz, word_setRole, word_setLst, word_setFresh, word_setBoot, word_setCnNil, word_setCnLive, word_setCnFree, word_setCnSpent, word_setCnUnt, word_paintTo, word_genTo, gen_setWord, gen_setNxt, gen_setSz, gen_setRole, gen_setLst, gen_setFresh, gen_setBoot, gen_setCnNil, gen_setCnLive, gen_setCnFree, gen_setCnSpent, gen_setCnUnt, gen_paintTo, nxt_setWord, nxt_setGen, nxt_setSz, nxt_setRole, nxt_setLst, nxt_setFresh, nxt_setBoot, nxt_setCnNil, nxt_setCnLive, nxt_setCnFree, nxt_setCnSpent, nxt_setCnUnt, nxt_paintTo, nxt_genTo, sz_setWord, sz_setGen, sz_setNxt, sz_setRole, sz_setLst, sz_setFresh, sz_setBoot, sz_setCnNil, sz_setCnLive, sz_setCnFree, sz_setCnSpent, sz_setCnUnt, sz_paintTo, sz_genTo, role_setWord, role_setGen, role_setNxt, role_setSz, role_setLst, role_setFresh, role_setBoot, role_setCnNil, role_setCnLive, role_setCnFree, role_setCnSpent, role_setCnUnt, role_genTo, lst_setWord, lst_setGen, lst_setNxt, lst_setSz, lst_setRole, lst_setFresh, lst_setBoot, lst_setCnNil, lst_setCnLive, lst_setCnFree, lst_setCnSpent, lst_setCnUnt, lst_paintTo, lst_genTo, fresh_setWord, fresh_setGen, fresh_setNxt, fresh_setSz, fresh_setRole, fresh_setLst, fresh_setBoot, fresh_setCnNil, fresh_setCnLive, fresh_setCnFree, fresh_setCnSpent, fresh_setCnUnt, fresh_setFresh, fresh_paintTo, fresh_genTo, boot_setWord, boot_setGen, boot_setNxt, boot_setSz, boot_setRole, boot_setLst, boot_setFresh, boot_setCnNil, boot_setCnLive, boot_setCnFree, boot_setCnSpent, boot_setCnUnt, boot_setBoot, boot_paintTo, boot_genTo, cnNil_setWord, cnNil_setGen, cnNil_setNxt, cnNil_setSz, cnNil_setRole, cnNil_setLst, cnNil_setFresh, cnNil_setBoot, cnNil_setCnLive, cnNil_setCnFree, cnNil_setCnSpent, cnNil_setCnUnt, cnNil_setCnNil, cnNil_paintTo, cnNil_genTo, cnLive_setWord, cnLive_setGen, cnLive_setNxt, cnLive_setSz, cnLive_setRole, cnLive_setLst, cnLive_setFresh, cnLive_setBoot, cnLive_setCnNil, cnLive_setCnFree, cnLive_setCnSpent, cnLive_setCnUnt, cnLive_setCnLive, cnLive_paintTo, cnLive_genTo, cnFree_setWord, cnFree_setGen, cnFree_setNxt, cnFree_setSz, cnFree_setRole, cnFree_setLst, cnFree_setFresh, cnFree_setBoot, cnFree_setCnNil, cnFree_setCnLive, cnFree_setCnSpent, cnFree_setCnUnt, cnFree_setCnFree, cnFree_paintTo, cnFree_genTo, cnSpent_setWord, cnSpent_setGen, cnSpent_setNxt, cnSpent_setSz, cnSpent_setRole, cnSpent_setLst, cnSpent_setFresh, cnSpent_setBoot, cnSpent_setCnNil, cnSpent_setCnLive, cnSpent_setCnFree, cnSpent_setCnUnt, cnSpent_setCnSpent, cnSpent_paintTo, cnSpent_genTo, cnUnt_setWord, cnUnt_setGen, cnUnt_setNxt, cnUnt_setSz, cnUnt_setRole, cnUnt_setLst, cnUnt_setFresh, cnUnt_setBoot, cnUnt_setCnNil, cnUnt_setCnLive, cnUnt_setCnFree, cnUnt_setCnSpent, cnUnt_setCnUnt, cnUnt_paintTo, cnUnt_genTo]

theorem word_carveF (f : Nat → Int) (x s c : Nat) (hx : x < 4096) (hs : s ≤ 32) (hc : c < 4096) : word (carveF f x s) c = word f c := by
  unfold carveF; simp (disch := omega) only [word_setGen, word_setNxt, word_setSz, word_setRole, word_setLst, word_setFresh, word_setBoot, word_setCnNil, word_setCnLive, word_setCnFree, word_setCnSpent, word_setCnUnt, word_paintTo, word_genTo, gen_setWord, gen_setNxt, gen_setSz, gen_setRole, gen_setLst, gen_setFresh, gen_setBoot, gen_setCnNil, gen_setCnLive, gen_setCnFree, gen_setCnSpent, gen_setCnUnt, gen_paintTo, nxt_setWord, nxt_setGen, nxt_setSz, nxt_setRole, nxt_setLst, nxt_setFresh, nxt_setBoot, nxt_setCnNil, nxt_setCnLive, nxt_setCnFree, nxt_setCnSpent, nxt_setCnUnt, nxt_paintTo, nxt_genTo, sz_setWord, sz_setGen, sz_setNxt, sz_setRole, sz_setLst, sz_setFresh, sz_setBoot, sz_setCnNil, sz_setCnLive, sz_setCnFree, sz_setCnSpent, sz_setCnUnt, sz_paintTo, sz_genTo, role_setWord, role_setGen, role_setNxt, role_setSz, role_setLst, role_setFresh, role_setBoot, role_setCnNil, role_setCnLive, role_setCnFree, role_setCnSpent, role_setCnUnt, role_genTo, lst_setWord, lst_setGen, lst_setNxt, lst_setSz, lst_setRole, lst_setFresh, lst_setBoot, lst_setCnNil, lst_setCnLive, lst_setCnFree, lst_setCnSpent, lst_setCnUnt, lst_paintTo, lst_genTo, fresh_setWord, fresh_setGen, fresh_setNxt, fresh_setSz, fresh_setRole, fresh_setLst, fresh_setBoot, fresh_setCnNil, fresh_setCnLive, fresh_setCnFree, fresh_setCnSpent, fresh_setCnUnt, fresh_setFresh, fresh_paintTo, fresh_genTo, boot_setWord, boot_setGen, boot_setNxt, boot_setSz, boot_setRole, boot_setLst, boot_setFresh, boot_setCnNil, boot_setCnLive, boot_setCnFree, boot_setCnSpent, boot_setCnUnt, boot_setBoot, boot_paintTo, boot_genTo, cnNil_setWord, cnNil_setGen, cnNil_setNxt, cnNil_setSz, cnNil_setRole, cnNil_setLst, cnNil_setFresh, cnNil_setBoot, cnNil_setCnLive, cnNil_setCnFree, cnNil_setCnSpent, cnNil_setCnUnt, cnNil_setCnNil, cnNil_paintTo, cnNil_genTo, cnLive_setWord, cnLive_setGen, cnLive_setNxt, cnLive_setSz, cnLive_setRole, cnLive_setLst, cnLive_setFresh, cnLive_setBoot, cnLive_setCnNil, cnLive_setCnFree, cnLive_setCnSpent, cnLive_setCnUnt, cnLive_setCnLive, cnLive_paintTo, cnLive_genTo, cnFree_setWord, cnFree_setGen, cnFree_setNxt, cnFree_setSz, cnFree_setRole, cnFree_setLst, cnFree_setFresh, cnFree_setBoot, cnFree_setCnNil, cnFree_setCnLive, cnFree_setCnSpent, cnFree_setCnUnt, cnFree_setCnFree, cnFree_paintTo, cnFree_genTo, cnSpent_setWord, cnSpent_setGen, cnSpent_setNxt, cnSpent_setSz, cnSpent_setRole, cnSpent_setLst, cnSpent_setFresh, cnSpent_setBoot, cnSpent_setCnNil, cnSpent_setCnLive, cnSpent_setCnFree, cnSpent_setCnUnt, cnSpent_setCnSpent, cnSpent_paintTo, cnSpent_genTo, cnUnt_setWord, cnUnt_setGen, cnUnt_setNxt, cnUnt_setSz, cnUnt_setRole, cnUnt_setLst, cnUnt_setFresh, cnUnt_setBoot, cnUnt_setCnNil, cnUnt_setCnLive, cnUnt_setCnFree, cnUnt_setCnSpent, cnUnt_setCnUnt, cnUnt_paintTo, cnUnt_genTo]

theorem gen_carveF (f : Nat → Int) (x s c : Nat) (hx : x < 4096) (hs : s ≤ 32) (hc : c < 4096) : gen (carveF f x s) c = gen f c := by
  unfold carveF; simp (disch := omega) only [word_setGen, word_setNxt, word_setSz, word_setRole, word_setLst, word_setFresh, word_setBoot, word_setCnNil, word_setCnLive, word_setCnFree, word_setCnSpent, word_setCnUnt, word_paintTo, word_genTo, gen_setWord, gen_setNxt, gen_setSz, gen_setRole, gen_setLst, gen_setFresh, gen_setBoot, gen_setCnNil, gen_setCnLive, gen_setCnFree, gen_setCnSpent, gen_setCnUnt, gen_paintTo, nxt_setWord, nxt_setGen, nxt_setSz, nxt_setRole, nxt_setLst, nxt_setFresh, nxt_setBoot, nxt_setCnNil, nxt_setCnLive, nxt_setCnFree, nxt_setCnSpent, nxt_setCnUnt, nxt_paintTo, nxt_genTo, sz_setWord, sz_setGen, sz_setNxt, sz_setRole, sz_setLst, sz_setFresh, sz_setBoot, sz_setCnNil, sz_setCnLive, sz_setCnFree, sz_setCnSpent, sz_setCnUnt, sz_paintTo, sz_genTo, role_setWord, role_setGen, role_setNxt, role_setSz, role_setLst, role_setFresh, role_setBoot, role_setCnNil, role_setCnLive, role_setCnFree, role_setCnSpent, role_setCnUnt, role_genTo, lst_setWord, lst_setGen, lst_setNxt, lst_setSz, lst_setRole, lst_setFresh, lst_setBoot, lst_setCnNil, lst_setCnLive, lst_setCnFree, lst_setCnSpent, lst_setCnUnt, lst_paintTo, lst_genTo, fresh_setWord, fresh_setGen, fresh_setNxt, fresh_setSz, fresh_setRole, fresh_setLst, fresh_setBoot, fresh_setCnNil, fresh_setCnLive, fresh_setCnFree, fresh_setCnSpent, fresh_setCnUnt, fresh_setFresh, fresh_paintTo, fresh_genTo, boot_setWord, boot_setGen, boot_setNxt, boot_setSz, boot_setRole, boot_setLst, boot_setFresh, boot_setCnNil, boot_setCnLive, boot_setCnFree, boot_setCnSpent, boot_setCnUnt, boot_setBoot, boot_paintTo, boot_genTo, cnNil_setWord, cnNil_setGen, cnNil_setNxt, cnNil_setSz, cnNil_setRole, cnNil_setLst, cnNil_setFresh, cnNil_setBoot, cnNil_setCnLive, cnNil_setCnFree, cnNil_setCnSpent, cnNil_setCnUnt, cnNil_setCnNil, cnNil_paintTo, cnNil_genTo, cnLive_setWord, cnLive_setGen, cnLive_setNxt, cnLive_setSz, cnLive_setRole, cnLive_setLst, cnLive_setFresh, cnLive_setBoot, cnLive_setCnNil, cnLive_setCnFree, cnLive_setCnSpent, cnLive_setCnUnt, cnLive_setCnLive, cnLive_paintTo, cnLive_genTo, cnFree_setWord, cnFree_setGen, cnFree_setNxt, cnFree_setSz, cnFree_setRole, cnFree_setLst, cnFree_setFresh, cnFree_setBoot, cnFree_setCnNil, cnFree_setCnLive, cnFree_setCnSpent, cnFree_setCnUnt, cnFree_setCnFree, cnFree_paintTo, cnFree_genTo, cnSpent_setWord, cnSpent_setGen, cnSpent_setNxt, cnSpent_setSz, cnSpent_setRole, cnSpent_setLst, cnSpent_setFresh, cnSpent_setBoot, cnSpent_setCnNil, cnSpent_setCnLive, cnSpent_setCnFree, cnSpent_setCnUnt, cnSpent_setCnSpent, cnSpent_paintTo, cnSpent_genTo, cnUnt_setWord, cnUnt_setGen, cnUnt_setNxt, cnUnt_setSz, cnUnt_setRole, cnUnt_setLst, cnUnt_setFresh, cnUnt_setBoot, cnUnt_setCnNil, cnUnt_setCnLive, cnUnt_setCnFree, cnUnt_setCnSpent, cnUnt_setCnUnt, cnUnt_paintTo, cnUnt_genTo]

theorem nxt_carveF (f : Nat → Int) (x s c : Nat) (hx : x < 4096) (hs : s ≤ 32) (hc : c < 4096) : nxt (carveF f x s) c = nxt f c := by
  unfold carveF; simp (disch := omega) only [word_setGen, word_setNxt, word_setSz, word_setRole, word_setLst, word_setFresh, word_setBoot, word_setCnNil, word_setCnLive, word_setCnFree, word_setCnSpent, word_setCnUnt, word_paintTo, word_genTo, gen_setWord, gen_setNxt, gen_setSz, gen_setRole, gen_setLst, gen_setFresh, gen_setBoot, gen_setCnNil, gen_setCnLive, gen_setCnFree, gen_setCnSpent, gen_setCnUnt, gen_paintTo, nxt_setWord, nxt_setGen, nxt_setSz, nxt_setRole, nxt_setLst, nxt_setFresh, nxt_setBoot, nxt_setCnNil, nxt_setCnLive, nxt_setCnFree, nxt_setCnSpent, nxt_setCnUnt, nxt_paintTo, nxt_genTo, sz_setWord, sz_setGen, sz_setNxt, sz_setRole, sz_setLst, sz_setFresh, sz_setBoot, sz_setCnNil, sz_setCnLive, sz_setCnFree, sz_setCnSpent, sz_setCnUnt, sz_paintTo, sz_genTo, role_setWord, role_setGen, role_setNxt, role_setSz, role_setLst, role_setFresh, role_setBoot, role_setCnNil, role_setCnLive, role_setCnFree, role_setCnSpent, role_setCnUnt, role_genTo, lst_setWord, lst_setGen, lst_setNxt, lst_setSz, lst_setRole, lst_setFresh, lst_setBoot, lst_setCnNil, lst_setCnLive, lst_setCnFree, lst_setCnSpent, lst_setCnUnt, lst_paintTo, lst_genTo, fresh_setWord, fresh_setGen, fresh_setNxt, fresh_setSz, fresh_setRole, fresh_setLst, fresh_setBoot, fresh_setCnNil, fresh_setCnLive, fresh_setCnFree, fresh_setCnSpent, fresh_setCnUnt, fresh_setFresh, fresh_paintTo, fresh_genTo, boot_setWord, boot_setGen, boot_setNxt, boot_setSz, boot_setRole, boot_setLst, boot_setFresh, boot_setCnNil, boot_setCnLive, boot_setCnFree, boot_setCnSpent, boot_setCnUnt, boot_setBoot, boot_paintTo, boot_genTo, cnNil_setWord, cnNil_setGen, cnNil_setNxt, cnNil_setSz, cnNil_setRole, cnNil_setLst, cnNil_setFresh, cnNil_setBoot, cnNil_setCnLive, cnNil_setCnFree, cnNil_setCnSpent, cnNil_setCnUnt, cnNil_setCnNil, cnNil_paintTo, cnNil_genTo, cnLive_setWord, cnLive_setGen, cnLive_setNxt, cnLive_setSz, cnLive_setRole, cnLive_setLst, cnLive_setFresh, cnLive_setBoot, cnLive_setCnNil, cnLive_setCnFree, cnLive_setCnSpent, cnLive_setCnUnt, cnLive_setCnLive, cnLive_paintTo, cnLive_genTo, cnFree_setWord, cnFree_setGen, cnFree_setNxt, cnFree_setSz, cnFree_setRole, cnFree_setLst, cnFree_setFresh, cnFree_setBoot, cnFree_setCnNil, cnFree_setCnLive, cnFree_setCnSpent, cnFree_setCnUnt, cnFree_setCnFree, cnFree_paintTo, cnFree_genTo, cnSpent_setWord, cnSpent_setGen, cnSpent_setNxt, cnSpent_setSz, cnSpent_setRole, cnSpent_setLst, cnSpent_setFresh, cnSpent_setBoot, cnSpent_setCnNil, cnSpent_setCnLive, cnSpent_setCnFree, cnSpent_setCnUnt, cnSpent_setCnSpent, cnSpent_paintTo, cnSpent_genTo, cnUnt_setWord, cnUnt_setGen, cnUnt_setNxt, cnUnt_setSz, cnUnt_setRole, cnUnt_setLst, cnUnt_setFresh, cnUnt_setBoot, cnUnt_setCnNil, cnUnt_setCnLive, cnUnt_setCnFree, cnUnt_setCnSpent, cnUnt_setCnUnt, cnUnt_paintTo, cnUnt_genTo]

theorem role_carveF (f : Nat → Int) (x s c : Nat) (hx : x < 4096) (hs : s ≤ 32) (hc : c < 4096) : role (carveF f x s) c = role f c := by
  unfold carveF; simp (disch := omega) only [word_setGen, word_setNxt, word_setSz, word_setRole, word_setLst, word_setFresh, word_setBoot, word_setCnNil, word_setCnLive, word_setCnFree, word_setCnSpent, word_setCnUnt, word_paintTo, word_genTo, gen_setWord, gen_setNxt, gen_setSz, gen_setRole, gen_setLst, gen_setFresh, gen_setBoot, gen_setCnNil, gen_setCnLive, gen_setCnFree, gen_setCnSpent, gen_setCnUnt, gen_paintTo, nxt_setWord, nxt_setGen, nxt_setSz, nxt_setRole, nxt_setLst, nxt_setFresh, nxt_setBoot, nxt_setCnNil, nxt_setCnLive, nxt_setCnFree, nxt_setCnSpent, nxt_setCnUnt, nxt_paintTo, nxt_genTo, sz_setWord, sz_setGen, sz_setNxt, sz_setRole, sz_setLst, sz_setFresh, sz_setBoot, sz_setCnNil, sz_setCnLive, sz_setCnFree, sz_setCnSpent, sz_setCnUnt, sz_paintTo, sz_genTo, role_setWord, role_setGen, role_setNxt, role_setSz, role_setLst, role_setFresh, role_setBoot, role_setCnNil, role_setCnLive, role_setCnFree, role_setCnSpent, role_setCnUnt, role_genTo, lst_setWord, lst_setGen, lst_setNxt, lst_setSz, lst_setRole, lst_setFresh, lst_setBoot, lst_setCnNil, lst_setCnLive, lst_setCnFree, lst_setCnSpent, lst_setCnUnt, lst_paintTo, lst_genTo, fresh_setWord, fresh_setGen, fresh_setNxt, fresh_setSz, fresh_setRole, fresh_setLst, fresh_setBoot, fresh_setCnNil, fresh_setCnLive, fresh_setCnFree, fresh_setCnSpent, fresh_setCnUnt, fresh_setFresh, fresh_paintTo, fresh_genTo, boot_setWord, boot_setGen, boot_setNxt, boot_setSz, boot_setRole, boot_setLst, boot_setFresh, boot_setCnNil, boot_setCnLive, boot_setCnFree, boot_setCnSpent, boot_setCnUnt, boot_setBoot, boot_paintTo, boot_genTo, cnNil_setWord, cnNil_setGen, cnNil_setNxt, cnNil_setSz, cnNil_setRole, cnNil_setLst, cnNil_setFresh, cnNil_setBoot, cnNil_setCnLive, cnNil_setCnFree, cnNil_setCnSpent, cnNil_setCnUnt, cnNil_setCnNil, cnNil_paintTo, cnNil_genTo, cnLive_setWord, cnLive_setGen, cnLive_setNxt, cnLive_setSz, cnLive_setRole, cnLive_setLst, cnLive_setFresh, cnLive_setBoot, cnLive_setCnNil, cnLive_setCnFree, cnLive_setCnSpent, cnLive_setCnUnt, cnLive_setCnLive, cnLive_paintTo, cnLive_genTo, cnFree_setWord, cnFree_setGen, cnFree_setNxt, cnFree_setSz, cnFree_setRole, cnFree_setLst, cnFree_setFresh, cnFree_setBoot, cnFree_setCnNil, cnFree_setCnLive, cnFree_setCnSpent, cnFree_setCnUnt, cnFree_setCnFree, cnFree_paintTo, cnFree_genTo, cnSpent_setWord, cnSpent_setGen, cnSpent_setNxt, cnSpent_setSz, cnSpent_setRole, cnSpent_setLst, cnSpent_setFresh, cnSpent_setBoot, cnSpent_setCnNil, cnSpent_setCnLive, cnSpent_setCnFree, cnSpent_setCnUnt, cnSpent_setCnSpent, cnSpent_paintTo, cnSpent_genTo, cnUnt_setWord, cnUnt_setGen, cnUnt_setNxt, cnUnt_setSz, cnUnt_setRole, cnUnt_setLst, cnUnt_setFresh, cnUnt_setBoot, cnUnt_setCnNil, cnUnt_setCnLive, cnUnt_setCnFree, cnUnt_setCnSpent, cnUnt_setCnUnt, cnUnt_paintTo, cnUnt_genTo]

theorem lst_carveF (f : Nat → Int) (x s c : Nat) (hx : x < 4096) (hs : s ≤ 32) (hc : c < 16) : lst (carveF f x s) c = lst f c := by
  unfold carveF; simp (disch := omega) only [word_setGen, word_setNxt, word_setSz, word_setRole, word_setLst, word_setFresh, word_setBoot, word_setCnNil, word_setCnLive, word_setCnFree, word_setCnSpent, word_setCnUnt, word_paintTo, word_genTo, gen_setWord, gen_setNxt, gen_setSz, gen_setRole, gen_setLst, gen_setFresh, gen_setBoot, gen_setCnNil, gen_setCnLive, gen_setCnFree, gen_setCnSpent, gen_setCnUnt, gen_paintTo, nxt_setWord, nxt_setGen, nxt_setSz, nxt_setRole, nxt_setLst, nxt_setFresh, nxt_setBoot, nxt_setCnNil, nxt_setCnLive, nxt_setCnFree, nxt_setCnSpent, nxt_setCnUnt, nxt_paintTo, nxt_genTo, sz_setWord, sz_setGen, sz_setNxt, sz_setRole, sz_setLst, sz_setFresh, sz_setBoot, sz_setCnNil, sz_setCnLive, sz_setCnFree, sz_setCnSpent, sz_setCnUnt, sz_paintTo, sz_genTo, role_setWord, role_setGen, role_setNxt, role_setSz, role_setLst, role_setFresh, role_setBoot, role_setCnNil, role_setCnLive, role_setCnFree, role_setCnSpent, role_setCnUnt, role_genTo, lst_setWord, lst_setGen, lst_setNxt, lst_setSz, lst_setRole, lst_setFresh, lst_setBoot, lst_setCnNil, lst_setCnLive, lst_setCnFree, lst_setCnSpent, lst_setCnUnt, lst_paintTo, lst_genTo, fresh_setWord, fresh_setGen, fresh_setNxt, fresh_setSz, fresh_setRole, fresh_setLst, fresh_setBoot, fresh_setCnNil, fresh_setCnLive, fresh_setCnFree, fresh_setCnSpent, fresh_setCnUnt, fresh_setFresh, fresh_paintTo, fresh_genTo, boot_setWord, boot_setGen, boot_setNxt, boot_setSz, boot_setRole, boot_setLst, boot_setFresh, boot_setCnNil, boot_setCnLive, boot_setCnFree, boot_setCnSpent, boot_setCnUnt, boot_setBoot, boot_paintTo, boot_genTo, cnNil_setWord, cnNil_setGen, cnNil_setNxt, cnNil_setSz, cnNil_setRole, cnNil_setLst, cnNil_setFresh, cnNil_setBoot, cnNil_setCnLive, cnNil_setCnFree, cnNil_setCnSpent, cnNil_setCnUnt, cnNil_setCnNil, cnNil_paintTo, cnNil_genTo, cnLive_setWord, cnLive_setGen, cnLive_setNxt, cnLive_setSz, cnLive_setRole, cnLive_setLst, cnLive_setFresh, cnLive_setBoot, cnLive_setCnNil, cnLive_setCnFree, cnLive_setCnSpent, cnLive_setCnUnt, cnLive_setCnLive, cnLive_paintTo, cnLive_genTo, cnFree_setWord, cnFree_setGen, cnFree_setNxt, cnFree_setSz, cnFree_setRole, cnFree_setLst, cnFree_setFresh, cnFree_setBoot, cnFree_setCnNil, cnFree_setCnLive, cnFree_setCnSpent, cnFree_setCnUnt, cnFree_setCnFree, cnFree_paintTo, cnFree_genTo, cnSpent_setWord, cnSpent_setGen, cnSpent_setNxt, cnSpent_setSz, cnSpent_setRole, cnSpent_setLst, cnSpent_setFresh, cnSpent_setBoot, cnSpent_setCnNil, cnSpent_setCnLive, cnSpent_setCnFree, cnSpent_setCnUnt, cnSpent_setCnSpent, cnSpent_paintTo, cnSpent_genTo, cnUnt_setWord, cnUnt_setGen, cnUnt_setNxt, cnUnt_setSz, cnUnt_setRole, cnUnt_setLst, cnUnt_setFresh, cnUnt_setBoot, cnUnt_setCnNil, cnUnt_setCnLive, cnUnt_setCnFree, cnUnt_setCnSpent, cnUnt_setCnUnt, cnUnt_paintTo, cnUnt_genTo]

theorem boot_carveF (f : Nat → Int) (x s : Nat) (hx : x < 4096) (hs : s ≤ 32) : boot (carveF f x s) = boot f := by
  unfold carveF; simp (disch := omega) only [word_setGen, word_setNxt, word_setSz, word_setRole, word_setLst, word_setFresh, word_setBoot, word_setCnNil, word_setCnLive, word_setCnFree, word_setCnSpent, word_setCnUnt, word_paintTo, word_genTo, gen_setWord, gen_setNxt, gen_setSz, gen_setRole, gen_setLst, gen_setFresh, gen_setBoot, gen_setCnNil, gen_setCnLive, gen_setCnFree, gen_setCnSpent, gen_setCnUnt, gen_paintTo, nxt_setWord, nxt_setGen, nxt_setSz, nxt_setRole, nxt_setLst, nxt_setFresh, nxt_setBoot, nxt_setCnNil, nxt_setCnLive, nxt_setCnFree, nxt_setCnSpent, nxt_setCnUnt, nxt_paintTo, nxt_genTo, sz_setWord, sz_setGen, sz_setNxt, sz_setRole, sz_setLst, sz_setFresh, sz_setBoot, sz_setCnNil, sz_setCnLive, sz_setCnFree, sz_setCnSpent, sz_setCnUnt, sz_paintTo, sz_genTo, role_setWord, role_setGen, role_setNxt, role_setSz, role_setLst, role_setFresh, role_setBoot, role_setCnNil, role_setCnLive, role_setCnFree, role_setCnSpent, role_setCnUnt, role_genTo, lst_setWord, lst_setGen, lst_setNxt, lst_setSz, lst_setRole, lst_setFresh, lst_setBoot, lst_setCnNil, lst_setCnLive, lst_setCnFree, lst_setCnSpent, lst_setCnUnt, lst_paintTo, lst_genTo, fresh_setWord, fresh_setGen, fresh_setNxt, fresh_setSz, fresh_setRole, fresh_setLst, fresh_setBoot, fresh_setCnNil, fresh_setCnLive, fresh_setCnFree, fresh_setCnSpent, fresh_setCnUnt, fresh_setFresh, fresh_paintTo, fresh_genTo, boot_setWord, boot_setGen, boot_setNxt, boot_setSz, boot_setRole, boot_setLst, boot_setFresh, boot_setCnNil, boot_setCnLive, boot_setCnFree, boot_setCnSpent, boot_setCnUnt, boot_setBoot, boot_paintTo, boot_genTo, cnNil_setWord, cnNil_setGen, cnNil_setNxt, cnNil_setSz, cnNil_setRole, cnNil_setLst, cnNil_setFresh, cnNil_setBoot, cnNil_setCnLive, cnNil_setCnFree, cnNil_setCnSpent, cnNil_setCnUnt, cnNil_setCnNil, cnNil_paintTo, cnNil_genTo, cnLive_setWord, cnLive_setGen, cnLive_setNxt, cnLive_setSz, cnLive_setRole, cnLive_setLst, cnLive_setFresh, cnLive_setBoot, cnLive_setCnNil, cnLive_setCnFree, cnLive_setCnSpent, cnLive_setCnUnt, cnLive_setCnLive, cnLive_paintTo, cnLive_genTo, cnFree_setWord, cnFree_setGen, cnFree_setNxt, cnFree_setSz, cnFree_setRole, cnFree_setLst, cnFree_setFresh, cnFree_setBoot, cnFree_setCnNil, cnFree_setCnLive, cnFree_setCnSpent, cnFree_setCnUnt, cnFree_setCnFree, cnFree_paintTo, cnFree_genTo, cnSpent_setWord, cnSpent_setGen, cnSpent_setNxt, cnSpent_setSz, cnSpent_setRole, cnSpent_setLst, cnSpent_setFresh, cnSpent_setBoot, cnSpent_setCnNil, cnSpent_setCnLive, cnSpent_setCnFree, cnSpent_setCnUnt, cnSpent_setCnSpent, cnSpent_paintTo, cnSpent_genTo, cnUnt_setWord, cnUnt_setGen, cnUnt_setNxt, cnUnt_setSz, cnUnt_setRole, cnUnt_setLst, cnUnt_setFresh, cnUnt_setBoot, cnUnt_setCnNil, cnUnt_setCnLive, cnUnt_setCnFree, cnUnt_setCnSpent, cnUnt_setCnUnt, cnUnt_paintTo, cnUnt_genTo]

theorem cnNil_carveF (f : Nat → Int) (x s : Nat) (hx : x < 4096) (hs : s ≤ 32) : cnNil (carveF f x s) = cnNil f := by
  unfold carveF; simp (disch := omega) only [word_setGen, word_setNxt, word_setSz, word_setRole, word_setLst, word_setFresh, word_setBoot, word_setCnNil, word_setCnLive, word_setCnFree, word_setCnSpent, word_setCnUnt, word_paintTo, word_genTo, gen_setWord, gen_setNxt, gen_setSz, gen_setRole, gen_setLst, gen_setFresh, gen_setBoot, gen_setCnNil, gen_setCnLive, gen_setCnFree, gen_setCnSpent, gen_setCnUnt, gen_paintTo, nxt_setWord, nxt_setGen, nxt_setSz, nxt_setRole, nxt_setLst, nxt_setFresh, nxt_setBoot, nxt_setCnNil, nxt_setCnLive, nxt_setCnFree, nxt_setCnSpent, nxt_setCnUnt, nxt_paintTo, nxt_genTo, sz_setWord, sz_setGen, sz_setNxt, sz_setRole, sz_setLst, sz_setFresh, sz_setBoot, sz_setCnNil, sz_setCnLive, sz_setCnFree, sz_setCnSpent, sz_setCnUnt, sz_paintTo, sz_genTo, role_setWord, role_setGen, role_setNxt, role_setSz, role_setLst, role_setFresh, role_setBoot, role_setCnNil, role_setCnLive, role_setCnFree, role_setCnSpent, role_setCnUnt, role_genTo, lst_setWord, lst_setGen, lst_setNxt, lst_setSz, lst_setRole, lst_setFresh, lst_setBoot, lst_setCnNil, lst_setCnLive, lst_setCnFree, lst_setCnSpent, lst_setCnUnt, lst_paintTo, lst_genTo, fresh_setWord, fresh_setGen, fresh_setNxt, fresh_setSz, fresh_setRole, fresh_setLst, fresh_setBoot, fresh_setCnNil, fresh_setCnLive, fresh_setCnFree, fresh_setCnSpent, fresh_setCnUnt, fresh_setFresh, fresh_paintTo, fresh_genTo, boot_setWord, boot_setGen, boot_setNxt, boot_setSz, boot_setRole, boot_setLst, boot_setFresh, boot_setCnNil, boot_setCnLive, boot_setCnFree, boot_setCnSpent, boot_setCnUnt, boot_setBoot, boot_paintTo, boot_genTo, cnNil_setWord, cnNil_setGen, cnNil_setNxt, cnNil_setSz, cnNil_setRole, cnNil_setLst, cnNil_setFresh, cnNil_setBoot, cnNil_setCnLive, cnNil_setCnFree, cnNil_setCnSpent, cnNil_setCnUnt, cnNil_setCnNil, cnNil_paintTo, cnNil_genTo, cnLive_setWord, cnLive_setGen, cnLive_setNxt, cnLive_setSz, cnLive_setRole, cnLive_setLst, cnLive_setFresh, cnLive_setBoot, cnLive_setCnNil, cnLive_setCnFree, cnLive_setCnSpent, cnLive_setCnUnt, cnLive_setCnLive, cnLive_paintTo, cnLive_genTo, cnFree_setWord, cnFree_setGen, cnFree_setNxt, cnFree_setSz, cnFree_setRole, cnFree_setLst, cnFree_setFresh, cnFree_setBoot, cnFree_setCnNil, cnFree_setCnLive, cnFree_setCnSpent, cnFree_setCnUnt, cnFree_setCnFree, cnFree_paintTo, cnFree_genTo, cnSpent_setWord, cnSpent_setGen, cnSpent_setNxt, cnSpent_setSz, cnSpent_setRole, cnSpent_setLst, cnSpent_setFresh, cnSpent_setBoot, cnSpent_setCnNil, cnSpent_setCnLive, cnSpent_setCnFree, cnSpent_setCnUnt, cnSpent_setCnSpent, cnSpent_paintTo, cnSpent_genTo, cnUnt_setWord, cnUnt_setGen, cnUnt_setNxt, cnUnt_setSz, cnUnt_setRole, cnUnt_setLst, cnUnt_setFresh, cnUnt_setBoot, cnUnt_setCnNil, cnUnt_setCnLive, cnUnt_setCnFree, cnUnt_setCnSpent, cnUnt_setCnUnt, cnUnt_paintTo, cnUnt_genTo]

theorem cnLive_carveF (f : Nat → Int) (x s : Nat) (hx : x < 4096) (hs : s ≤ 32) : cnLive (carveF f x s) = cnLive f := by
  unfold carveF; simp (disch := omega) only [word_setGen, word_setNxt, word_setSz, word_setRole, word_setLst, word_setFresh, word_setBoot, word_setCnNil, word_setCnLive, word_setCnFree, word_setCnSpent, word_setCnUnt, word_paintTo, word_genTo, gen_setWord, gen_setNxt, gen_setSz, gen_setRole, gen_setLst, gen_setFresh, gen_setBoot, gen_setCnNil, gen_setCnLive, gen_setCnFree, gen_setCnSpent, gen_setCnUnt, gen_paintTo, nxt_setWord, nxt_setGen, nxt_setSz, nxt_setRole, nxt_setLst, nxt_setFresh, nxt_setBoot, nxt_setCnNil, nxt_setCnLive, nxt_setCnFree, nxt_setCnSpent, nxt_setCnUnt, nxt_paintTo, nxt_genTo, sz_setWord, sz_setGen, sz_setNxt, sz_setRole, sz_setLst, sz_setFresh, sz_setBoot, sz_setCnNil, sz_setCnLive, sz_setCnFree, sz_setCnSpent, sz_setCnUnt, sz_paintTo, sz_genTo, role_setWord, role_setGen, role_setNxt, role_setSz, role_setLst, role_setFresh, role_setBoot, role_setCnNil, role_setCnLive, role_setCnFree, role_setCnSpent, role_setCnUnt, role_genTo, lst_setWord, lst_setGen, lst_setNxt, lst_setSz, lst_setRole, lst_setFresh, lst_setBoot, lst_setCnNil, lst_setCnLive, lst_setCnFree, lst_setCnSpent, lst_setCnUnt, lst_paintTo, lst_genTo, fresh_setWord, fresh_setGen, fresh_setNxt, fresh_setSz, fresh_setRole, fresh_setLst, fresh_setBoot, fresh_setCnNil, fresh_setCnLive, fresh_setCnFree, fresh_setCnSpent, fresh_setCnUnt, fresh_setFresh, fresh_paintTo, fresh_genTo, boot_setWord, boot_setGen, boot_setNxt, boot_setSz, boot_setRole, boot_setLst, boot_setFresh, boot_setCnNil, boot_setCnLive, boot_setCnFree, boot_setCnSpent, boot_setCnUnt, boot_setBoot, boot_paintTo, boot_genTo, cnNil_setWord, cnNil_setGen, cnNil_setNxt, cnNil_setSz, cnNil_setRole, cnNil_setLst, cnNil_setFresh, cnNil_setBoot, cnNil_setCnLive, cnNil_setCnFree, cnNil_setCnSpent, cnNil_setCnUnt, cnNil_setCnNil, cnNil_paintTo, cnNil_genTo, cnLive_setWord, cnLive_setGen, cnLive_setNxt, cnLive_setSz, cnLive_setRole, cnLive_setLst, cnLive_setFresh, cnLive_setBoot, cnLive_setCnNil, cnLive_setCnFree, cnLive_setCnSpent, cnLive_setCnUnt, cnLive_setCnLive, cnLive_paintTo, cnLive_genTo, cnFree_setWord, cnFree_setGen, cnFree_setNxt, cnFree_setSz, cnFree_setRole, cnFree_setLst, cnFree_setFresh, cnFree_setBoot, cnFree_setCnNil, cnFree_setCnLive, cnFree_setCnSpent, cnFree_setCnUnt, cnFree_setCnFree, cnFree_paintTo, cnFree_genTo, cnSpent_setWord, cnSpent_setGen, cnSpent_setNxt, cnSpent_setSz, cnSpent_setRole, cnSpent_setLst, cnSpent_setFresh, cnSpent_setBoot, cnSpent_setCnNil, cnSpent_setCnLive, cnSpent_setCnFree, cnSpent_setCnUnt, cnSpent_setCnSpent, cnSpent_paintTo, cnSpent_genTo, cnUnt_setWord, cnUnt_setGen, cnUnt_setNxt, cnUnt_setSz, cnUnt_setRole, cnUnt_setLst, cnUnt_setFresh, cnUnt_setBoot, cnUnt_setCnNil, cnUnt_setCnLive, cnUnt_setCnFree, cnUnt_setCnSpent, cnUnt_setCnUnt, cnUnt_paintTo, cnUnt_genTo]

theorem cnFree_carveF (f : Nat → Int) (x s : Nat) (hx : x < 4096) (hs : s ≤ 32) : cnFree (carveF f x s) = cnFree f := by
  unfold carveF; simp (disch := omega) only [word_setGen, word_setNxt, word_setSz, word_setRole, word_setLst, word_setFresh, word_setBoot, word_setCnNil, word_setCnLive, word_setCnFree, word_setCnSpent, word_setCnUnt, word_paintTo, word_genTo, gen_setWord, gen_setNxt, gen_setSz, gen_setRole, gen_setLst, gen_setFresh, gen_setBoot, gen_setCnNil, gen_setCnLive, gen_setCnFree, gen_setCnSpent, gen_setCnUnt, gen_paintTo, nxt_setWord, nxt_setGen, nxt_setSz, nxt_setRole, nxt_setLst, nxt_setFresh, nxt_setBoot, nxt_setCnNil, nxt_setCnLive, nxt_setCnFree, nxt_setCnSpent, nxt_setCnUnt, nxt_paintTo, nxt_genTo, sz_setWord, sz_setGen, sz_setNxt, sz_setRole, sz_setLst, sz_setFresh, sz_setBoot, sz_setCnNil, sz_setCnLive, sz_setCnFree, sz_setCnSpent, sz_setCnUnt, sz_paintTo, sz_genTo, role_setWord, role_setGen, role_setNxt, role_setSz, role_setLst, role_setFresh, role_setBoot, role_setCnNil, role_setCnLive, role_setCnFree, role_setCnSpent, role_setCnUnt, role_genTo, lst_setWord, lst_setGen, lst_setNxt, lst_setSz, lst_setRole, lst_setFresh, lst_setBoot, lst_setCnNil, lst_setCnLive, lst_setCnFree, lst_setCnSpent, lst_setCnUnt, lst_paintTo, lst_genTo, fresh_setWord, fresh_setGen, fresh_setNxt, fresh_setSz, fresh_setRole, fresh_setLst, fresh_setBoot, fresh_setCnNil, fresh_setCnLive, fresh_setCnFree, fresh_setCnSpent, fresh_setCnUnt, fresh_setFresh, fresh_paintTo, fresh_genTo, boot_setWord, boot_setGen, boot_setNxt, boot_setSz, boot_setRole, boot_setLst, boot_setFresh, boot_setCnNil, boot_setCnLive, boot_setCnFree, boot_setCnSpent, boot_setCnUnt, boot_setBoot, boot_paintTo, boot_genTo, cnNil_setWord, cnNil_setGen, cnNil_setNxt, cnNil_setSz, cnNil_setRole, cnNil_setLst, cnNil_setFresh, cnNil_setBoot, cnNil_setCnLive, cnNil_setCnFree, cnNil_setCnSpent, cnNil_setCnUnt, cnNil_setCnNil, cnNil_paintTo, cnNil_genTo, cnLive_setWord, cnLive_setGen, cnLive_setNxt, cnLive_setSz, cnLive_setRole, cnLive_setLst, cnLive_setFresh, cnLive_setBoot, cnLive_setCnNil, cnLive_setCnFree, cnLive_setCnSpent, cnLive_setCnUnt, cnLive_setCnLive, cnLive_paintTo, cnLive_genTo, cnFree_setWord, cnFree_setGen, cnFree_setNxt, cnFree_setSz, cnFree_setRole, cnFree_setLst, cnFree_setFresh, cnFree_setBoot, cnFree_setCnNil, cnFree_setCnLive, cnFree_setCnSpent, cnFree_setCnUnt, cnFree_setCnFree, cnFree_paintTo, cnFree_genTo, cnSpent_setWord, cnSpent_setGen, cnSpent_setNxt, cnSpent_setSz, cnSpent_setRole, cnSpent_setLst, cnSpent_setFresh, cnSpent_setBoot, cnSpent_setCnNil, cnSpent_setCnLive, cnSpent_setCnFree, cnSpent_setCnUnt, cnSpent_setCnSpent, cnSpent_paintTo, cnSpent_genTo, cnUnt_setWord, cnUnt_setGen, cnUnt_setNxt, cnUnt_setSz, cnUnt_setRole, cnUnt_setLst, cnUnt_setFresh, cnUnt_setBoot, cnUnt_setCnNil, cnUnt_setCnLive, cnUnt_setCnFree, cnUnt_setCnSpent, cnUnt_setCnUnt, cnUnt_paintTo, cnUnt_genTo]

theorem cnSpent_carveF (f : Nat → Int) (x s : Nat) (hx : x < 4096) (hs : s ≤ 32) : cnSpent (carveF f x s) = cnSpent f := by
  unfold carveF; simp (disch := omega) only [word_setGen, word_setNxt, word_setSz, word_setRole, word_setLst, word_setFresh, word_setBoot, word_setCnNil, word_setCnLive, word_setCnFree, word_setCnSpent, word_setCnUnt, word_paintTo, word_genTo, gen_setWord, gen_setNxt, gen_setSz, gen_setRole, gen_setLst, gen_setFresh, gen_setBoot, gen_setCnNil, gen_setCnLive, gen_setCnFree, gen_setCnSpent, gen_setCnUnt, gen_paintTo, nxt_setWord, nxt_setGen, nxt_setSz, nxt_setRole, nxt_setLst, nxt_setFresh, nxt_setBoot, nxt_setCnNil, nxt_setCnLive, nxt_setCnFree, nxt_setCnSpent, nxt_setCnUnt, nxt_paintTo, nxt_genTo, sz_setWord, sz_setGen, sz_setNxt, sz_setRole, sz_setLst, sz_setFresh, sz_setBoot, sz_setCnNil, sz_setCnLive, sz_setCnFree, sz_setCnSpent, sz_setCnUnt, sz_paintTo, sz_genTo, role_setWord, role_setGen, role_setNxt, role_setSz, role_setLst, role_setFresh, role_setBoot, role_setCnNil, role_setCnLive, role_setCnFree, role_setCnSpent, role_setCnUnt, role_genTo, lst_setWord, lst_setGen, lst_setNxt, lst_setSz, lst_setRole, lst_setFresh, lst_setBoot, lst_setCnNil, lst_setCnLive, lst_setCnFree, lst_setCnSpent, lst_setCnUnt, lst_paintTo, lst_genTo, fresh_setWord, fresh_setGen, fresh_setNxt, fresh_setSz, fresh_setRole, fresh_setLst, fresh_setBoot, fresh_setCnNil, fresh_setCnLive, fresh_setCnFree, fresh_setCnSpent, fresh_setCnUnt, fresh_setFresh, fresh_paintTo, fresh_genTo, boot_setWord, boot_setGen, boot_setNxt, boot_setSz, boot_setRole, boot_setLst, boot_setFresh, boot_setCnNil, boot_setCnLive, boot_setCnFree, boot_setCnSpent, boot_setCnUnt, boot_setBoot, boot_paintTo, boot_genTo, cnNil_setWord, cnNil_setGen, cnNil_setNxt, cnNil_setSz, cnNil_setRole, cnNil_setLst, cnNil_setFresh, cnNil_setBoot, cnNil_setCnLive, cnNil_setCnFree, cnNil_setCnSpent, cnNil_setCnUnt, cnNil_setCnNil, cnNil_paintTo, cnNil_genTo, cnLive_setWord, cnLive_setGen, cnLive_setNxt, cnLive_setSz, cnLive_setRole, cnLive_setLst, cnLive_setFresh, cnLive_setBoot, cnLive_setCnNil, cnLive_setCnFree, cnLive_setCnSpent, cnLive_setCnUnt, cnLive_setCnLive, cnLive_paintTo, cnLive_genTo, cnFree_setWord, cnFree_setGen, cnFree_setNxt, cnFree_setSz, cnFree_setRole, cnFree_setLst, cnFree_setFresh, cnFree_setBoot, cnFree_setCnNil, cnFree_setCnLive, cnFree_setCnSpent, cnFree_setCnUnt, cnFree_setCnFree, cnFree_paintTo, cnFree_genTo, cnSpent_setWord, cnSpent_setGen, cnSpent_setNxt, cnSpent_setSz, cnSpent_setRole, cnSpent_setLst, cnSpent_setFresh, cnSpent_setBoot, cnSpent_setCnNil, cnSpent_setCnLive, cnSpent_setCnFree, cnSpent_setCnUnt, cnSpent_setCnSpent, cnSpent_paintTo, cnSpent_genTo, cnUnt_setWord, cnUnt_setGen, cnUnt_setNxt, cnUnt_setSz, cnUnt_setRole, cnUnt_setLst, cnUnt_setFresh, cnUnt_setBoot, cnUnt_setCnNil, cnUnt_setCnLive, cnUnt_setCnFree, cnUnt_setCnSpent, cnUnt_setCnUnt, cnUnt_paintTo, cnUnt_genTo]

set_option maxHeartbeats 1000000 in
theorem alloc_list_spec (b : Nat) (f : Nat → Int) (x n s : Nat) (hn1 : 1 ≤ n) (hn2 : n ≤ 32) (hs : (n + 1) / 2 * 2 = s) (hl0 : lst f (s / 2 - 1) = x) (hx1 : 2 ≤ x) (hx2 : x + s ≤ 4096) (hgen : ∀ c, x ≤ c → c < x + s → 0 ≤ gen f c ∧ gen f c < 281474976710655) (y : Nat) (hy : gen f x + 1 = y) (hl1 : -1000000000 ≤ cnLive f) (hl2 : cnLive f ≤ 1000000000) (hf1 : -1000000000 ≤ cnFree f) (hf2 : cnFree f ≤ 1000000000) (hu1 : -1000000000 ≤ cnUnt f) (hu2 : cnUnt f ≤ 1000000000) : Sp Try.prog 37 #[.pointer (some ⟨b, 0, none⟩), .int .i64 n] [(b, C (encL (f)) 87)] (fun v F' => v = .tuple #[.int .u64 ((y * 65536 + x : Nat) : Int), .int .u8 0] ∧ F' = [(b, C (encL (handF (popF f x s) x s)) 87)]) := by
  refine f_enter (args := [.pointer (some ⟨b, 0, none⟩), .int .i64 n]) Try.func37 rfl Try.ntmps37 rfl ?_
  intro w0 w a hpre hl hh
  have hfin : gen (genTo (popF f x s) x s) x = (y : Int) := by
    rw [gen_genTo _ _ _ _ (by omega), if_pos (by omega), gen_popF _ _ _ _ (by omega) (by omega) (by omega)]; exact hy
  have hgx := hgen x (by omega) (by omega)
  simp only [slotsFrom, Nat.reduceAdd] at hl
  refine c_seq ?_
  refine c_region ?_
  refine wl (wl_val hl rfl trivial (r_assign hl rfl) ?_)
  clear hl a; intro a hl
  refine wl (wl_val hl rfl trivial (r_assign hl rfl) ?_)
  clear hl a; intro a hl
  refine w_nil ?_
  have hl2 := hl.add (t := 0) (hl.add (t := 1) (hl.nil) rfl) rfl; clear hl; have hl := hl2; clear hl2
  refine then_normal ?_
  refine c_seq ?_
  refine c_region ?_
  refine wl (wl_val hl rfl trivial (r_move hl rfl) ?_)
  clear hl a; intro a hl
  refine wl (w_call hl hh rfl trivial rfl cal46 rfl (roundUp_yes n hn1 hn2 s hs) (by repeat (first | exact keeps_nil | apply keeps_cons (by repeat (first | exact find_head | apply find_tail)) (by first  | rfl) | exact keeps_self | apply keeps_mv)) trivial ?_)
  clear hl hh a w; intro vc Fc a w hR hl hh
  obtain ⟨rfl, rfl⟩ := hR
  simp only [List.cons_append, List.nil_append] at hh
  refine wl (wl_val hl rfl trivial (r_move hl rfl) ?_)
  clear hl a; intro a hl
  refine wl (wl_val hl rfl trivial (r_extract hl rfl (by simp only [List.getElem?_toArray, List.getElem?_cons_zero, List.getElem?_cons_succ]; rfl)) ?_)
  clear hl a; intro a hl
  refine wl (wl_val hl rfl trivial (r_extract hl rfl (by simp only [List.getElem?_toArray, List.getElem?_cons_zero, List.getElem?_cons_succ]; rfl)) ?_)
  clear hl a; intro a hl
  refine wl (wl_val hl rfl trivial (r_assign hl rfl) ?_)
  clear hl a; intro a hl
  refine wl (wl_val hl rfl trivial (r_assign hl rfl) ?_)
  clear hl a; intro a hl
  refine w_nil ?_
  have hl2 := hl.add (t := 0) (hl.add (t := 6) (hl.add (t := 7) (hl.nil) rfl) rfl) rfl; clear hl; have hl := hl2; clear hl2
  refine then_normal ?_
  refine c_seq ?_
  refine c_seq ?_
  refine c_region ?_
  refine wl (wl_val hl rfl trivial (r_move hl rfl) ?_)
  clear hl a; intro a hl
  refine wl (wl_val hl rfl trivial (r_not hl rfl) ?_)
  clear hl a; intro a hl
  refine w_nil ?_
  have hl2 := hl.add (t := 0) (hl.add (t := 6) (hl.add (t := 17) (hl.nil) rfl) rfl) rfl; clear hl; have hl := hl2; clear hl2
  refine then_normal ?_
  refine c_cond hl rfl ?_ ?_
  · intro hc0
    try simp only [decide_eq_true_eq, decide_eq_false_iff_not, Bool.not_eq_true', Bool.not_eq_false', Bool.not_eq_true, Bool.not_eq_false, Bool.and_eq_true, Bool.or_eq_true, Bool.and_eq_false_iff, Bool.or_eq_false_iff, Bool.not_not, ne_eq, Int.not_lt, Int.not_le, Decidable.not_not, beq_iff_eq, bne_iff_ne] at hc0
    simp at hc0
  · intro hc0
    try simp only [decide_eq_true_eq, decide_eq_false_iff_not, Bool.not_eq_true', Bool.not_eq_false', Bool.not_eq_true, Bool.not_eq_false, Bool.and_eq_true, Bool.or_eq_true, Bool.and_eq_false_iff, Bool.or_eq_false_iff, Bool.not_not, ne_eq, Int.not_lt, Int.not_le, Decidable.not_not, beq_iff_eq, bne_iff_ne] at hc0
    refine wp_skip ?_
    refine then_normal ?_
    refine c_seq ?_
    refine c_region ?_
    refine wl (wl_val hl rfl trivial (r_move hl rfl) ?_)
    clear hl a; intro a hl
    refine wl (w_call hl hh rfl trivial rfl cal44 rfl (classOf_spec _ (by omega) (by omega)) (by repeat (first | exact keeps_nil | apply keeps_cons (by repeat (first | exact find_head | apply find_tail)) (by first  | rfl) | exact keeps_self | apply keeps_mv)) trivial ?_)
    clear hl hh a w; intro vc Fc a w hR hl hh
    obtain ⟨rfl, rfl⟩ := hR
    simp only [List.cons_append, List.nil_append] at hh
    rw [show (s : Int) / 2 - 1 = ((s / 2 - 1 : Nat) : Int) by omega] at hl
    refine wl (wl_val hl rfl trivial (r_assign hl rfl) ?_)
    clear hl a; intro a hl
    refine w_nil ?_
    have hl2 := hl.add (t := 0) (hl.add (t := 6) (hl.add (t := 8) (hl.nil) rfl) rfl) rfl; clear hl; have hl := hl2; clear hl2
    refine then_normal ?_
    refine c_seq ?_
    refine c_region ?_
    refine wl (wl_val hl rfl trivial (r_move hl rfl) ?_)
    clear hl a; intro a hl
    refine wl (wl_val hl rfl trivial (r_move hl rfl) ?_)
    clear hl a; intro a hl
    refine wl (wl_val hl rfl trivial (r_nilCheck hl rfl) ?_)
    clear hl a; intro a hl
    refine wl (wl_val hl rfl trivial (r_field hl rfl fld87_2) ?_)
    clear hl a; intro a hl
    refine wl (wl_val hl rfl trivial (r_indexA hl rfl rfl arr85 (by omega) (by omega) (by first | (simp only [Int.reduceToNat]; rfl) | exact toNat_add1 _ | exact toNat_add2 _ _ | exact toNat_emod _ _ | exact Int.toNat_natCast _ | rfl)) ?_)
    clear hl a; intro a hl
    refine wl (w_load hl hh rfl trivial one34 rfl (by repeat (first | exact find_head | apply find_tail)) (by exact cell_lst _ _ (by omega)) ?_)
    clear hl a; intro a hl
    try simp (disch := omega) only [word_setGen, word_setNxt, word_setSz, word_setRole, word_setLst, word_setFresh, word_setBoot, word_setCnNil, word_setCnLive, word_setCnFree, word_setCnSpent, word_setCnUnt, word_paintTo, word_genTo, gen_setWord, gen_setNxt, gen_setSz, gen_setRole, gen_setLst, gen_setFresh, gen_setBoot, gen_setCnNil, gen_setCnLive, gen_setCnFree, gen_setCnSpent, gen_setCnUnt, gen_paintTo, nxt_setWord, nxt_setGen, nxt_setSz, nxt_setRole, nxt_setLst, nxt_setFresh, nxt_setBoot, nxt_setCnNil, nxt_setCnLive, nxt_setCnFree, nxt_setCnSpent, nxt_setCnUnt, nxt_paintTo, nxt_genTo, sz_setWord, sz_setGen, sz_setNxt, sz_setRole, sz_setLst, sz_setFresh, sz_setBoot, sz_setCnNil, sz_setCnLive, sz_setCnFree, sz_setCnSpent, sz_setCnUnt, sz_paintTo, sz_genTo, role_setWord, role_setGen, role_setNxt, role_setSz, role_setLst, role_setFresh, role_setBoot, role_setCnNil, role_setCnLive, role_setCnFree, role_setCnSpent, role_setCnUnt, role_genTo, lst_setWord, lst_setGen, lst_setNxt, lst_setSz, lst_setRole, lst_setFresh, lst_setBoot, lst_setCnNil, lst_setCnLive, lst_setCnFree, lst_setCnSpent, lst_setCnUnt, lst_paintTo, lst_genTo, fresh_setWord, fresh_setGen, fresh_setNxt, fresh_setSz, fresh_setRole, fresh_setLst, fresh_setBoot, fresh_setCnNil, fresh_setCnLive, fresh_setCnFree, fresh_setCnSpent, fresh_setCnUnt, fresh_setFresh, fresh_paintTo, fresh_genTo, boot_setWord, boot_setGen, boot_setNxt, boot_setSz, boot_setRole, boot_setLst, boot_setFresh, boot_setCnNil, boot_setCnLive, boot_setCnFree, boot_setCnSpent, boot_setCnUnt, boot_setBoot, boot_paintTo, boot_genTo, cnNil_setWord, cnNil_setGen, cnNil_setNxt, cnNil_setSz, cnNil_setRole, cnNil_setLst, cnNil_setFresh, cnNil_setBoot, cnNil_setCnLive, cnNil_setCnFree, cnNil_setCnSpent, cnNil_setCnUnt, cnNil_setCnNil, cnNil_paintTo, cnNil_genTo, cnLive_setWord, cnLive_setGen, cnLive_setNxt, cnLive_setSz, cnLive_setRole, cnLive_setLst, cnLive_setFresh, cnLive_setBoot, cnLive_setCnNil, cnLive_setCnFree, cnLive_setCnSpent, cnLive_setCnUnt, cnLive_setCnLive, cnLive_paintTo, cnLive_genTo, cnFree_setWord, cnFree_setGen, cnFree_setNxt, cnFree_setSz, cnFree_setRole, cnFree_setLst, cnFree_setFresh, cnFree_setBoot, cnFree_setCnNil, cnFree_setCnLive, cnFree_setCnSpent, cnFree_setCnUnt, cnFree_setCnFree, cnFree_paintTo, cnFree_genTo, cnSpent_setWord, cnSpent_setGen, cnSpent_setNxt, cnSpent_setSz, cnSpent_setRole, cnSpent_setLst, cnSpent_setFresh, cnSpent_setBoot, cnSpent_setCnNil, cnSpent_setCnLive, cnSpent_setCnFree, cnSpent_setCnUnt, cnSpent_setCnSpent, cnSpent_paintTo, cnSpent_genTo, cnUnt_setWord, cnUnt_setGen, cnUnt_setNxt, cnUnt_setSz, cnUnt_setRole, cnUnt_setLst, cnUnt_setFresh, cnUnt_setBoot, cnUnt_setCnNil, cnUnt_setCnLive, cnUnt_setCnFree, cnUnt_setCnSpent, cnUnt_setCnUnt, cnUnt_paintTo, cnUnt_genTo, word_popF, gen_popF, sz_popF, role_popF, fresh_popF, boot_popF, cnNil_popF, cnLive_popF, cnSpent_popF, cnUnt_popF, word_carveF, gen_carveF, nxt_carveF, role_carveF, lst_carveF, boot_carveF, cnNil_carveF, cnLive_carveF, cnFree_carveF, cnSpent_carveF] at hl
    try rw [hfin] at hl
    refine wl (wl_val hl rfl trivial (r_assign hl rfl) ?_)
    clear hl a; intro a hl
    refine w_nil ?_
    have hl2 := hl.add (t := 0) (hl.add (t := 6) (hl.add (t := 8) (hl.add (t := 9) (hl.nil) rfl) rfl) rfl) rfl; clear hl; have hl := hl2; clear hl2
    rw [hl0] at hl
    refine then_normal ?_
    refine c_seq ?_
    refine wp_block ?_
    refine c_seq ?_
    refine c_region ?_
    refine wl (wl_val hl rfl trivial (r_move hl rfl) ?_)
    clear hl a; intro a hl
    refine wl (wl_val hl rfl trivial (r_neq hl rfl rfl) ?_)
    clear hl a; intro a hl
    refine wl (wl_val hl rfl trivial (r_assign hl rfl) ?_)
    clear hl a; intro a hl
    refine w_nil ?_
    have hl2 := hl.add (t := 0) (hl.add (t := 6) (hl.add (t := 8) (hl.add (t := 9) (hl.add (t := 26) (hl.nil) rfl) rfl) rfl) rfl) rfl; clear hl; have hl := hl2; clear hl2
    refine then_normal ?_
    refine c_cond hl rfl ?_ ?_
    · intro hc1
      try simp only [decide_eq_true_eq, decide_eq_false_iff_not, Bool.not_eq_true', Bool.not_eq_false', Bool.not_eq_true, Bool.not_eq_false, Bool.and_eq_true, Bool.or_eq_true, Bool.and_eq_false_iff, Bool.or_eq_false_iff, Bool.not_not, ne_eq, Int.not_lt, Int.not_le, Decidable.not_not, beq_iff_eq, bne_iff_ne] at hc1
      refine c_seq ?_
      refine c_draw [(b, C (encL f) 87)] [11, 12] mixed hh ?_
      clear hh w; intro w hh
      have hM : Mem [(b, C (encL f) 87)] w := (by repeat (first | exact Mem.nil | refine Mem.cons hh.mem (by repeat (first | exact find_head | apply find_tail)) ?_ | refine Mem.consR hh (by assumption) (by simp) ?_))
      refine d_take (i := 0) hl rfl (by kernel_rfl) (by kernel_rfl) (by kernel_rfl) (by kernel_rfl) (by kernel_rfl) rfl trivial (fun _ _ _ h => h) hM (fun w hC => r_move hl rfl) rfl ?_
      clear hl a; intro a hl
      refine d_take (i := 1) hl rfl (by kernel_rfl) (by kernel_rfl) (by kernel_rfl) (by kernel_rfl) (by kernel_rfl) rfl trivial (fun _ _ _ h => h) hM (fun w hC => r_move hl rfl) rfl ?_
      clear hl a; intro a hl
      refine d_take (i := 2) hl rfl (by kernel_rfl) (by kernel_rfl) (by kernel_rfl) (by kernel_rfl) (by kernel_rfl) rfl trivial (fun _ _ _ h => h) hM (fun w hC => r_move hl rfl) rfl ?_
      clear hl a; intro a hl
      refine d_take (i := 3) hl rfl (by kernel_rfl) (by kernel_rfl) (by kernel_rfl) (by kernel_rfl) (by kernel_rfl) rfl trivial (fun _ _ _ h => h) hM (fun w hC => r_move hl rfl) rfl ?_
      clear hl a; intro a hl
      refine d_take (i := 4) hl rfl (by kernel_rfl) (by kernel_rfl) (by kernel_rfl) (by kernel_rfl) (by kernel_rfl) rfl trivial (fun _ _ _ h => h) hM (fun w hC => r_nilCheck hl rfl) rfl ?_
      clear hl a; intro a hl
      refine d_take (i := 5) hl rfl (by kernel_rfl) (by kernel_rfl) (by kernel_rfl) (by kernel_rfl) (by kernel_rfl) rfl trivial (fun _ _ _ h => h) hM (fun w hC => r_field hl rfl fld87_1) rfl ?_
      clear hl a; intro a hl
      refine d_take (i := 6) hl rfl (by kernel_rfl) (by kernel_rfl) (by kernel_rfl) (by kernel_rfl) (by kernel_rfl) rfl trivial (fun _ _ _ h => h) hM (fun w hC => r_indexA hl rfl rfl arr84 (by omega) (by omega) (by first | (simp only [Int.reduceToNat]; rfl) | exact toNat_add1 _ | exact toNat_add2 _ _ | exact toNat_emod _ _ | exact Int.toNat_natCast _ | rfl)) rfl ?_
      clear hl a; intro a hl
      refine d_take (i := 7) hl rfl (by kernel_rfl) (by kernel_rfl) (by kernel_rfl) (by kernel_rfl) (by kernel_rfl) rfl trivial (fun _ _ _ h => h) hM (fun w hC => r_field hl rfl fld83_1) rfl ?_
      clear hl a; intro a hl
      refine d_take (i := 8) hl rfl (by kernel_rfl) (by kernel_rfl) (by kernel_rfl) (by kernel_rfl) (by kernel_rfl) rfl trivial (fun _ _ _ h => h) hM (fun w hC => r_loadC hl rfl one34 hC (by repeat (first | exact find_head | apply find_tail)) (by exact cell_nxt _ _ (by omega))) rfl ?_
      clear hl a; intro a hl
      try simp (disch := omega) only [word_setGen, word_setNxt, word_setSz, word_setRole, word_setLst, word_setFresh, word_setBoot, word_setCnNil, word_setCnLive, word_setCnFree, word_setCnSpent, word_setCnUnt, word_paintTo, word_genTo, gen_setWord, gen_setNxt, gen_setSz, gen_setRole, gen_setLst, gen_setFresh, gen_setBoot, gen_setCnNil, gen_setCnLive, gen_setCnFree, gen_setCnSpent, gen_setCnUnt, gen_paintTo, nxt_setWord, nxt_setGen, nxt_setSz, nxt_setRole, nxt_setLst, nxt_setFresh, nxt_setBoot, nxt_setCnNil, nxt_setCnLive, nxt_setCnFree, nxt_setCnSpent, nxt_setCnUnt, nxt_paintTo, nxt_genTo, sz_setWord, sz_setGen, sz_setNxt, sz_setRole, sz_setLst, sz_setFresh, sz_setBoot, sz_setCnNil, sz_setCnLive, sz_setCnFree, sz_setCnSpent, sz_setCnUnt, sz_paintTo, sz_genTo, role_setWord, role_setGen, role_setNxt, role_setSz, role_setLst, role_setFresh, role_setBoot, role_setCnNil, role_setCnLive, role_setCnFree, role_setCnSpent, role_setCnUnt, role_genTo, lst_setWord, lst_setGen, lst_setNxt, lst_setSz, lst_setRole, lst_setFresh, lst_setBoot, lst_setCnNil, lst_setCnLive, lst_setCnFree, lst_setCnSpent, lst_setCnUnt, lst_paintTo, lst_genTo, fresh_setWord, fresh_setGen, fresh_setNxt, fresh_setSz, fresh_setRole, fresh_setLst, fresh_setBoot, fresh_setCnNil, fresh_setCnLive, fresh_setCnFree, fresh_setCnSpent, fresh_setCnUnt, fresh_setFresh, fresh_paintTo, fresh_genTo, boot_setWord, boot_setGen, boot_setNxt, boot_setSz, boot_setRole, boot_setLst, boot_setFresh, boot_setCnNil, boot_setCnLive, boot_setCnFree, boot_setCnSpent, boot_setCnUnt, boot_setBoot, boot_paintTo, boot_genTo, cnNil_setWord, cnNil_setGen, cnNil_setNxt, cnNil_setSz, cnNil_setRole, cnNil_setLst, cnNil_setFresh, cnNil_setBoot, cnNil_setCnLive, cnNil_setCnFree, cnNil_setCnSpent, cnNil_setCnUnt, cnNil_setCnNil, cnNil_paintTo, cnNil_genTo, cnLive_setWord, cnLive_setGen, cnLive_setNxt, cnLive_setSz, cnLive_setRole, cnLive_setLst, cnLive_setFresh, cnLive_setBoot, cnLive_setCnNil, cnLive_setCnFree, cnLive_setCnSpent, cnLive_setCnUnt, cnLive_setCnLive, cnLive_paintTo, cnLive_genTo, cnFree_setWord, cnFree_setGen, cnFree_setNxt, cnFree_setSz, cnFree_setRole, cnFree_setLst, cnFree_setFresh, cnFree_setBoot, cnFree_setCnNil, cnFree_setCnLive, cnFree_setCnSpent, cnFree_setCnUnt, cnFree_setCnFree, cnFree_paintTo, cnFree_genTo, cnSpent_setWord, cnSpent_setGen, cnSpent_setNxt, cnSpent_setSz, cnSpent_setRole, cnSpent_setLst, cnSpent_setFresh, cnSpent_setBoot, cnSpent_setCnNil, cnSpent_setCnLive, cnSpent_setCnFree, cnSpent_setCnUnt, cnSpent_setCnSpent, cnSpent_paintTo, cnSpent_genTo, cnUnt_setWord, cnUnt_setGen, cnUnt_setNxt, cnUnt_setSz, cnUnt_setRole, cnUnt_setLst, cnUnt_setFresh, cnUnt_setBoot, cnUnt_setCnNil, cnUnt_setCnLive, cnUnt_setCnFree, cnUnt_setCnSpent, cnUnt_setCnUnt, cnUnt_paintTo, cnUnt_genTo, word_popF, gen_popF, sz_popF, role_popF, fresh_popF, boot_popF, cnNil_popF, cnLive_popF, cnSpent_popF, cnUnt_popF, word_carveF, gen_carveF, nxt_carveF, role_carveF, lst_carveF, boot_carveF, cnNil_carveF, cnLive_carveF, cnFree_carveF, cnSpent_carveF] at hl
      try rw [hfin] at hl
      refine d_take (i := 9) hl rfl (by kernel_rfl) (by kernel_rfl) (by kernel_rfl) (by kernel_rfl) (by kernel_rfl) rfl trivial (fun _ _ _ h => h) hM (fun w hC => r_nilCheck hl rfl) rfl ?_
      clear hl a; intro a hl
      refine d_take (i := 10) hl rfl (by kernel_rfl) (by kernel_rfl) (by kernel_rfl) (by kernel_rfl) (by kernel_rfl) rfl trivial (fun _ _ _ h => h) hM (fun w hC => r_field hl rfl fld87_2) rfl ?_
      clear hl a; intro a hl
      refine d_takeL (i := 11) hl rfl (by kernel_rfl) (by kernel_rfl) (by kernel_rfl) (by kernel_rfl) (by kernel_rfl) rfl trivial (fun _ _ _ h => h) (fun w => r_indexA hl rfl rfl arr85 (by omega) (by omega) (by first | (simp only [Int.reduceToNat]; rfl) | exact toNat_add1 _ | exact toNat_add2 _ _ | exact toNat_emod _ _ | exact Int.toNat_natCast _ | rfl)) rfl ?_
      clear hl a; intro a hl
      refine d_one (i := 12) (by kernel_rfl) rfl ?_
      try clear hM
      refine id (w_store hl hh trivial one34 rfl rfl (by repeat (first | exact find_head | apply find_tail)) (by rw [encL_length]; omega) (by first | rfl | (apply Row.one; assumption)) (by exact st_lst _ _ _ (by omega)) ?_)
      clear hh w; intro w hh
      refine d_step (fun h => absurd h (by decide)) ?_
      refine d_done (by kernel_rfl) ?_
      try clear hM
      have hl2 := hl.add (t := 0) (hl.add (t := 6) (hl.add (t := 9) (hl.nil) rfl) rfl) rfl; clear hl; have hl := hl2; clear hl2
      refine then_normal ?_
      refine c_seq ?_
      refine c_region ?_
      refine wl (wl_val hl rfl trivial (r_move hl rfl) ?_)
      clear hl a; intro a hl
      refine wl (wl_val hl rfl trivial (r_move hl rfl) ?_)
      clear hl a; intro a hl
      refine wl (wl_val hl rfl trivial (r_nilCheck hl rfl) ?_)
      clear hl a; intro a hl
      refine wl (wl_val hl rfl trivial (r_field hl rfl fld87_1) ?_)
      clear hl a; intro a hl
      refine wl (wl_val hl rfl trivial (r_indexA hl rfl rfl arr84 (by omega) (by omega) (by first | (simp only [Int.reduceToNat]; rfl) | exact toNat_add1 _ | exact toNat_add2 _ _ | exact toNat_emod _ _ | exact Int.toNat_natCast _ | rfl)) ?_)
      clear hl a; intro a hl
      refine wl (wl_val hl rfl trivial (r_field hl rfl fld83_1) ?_)
      clear hl a; intro a hl
      refine wl (w_store hl hh trivial one34 rfl rfl (by repeat (first | exact find_head | apply find_tail)) (by rw [encL_length]; omega) (by first | rfl | (apply Row.one; assumption)) (by exact st_nxt _ _ _ (by omega)) ?_)
      clear hh w; intro w hh
      refine w_nil ?_
      have hl2 := hl.add (t := 0) (hl.add (t := 6) (hl.add (t := 9) (hl.nil) rfl) rfl) rfl; clear hl; have hl := hl2; clear hl2
      refine then_normal ?_
      refine c_region ?_
      refine wl (wl_val hl rfl trivial (r_move hl rfl) ?_)
      clear hl a; intro a hl
      refine wl (wl_val hl rfl trivial (r_nilCheck hl rfl) ?_)
      clear hl a; intro a hl
      refine wl (wl_val hl rfl trivial (r_field hl rfl fld87_5) ?_)
      clear hl a; intro a hl
      refine wl (wl_val hl rfl trivial (r_field hl rfl fld47_2) ?_)
      clear hl a; intro a hl
      refine wl (w_load hl hh rfl trivial one3 rfl (by repeat (first | exact find_head | apply find_tail)) (by exact cell_cnFree _) ?_)
      clear hl a; intro a hl
      try simp (disch := omega) only [word_setGen, word_setNxt, word_setSz, word_setRole, word_setLst, word_setFresh, word_setBoot, word_setCnNil, word_setCnLive, word_setCnFree, word_setCnSpent, word_setCnUnt, word_paintTo, word_genTo, gen_setWord, gen_setNxt, gen_setSz, gen_setRole, gen_setLst, gen_setFresh, gen_setBoot, gen_setCnNil, gen_setCnLive, gen_setCnFree, gen_setCnSpent, gen_setCnUnt, gen_paintTo, nxt_setWord, nxt_setGen, nxt_setSz, nxt_setRole, nxt_setLst, nxt_setFresh, nxt_setBoot, nxt_setCnNil, nxt_setCnLive, nxt_setCnFree, nxt_setCnSpent, nxt_setCnUnt, nxt_paintTo, nxt_genTo, sz_setWord, sz_setGen, sz_setNxt, sz_setRole, sz_setLst, sz_setFresh, sz_setBoot, sz_setCnNil, sz_setCnLive, sz_setCnFree, sz_setCnSpent, sz_setCnUnt, sz_paintTo, sz_genTo, role_setWord, role_setGen, role_setNxt, role_setSz, role_setLst, role_setFresh, role_setBoot, role_setCnNil, role_setCnLive, role_setCnFree, role_setCnSpent, role_setCnUnt, role_genTo, lst_setWord, lst_setGen, lst_setNxt, lst_setSz, lst_setRole, lst_setFresh, lst_setBoot, lst_setCnNil, lst_setCnLive, lst_setCnFree, lst_setCnSpent, lst_setCnUnt, lst_paintTo, lst_genTo, fresh_setWord, fresh_setGen, fresh_setNxt, fresh_setSz, fresh_setRole, fresh_setLst, fresh_setBoot, fresh_setCnNil, fresh_setCnLive, fresh_setCnFree, fresh_setCnSpent, fresh_setCnUnt, fresh_setFresh, fresh_paintTo, fresh_genTo, boot_setWord, boot_setGen, boot_setNxt, boot_setSz, boot_setRole, boot_setLst, boot_setFresh, boot_setCnNil, boot_setCnLive, boot_setCnFree, boot_setCnSpent, boot_setCnUnt, boot_setBoot, boot_paintTo, boot_genTo, cnNil_setWord, cnNil_setGen, cnNil_setNxt, cnNil_setSz, cnNil_setRole, cnNil_setLst, cnNil_setFresh, cnNil_setBoot, cnNil_setCnLive, cnNil_setCnFree, cnNil_setCnSpent, cnNil_setCnUnt, cnNil_setCnNil, cnNil_paintTo, cnNil_genTo, cnLive_setWord, cnLive_setGen, cnLive_setNxt, cnLive_setSz, cnLive_setRole, cnLive_setLst, cnLive_setFresh, cnLive_setBoot, cnLive_setCnNil, cnLive_setCnFree, cnLive_setCnSpent, cnLive_setCnUnt, cnLive_setCnLive, cnLive_paintTo, cnLive_genTo, cnFree_setWord, cnFree_setGen, cnFree_setNxt, cnFree_setSz, cnFree_setRole, cnFree_setLst, cnFree_setFresh, cnFree_setBoot, cnFree_setCnNil, cnFree_setCnLive, cnFree_setCnSpent, cnFree_setCnUnt, cnFree_setCnFree, cnFree_paintTo, cnFree_genTo, cnSpent_setWord, cnSpent_setGen, cnSpent_setNxt, cnSpent_setSz, cnSpent_setRole, cnSpent_setLst, cnSpent_setFresh, cnSpent_setBoot, cnSpent_setCnNil, cnSpent_setCnLive, cnSpent_setCnFree, cnSpent_setCnUnt, cnSpent_setCnSpent, cnSpent_paintTo, cnSpent_genTo, cnUnt_setWord, cnUnt_setGen, cnUnt_setNxt, cnUnt_setSz, cnUnt_setRole, cnUnt_setLst, cnUnt_setFresh, cnUnt_setBoot, cnUnt_setCnNil, cnUnt_setCnLive, cnUnt_setCnFree, cnUnt_setCnSpent, cnUnt_setCnUnt, cnUnt_paintTo, cnUnt_genTo, word_popF, gen_popF, sz_popF, role_popF, fresh_popF, boot_popF, cnNil_popF, cnLive_popF, cnSpent_popF, cnUnt_popF, word_carveF, gen_carveF, nxt_carveF, role_carveF, lst_carveF, boot_carveF, cnNil_carveF, cnLive_carveF, cnFree_carveF, cnSpent_carveF] at hl
      try rw [hfin] at hl
      refine wl (wl_val hl rfl trivial (r_move hl rfl) ?_)
      clear hl a; intro a hl
      first | refine wl (wl_val hl rfl trivial (r_sub hl rfl rfl (by simp only [Fits]; omega)) ?_) | refine wl (wl_val hl rfl trivial (r_subW hl rfl rfl) ?_)
      clear hl a; intro a hl
      refine wl (wl_val hl rfl trivial (r_nilCheck hl rfl) ?_)
      clear hl a; intro a hl
      refine wl (wl_val hl rfl trivial (r_field hl rfl fld87_5) ?_)
      clear hl a; intro a hl
      refine wl (wl_val hl rfl trivial (r_field hl rfl fld47_2) ?_)
      clear hl a; intro a hl
      refine wl (w_store hl hh trivial one3 rfl rfl (by repeat (first | exact find_head | apply find_tail)) (by rw [encL_length]; omega) (by first | rfl | (apply Row.one; assumption)) (by exact st_cnFree _ _) ?_)
      clear hh w; intro w hh
      refine w_nil ?_
      have hl2 := hl.add (t := 0) (hl.add (t := 6) (hl.add (t := 9) (hl.nil) rfl) rfl) rfl; clear hl; have hl := hl2; clear hl2
      refine blk_normal ?_
      refine then_normal ?_
      refine c_seq ?_
      refine c_seq ?_
      refine c_region ?_
      refine wl (wl_val hl rfl trivial (r_assign hl rfl) ?_)
      clear hl a; intro a hl
      refine w_nil ?_
      have hl2 := hl.add (t := 0) (hl.add (t := 6) (hl.add (t := 9) (hl.add (t := 10) (hl.nil) rfl) rfl) rfl) rfl; clear hl; have hl := hl2; clear hl2
      refine then_normal ?_
      refine wp_block ?_
      obtain ⟨KS0, hKS0, hk⟩ := (hl.add (t := 0) (hl.add (t := 6) (hl.add (t := 9) (hl.nil) rfl) rfl) rfl).name
      obtain ⟨HS0, hHS0, hh2⟩ := hh.name (keeps_cons (b := b) (o' := C (encL (genTo (popF f x s) x 0)) 87) (by repeat (first | exact find_head | apply find_tail)) (by first | exact congrArg (fun q => C (encL q) 87) (genTo_zero _ _).symm | rfl) (keeps_nil))
      refine c_loop (α := Nat) (fun i => s - i) (fun i a w => (i ≤ s) ∧ Sl 147 ([(10, .int .i64 i)] ++ KS0) a ∧ Has _ w0 ([(b, C (encL (genTo (popF f x s) x i)) 87)] ++ HS0) w) 0 ⟨Nat.zero_le _, hl.addE (t := 10) (hk) rfl (by first | rfl), hh2⟩ ?_
      clear hk hh2 hl hh a w
      intro i a w hI
      obtain ⟨hi, hl, hh⟩ := hI
      subst hKS0; subst hHS0
      simp only [List.cons_append, List.nil_append] at hl hh
      refine c_seq ?_
      refine c_seq ?_
      refine c_region ?_
      refine wl (wl_val hl rfl trivial (r_move hl rfl) ?_)
      clear hl a; intro a hl
      refine wl (wl_val hl rfl trivial (r_move hl rfl) ?_)
      clear hl a; intro a hl
      refine wl (wl_val hl rfl trivial (r_lss hl rfl rfl) ?_)
      clear hl a; intro a hl
      refine w_nil ?_
      have hl2 := hl.add (t := 0) (hl.add (t := 6) (hl.add (t := 9) (hl.add (t := 10) (hl.add (t := 106) (hl.nil) rfl) rfl) rfl) rfl) rfl; clear hl; have hl := hl2; clear hl2
      refine then_normal ?_
      refine c_cond hl rfl ?_ ?_
      · intro hc3
        try simp only [decide_eq_true_eq, decide_eq_false_iff_not, Bool.not_eq_true', Bool.not_eq_false', Bool.not_eq_true, Bool.not_eq_false, Bool.and_eq_true, Bool.or_eq_true, Bool.and_eq_false_iff, Bool.or_eq_false_iff, Bool.not_not, ne_eq, Int.not_lt, Int.not_le, Decidable.not_not, beq_iff_eq, bne_iff_ne] at hc3
        have hgi : gen (genTo (popF f x s) x i) (x + i) = gen f (x + i) := by rw [gen_genTo _ _ _ _ (by omega), if_neg (by omega), gen_popF _ _ _ _ (by omega) (by omega) (by omega)]
        have hgb := hgen (x + i) (by omega) (by omega)
        refine wp_skip ?_
        refine then_normal ?_
        refine c_seq ?_
        refine wp_block ?_
        refine c_draw [(b, C (encL (genTo (popF f x s) x i)) 87)] [13, 14, 15] mixed hh ?_
        clear hh w; intro w hh
        have hM : Mem [(b, C (encL (genTo (popF f x s) x i)) 87)] w := (by repeat (first | exact Mem.nil | refine Mem.cons hh.mem (by repeat (first | exact find_head | apply find_tail)) ?_ | refine Mem.consR hh (by assumption) (by simp) ?_))
        refine d_take (i := 0) hl rfl (by kernel_rfl) (by kernel_rfl) (by kernel_rfl) (by kernel_rfl) (by kernel_rfl) rfl trivial (fun _ _ _ h => h) hM (fun w hC => r_move hl rfl) rfl ?_
        clear hl a; intro a hl
        refine d_take (i := 1) hl rfl (by kernel_rfl) (by kernel_rfl) (by kernel_rfl) (by kernel_rfl) (by kernel_rfl) rfl trivial (fun _ _ _ h => h) hM (fun w hC => r_move hl rfl) rfl ?_
        clear hl a; intro a hl
        refine d_take (i := 2) hl rfl (by kernel_rfl) (by kernel_rfl) (by kernel_rfl) (by kernel_rfl) (by kernel_rfl) rfl trivial (fun _ _ _ h => h) hM (fun w hC => r_move hl rfl) rfl ?_
        clear hl a; intro a hl
        first | refine d_take (i := 3) hl rfl (by kernel_rfl) (by kernel_rfl) (by kernel_rfl) (by kernel_rfl) (by kernel_rfl) rfl trivial (fun _ _ _ h => h) hM (fun w hC => r_conv hl rfl Try.underlying3 Try.underlying34 (by simp only [Fits]; omega)) rfl ?_ | refine d_take (i := 3) hl rfl (by kernel_rfl) (by kernel_rfl) (by kernel_rfl) (by kernel_rfl) (by kernel_rfl) rfl trivial (fun _ _ _ h => h) hM (fun w hC => r_convW hl rfl Try.underlying3 Try.underlying34) rfl ?_
        clear hl a; intro a hl
        first | refine d_take (i := 4) hl rfl (by kernel_rfl) (by kernel_rfl) (by kernel_rfl) (by kernel_rfl) (by kernel_rfl) rfl trivial (fun _ _ _ h => h) hM (fun w hC => r_add hl rfl rfl (by simp only [Fits]; omega)) rfl ?_ | refine d_take (i := 4) hl rfl (by kernel_rfl) (by kernel_rfl) (by kernel_rfl) (by kernel_rfl) (by kernel_rfl) rfl trivial (fun _ _ _ h => h) hM (fun w hC => r_addW hl rfl rfl) rfl ?_
        clear hl a; intro a hl
        refine d_take (i := 5) hl rfl (by kernel_rfl) (by kernel_rfl) (by kernel_rfl) (by kernel_rfl) (by kernel_rfl) rfl trivial (fun _ _ _ h => h) hM (fun w hC => r_nilCheck hl rfl) rfl ?_
        clear hl a; intro a hl
        refine d_take (i := 6) hl rfl (by kernel_rfl) (by kernel_rfl) (by kernel_rfl) (by kernel_rfl) (by kernel_rfl) rfl trivial (fun _ _ _ h => h) hM (fun w hC => r_field hl rfl fld87_1) rfl ?_
        clear hl a; intro a hl
        refine d_take (i := 7) hl rfl (by kernel_rfl) (by kernel_rfl) (by kernel_rfl) (by kernel_rfl) (by kernel_rfl) rfl trivial (fun _ _ _ h => h) hM (fun w hC => r_indexA hl rfl rfl arr84 (by omega) (by omega) (by first | (simp only [Int.reduceToNat]; rfl) | exact toNat_add1 _ | exact toNat_add2 _ _ | exact toNat_emod _ _ | exact Int.toNat_natCast _ | rfl)) rfl ?_
        clear hl a; intro a hl
        refine d_take (i := 8) hl rfl (by kernel_rfl) (by kernel_rfl) (by kernel_rfl) (by kernel_rfl) (by kernel_rfl) rfl trivial (fun _ _ _ h => h) hM (fun w hC => r_field hl rfl fld83_0) rfl ?_
        clear hl a; intro a hl
        refine d_take (i := 9) hl rfl (by kernel_rfl) (by kernel_rfl) (by kernel_rfl) (by kernel_rfl) (by kernel_rfl) rfl trivial (fun _ _ _ h => h) hM (fun w hC => r_loadC hl rfl one27 hC (by repeat (first | exact find_head | apply find_tail)) (by exact cell_gen _ _ (by omega))) rfl ?_
        clear hl a; intro a hl
        try simp (disch := omega) only [word_setGen, word_setNxt, word_setSz, word_setRole, word_setLst, word_setFresh, word_setBoot, word_setCnNil, word_setCnLive, word_setCnFree, word_setCnSpent, word_setCnUnt, word_paintTo, word_genTo, gen_setWord, gen_setNxt, gen_setSz, gen_setRole, gen_setLst, gen_setFresh, gen_setBoot, gen_setCnNil, gen_setCnLive, gen_setCnFree, gen_setCnSpent, gen_setCnUnt, gen_paintTo, nxt_setWord, nxt_setGen, nxt_setSz, nxt_setRole, nxt_setLst, nxt_setFresh, nxt_setBoot, nxt_setCnNil, nxt_setCnLive, nxt_setCnFree, nxt_setCnSpent, nxt_setCnUnt, nxt_paintTo, nxt_genTo, sz_setWord, sz_setGen, sz_setNxt, sz_setRole, sz_setLst, sz_setFresh, sz_setBoot, sz_setCnNil, sz_setCnLive, sz_setCnFree, sz_setCnSpent, sz_setCnUnt, sz_paintTo, sz_genTo, role_setWord, role_setGen, role_setNxt, role_setSz, role_setLst, role_setFresh, role_setBoot, role_setCnNil, role_setCnLive, role_setCnFree, role_setCnSpent, role_setCnUnt, role_genTo, lst_setWord, lst_setGen, lst_setNxt, lst_setSz, lst_setRole, lst_setFresh, lst_setBoot, lst_setCnNil, lst_setCnLive, lst_setCnFree, lst_setCnSpent, lst_setCnUnt, lst_paintTo, lst_genTo, fresh_setWord, fresh_setGen, fresh_setNxt, fresh_setSz, fresh_setRole, fresh_setLst, fresh_setBoot, fresh_setCnNil, fresh_setCnLive, fresh_setCnFree, fresh_setCnSpent, fresh_setCnUnt, fresh_setFresh, fresh_paintTo, fresh_genTo, boot_setWord, boot_setGen, boot_setNxt, boot_setSz, boot_setRole, boot_setLst, boot_setFresh, boot_setCnNil, boot_setCnLive, boot_setCnFree, boot_setCnSpent, boot_setCnUnt, boot_setBoot, boot_paintTo, boot_genTo, cnNil_setWord, cnNil_setGen, cnNil_setNxt, cnNil_setSz, cnNil_setRole, cnNil_setLst, cnNil_setFresh, cnNil_setBoot, cnNil_setCnLive, cnNil_setCnFree, cnNil_setCnSpent, cnNil_setCnUnt, cnNil_setCnNil, cnNil_paintTo, cnNil_genTo, cnLive_setWord, cnLive_setGen, cnLive_setNxt, cnLive_setSz, cnLive_setRole, cnLive_setLst, cnLive_setFresh, cnLive_setBoot, cnLive_setCnNil, cnLive_setCnFree, cnLive_setCnSpent, cnLive_setCnUnt, cnLive_setCnLive, cnLive_paintTo, cnLive_genTo, cnFree_setWord, cnFree_setGen, cnFree_setNxt, cnFree_setSz, cnFree_setRole, cnFree_setLst, cnFree_setFresh, cnFree_setBoot, cnFree_setCnNil, cnFree_setCnLive, cnFree_setCnSpent, cnFree_setCnUnt, cnFree_setCnFree, cnFree_paintTo, cnFree_genTo, cnSpent_setWord, cnSpent_setGen, cnSpent_setNxt, cnSpent_setSz, cnSpent_setRole, cnSpent_setLst, cnSpent_setFresh, cnSpent_setBoot, cnSpent_setCnNil, cnSpent_setCnLive, cnSpent_setCnFree, cnSpent_setCnUnt, cnSpent_setCnSpent, cnSpent_paintTo, cnSpent_genTo, cnUnt_setWord, cnUnt_setGen, cnUnt_setNxt, cnUnt_setSz, cnUnt_setRole, cnUnt_setLst, cnUnt_setFresh, cnUnt_setBoot, cnUnt_setCnNil, cnUnt_setCnLive, cnUnt_setCnFree, cnUnt_setCnSpent, cnUnt_setCnUnt, cnUnt_paintTo, cnUnt_genTo, word_popF, gen_popF, sz_popF, role_popF, fresh_popF, boot_popF, cnNil_popF, cnLive_popF, cnSpent_popF, cnUnt_popF, word_carveF, gen_carveF, nxt_carveF, role_carveF, lst_carveF, boot_carveF, cnNil_carveF, cnLive_carveF, cnFree_carveF, cnSpent_carveF] at hl
        try rw [hfin] at hl
        first | refine d_take (i := 10) hl rfl (by kernel_rfl) (by kernel_rfl) (by kernel_rfl) (by kernel_rfl) (by kernel_rfl) rfl trivial (fun _ _ _ h => h) hM (fun w hC => r_add hl rfl rfl (by simp only [Fits]; omega)) rfl ?_ | refine d_take (i := 10) hl rfl (by kernel_rfl) (by kernel_rfl) (by kernel_rfl) (by kernel_rfl) (by kernel_rfl) rfl trivial (fun _ _ _ h => h) hM (fun w hC => r_addW hl rfl rfl) rfl ?_
        clear hl a; intro a hl
        refine d_take (i := 11) hl rfl (by kernel_rfl) (by kernel_rfl) (by kernel_rfl) (by kernel_rfl) (by kernel_rfl) rfl trivial (fun _ _ _ h => h) hM (fun w hC => r_nilCheck hl rfl) rfl ?_
        clear hl a; intro a hl
        refine d_take (i := 12) hl rfl (by kernel_rfl) (by kernel_rfl) (by kernel_rfl) (by kernel_rfl) (by kernel_rfl) rfl trivial (fun _ _ _ h => h) hM (fun w hC => r_field hl rfl fld87_1) rfl ?_
        clear hl a; intro a hl
        refine d_takeL (i := 13) hl rfl (by kernel_rfl) (by kernel_rfl) (by kernel_rfl) (by kernel_rfl) (by kernel_rfl) rfl trivial (fun _ _ _ h => h) (fun w => r_indexA hl rfl rfl arr84 (by omega) (by omega) (by first | (simp only [Int.reduceToNat]; rfl) | exact toNat_add1 _ | exact toNat_add2 _ _ | exact toNat_emod _ _ | exact Int.toNat_natCast _ | rfl)) rfl ?_
        clear hl a; intro a hl
        refine d_takeL (i := 14) hl rfl (by kernel_rfl) (by kernel_rfl) (by kernel_rfl) (by kernel_rfl) (by kernel_rfl) rfl trivial (fun _ _ _ h => h) (fun w => r_field hl rfl fld83_0) rfl ?_
        clear hl a; intro a hl
        refine d_one (i := 15) (by kernel_rfl) rfl ?_
        try clear hM
        refine id (w_store hl hh trivial one27 rfl rfl (by repeat (first | exact find_head | apply find_tail)) (by rw [encL_length]; omega) (by first | rfl | (apply Row.one; assumption)) (by exact st_gen _ _ _ (by omega)) ?_)
        clear hh w; intro w hh
        refine d_step (fun h => absurd h (by decide)) ?_
        refine d_done (by kernel_rfl) ?_
        try clear hM
        have hl2 := hl.add (t := 0) (hl.add (t := 6) (hl.add (t := 9) (hl.add (t := 10) (hl.nil) rfl) rfl) rfl) rfl; clear hl; have hl := hl2; clear hl2
        refine blk_normal ?_
        refine then_normal ?_
        refine c_region ?_
        refine wl (wl_val hl rfl trivial (r_move hl rfl) ?_)
        clear hl a; intro a hl
        first | refine wl (wl_val hl rfl trivial (r_add hl rfl rfl (by simp only [Fits]; omega)) ?_) | refine wl (wl_val hl rfl trivial (r_addW hl rfl rfl) ?_)
        clear hl a; intro a hl
        refine wl (wl_val hl rfl trivial (r_assign hl rfl) ?_)
        clear hl a; intro a hl
        refine w_nil ?_
        have hl2 := hl.add (t := 0) (hl.add (t := 6) (hl.add (t := 9) (hl.add (t := 10) (hl.nil) rfl) rfl) rfl) rfl; clear hl; have hl := hl2; clear hl2
        refine then_normal ?_
        refine ⟨i + 1, (by omega), by omega, hl.addE (t := 10) (hl.addE (t := 0) (hl.addE (t := 6) (hl.addE (t := 9) (hl.nil) rfl (by first | rfl | (congr 1; omega))) rfl (by first | rfl | (congr 1; omega))) rfl (by first | rfl | (congr 1; omega))) rfl (by first | rfl | (congr 1; omega)), hh.keep (by repeat (first | exact keeps_nil | apply keeps_cons (by repeat (first | exact find_head | apply find_tail)) (by first  | exact congrArg (fun q => C (encL q) 87) (genTo_succ _ x i (by omega)) | rfl) | exact keeps_self | apply keeps_mv))⟩
      · intro hc3
        try simp only [decide_eq_true_eq, decide_eq_false_iff_not, Bool.not_eq_true', Bool.not_eq_false', Bool.not_eq_true, Bool.not_eq_false, Bool.and_eq_true, Bool.or_eq_true, Bool.and_eq_false_iff, Bool.or_eq_false_iff, Bool.not_not, ne_eq, Int.not_lt, Int.not_le, Decidable.not_not, beq_iff_eq, bne_iff_ne] at hc3
        have his : s = i := by omega
        subst his
        refine wp_exit ?_
        refine then_exit ?_
        refine then_exit ?_
        refine blk_exit ?_
        refine then_normal ?_
        refine c_seq ?_
        refine c_region ?_
        refine wl (wl_val hl rfl trivial (r_move hl rfl) ?_)
        clear hl a; intro a hl
        refine wl (wl_val hl rfl trivial (r_move hl rfl) ?_)
        clear hl a; intro a hl
        refine wl (wl_val hl rfl trivial (r_move hl rfl) ?_)
        clear hl a; intro a hl
        refine wl (w_call hl hh rfl trivial rfl cal43 rfl (paint_spec _ _ _ _ _ _ (by omega) (by omega)) (by repeat (first | exact keeps_nil | apply keeps_cons (by repeat (first | exact find_head | apply find_tail)) (by first  | rfl) | exact keeps_self | apply keeps_mv)) trivial ?_)
        clear hl hh a w; intro vc Fc a w hR hl hh
        obtain ⟨rfl, rfl⟩ := hR
        simp only [List.cons_append, List.nil_append] at hh
        refine w_nil ?_
        have hl2 := hl.add (t := 0) (hl.add (t := 6) (hl.add (t := 9) (hl.nil) rfl) rfl) rfl; clear hl; have hl := hl2; clear hl2
        refine then_normal ?_
        refine c_seq ?_
        refine c_region ?_
        refine wl (wl_val hl rfl trivial (r_move hl rfl) ?_)
        clear hl a; intro a hl
        refine wl (wl_val hl rfl trivial (r_nilCheck hl rfl) ?_)
        clear hl a; intro a hl
        refine wl (wl_val hl rfl trivial (r_field hl rfl fld87_5) ?_)
        clear hl a; intro a hl
        refine wl (wl_val hl rfl trivial (r_field hl rfl fld47_1) ?_)
        clear hl a; intro a hl
        refine wl (w_load hl hh rfl trivial one3 rfl (by repeat (first | exact find_head | apply find_tail)) (by exact cell_cnLive _) ?_)
        clear hl a; intro a hl
        try simp (disch := omega) only [word_setGen, word_setNxt, word_setSz, word_setRole, word_setLst, word_setFresh, word_setBoot, word_setCnNil, word_setCnLive, word_setCnFree, word_setCnSpent, word_setCnUnt, word_paintTo, word_genTo, gen_setWord, gen_setNxt, gen_setSz, gen_setRole, gen_setLst, gen_setFresh, gen_setBoot, gen_setCnNil, gen_setCnLive, gen_setCnFree, gen_setCnSpent, gen_setCnUnt, gen_paintTo, nxt_setWord, nxt_setGen, nxt_setSz, nxt_setRole, nxt_setLst, nxt_setFresh, nxt_setBoot, nxt_setCnNil, nxt_setCnLive, nxt_setCnFree, nxt_setCnSpent, nxt_setCnUnt, nxt_paintTo, nxt_genTo, sz_setWord, sz_setGen, sz_setNxt, sz_setRole, sz_setLst, sz_setFresh, sz_setBoot, sz_setCnNil, sz_setCnLive, sz_setCnFree, sz_setCnSpent, sz_setCnUnt, sz_paintTo, sz_genTo, role_setWord, role_setGen, role_setNxt, role_setSz, role_setLst, role_setFresh, role_setBoot, role_setCnNil, role_setCnLive, role_setCnFree, role_setCnSpent, role_setCnUnt, role_genTo, lst_setWord, lst_setGen, lst_setNxt, lst_setSz, lst_setRole, lst_setFresh, lst_setBoot, lst_setCnNil, lst_setCnLive, lst_setCnFree, lst_setCnSpent, lst_setCnUnt, lst_paintTo, lst_genTo, fresh_setWord, fresh_setGen, fresh_setNxt, fresh_setSz, fresh_setRole, fresh_setLst, fresh_setBoot, fresh_setCnNil, fresh_setCnLive, fresh_setCnFree, fresh_setCnSpent, fresh_setCnUnt, fresh_setFresh, fresh_paintTo, fresh_genTo, boot_setWord, boot_setGen, boot_setNxt, boot_setSz, boot_setRole, boot_setLst, boot_setFresh, boot_setCnNil, boot_setCnLive, boot_setCnFree, boot_setCnSpent, boot_setCnUnt, boot_setBoot, boot_paintTo, boot_genTo, cnNil_setWord, cnNil_setGen, cnNil_setNxt, cnNil_setSz, cnNil_setRole, cnNil_setLst, cnNil_setFresh, cnNil_setBoot, cnNil_setCnLive, cnNil_setCnFree, cnNil_setCnSpent, cnNil_setCnUnt, cnNil_setCnNil, cnNil_paintTo, cnNil_genTo, cnLive_setWord, cnLive_setGen, cnLive_setNxt, cnLive_setSz, cnLive_setRole, cnLive_setLst, cnLive_setFresh, cnLive_setBoot, cnLive_setCnNil, cnLive_setCnFree, cnLive_setCnSpent, cnLive_setCnUnt, cnLive_setCnLive, cnLive_paintTo, cnLive_genTo, cnFree_setWord, cnFree_setGen, cnFree_setNxt, cnFree_setSz, cnFree_setRole, cnFree_setLst, cnFree_setFresh, cnFree_setBoot, cnFree_setCnNil, cnFree_setCnLive, cnFree_setCnSpent, cnFree_setCnUnt, cnFree_setCnFree, cnFree_paintTo, cnFree_genTo, cnSpent_setWord, cnSpent_setGen, cnSpent_setNxt, cnSpent_setSz, cnSpent_setRole, cnSpent_setLst, cnSpent_setFresh, cnSpent_setBoot, cnSpent_setCnNil, cnSpent_setCnLive, cnSpent_setCnFree, cnSpent_setCnUnt, cnSpent_setCnSpent, cnSpent_paintTo, cnSpent_genTo, cnUnt_setWord, cnUnt_setGen, cnUnt_setNxt, cnUnt_setSz, cnUnt_setRole, cnUnt_setLst, cnUnt_setFresh, cnUnt_setBoot, cnUnt_setCnNil, cnUnt_setCnLive, cnUnt_setCnFree, cnUnt_setCnSpent, cnUnt_setCnUnt, cnUnt_paintTo, cnUnt_genTo, word_popF, gen_popF, sz_popF, role_popF, fresh_popF, boot_popF, cnNil_popF, cnLive_popF, cnSpent_popF, cnUnt_popF, word_carveF, gen_carveF, nxt_carveF, role_carveF, lst_carveF, boot_carveF, cnNil_carveF, cnLive_carveF, cnFree_carveF, cnSpent_carveF] at hl
        try rw [hfin] at hl
        refine wl (wl_val hl rfl trivial (r_move hl rfl) ?_)
        clear hl a; intro a hl
        first | refine wl (wl_val hl rfl trivial (r_add hl rfl rfl (by simp only [Fits]; omega)) ?_) | refine wl (wl_val hl rfl trivial (r_addW hl rfl rfl) ?_)
        clear hl a; intro a hl
        refine wl (wl_val hl rfl trivial (r_nilCheck hl rfl) ?_)
        clear hl a; intro a hl
        refine wl (wl_val hl rfl trivial (r_field hl rfl fld87_5) ?_)
        clear hl a; intro a hl
        refine wl (wl_val hl rfl trivial (r_field hl rfl fld47_1) ?_)
        clear hl a; intro a hl
        refine wl (w_store hl hh trivial one3 rfl rfl (by repeat (first | exact find_head | apply find_tail)) (by rw [encL_length]; omega) (by first | rfl | (apply Row.one; assumption)) (by exact st_cnLive _ _) ?_)
        clear hh w; intro w hh
        refine w_nil ?_
        have hl2 := hl.add (t := 0) (hl.add (t := 9) (hl.nil) rfl) rfl; clear hl; have hl := hl2; clear hl2
        refine then_normal ?_
        refine c_seq ?_
        refine c_region ?_
        refine wl (wl_val hl rfl trivial (r_move hl rfl) ?_)
        clear hl a; intro a hl
        refine wl (wl_val hl rfl trivial (r_move hl rfl) ?_)
        clear hl a; intro a hl
        refine wl (wl_val hl rfl trivial (r_move hl rfl) ?_)
        clear hl a; intro a hl
        refine wl (wl_val hl rfl trivial (r_nilCheck hl rfl) ?_)
        clear hl a; intro a hl
        refine wl (wl_val hl rfl trivial (r_field hl rfl fld87_1) ?_)
        clear hl a; intro a hl
        refine wl (wl_val hl rfl trivial (r_indexA hl rfl rfl arr84 (by omega) (by omega) (by first | (simp only [Int.reduceToNat]; rfl) | exact toNat_add1 _ | exact toNat_add2 _ _ | exact toNat_emod _ _ | exact Int.toNat_natCast _ | rfl)) ?_)
        clear hl a; intro a hl
        refine wl (wl_val hl rfl trivial (r_field hl rfl fld83_0) ?_)
        clear hl a; intro a hl
        refine wl (w_load hl hh rfl trivial one27 rfl (by repeat (first | exact find_head | apply find_tail)) (by exact cell_gen _ _ (by omega)) ?_)
        clear hl a; intro a hl
        try simp (disch := omega) only [word_setGen, word_setNxt, word_setSz, word_setRole, word_setLst, word_setFresh, word_setBoot, word_setCnNil, word_setCnLive, word_setCnFree, word_setCnSpent, word_setCnUnt, word_paintTo, word_genTo, gen_setWord, gen_setNxt, gen_setSz, gen_setRole, gen_setLst, gen_setFresh, gen_setBoot, gen_setCnNil, gen_setCnLive, gen_setCnFree, gen_setCnSpent, gen_setCnUnt, gen_paintTo, nxt_setWord, nxt_setGen, nxt_setSz, nxt_setRole, nxt_setLst, nxt_setFresh, nxt_setBoot, nxt_setCnNil, nxt_setCnLive, nxt_setCnFree, nxt_setCnSpent, nxt_setCnUnt, nxt_paintTo, nxt_genTo, sz_setWord, sz_setGen, sz_setNxt, sz_setRole, sz_setLst, sz_setFresh, sz_setBoot, sz_setCnNil, sz_setCnLive, sz_setCnFree, sz_setCnSpent, sz_setCnUnt, sz_paintTo, sz_genTo, role_setWord, role_setGen, role_setNxt, role_setSz, role_setLst, role_setFresh, role_setBoot, role_setCnNil, role_setCnLive, role_setCnFree, role_setCnSpent, role_setCnUnt, role_genTo, lst_setWord, lst_setGen, lst_setNxt, lst_setSz, lst_setRole, lst_setFresh, lst_setBoot, lst_setCnNil, lst_setCnLive, lst_setCnFree, lst_setCnSpent, lst_setCnUnt, lst_paintTo, lst_genTo, fresh_setWord, fresh_setGen, fresh_setNxt, fresh_setSz, fresh_setRole, fresh_setLst, fresh_setBoot, fresh_setCnNil, fresh_setCnLive, fresh_setCnFree, fresh_setCnSpent, fresh_setCnUnt, fresh_setFresh, fresh_paintTo, fresh_genTo, boot_setWord, boot_setGen, boot_setNxt, boot_setSz, boot_setRole, boot_setLst, boot_setFresh, boot_setCnNil, boot_setCnLive, boot_setCnFree, boot_setCnSpent, boot_setCnUnt, boot_setBoot, boot_paintTo, boot_genTo, cnNil_setWord, cnNil_setGen, cnNil_setNxt, cnNil_setSz, cnNil_setRole, cnNil_setLst, cnNil_setFresh, cnNil_setBoot, cnNil_setCnLive, cnNil_setCnFree, cnNil_setCnSpent, cnNil_setCnUnt, cnNil_setCnNil, cnNil_paintTo, cnNil_genTo, cnLive_setWord, cnLive_setGen, cnLive_setNxt, cnLive_setSz, cnLive_setRole, cnLive_setLst, cnLive_setFresh, cnLive_setBoot, cnLive_setCnNil, cnLive_setCnFree, cnLive_setCnSpent, cnLive_setCnUnt, cnLive_setCnLive, cnLive_paintTo, cnLive_genTo, cnFree_setWord, cnFree_setGen, cnFree_setNxt, cnFree_setSz, cnFree_setRole, cnFree_setLst, cnFree_setFresh, cnFree_setBoot, cnFree_setCnNil, cnFree_setCnLive, cnFree_setCnSpent, cnFree_setCnUnt, cnFree_setCnFree, cnFree_paintTo, cnFree_genTo, cnSpent_setWord, cnSpent_setGen, cnSpent_setNxt, cnSpent_setSz, cnSpent_setRole, cnSpent_setLst, cnSpent_setFresh, cnSpent_setBoot, cnSpent_setCnNil, cnSpent_setCnLive, cnSpent_setCnFree, cnSpent_setCnUnt, cnSpent_setCnSpent, cnSpent_paintTo, cnSpent_genTo, cnUnt_setWord, cnUnt_setGen, cnUnt_setNxt, cnUnt_setSz, cnUnt_setRole, cnUnt_setLst, cnUnt_setFresh, cnUnt_setBoot, cnUnt_setCnNil, cnUnt_setCnLive, cnUnt_setCnFree, cnUnt_setCnSpent, cnUnt_setCnUnt, cnUnt_paintTo, cnUnt_genTo, word_popF, gen_popF, sz_popF, role_popF, fresh_popF, boot_popF, cnNil_popF, cnLive_popF, cnSpent_popF, cnUnt_popF, word_carveF, gen_carveF, nxt_carveF, role_carveF, lst_carveF, boot_carveF, cnNil_carveF, cnLive_carveF, cnFree_carveF, cnSpent_carveF] at hl
        try rw [hfin] at hl
        refine wl (w_call hl hh rfl trivial rfl cal40 rfl (makeRef_spec x y (by omega) (by omega)) (by repeat (first | exact keeps_nil | apply keeps_cons (by repeat (first | exact find_head | apply find_tail)) (by first  | rfl) | exact keeps_self | apply keeps_mv)) trivial ?_)
        clear hl hh a w; intro vc Fc a w hR hl hh
        obtain ⟨rfl, rfl⟩ := hR
        simp only [List.cons_append, List.nil_append] at hh
        refine wl (wl_val hl rfl trivial (r_assign hl rfl) ?_)
        clear hl a; intro a hl
        refine wl (wl_val hl rfl trivial (r_assign hl rfl) ?_)
        clear hl a; intro a hl
        refine w_nil ?_
        have hl2 := hl.add (t := 4) (hl.add (t := 5) (hl.nil) rfl) rfl; clear hl; have hl := hl2; clear hl2
        refine then_normal ?_
        refine wp_ret ?_
        refine f_ret2 (F' := [(b, C (encL (handF (popF f x s) x s)) 87)]) hl hh rfl rfl rfl (by repeat (first | exact keeps_nil | apply keeps_cons (by repeat (first | exact find_head | apply find_tail)) (by first  | exact congrArg (fun q => C (encL q) 87) (by unfold handF; rw [cnLive_popF _ _ _ (by omega) (by omega)]) | rfl) | exact keeps_self | apply keeps_mv)) ?_
        exact ⟨rfl, rfl⟩
    · intro hc1
      try simp only [decide_eq_true_eq, decide_eq_false_iff_not, Bool.not_eq_true', Bool.not_eq_false', Bool.not_eq_true, Bool.not_eq_false, Bool.and_eq_true, Bool.or_eq_true, Bool.and_eq_false_iff, Bool.or_eq_false_iff, Bool.not_not, ne_eq, Int.not_lt, Int.not_le, Decidable.not_not, beq_iff_eq, bne_iff_ne] at hc1
      exfalso; omega

set_option maxHeartbeats 1000000 in
theorem alloc_fresh_spec (b : Nat) (f : Nat → Int) (x n s : Nat) (hn1 : 1 ≤ n) (hn2 : n ≤ 32) (hs : (n + 1) / 2 * 2 = s) (hl0 : lst f (s / 2 - 1) = 0) (hfr : fresh f = x) (hbt : boot f < 281474976710655) (hx1 : 2 ≤ x) (hx2 : x + s ≤ 4096) (hgen : ∀ c, x ≤ c → c < x + s → 0 ≤ gen f c ∧ gen f c < 281474976710655) (y : Nat) (hy : gen f x + 1 = y) (hl1 : -1000000000 ≤ cnLive f) (hl2 : cnLive f ≤ 1000000000) (hf1 : -1000000000 ≤ cnFree f) (hf2 : cnFree f ≤ 1000000000) (hu1 : -1000000000 ≤ cnUnt f) (hu2 : cnUnt f ≤ 1000000000) : Sp Try.prog 37 #[.pointer (some ⟨b, 0, none⟩), .int .i64 n] [(b, C (encL (f)) 87)] (fun v F' => v = .tuple #[.int .u64 ((y * 65536 + x : Nat) : Int), .int .u8 0] ∧ F' = [(b, C (encL (handF (carveF f x s) x s)) 87)]) := by
  refine f_enter (args := [.pointer (some ⟨b, 0, none⟩), .int .i64 n]) Try.func37 rfl Try.ntmps37 rfl ?_
  intro w0 w a hpre hl hh
  have hfin : gen (genTo (carveF f x s) x s) x = (y : Int) := by
    rw [gen_genTo _ _ _ _ (by omega), if_pos (by omega), gen_carveF _ _ _ _ (by omega) (by omega) (by omega)]; exact hy
  have hgx := hgen x (by omega) (by omega)
  simp only [slotsFrom, Nat.reduceAdd] at hl
  refine c_seq ?_
  refine c_region ?_
  refine wl (wl_val hl rfl trivial (r_assign hl rfl) ?_)
  clear hl a; intro a hl
  refine wl (wl_val hl rfl trivial (r_assign hl rfl) ?_)
  clear hl a; intro a hl
  refine w_nil ?_
  have hl2 := hl.add (t := 0) (hl.add (t := 1) (hl.nil) rfl) rfl; clear hl; have hl := hl2; clear hl2
  refine then_normal ?_
  refine c_seq ?_
  refine c_region ?_
  refine wl (wl_val hl rfl trivial (r_move hl rfl) ?_)
  clear hl a; intro a hl
  refine wl (w_call hl hh rfl trivial rfl cal46 rfl (roundUp_yes n hn1 hn2 s hs) (by repeat (first | exact keeps_nil | apply keeps_cons (by repeat (first | exact find_head | apply find_tail)) (by first  | rfl) | exact keeps_self | apply keeps_mv)) trivial ?_)
  clear hl hh a w; intro vc Fc a w hR hl hh
  obtain ⟨rfl, rfl⟩ := hR
  simp only [List.cons_append, List.nil_append] at hh
  refine wl (wl_val hl rfl trivial (r_move hl rfl) ?_)
  clear hl a; intro a hl
  refine wl (wl_val hl rfl trivial (r_extract hl rfl (by simp only [List.getElem?_toArray, List.getElem?_cons_zero, List.getElem?_cons_succ]; rfl)) ?_)
  clear hl a; intro a hl
  refine wl (wl_val hl rfl trivial (r_extract hl rfl (by simp only [List.getElem?_toArray, List.getElem?_cons_zero, List.getElem?_cons_succ]; rfl)) ?_)
  clear hl a; intro a hl
  refine wl (wl_val hl rfl trivial (r_assign hl rfl) ?_)
  clear hl a; intro a hl
  refine wl (wl_val hl rfl trivial (r_assign hl rfl) ?_)
  clear hl a; intro a hl
  refine w_nil ?_
  have hl2 := hl.add (t := 0) (hl.add (t := 6) (hl.add (t := 7) (hl.nil) rfl) rfl) rfl; clear hl; have hl := hl2; clear hl2
  refine then_normal ?_
  refine c_seq ?_
  refine c_seq ?_
  refine c_region ?_
  refine wl (wl_val hl rfl trivial (r_move hl rfl) ?_)
  clear hl a; intro a hl
  refine wl (wl_val hl rfl trivial (r_not hl rfl) ?_)
  clear hl a; intro a hl
  refine w_nil ?_
  have hl2 := hl.add (t := 0) (hl.add (t := 6) (hl.add (t := 17) (hl.nil) rfl) rfl) rfl; clear hl; have hl := hl2; clear hl2
  refine then_normal ?_
  refine c_cond hl rfl ?_ ?_
  · intro hc0
    try simp only [decide_eq_true_eq, decide_eq_false_iff_not, Bool.not_eq_true', Bool.not_eq_false', Bool.not_eq_true, Bool.not_eq_false, Bool.and_eq_true, Bool.or_eq_true, Bool.and_eq_false_iff, Bool.or_eq_false_iff, Bool.not_not, ne_eq, Int.not_lt, Int.not_le, Decidable.not_not, beq_iff_eq, bne_iff_ne] at hc0
    simp at hc0
  · intro hc0
    try simp only [decide_eq_true_eq, decide_eq_false_iff_not, Bool.not_eq_true', Bool.not_eq_false', Bool.not_eq_true, Bool.not_eq_false, Bool.and_eq_true, Bool.or_eq_true, Bool.and_eq_false_iff, Bool.or_eq_false_iff, Bool.not_not, ne_eq, Int.not_lt, Int.not_le, Decidable.not_not, beq_iff_eq, bne_iff_ne] at hc0
    refine wp_skip ?_
    refine then_normal ?_
    refine c_seq ?_
    refine c_region ?_
    refine wl (wl_val hl rfl trivial (r_move hl rfl) ?_)
    clear hl a; intro a hl
    refine wl (w_call hl hh rfl trivial rfl cal44 rfl (classOf_spec _ (by omega) (by omega)) (by repeat (first | exact keeps_nil | apply keeps_cons (by repeat (first | exact find_head | apply find_tail)) (by first  | rfl) | exact keeps_self | apply keeps_mv)) trivial ?_)
    clear hl hh a w; intro vc Fc a w hR hl hh
    obtain ⟨rfl, rfl⟩ := hR
    simp only [List.cons_append, List.nil_append] at hh
    rw [show (s : Int) / 2 - 1 = ((s / 2 - 1 : Nat) : Int) by omega] at hl
    refine wl (wl_val hl rfl trivial (r_assign hl rfl) ?_)
    clear hl a; intro a hl
    refine w_nil ?_
    have hl2 := hl.add (t := 0) (hl.add (t := 6) (hl.add (t := 8) (hl.nil) rfl) rfl) rfl; clear hl; have hl := hl2; clear hl2
    refine then_normal ?_
    refine c_seq ?_
    refine c_region ?_
    refine wl (wl_val hl rfl trivial (r_move hl rfl) ?_)
    clear hl a; intro a hl
    refine wl (wl_val hl rfl trivial (r_move hl rfl) ?_)
    clear hl a; intro a hl
    refine wl (wl_val hl rfl trivial (r_nilCheck hl rfl) ?_)
    clear hl a; intro a hl
    refine wl (wl_val hl rfl trivial (r_field hl rfl fld87_2) ?_)
    clear hl a; intro a hl
    refine wl (wl_val hl rfl trivial (r_indexA hl rfl rfl arr85 (by omega) (by omega) (by first | (simp only [Int.reduceToNat]; rfl) | exact toNat_add1 _ | exact toNat_add2 _ _ | exact toNat_emod _ _ | exact Int.toNat_natCast _ | rfl)) ?_)
    clear hl a; intro a hl
    refine wl (w_load hl hh rfl trivial one34 rfl (by repeat (first | exact find_head | apply find_tail)) (by exact cell_lst _ _ (by omega)) ?_)
    clear hl a; intro a hl
    try simp (disch := omega) only [word_setGen, word_setNxt, word_setSz, word_setRole, word_setLst, word_setFresh, word_setBoot, word_setCnNil, word_setCnLive, word_setCnFree, word_setCnSpent, word_setCnUnt, word_paintTo, word_genTo, gen_setWord, gen_setNxt, gen_setSz, gen_setRole, gen_setLst, gen_setFresh, gen_setBoot, gen_setCnNil, gen_setCnLive, gen_setCnFree, gen_setCnSpent, gen_setCnUnt, gen_paintTo, nxt_setWord, nxt_setGen, nxt_setSz, nxt_setRole, nxt_setLst, nxt_setFresh, nxt_setBoot, nxt_setCnNil, nxt_setCnLive, nxt_setCnFree, nxt_setCnSpent, nxt_setCnUnt, nxt_paintTo, nxt_genTo, sz_setWord, sz_setGen, sz_setNxt, sz_setRole, sz_setLst, sz_setFresh, sz_setBoot, sz_setCnNil, sz_setCnLive, sz_setCnFree, sz_setCnSpent, sz_setCnUnt, sz_paintTo, sz_genTo, role_setWord, role_setGen, role_setNxt, role_setSz, role_setLst, role_setFresh, role_setBoot, role_setCnNil, role_setCnLive, role_setCnFree, role_setCnSpent, role_setCnUnt, role_genTo, lst_setWord, lst_setGen, lst_setNxt, lst_setSz, lst_setRole, lst_setFresh, lst_setBoot, lst_setCnNil, lst_setCnLive, lst_setCnFree, lst_setCnSpent, lst_setCnUnt, lst_paintTo, lst_genTo, fresh_setWord, fresh_setGen, fresh_setNxt, fresh_setSz, fresh_setRole, fresh_setLst, fresh_setBoot, fresh_setCnNil, fresh_setCnLive, fresh_setCnFree, fresh_setCnSpent, fresh_setCnUnt, fresh_setFresh, fresh_paintTo, fresh_genTo, boot_setWord, boot_setGen, boot_setNxt, boot_setSz, boot_setRole, boot_setLst, boot_setFresh, boot_setCnNil, boot_setCnLive, boot_setCnFree, boot_setCnSpent, boot_setCnUnt, boot_setBoot, boot_paintTo, boot_genTo, cnNil_setWord, cnNil_setGen, cnNil_setNxt, cnNil_setSz, cnNil_setRole, cnNil_setLst, cnNil_setFresh, cnNil_setBoot, cnNil_setCnLive, cnNil_setCnFree, cnNil_setCnSpent, cnNil_setCnUnt, cnNil_setCnNil, cnNil_paintTo, cnNil_genTo, cnLive_setWord, cnLive_setGen, cnLive_setNxt, cnLive_setSz, cnLive_setRole, cnLive_setLst, cnLive_setFresh, cnLive_setBoot, cnLive_setCnNil, cnLive_setCnFree, cnLive_setCnSpent, cnLive_setCnUnt, cnLive_setCnLive, cnLive_paintTo, cnLive_genTo, cnFree_setWord, cnFree_setGen, cnFree_setNxt, cnFree_setSz, cnFree_setRole, cnFree_setLst, cnFree_setFresh, cnFree_setBoot, cnFree_setCnNil, cnFree_setCnLive, cnFree_setCnSpent, cnFree_setCnUnt, cnFree_setCnFree, cnFree_paintTo, cnFree_genTo, cnSpent_setWord, cnSpent_setGen, cnSpent_setNxt, cnSpent_setSz, cnSpent_setRole, cnSpent_setLst, cnSpent_setFresh, cnSpent_setBoot, cnSpent_setCnNil, cnSpent_setCnLive, cnSpent_setCnFree, cnSpent_setCnUnt, cnSpent_setCnSpent, cnSpent_paintTo, cnSpent_genTo, cnUnt_setWord, cnUnt_setGen, cnUnt_setNxt, cnUnt_setSz, cnUnt_setRole, cnUnt_setLst, cnUnt_setFresh, cnUnt_setBoot, cnUnt_setCnNil, cnUnt_setCnLive, cnUnt_setCnFree, cnUnt_setCnSpent, cnUnt_setCnUnt, cnUnt_paintTo, cnUnt_genTo, word_popF, gen_popF, sz_popF, role_popF, fresh_popF, boot_popF, cnNil_popF, cnLive_popF, cnSpent_popF, cnUnt_popF, word_carveF, gen_carveF, nxt_carveF, role_carveF, lst_carveF, boot_carveF, cnNil_carveF, cnLive_carveF, cnFree_carveF, cnSpent_carveF] at hl
    try rw [hfin] at hl
    refine wl (wl_val hl rfl trivial (r_assign hl rfl) ?_)
    clear hl a; intro a hl
    refine w_nil ?_
    have hl2 := hl.add (t := 0) (hl.add (t := 6) (hl.add (t := 8) (hl.add (t := 9) (hl.nil) rfl) rfl) rfl) rfl; clear hl; have hl := hl2; clear hl2
    refine then_normal ?_
    refine c_seq ?_
    refine wp_block ?_
    refine c_seq ?_
    refine c_region ?_
    refine wl (wl_val hl rfl trivial (r_move hl rfl) ?_)
    clear hl a; intro a hl
    refine wl (wl_val hl rfl trivial (r_neq hl rfl rfl) ?_)
    clear hl a; intro a hl
    refine wl (wl_val hl rfl trivial (r_assign hl rfl) ?_)
    clear hl a; intro a hl
    refine w_nil ?_
    have hl2 := hl.add (t := 0) (hl.add (t := 6) (hl.add (t := 8) (hl.add (t := 9) (hl.add (t := 26) (hl.nil) rfl) rfl) rfl) rfl) rfl; clear hl; have hl := hl2; clear hl2
    refine then_normal ?_
    refine c_cond hl rfl ?_ ?_
    · intro hc1
      try simp only [decide_eq_true_eq, decide_eq_false_iff_not, Bool.not_eq_true', Bool.not_eq_false', Bool.not_eq_true, Bool.not_eq_false, Bool.and_eq_true, Bool.or_eq_true, Bool.and_eq_false_iff, Bool.or_eq_false_iff, Bool.not_not, ne_eq, Int.not_lt, Int.not_le, Decidable.not_not, beq_iff_eq, bne_iff_ne] at hc1
      exfalso; omega
    · intro hc1
      try simp only [decide_eq_true_eq, decide_eq_false_iff_not, Bool.not_eq_true', Bool.not_eq_false', Bool.not_eq_true, Bool.not_eq_false, Bool.and_eq_true, Bool.or_eq_true, Bool.and_eq_false_iff, Bool.or_eq_false_iff, Bool.not_not, ne_eq, Int.not_lt, Int.not_le, Decidable.not_not, beq_iff_eq, bne_iff_ne] at hc1
      refine c_seq ?_
      refine c_region ?_
      refine wl (wl_val hl rfl trivial (r_move hl rfl) ?_)
      clear hl a; intro a hl
      refine wl (wl_val hl rfl trivial (r_nilCheck hl rfl) ?_)
      clear hl a; intro a hl
      refine wl (wl_val hl rfl trivial (r_field hl rfl fld87_3) ?_)
      clear hl a; intro a hl
      refine wl (w_load hl hh rfl trivial one34 rfl (by repeat (first | exact find_head | apply find_tail)) (by exact cell_fresh _) ?_)
      clear hl a; intro a hl
      try simp (disch := omega) only [word_setGen, word_setNxt, word_setSz, word_setRole, word_setLst, word_setFresh, word_setBoot, word_setCnNil, word_setCnLive, word_setCnFree, word_setCnSpent, word_setCnUnt, word_paintTo, word_genTo, gen_setWord, gen_setNxt, gen_setSz, gen_setRole, gen_setLst, gen_setFresh, gen_setBoot, gen_setCnNil, gen_setCnLive, gen_setCnFree, gen_setCnSpent, gen_setCnUnt, gen_paintTo, nxt_setWord, nxt_setGen, nxt_setSz, nxt_setRole, nxt_setLst, nxt_setFresh, nxt_setBoot, nxt_setCnNil, nxt_setCnLive, nxt_setCnFree, nxt_setCnSpent, nxt_setCnUnt, nxt_paintTo, nxt_genTo, sz_setWord, sz_setGen, sz_setNxt, sz_setRole, sz_setLst, sz_setFresh, sz_setBoot, sz_setCnNil, sz_setCnLive, sz_setCnFree, sz_setCnSpent, sz_setCnUnt, sz_paintTo, sz_genTo, role_setWord, role_setGen, role_setNxt, role_setSz, role_setLst, role_setFresh, role_setBoot, role_setCnNil, role_setCnLive, role_setCnFree, role_setCnSpent, role_setCnUnt, role_genTo, lst_setWord, lst_setGen, lst_setNxt, lst_setSz, lst_setRole, lst_setFresh, lst_setBoot, lst_setCnNil, lst_setCnLive, lst_setCnFree, lst_setCnSpent, lst_setCnUnt, lst_paintTo, lst_genTo, fresh_setWord, fresh_setGen, fresh_setNxt, fresh_setSz, fresh_setRole, fresh_setLst, fresh_setBoot, fresh_setCnNil, fresh_setCnLive, fresh_setCnFree, fresh_setCnSpent, fresh_setCnUnt, fresh_setFresh, fresh_paintTo, fresh_genTo, boot_setWord, boot_setGen, boot_setNxt, boot_setSz, boot_setRole, boot_setLst, boot_setFresh, boot_setCnNil, boot_setCnLive, boot_setCnFree, boot_setCnSpent, boot_setCnUnt, boot_setBoot, boot_paintTo, boot_genTo, cnNil_setWord, cnNil_setGen, cnNil_setNxt, cnNil_setSz, cnNil_setRole, cnNil_setLst, cnNil_setFresh, cnNil_setBoot, cnNil_setCnLive, cnNil_setCnFree, cnNil_setCnSpent, cnNil_setCnUnt, cnNil_setCnNil, cnNil_paintTo, cnNil_genTo, cnLive_setWord, cnLive_setGen, cnLive_setNxt, cnLive_setSz, cnLive_setRole, cnLive_setLst, cnLive_setFresh, cnLive_setBoot, cnLive_setCnNil, cnLive_setCnFree, cnLive_setCnSpent, cnLive_setCnUnt, cnLive_setCnLive, cnLive_paintTo, cnLive_genTo, cnFree_setWord, cnFree_setGen, cnFree_setNxt, cnFree_setSz, cnFree_setRole, cnFree_setLst, cnFree_setFresh, cnFree_setBoot, cnFree_setCnNil, cnFree_setCnLive, cnFree_setCnSpent, cnFree_setCnUnt, cnFree_setCnFree, cnFree_paintTo, cnFree_genTo, cnSpent_setWord, cnSpent_setGen, cnSpent_setNxt, cnSpent_setSz, cnSpent_setRole, cnSpent_setLst, cnSpent_setFresh, cnSpent_setBoot, cnSpent_setCnNil, cnSpent_setCnLive, cnSpent_setCnFree, cnSpent_setCnUnt, cnSpent_setCnSpent, cnSpent_paintTo, cnSpent_genTo, cnUnt_setWord, cnUnt_setGen, cnUnt_setNxt, cnUnt_setSz, cnUnt_setRole, cnUnt_setLst, cnUnt_setFresh, cnUnt_setBoot, cnUnt_setCnNil, cnUnt_setCnLive, cnUnt_setCnFree, cnUnt_setCnSpent, cnUnt_setCnUnt, cnUnt_paintTo, cnUnt_genTo, word_popF, gen_popF, sz_popF, role_popF, fresh_popF, boot_popF, cnNil_popF, cnLive_popF, cnSpent_popF, cnUnt_popF, word_carveF, gen_carveF, nxt_carveF, role_carveF, lst_carveF, boot_carveF, cnNil_carveF, cnLive_carveF, cnFree_carveF, cnSpent_carveF] at hl
      try rw [hfin] at hl
      first | refine wl (wl_val hl rfl trivial (r_conv hl rfl Try.underlying34 Try.underlying3 (by simp only [Fits]; omega)) ?_) | refine wl (wl_val hl rfl trivial (r_convW hl rfl Try.underlying34 Try.underlying3) ?_)
      clear hl a; intro a hl
      refine wl (wl_val hl rfl trivial (r_move hl rfl) ?_)
      clear hl a; intro a hl
      first | refine wl (wl_val hl rfl trivial (r_add hl rfl rfl (by simp only [Fits]; omega)) ?_) | refine wl (wl_val hl rfl trivial (r_addW hl rfl rfl) ?_)
      clear hl a; intro a hl
      refine wl (wl_val hl rfl trivial (r_leq hl rfl rfl) ?_)
      clear hl a; intro a hl
      refine wl (wl_val hl rfl trivial (r_move hl rfl) ?_)
      clear hl a; intro a hl
      refine sl_split (t := 66) hl rfl ?_ ?_
      · intro hg1; clear hl; intro hl
        try simp only [decide_eq_true_eq, decide_eq_false_iff_not, Bool.not_eq_true', Bool.not_eq_false', Bool.not_eq_true, Bool.not_eq_false, Bool.and_eq_true, Bool.or_eq_true, Bool.and_eq_false_iff, Bool.or_eq_false_iff, Bool.not_not, ne_eq, Int.not_lt, Int.not_le, Decidable.not_not, beq_iff_eq, bne_iff_ne] at hg1
        refine wl (wl_val hl rfl ⟨_, _, rfl, rfl, rfl⟩ (r_move hl rfl) ?_)
        clear hl a; intro a hl
        refine wl (wl_val hl rfl ⟨_, _, rfl, rfl, rfl⟩ (r_nilCheck hl rfl) ?_)
        clear hl a; intro a hl
        refine wl (wl_val hl rfl ⟨_, _, rfl, rfl, rfl⟩ (r_field hl rfl fld87_4) ?_)
        clear hl a; intro a hl
        refine wl (w_load hl hh rfl ⟨_, _, rfl, rfl, rfl⟩ one27 rfl (by repeat (first | exact find_head | apply find_tail)) (by exact cell_boot _) ?_)
        clear hl a; intro a hl
        try simp (disch := omega) only [word_setGen, word_setNxt, word_setSz, word_setRole, word_setLst, word_setFresh, word_setBoot, word_setCnNil, word_setCnLive, word_setCnFree, word_setCnSpent, word_setCnUnt, word_paintTo, word_genTo, gen_setWord, gen_setNxt, gen_setSz, gen_setRole, gen_setLst, gen_setFresh, gen_setBoot, gen_setCnNil, gen_setCnLive, gen_setCnFree, gen_setCnSpent, gen_setCnUnt, gen_paintTo, nxt_setWord, nxt_setGen, nxt_setSz, nxt_setRole, nxt_setLst, nxt_setFresh, nxt_setBoot, nxt_setCnNil, nxt_setCnLive, nxt_setCnFree, nxt_setCnSpent, nxt_setCnUnt, nxt_paintTo, nxt_genTo, sz_setWord, sz_setGen, sz_setNxt, sz_setRole, sz_setLst, sz_setFresh, sz_setBoot, sz_setCnNil, sz_setCnLive, sz_setCnFree, sz_setCnSpent, sz_setCnUnt, sz_paintTo, sz_genTo, role_setWord, role_setGen, role_setNxt, role_setSz, role_setLst, role_setFresh, role_setBoot, role_setCnNil, role_setCnLive, role_setCnFree, role_setCnSpent, role_setCnUnt, role_genTo, lst_setWord, lst_setGen, lst_setNxt, lst_setSz, lst_setRole, lst_setFresh, lst_setBoot, lst_setCnNil, lst_setCnLive, lst_setCnFree, lst_setCnSpent, lst_setCnUnt, lst_paintTo, lst_genTo, fresh_setWord, fresh_setGen, fresh_setNxt, fresh_setSz, fresh_setRole, fresh_setLst, fresh_setBoot, fresh_setCnNil, fresh_setCnLive, fresh_setCnFree, fresh_setCnSpent, fresh_setCnUnt, fresh_setFresh, fresh_paintTo, fresh_genTo, boot_setWord, boot_setGen, boot_setNxt, boot_setSz, boot_setRole, boot_setLst, boot_setFresh, boot_setCnNil, boot_setCnLive, boot_setCnFree, boot_setCnSpent, boot_setCnUnt, boot_setBoot, boot_paintTo, boot_genTo, cnNil_setWord, cnNil_setGen, cnNil_setNxt, cnNil_setSz, cnNil_setRole, cnNil_setLst, cnNil_setFresh, cnNil_setBoot, cnNil_setCnLive, cnNil_setCnFree, cnNil_setCnSpent, cnNil_setCnUnt, cnNil_setCnNil, cnNil_paintTo, cnNil_genTo, cnLive_setWord, cnLive_setGen, cnLive_setNxt, cnLive_setSz, cnLive_setRole, cnLive_setLst, cnLive_setFresh, cnLive_setBoot, cnLive_setCnNil, cnLive_setCnFree, cnLive_setCnSpent, cnLive_setCnUnt, cnLive_setCnLive, cnLive_paintTo, cnLive_genTo, cnFree_setWord, cnFree_setGen, cnFree_setNxt, cnFree_setSz, cnFree_setRole, cnFree_setLst, cnFree_setFresh, cnFree_setBoot, cnFree_setCnNil, cnFree_setCnLive, cnFree_setCnSpent, cnFree_setCnUnt, cnFree_setCnFree, cnFree_paintTo, cnFree_genTo, cnSpent_setWord, cnSpent_setGen, cnSpent_setNxt, cnSpent_setSz, cnSpent_setRole, cnSpent_setLst, cnSpent_setFresh, cnSpent_setBoot, cnSpent_setCnNil, cnSpent_setCnLive, cnSpent_setCnFree, cnSpent_setCnUnt, cnSpent_setCnSpent, cnSpent_paintTo, cnSpent_genTo, cnUnt_setWord, cnUnt_setGen, cnUnt_setNxt, cnUnt_setSz, cnUnt_setRole, cnUnt_setLst, cnUnt_setFresh, cnUnt_setBoot, cnUnt_setCnNil, cnUnt_setCnLive, cnUnt_setCnFree, cnUnt_setCnSpent, cnUnt_setCnUnt, cnUnt_paintTo, cnUnt_genTo, word_popF, gen_popF, sz_popF, role_popF, fresh_popF, boot_popF, cnNil_popF, cnLive_popF, cnSpent_popF, cnUnt_popF, word_carveF, gen_carveF, nxt_carveF, role_carveF, lst_carveF, boot_carveF, cnNil_carveF, cnLive_carveF, cnFree_carveF, cnSpent_carveF] at hl
        try rw [hfin] at hl
        refine wl (wl_val hl rfl ⟨_, _, rfl, rfl, rfl⟩ (r_lss hl rfl rfl) ?_)
        clear hl a; intro a hl
        refine wl (wl_val hl rfl trivial (r_pickT hl rfl rfl) ?_)
        clear hl a; intro a hl
        refine wl (wl_val hl rfl trivial (r_assign hl rfl) ?_)
        clear hl a; intro a hl
        refine w_nil ?_
        have hl2 := hl.add (t := 0) (hl.add (t := 6) (hl.add (t := 57) (hl.nil) rfl) rfl) rfl; clear hl; have hl := hl2; clear hl2
        refine then_normal ?_
        refine c_cond hl rfl ?_ ?_
        · intro hc2
          try simp only [decide_eq_true_eq, decide_eq_false_iff_not, Bool.not_eq_true', Bool.not_eq_false', Bool.not_eq_true, Bool.not_eq_false, Bool.and_eq_true, Bool.or_eq_true, Bool.and_eq_false_iff, Bool.or_eq_false_iff, Bool.not_not, ne_eq, Int.not_lt, Int.not_le, Decidable.not_not, beq_iff_eq, bne_iff_ne] at hc2
          refine c_seq ?_
          refine c_region ?_
          refine wl (wl_val hl rfl trivial (r_move hl rfl) ?_)
          clear hl a; intro a hl
          refine wl (wl_val hl rfl trivial (r_nilCheck hl rfl) ?_)
          clear hl a; intro a hl
          refine wl (wl_val hl rfl trivial (r_field hl rfl fld87_3) ?_)
          clear hl a; intro a hl
          refine wl (w_load hl hh rfl trivial one34 rfl (by repeat (first | exact find_head | apply find_tail)) (by exact cell_fresh _) ?_)
          clear hl a; intro a hl
          try simp (disch := omega) only [word_setGen, word_setNxt, word_setSz, word_setRole, word_setLst, word_setFresh, word_setBoot, word_setCnNil, word_setCnLive, word_setCnFree, word_setCnSpent, word_setCnUnt, word_paintTo, word_genTo, gen_setWord, gen_setNxt, gen_setSz, gen_setRole, gen_setLst, gen_setFresh, gen_setBoot, gen_setCnNil, gen_setCnLive, gen_setCnFree, gen_setCnSpent, gen_setCnUnt, gen_paintTo, nxt_setWord, nxt_setGen, nxt_setSz, nxt_setRole, nxt_setLst, nxt_setFresh, nxt_setBoot, nxt_setCnNil, nxt_setCnLive, nxt_setCnFree, nxt_setCnSpent, nxt_setCnUnt, nxt_paintTo, nxt_genTo, sz_setWord, sz_setGen, sz_setNxt, sz_setRole, sz_setLst, sz_setFresh, sz_setBoot, sz_setCnNil, sz_setCnLive, sz_setCnFree, sz_setCnSpent, sz_setCnUnt, sz_paintTo, sz_genTo, role_setWord, role_setGen, role_setNxt, role_setSz, role_setLst, role_setFresh, role_setBoot, role_setCnNil, role_setCnLive, role_setCnFree, role_setCnSpent, role_setCnUnt, role_genTo, lst_setWord, lst_setGen, lst_setNxt, lst_setSz, lst_setRole, lst_setFresh, lst_setBoot, lst_setCnNil, lst_setCnLive, lst_setCnFree, lst_setCnSpent, lst_setCnUnt, lst_paintTo, lst_genTo, fresh_setWord, fresh_setGen, fresh_setNxt, fresh_setSz, fresh_setRole, fresh_setLst, fresh_setBoot, fresh_setCnNil, fresh_setCnLive, fresh_setCnFree, fresh_setCnSpent, fresh_setCnUnt, fresh_setFresh, fresh_paintTo, fresh_genTo, boot_setWord, boot_setGen, boot_setNxt, boot_setSz, boot_setRole, boot_setLst, boot_setFresh, boot_setCnNil, boot_setCnLive, boot_setCnFree, boot_setCnSpent, boot_setCnUnt, boot_setBoot, boot_paintTo, boot_genTo, cnNil_setWord, cnNil_setGen, cnNil_setNxt, cnNil_setSz, cnNil_setRole, cnNil_setLst, cnNil_setFresh, cnNil_setBoot, cnNil_setCnLive, cnNil_setCnFree, cnNil_setCnSpent, cnNil_setCnUnt, cnNil_setCnNil, cnNil_paintTo, cnNil_genTo, cnLive_setWord, cnLive_setGen, cnLive_setNxt, cnLive_setSz, cnLive_setRole, cnLive_setLst, cnLive_setFresh, cnLive_setBoot, cnLive_setCnNil, cnLive_setCnFree, cnLive_setCnSpent, cnLive_setCnUnt, cnLive_setCnLive, cnLive_paintTo, cnLive_genTo, cnFree_setWord, cnFree_setGen, cnFree_setNxt, cnFree_setSz, cnFree_setRole, cnFree_setLst, cnFree_setFresh, cnFree_setBoot, cnFree_setCnNil, cnFree_setCnLive, cnFree_setCnSpent, cnFree_setCnUnt, cnFree_setCnFree, cnFree_paintTo, cnFree_genTo, cnSpent_setWord, cnSpent_setGen, cnSpent_setNxt, cnSpent_setSz, cnSpent_setRole, cnSpent_setLst, cnSpent_setFresh, cnSpent_setBoot, cnSpent_setCnNil, cnSpent_setCnLive, cnSpent_setCnFree, cnSpent_setCnUnt, cnSpent_setCnSpent, cnSpent_paintTo, cnSpent_genTo, cnUnt_setWord, cnUnt_setGen, cnUnt_setNxt, cnUnt_setSz, cnUnt_setRole, cnUnt_setLst, cnUnt_setFresh, cnUnt_setBoot, cnUnt_setCnNil, cnUnt_setCnLive, cnUnt_setCnFree, cnUnt_setCnSpent, cnUnt_setCnUnt, cnUnt_paintTo, cnUnt_genTo, word_popF, gen_popF, sz_popF, role_popF, fresh_popF, boot_popF, cnNil_popF, cnLive_popF, cnSpent_popF, cnUnt_popF, word_carveF, gen_carveF, nxt_carveF, role_carveF, lst_carveF, boot_carveF, cnNil_carveF, cnLive_carveF, cnFree_carveF, cnSpent_carveF] at hl
          try rw [hfin] at hl
          refine wl (wl_val hl rfl trivial (r_assign hl rfl) ?_)
          clear hl a; intro a hl
          refine w_nil ?_
          have hl2 := hl.add (t := 0) (hl.add (t := 6) (hl.add (t := 9) (hl.nil) rfl) rfl) rfl; clear hl; have hl := hl2; clear hl2
          rw [hfr] at hl
          refine then_normal ?_
          refine c_seq ?_
          refine c_region ?_
          refine wl (wl_val hl rfl trivial (r_move hl rfl) ?_)
          clear hl a; intro a hl
          refine wl (wl_val hl rfl trivial (r_nilCheck hl rfl) ?_)
          clear hl a; intro a hl
          refine wl (wl_val hl rfl trivial (r_field hl rfl fld87_3) ?_)
          clear hl a; intro a hl
          refine wl (w_load hl hh rfl trivial one34 rfl (by repeat (first | exact find_head | apply find_tail)) (by exact cell_fresh _) ?_)
          clear hl a; intro a hl
          try simp (disch := omega) only [word_setGen, word_setNxt, word_setSz, word_setRole, word_setLst, word_setFresh, word_setBoot, word_setCnNil, word_setCnLive, word_setCnFree, word_setCnSpent, word_setCnUnt, word_paintTo, word_genTo, gen_setWord, gen_setNxt, gen_setSz, gen_setRole, gen_setLst, gen_setFresh, gen_setBoot, gen_setCnNil, gen_setCnLive, gen_setCnFree, gen_setCnSpent, gen_setCnUnt, gen_paintTo, nxt_setWord, nxt_setGen, nxt_setSz, nxt_setRole, nxt_setLst, nxt_setFresh, nxt_setBoot, nxt_setCnNil, nxt_setCnLive, nxt_setCnFree, nxt_setCnSpent, nxt_setCnUnt, nxt_paintTo, nxt_genTo, sz_setWord, sz_setGen, sz_setNxt, sz_setRole, sz_setLst, sz_setFresh, sz_setBoot, sz_setCnNil, sz_setCnLive, sz_setCnFree, sz_setCnSpent, sz_setCnUnt, sz_paintTo, sz_genTo, role_setWord, role_setGen, role_setNxt, role_setSz, role_setLst, role_setFresh, role_setBoot, role_setCnNil, role_setCnLive, role_setCnFree, role_setCnSpent, role_setCnUnt, role_genTo, lst_setWord, lst_setGen, lst_setNxt, lst_setSz, lst_setRole, lst_setFresh, lst_setBoot, lst_setCnNil, lst_setCnLive, lst_setCnFree, lst_setCnSpent, lst_setCnUnt, lst_paintTo, lst_genTo, fresh_setWord, fresh_setGen, fresh_setNxt, fresh_setSz, fresh_setRole, fresh_setLst, fresh_setBoot, fresh_setCnNil, fresh_setCnLive, fresh_setCnFree, fresh_setCnSpent, fresh_setCnUnt, fresh_setFresh, fresh_paintTo, fresh_genTo, boot_setWord, boot_setGen, boot_setNxt, boot_setSz, boot_setRole, boot_setLst, boot_setFresh, boot_setCnNil, boot_setCnLive, boot_setCnFree, boot_setCnSpent, boot_setCnUnt, boot_setBoot, boot_paintTo, boot_genTo, cnNil_setWord, cnNil_setGen, cnNil_setNxt, cnNil_setSz, cnNil_setRole, cnNil_setLst, cnNil_setFresh, cnNil_setBoot, cnNil_setCnLive, cnNil_setCnFree, cnNil_setCnSpent, cnNil_setCnUnt, cnNil_setCnNil, cnNil_paintTo, cnNil_genTo, cnLive_setWord, cnLive_setGen, cnLive_setNxt, cnLive_setSz, cnLive_setRole, cnLive_setLst, cnLive_setFresh, cnLive_setBoot, cnLive_setCnNil, cnLive_setCnFree, cnLive_setCnSpent, cnLive_setCnUnt, cnLive_setCnLive, cnLive_paintTo, cnLive_genTo, cnFree_setWord, cnFree_setGen, cnFree_setNxt, cnFree_setSz, cnFree_setRole, cnFree_setLst, cnFree_setFresh, cnFree_setBoot, cnFree_setCnNil, cnFree_setCnLive, cnFree_setCnSpent, cnFree_setCnUnt, cnFree_setCnFree, cnFree_paintTo, cnFree_genTo, cnSpent_setWord, cnSpent_setGen, cnSpent_setNxt, cnSpent_setSz, cnSpent_setRole, cnSpent_setLst, cnSpent_setFresh, cnSpent_setBoot, cnSpent_setCnNil, cnSpent_setCnLive, cnSpent_setCnFree, cnSpent_setCnUnt, cnSpent_setCnSpent, cnSpent_paintTo, cnSpent_genTo, cnUnt_setWord, cnUnt_setGen, cnUnt_setNxt, cnUnt_setSz, cnUnt_setRole, cnUnt_setLst, cnUnt_setFresh, cnUnt_setBoot, cnUnt_setCnNil, cnUnt_setCnLive, cnUnt_setCnFree, cnUnt_setCnSpent, cnUnt_setCnUnt, cnUnt_paintTo, cnUnt_genTo, word_popF, gen_popF, sz_popF, role_popF, fresh_popF, boot_popF, cnNil_popF, cnLive_popF, cnSpent_popF, cnUnt_popF, word_carveF, gen_carveF, nxt_carveF, role_carveF, lst_carveF, boot_carveF, cnNil_carveF, cnLive_carveF, cnFree_carveF, cnSpent_carveF] at hl
          try rw [hfin] at hl
          refine wl (wl_val hl rfl trivial (r_move hl rfl) ?_)
          clear hl a; intro a hl
          first | refine wl (wl_val hl rfl trivial (r_conv hl rfl Try.underlying3 Try.underlying34 (by simp only [Fits]; omega)) ?_) | refine wl (wl_val hl rfl trivial (r_convW hl rfl Try.underlying3 Try.underlying34) ?_)
          clear hl a; intro a hl
          first | refine wl (wl_val hl rfl trivial (r_add hl rfl rfl (by simp only [Fits]; omega)) ?_) | refine wl (wl_val hl rfl trivial (r_addW hl rfl rfl) ?_)
          clear hl a; intro a hl
          refine wl (wl_val hl rfl trivial (r_nilCheck hl rfl) ?_)
          clear hl a; intro a hl
          refine wl (wl_val hl rfl trivial (r_field hl rfl fld87_3) ?_)
          clear hl a; intro a hl
          refine wl (w_store hl hh trivial one34 rfl rfl (by repeat (first | exact find_head | apply find_tail)) (by rw [encL_length]; omega) (by first | rfl | (apply Row.one; assumption)) (by exact st_fresh _ _) ?_)
          clear hh w; intro w hh
          refine w_nil ?_
          have hl2 := hl.add (t := 0) (hl.add (t := 6) (hl.add (t := 9) (hl.nil) rfl) rfl) rfl; clear hl; have hl := hl2; clear hl2
          refine then_normal ?_
          refine c_seq ?_
          refine c_region ?_
          refine wl (wl_val hl rfl trivial (r_move hl rfl) ?_)
          clear hl a; intro a hl
          refine wl (wl_val hl rfl trivial (r_move hl rfl) ?_)
          clear hl a; intro a hl
          refine wl (wl_val hl rfl trivial (r_move hl rfl) ?_)
          clear hl a; intro a hl
          first | refine wl (wl_val hl rfl trivial (r_conv hl rfl Try.underlying3 Try.underlying5 (by simp only [Fits]; omega)) ?_) | refine wl (wl_val hl rfl trivial (r_convW hl rfl Try.underlying3 Try.underlying5) ?_)
          clear hl a; intro a hl
          refine wl (wl_val hl rfl trivial (r_nilCheck hl rfl) ?_)
          clear hl a; intro a hl
          refine wl (wl_val hl rfl trivial (r_field hl rfl fld87_1) ?_)
          clear hl a; intro a hl
          refine wl (wl_val hl rfl trivial (r_indexA hl rfl rfl arr84 (by omega) (by omega) (by first | (simp only [Int.reduceToNat]; rfl) | exact toNat_add1 _ | exact toNat_add2 _ _ | exact toNat_emod _ _ | exact Int.toNat_natCast _ | rfl)) ?_)
          clear hl a; intro a hl
          refine wl (wl_val hl rfl trivial (r_field hl rfl fld83_2) ?_)
          clear hl a; intro a hl
          refine wl (w_store hl hh trivial one5 rfl rfl (by repeat (first | exact find_head | apply find_tail)) (by rw [encL_length]; omega) (by first | rfl | (apply Row.one; assumption)) (by exact st_sz _ _ _ (by omega)) ?_)
          clear hh w; intro w hh
          refine w_nil ?_
          have hl2 := hl.add (t := 0) (hl.add (t := 6) (hl.add (t := 9) (hl.nil) rfl) rfl) rfl; clear hl; have hl := hl2; clear hl2
          refine then_normal ?_
          refine c_region ?_
          refine wl (wl_val hl rfl trivial (r_move hl rfl) ?_)
          clear hl a; intro a hl
          refine wl (wl_val hl rfl trivial (r_nilCheck hl rfl) ?_)
          clear hl a; intro a hl
          refine wl (wl_val hl rfl trivial (r_field hl rfl fld87_5) ?_)
          clear hl a; intro a hl
          refine wl (wl_val hl rfl trivial (r_field hl rfl fld47_4) ?_)
          clear hl a; intro a hl
          refine wl (w_load hl hh rfl trivial one3 rfl (by repeat (first | exact find_head | apply find_tail)) (by exact cell_cnUnt _) ?_)
          clear hl a; intro a hl
          try simp (disch := omega) only [word_setGen, word_setNxt, word_setSz, word_setRole, word_setLst, word_setFresh, word_setBoot, word_setCnNil, word_setCnLive, word_setCnFree, word_setCnSpent, word_setCnUnt, word_paintTo, word_genTo, gen_setWord, gen_setNxt, gen_setSz, gen_setRole, gen_setLst, gen_setFresh, gen_setBoot, gen_setCnNil, gen_setCnLive, gen_setCnFree, gen_setCnSpent, gen_setCnUnt, gen_paintTo, nxt_setWord, nxt_setGen, nxt_setSz, nxt_setRole, nxt_setLst, nxt_setFresh, nxt_setBoot, nxt_setCnNil, nxt_setCnLive, nxt_setCnFree, nxt_setCnSpent, nxt_setCnUnt, nxt_paintTo, nxt_genTo, sz_setWord, sz_setGen, sz_setNxt, sz_setRole, sz_setLst, sz_setFresh, sz_setBoot, sz_setCnNil, sz_setCnLive, sz_setCnFree, sz_setCnSpent, sz_setCnUnt, sz_paintTo, sz_genTo, role_setWord, role_setGen, role_setNxt, role_setSz, role_setLst, role_setFresh, role_setBoot, role_setCnNil, role_setCnLive, role_setCnFree, role_setCnSpent, role_setCnUnt, role_genTo, lst_setWord, lst_setGen, lst_setNxt, lst_setSz, lst_setRole, lst_setFresh, lst_setBoot, lst_setCnNil, lst_setCnLive, lst_setCnFree, lst_setCnSpent, lst_setCnUnt, lst_paintTo, lst_genTo, fresh_setWord, fresh_setGen, fresh_setNxt, fresh_setSz, fresh_setRole, fresh_setLst, fresh_setBoot, fresh_setCnNil, fresh_setCnLive, fresh_setCnFree, fresh_setCnSpent, fresh_setCnUnt, fresh_setFresh, fresh_paintTo, fresh_genTo, boot_setWord, boot_setGen, boot_setNxt, boot_setSz, boot_setRole, boot_setLst, boot_setFresh, boot_setCnNil, boot_setCnLive, boot_setCnFree, boot_setCnSpent, boot_setCnUnt, boot_setBoot, boot_paintTo, boot_genTo, cnNil_setWord, cnNil_setGen, cnNil_setNxt, cnNil_setSz, cnNil_setRole, cnNil_setLst, cnNil_setFresh, cnNil_setBoot, cnNil_setCnLive, cnNil_setCnFree, cnNil_setCnSpent, cnNil_setCnUnt, cnNil_setCnNil, cnNil_paintTo, cnNil_genTo, cnLive_setWord, cnLive_setGen, cnLive_setNxt, cnLive_setSz, cnLive_setRole, cnLive_setLst, cnLive_setFresh, cnLive_setBoot, cnLive_setCnNil, cnLive_setCnFree, cnLive_setCnSpent, cnLive_setCnUnt, cnLive_setCnLive, cnLive_paintTo, cnLive_genTo, cnFree_setWord, cnFree_setGen, cnFree_setNxt, cnFree_setSz, cnFree_setRole, cnFree_setLst, cnFree_setFresh, cnFree_setBoot, cnFree_setCnNil, cnFree_setCnLive, cnFree_setCnSpent, cnFree_setCnUnt, cnFree_setCnFree, cnFree_paintTo, cnFree_genTo, cnSpent_setWord, cnSpent_setGen, cnSpent_setNxt, cnSpent_setSz, cnSpent_setRole, cnSpent_setLst, cnSpent_setFresh, cnSpent_setBoot, cnSpent_setCnNil, cnSpent_setCnLive, cnSpent_setCnFree, cnSpent_setCnUnt, cnSpent_setCnSpent, cnSpent_paintTo, cnSpent_genTo, cnUnt_setWord, cnUnt_setGen, cnUnt_setNxt, cnUnt_setSz, cnUnt_setRole, cnUnt_setLst, cnUnt_setFresh, cnUnt_setBoot, cnUnt_setCnNil, cnUnt_setCnLive, cnUnt_setCnFree, cnUnt_setCnSpent, cnUnt_setCnUnt, cnUnt_paintTo, cnUnt_genTo, word_popF, gen_popF, sz_popF, role_popF, fresh_popF, boot_popF, cnNil_popF, cnLive_popF, cnSpent_popF, cnUnt_popF, word_carveF, gen_carveF, nxt_carveF, role_carveF, lst_carveF, boot_carveF, cnNil_carveF, cnLive_carveF, cnFree_carveF, cnSpent_carveF] at hl
          try rw [hfin] at hl
          refine wl (wl_val hl rfl trivial (r_move hl rfl) ?_)
          clear hl a; intro a hl
          first | refine wl (wl_val hl rfl trivial (r_sub hl rfl rfl (by simp only [Fits]; omega)) ?_) | refine wl (wl_val hl rfl trivial (r_subW hl rfl rfl) ?_)
          clear hl a; intro a hl
          refine wl (wl_val hl rfl trivial (r_nilCheck hl rfl) ?_)
          clear hl a; intro a hl
          refine wl (wl_val hl rfl trivial (r_field hl rfl fld87_5) ?_)
          clear hl a; intro a hl
          refine wl (wl_val hl rfl trivial (r_field hl rfl fld47_4) ?_)
          clear hl a; intro a hl
          refine wl (w_store hl hh trivial one3 rfl rfl (by repeat (first | exact find_head | apply find_tail)) (by rw [encL_length]; omega) (by first | rfl | (apply Row.one; assumption)) (by exact st_cnUnt _ _) ?_)
          clear hh w; intro w hh
          refine w_nil ?_
          have hl2 := hl.add (t := 0) (hl.add (t := 6) (hl.add (t := 9) (hl.nil) rfl) rfl) rfl; clear hl; have hl := hl2; clear hl2
          refine blk_normal ?_
          refine then_normal ?_
          refine c_seq ?_
          refine c_seq ?_
          refine c_region ?_
          refine wl (wl_val hl rfl trivial (r_assign hl rfl) ?_)
          clear hl a; intro a hl
          refine w_nil ?_
          have hl2 := hl.add (t := 0) (hl.add (t := 6) (hl.add (t := 9) (hl.add (t := 10) (hl.nil) rfl) rfl) rfl) rfl; clear hl; have hl := hl2; clear hl2
          refine then_normal ?_
          refine wp_block ?_
          obtain ⟨KS0, hKS0, hk⟩ := (hl.add (t := 0) (hl.add (t := 6) (hl.add (t := 9) (hl.nil) rfl) rfl) rfl).name
          obtain ⟨HS0, hHS0, hh2⟩ := hh.name (keeps_cons (b := b) (o' := C (encL (genTo (carveF f x s) x 0)) 87) (by repeat (first | exact find_head | apply find_tail)) (by first | exact congrArg (fun q => C (encL q) 87) (genTo_zero _ _).symm | rfl) (keeps_nil))
          refine c_loop (α := Nat) (fun i => s - i) (fun i a w => (i ≤ s) ∧ Sl 147 ([(10, .int .i64 i)] ++ KS0) a ∧ Has _ w0 ([(b, C (encL (genTo (carveF f x s) x i)) 87)] ++ HS0) w) 0 ⟨Nat.zero_le _, hl.addE (t := 10) (hk) rfl (by first | rfl), hh2⟩ ?_
          clear hk hh2 hl hh a w
          intro i a w hI
          obtain ⟨hi, hl, hh⟩ := hI
          subst hKS0; subst hHS0
          simp only [List.cons_append, List.nil_append] at hl hh
          refine c_seq ?_
          refine c_seq ?_
          refine c_region ?_
          refine wl (wl_val hl rfl trivial (r_move hl rfl) ?_)
          clear hl a; intro a hl
          refine wl (wl_val hl rfl trivial (r_move hl rfl) ?_)
          clear hl a; intro a hl
          refine wl (wl_val hl rfl trivial (r_lss hl rfl rfl) ?_)
          clear hl a; intro a hl
          refine w_nil ?_
          have hl2 := hl.add (t := 0) (hl.add (t := 6) (hl.add (t := 9) (hl.add (t := 10) (hl.add (t := 106) (hl.nil) rfl) rfl) rfl) rfl) rfl; clear hl; have hl := hl2; clear hl2
          refine then_normal ?_
          refine c_cond hl rfl ?_ ?_
          · intro hc3
            try simp only [decide_eq_true_eq, decide_eq_false_iff_not, Bool.not_eq_true', Bool.not_eq_false', Bool.not_eq_true, Bool.not_eq_false, Bool.and_eq_true, Bool.or_eq_true, Bool.and_eq_false_iff, Bool.or_eq_false_iff, Bool.not_not, ne_eq, Int.not_lt, Int.not_le, Decidable.not_not, beq_iff_eq, bne_iff_ne] at hc3
            have hgi : gen (genTo (carveF f x s) x i) (x + i) = gen f (x + i) := by rw [gen_genTo _ _ _ _ (by omega), if_neg (by omega), gen_carveF _ _ _ _ (by omega) (by omega) (by omega)]
            have hgb := hgen (x + i) (by omega) (by omega)
            refine wp_skip ?_
            refine then_normal ?_
            refine c_seq ?_
            refine wp_block ?_
            refine c_draw [(b, C (encL (genTo (carveF f x s) x i)) 87)] [13, 14, 15] mixed hh ?_
            clear hh w; intro w hh
            have hM : Mem [(b, C (encL (genTo (carveF f x s) x i)) 87)] w := (by repeat (first | exact Mem.nil | refine Mem.cons hh.mem (by repeat (first | exact find_head | apply find_tail)) ?_ | refine Mem.consR hh (by assumption) (by simp) ?_))
            refine d_take (i := 0) hl rfl (by kernel_rfl) (by kernel_rfl) (by kernel_rfl) (by kernel_rfl) (by kernel_rfl) rfl trivial (fun _ _ _ h => h) hM (fun w hC => r_move hl rfl) rfl ?_
            clear hl a; intro a hl
            refine d_take (i := 1) hl rfl (by kernel_rfl) (by kernel_rfl) (by kernel_rfl) (by kernel_rfl) (by kernel_rfl) rfl trivial (fun _ _ _ h => h) hM (fun w hC => r_move hl rfl) rfl ?_
            clear hl a; intro a hl
            refine d_take (i := 2) hl rfl (by kernel_rfl) (by kernel_rfl) (by kernel_rfl) (by kernel_rfl) (by kernel_rfl) rfl trivial (fun _ _ _ h => h) hM (fun w hC => r_move hl rfl) rfl ?_
            clear hl a; intro a hl
            first | refine d_take (i := 3) hl rfl (by kernel_rfl) (by kernel_rfl) (by kernel_rfl) (by kernel_rfl) (by kernel_rfl) rfl trivial (fun _ _ _ h => h) hM (fun w hC => r_conv hl rfl Try.underlying3 Try.underlying34 (by simp only [Fits]; omega)) rfl ?_ | refine d_take (i := 3) hl rfl (by kernel_rfl) (by kernel_rfl) (by kernel_rfl) (by kernel_rfl) (by kernel_rfl) rfl trivial (fun _ _ _ h => h) hM (fun w hC => r_convW hl rfl Try.underlying3 Try.underlying34) rfl ?_
            clear hl a; intro a hl
            first | refine d_take (i := 4) hl rfl (by kernel_rfl) (by kernel_rfl) (by kernel_rfl) (by kernel_rfl) (by kernel_rfl) rfl trivial (fun _ _ _ h => h) hM (fun w hC => r_add hl rfl rfl (by simp only [Fits]; omega)) rfl ?_ | refine d_take (i := 4) hl rfl (by kernel_rfl) (by kernel_rfl) (by kernel_rfl) (by kernel_rfl) (by kernel_rfl) rfl trivial (fun _ _ _ h => h) hM (fun w hC => r_addW hl rfl rfl) rfl ?_
            clear hl a; intro a hl
            refine d_take (i := 5) hl rfl (by kernel_rfl) (by kernel_rfl) (by kernel_rfl) (by kernel_rfl) (by kernel_rfl) rfl trivial (fun _ _ _ h => h) hM (fun w hC => r_nilCheck hl rfl) rfl ?_
            clear hl a; intro a hl
            refine d_take (i := 6) hl rfl (by kernel_rfl) (by kernel_rfl) (by kernel_rfl) (by kernel_rfl) (by kernel_rfl) rfl trivial (fun _ _ _ h => h) hM (fun w hC => r_field hl rfl fld87_1) rfl ?_
            clear hl a; intro a hl
            refine d_take (i := 7) hl rfl (by kernel_rfl) (by kernel_rfl) (by kernel_rfl) (by kernel_rfl) (by kernel_rfl) rfl trivial (fun _ _ _ h => h) hM (fun w hC => r_indexA hl rfl rfl arr84 (by omega) (by omega) (by first | (simp only [Int.reduceToNat]; rfl) | exact toNat_add1 _ | exact toNat_add2 _ _ | exact toNat_emod _ _ | exact Int.toNat_natCast _ | rfl)) rfl ?_
            clear hl a; intro a hl
            refine d_take (i := 8) hl rfl (by kernel_rfl) (by kernel_rfl) (by kernel_rfl) (by kernel_rfl) (by kernel_rfl) rfl trivial (fun _ _ _ h => h) hM (fun w hC => r_field hl rfl fld83_0) rfl ?_
            clear hl a; intro a hl
            refine d_take (i := 9) hl rfl (by kernel_rfl) (by kernel_rfl) (by kernel_rfl) (by kernel_rfl) (by kernel_rfl) rfl trivial (fun _ _ _ h => h) hM (fun w hC => r_loadC hl rfl one27 hC (by repeat (first | exact find_head | apply find_tail)) (by exact cell_gen _ _ (by omega))) rfl ?_
            clear hl a; intro a hl
            try simp (disch := omega) only [word_setGen, word_setNxt, word_setSz, word_setRole, word_setLst, word_setFresh, word_setBoot, word_setCnNil, word_setCnLive, word_setCnFree, word_setCnSpent, word_setCnUnt, word_paintTo, word_genTo, gen_setWord, gen_setNxt, gen_setSz, gen_setRole, gen_setLst, gen_setFresh, gen_setBoot, gen_setCnNil, gen_setCnLive, gen_setCnFree, gen_setCnSpent, gen_setCnUnt, gen_paintTo, nxt_setWord, nxt_setGen, nxt_setSz, nxt_setRole, nxt_setLst, nxt_setFresh, nxt_setBoot, nxt_setCnNil, nxt_setCnLive, nxt_setCnFree, nxt_setCnSpent, nxt_setCnUnt, nxt_paintTo, nxt_genTo, sz_setWord, sz_setGen, sz_setNxt, sz_setRole, sz_setLst, sz_setFresh, sz_setBoot, sz_setCnNil, sz_setCnLive, sz_setCnFree, sz_setCnSpent, sz_setCnUnt, sz_paintTo, sz_genTo, role_setWord, role_setGen, role_setNxt, role_setSz, role_setLst, role_setFresh, role_setBoot, role_setCnNil, role_setCnLive, role_setCnFree, role_setCnSpent, role_setCnUnt, role_genTo, lst_setWord, lst_setGen, lst_setNxt, lst_setSz, lst_setRole, lst_setFresh, lst_setBoot, lst_setCnNil, lst_setCnLive, lst_setCnFree, lst_setCnSpent, lst_setCnUnt, lst_paintTo, lst_genTo, fresh_setWord, fresh_setGen, fresh_setNxt, fresh_setSz, fresh_setRole, fresh_setLst, fresh_setBoot, fresh_setCnNil, fresh_setCnLive, fresh_setCnFree, fresh_setCnSpent, fresh_setCnUnt, fresh_setFresh, fresh_paintTo, fresh_genTo, boot_setWord, boot_setGen, boot_setNxt, boot_setSz, boot_setRole, boot_setLst, boot_setFresh, boot_setCnNil, boot_setCnLive, boot_setCnFree, boot_setCnSpent, boot_setCnUnt, boot_setBoot, boot_paintTo, boot_genTo, cnNil_setWord, cnNil_setGen, cnNil_setNxt, cnNil_setSz, cnNil_setRole, cnNil_setLst, cnNil_setFresh, cnNil_setBoot, cnNil_setCnLive, cnNil_setCnFree, cnNil_setCnSpent, cnNil_setCnUnt, cnNil_setCnNil, cnNil_paintTo, cnNil_genTo, cnLive_setWord, cnLive_setGen, cnLive_setNxt, cnLive_setSz, cnLive_setRole, cnLive_setLst, cnLive_setFresh, cnLive_setBoot, cnLive_setCnNil, cnLive_setCnFree, cnLive_setCnSpent, cnLive_setCnUnt, cnLive_setCnLive, cnLive_paintTo, cnLive_genTo, cnFree_setWord, cnFree_setGen, cnFree_setNxt, cnFree_setSz, cnFree_setRole, cnFree_setLst, cnFree_setFresh, cnFree_setBoot, cnFree_setCnNil, cnFree_setCnLive, cnFree_setCnSpent, cnFree_setCnUnt, cnFree_setCnFree, cnFree_paintTo, cnFree_genTo, cnSpent_setWord, cnSpent_setGen, cnSpent_setNxt, cnSpent_setSz, cnSpent_setRole, cnSpent_setLst, cnSpent_setFresh, cnSpent_setBoot, cnSpent_setCnNil, cnSpent_setCnLive, cnSpent_setCnFree, cnSpent_setCnUnt, cnSpent_setCnSpent, cnSpent_paintTo, cnSpent_genTo, cnUnt_setWord, cnUnt_setGen, cnUnt_setNxt, cnUnt_setSz, cnUnt_setRole, cnUnt_setLst, cnUnt_setFresh, cnUnt_setBoot, cnUnt_setCnNil, cnUnt_setCnLive, cnUnt_setCnFree, cnUnt_setCnSpent, cnUnt_setCnUnt, cnUnt_paintTo, cnUnt_genTo, word_popF, gen_popF, sz_popF, role_popF, fresh_popF, boot_popF, cnNil_popF, cnLive_popF, cnSpent_popF, cnUnt_popF, word_carveF, gen_carveF, nxt_carveF, role_carveF, lst_carveF, boot_carveF, cnNil_carveF, cnLive_carveF, cnFree_carveF, cnSpent_carveF] at hl
            try rw [hfin] at hl
            first | refine d_take (i := 10) hl rfl (by kernel_rfl) (by kernel_rfl) (by kernel_rfl) (by kernel_rfl) (by kernel_rfl) rfl trivial (fun _ _ _ h => h) hM (fun w hC => r_add hl rfl rfl (by simp only [Fits]; omega)) rfl ?_ | refine d_take (i := 10) hl rfl (by kernel_rfl) (by kernel_rfl) (by kernel_rfl) (by kernel_rfl) (by kernel_rfl) rfl trivial (fun _ _ _ h => h) hM (fun w hC => r_addW hl rfl rfl) rfl ?_
            clear hl a; intro a hl
            refine d_take (i := 11) hl rfl (by kernel_rfl) (by kernel_rfl) (by kernel_rfl) (by kernel_rfl) (by kernel_rfl) rfl trivial (fun _ _ _ h => h) hM (fun w hC => r_nilCheck hl rfl) rfl ?_
            clear hl a; intro a hl
            refine d_take (i := 12) hl rfl (by kernel_rfl) (by kernel_rfl) (by kernel_rfl) (by kernel_rfl) (by kernel_rfl) rfl trivial (fun _ _ _ h => h) hM (fun w hC => r_field hl rfl fld87_1) rfl ?_
            clear hl a; intro a hl
            refine d_takeL (i := 13) hl rfl (by kernel_rfl) (by kernel_rfl) (by kernel_rfl) (by kernel_rfl) (by kernel_rfl) rfl trivial (fun _ _ _ h => h) (fun w => r_indexA hl rfl rfl arr84 (by omega) (by omega) (by first | (simp only [Int.reduceToNat]; rfl) | exact toNat_add1 _ | exact toNat_add2 _ _ | exact toNat_emod _ _ | exact Int.toNat_natCast _ | rfl)) rfl ?_
            clear hl a; intro a hl
            refine d_takeL (i := 14) hl rfl (by kernel_rfl) (by kernel_rfl) (by kernel_rfl) (by kernel_rfl) (by kernel_rfl) rfl trivial (fun _ _ _ h => h) (fun w => r_field hl rfl fld83_0) rfl ?_
            clear hl a; intro a hl
            refine d_one (i := 15) (by kernel_rfl) rfl ?_
            try clear hM
            refine id (w_store hl hh trivial one27 rfl rfl (by repeat (first | exact find_head | apply find_tail)) (by rw [encL_length]; omega) (by first | rfl | (apply Row.one; assumption)) (by exact st_gen _ _ _ (by omega)) ?_)
            clear hh w; intro w hh
            refine d_step (fun h => absurd h (by decide)) ?_
            refine d_done (by kernel_rfl) ?_
            try clear hM
            have hl2 := hl.add (t := 0) (hl.add (t := 6) (hl.add (t := 9) (hl.add (t := 10) (hl.nil) rfl) rfl) rfl) rfl; clear hl; have hl := hl2; clear hl2
            refine blk_normal ?_
            refine then_normal ?_
            refine c_region ?_
            refine wl (wl_val hl rfl trivial (r_move hl rfl) ?_)
            clear hl a; intro a hl
            first | refine wl (wl_val hl rfl trivial (r_add hl rfl rfl (by simp only [Fits]; omega)) ?_) | refine wl (wl_val hl rfl trivial (r_addW hl rfl rfl) ?_)
            clear hl a; intro a hl
            refine wl (wl_val hl rfl trivial (r_assign hl rfl) ?_)
            clear hl a; intro a hl
            refine w_nil ?_
            have hl2 := hl.add (t := 0) (hl.add (t := 6) (hl.add (t := 9) (hl.add (t := 10) (hl.nil) rfl) rfl) rfl) rfl; clear hl; have hl := hl2; clear hl2
            refine then_normal ?_
            refine ⟨i + 1, (by omega), by omega, hl.addE (t := 10) (hl.addE (t := 0) (hl.addE (t := 6) (hl.addE (t := 9) (hl.nil) rfl (by first | rfl | (congr 1; omega))) rfl (by first | rfl | (congr 1; omega))) rfl (by first | rfl | (congr 1; omega))) rfl (by first | rfl | (congr 1; omega)), hh.keep (by repeat (first | exact keeps_nil | apply keeps_cons (by repeat (first | exact find_head | apply find_tail)) (by first  | exact congrArg (fun q => C (encL q) 87) (genTo_succ _ x i (by omega)) | rfl) | exact keeps_self | apply keeps_mv))⟩
          · intro hc3
            try simp only [decide_eq_true_eq, decide_eq_false_iff_not, Bool.not_eq_true', Bool.not_eq_false', Bool.not_eq_true, Bool.not_eq_false, Bool.and_eq_true, Bool.or_eq_true, Bool.and_eq_false_iff, Bool.or_eq_false_iff, Bool.not_not, ne_eq, Int.not_lt, Int.not_le, Decidable.not_not, beq_iff_eq, bne_iff_ne] at hc3
            have his : s = i := by omega
            subst his
            refine wp_exit ?_
            refine then_exit ?_
            refine then_exit ?_
            refine blk_exit ?_
            refine then_normal ?_
            refine c_seq ?_
            refine c_region ?_
            refine wl (wl_val hl rfl trivial (r_move hl rfl) ?_)
            clear hl a; intro a hl
            refine wl (wl_val hl rfl trivial (r_move hl rfl) ?_)
            clear hl a; intro a hl
            refine wl (wl_val hl rfl trivial (r_move hl rfl) ?_)
            clear hl a; intro a hl
            refine wl (w_call hl hh rfl trivial rfl cal43 rfl (paint_spec _ _ _ _ _ _ (by omega) (by omega)) (by repeat (first | exact keeps_nil | apply keeps_cons (by repeat (first | exact find_head | apply find_tail)) (by first  | rfl) | exact keeps_self | apply keeps_mv)) trivial ?_)
            clear hl hh a w; intro vc Fc a w hR hl hh
            obtain ⟨rfl, rfl⟩ := hR
            simp only [List.cons_append, List.nil_append] at hh
            refine w_nil ?_
            have hl2 := hl.add (t := 0) (hl.add (t := 6) (hl.add (t := 9) (hl.nil) rfl) rfl) rfl; clear hl; have hl := hl2; clear hl2
            refine then_normal ?_
            refine c_seq ?_
            refine c_region ?_
            refine wl (wl_val hl rfl trivial (r_move hl rfl) ?_)
            clear hl a; intro a hl
            refine wl (wl_val hl rfl trivial (r_nilCheck hl rfl) ?_)
            clear hl a; intro a hl
            refine wl (wl_val hl rfl trivial (r_field hl rfl fld87_5) ?_)
            clear hl a; intro a hl
            refine wl (wl_val hl rfl trivial (r_field hl rfl fld47_1) ?_)
            clear hl a; intro a hl
            refine wl (w_load hl hh rfl trivial one3 rfl (by repeat (first | exact find_head | apply find_tail)) (by exact cell_cnLive _) ?_)
            clear hl a; intro a hl
            try simp (disch := omega) only [word_setGen, word_setNxt, word_setSz, word_setRole, word_setLst, word_setFresh, word_setBoot, word_setCnNil, word_setCnLive, word_setCnFree, word_setCnSpent, word_setCnUnt, word_paintTo, word_genTo, gen_setWord, gen_setNxt, gen_setSz, gen_setRole, gen_setLst, gen_setFresh, gen_setBoot, gen_setCnNil, gen_setCnLive, gen_setCnFree, gen_setCnSpent, gen_setCnUnt, gen_paintTo, nxt_setWord, nxt_setGen, nxt_setSz, nxt_setRole, nxt_setLst, nxt_setFresh, nxt_setBoot, nxt_setCnNil, nxt_setCnLive, nxt_setCnFree, nxt_setCnSpent, nxt_setCnUnt, nxt_paintTo, nxt_genTo, sz_setWord, sz_setGen, sz_setNxt, sz_setRole, sz_setLst, sz_setFresh, sz_setBoot, sz_setCnNil, sz_setCnLive, sz_setCnFree, sz_setCnSpent, sz_setCnUnt, sz_paintTo, sz_genTo, role_setWord, role_setGen, role_setNxt, role_setSz, role_setLst, role_setFresh, role_setBoot, role_setCnNil, role_setCnLive, role_setCnFree, role_setCnSpent, role_setCnUnt, role_genTo, lst_setWord, lst_setGen, lst_setNxt, lst_setSz, lst_setRole, lst_setFresh, lst_setBoot, lst_setCnNil, lst_setCnLive, lst_setCnFree, lst_setCnSpent, lst_setCnUnt, lst_paintTo, lst_genTo, fresh_setWord, fresh_setGen, fresh_setNxt, fresh_setSz, fresh_setRole, fresh_setLst, fresh_setBoot, fresh_setCnNil, fresh_setCnLive, fresh_setCnFree, fresh_setCnSpent, fresh_setCnUnt, fresh_setFresh, fresh_paintTo, fresh_genTo, boot_setWord, boot_setGen, boot_setNxt, boot_setSz, boot_setRole, boot_setLst, boot_setFresh, boot_setCnNil, boot_setCnLive, boot_setCnFree, boot_setCnSpent, boot_setCnUnt, boot_setBoot, boot_paintTo, boot_genTo, cnNil_setWord, cnNil_setGen, cnNil_setNxt, cnNil_setSz, cnNil_setRole, cnNil_setLst, cnNil_setFresh, cnNil_setBoot, cnNil_setCnLive, cnNil_setCnFree, cnNil_setCnSpent, cnNil_setCnUnt, cnNil_setCnNil, cnNil_paintTo, cnNil_genTo, cnLive_setWord, cnLive_setGen, cnLive_setNxt, cnLive_setSz, cnLive_setRole, cnLive_setLst, cnLive_setFresh, cnLive_setBoot, cnLive_setCnNil, cnLive_setCnFree, cnLive_setCnSpent, cnLive_setCnUnt, cnLive_setCnLive, cnLive_paintTo, cnLive_genTo, cnFree_setWord, cnFree_setGen, cnFree_setNxt, cnFree_setSz, cnFree_setRole, cnFree_setLst, cnFree_setFresh, cnFree_setBoot, cnFree_setCnNil, cnFree_setCnLive, cnFree_setCnSpent, cnFree_setCnUnt, cnFree_setCnFree, cnFree_paintTo, cnFree_genTo, cnSpent_setWord, cnSpent_setGen, cnSpent_setNxt, cnSpent_setSz, cnSpent_setRole, cnSpent_setLst, cnSpent_setFresh, cnSpent_setBoot, cnSpent_setCnNil, cnSpent_setCnLive, cnSpent_setCnFree, cnSpent_setCnUnt, cnSpent_setCnSpent, cnSpent_paintTo, cnSpent_genTo, cnUnt_setWord, cnUnt_setGen, cnUnt_setNxt, cnUnt_setSz, cnUnt_setRole, cnUnt_setLst, cnUnt_setFresh, cnUnt_setBoot, cnUnt_setCnNil, cnUnt_setCnLive, cnUnt_setCnFree, cnUnt_setCnSpent, cnUnt_setCnUnt, cnUnt_paintTo, cnUnt_genTo, word_popF, gen_popF, sz_popF, role_popF, fresh_popF, boot_popF, cnNil_popF, cnLive_popF, cnSpent_popF, cnUnt_popF, word_carveF, gen_carveF, nxt_carveF, role_carveF, lst_carveF, boot_carveF, cnNil_carveF, cnLive_carveF, cnFree_carveF, cnSpent_carveF] at hl
            try rw [hfin] at hl
            refine wl (wl_val hl rfl trivial (r_move hl rfl) ?_)
            clear hl a; intro a hl
            first | refine wl (wl_val hl rfl trivial (r_add hl rfl rfl (by simp only [Fits]; omega)) ?_) | refine wl (wl_val hl rfl trivial (r_addW hl rfl rfl) ?_)
            clear hl a; intro a hl
            refine wl (wl_val hl rfl trivial (r_nilCheck hl rfl) ?_)
            clear hl a; intro a hl
            refine wl (wl_val hl rfl trivial (r_field hl rfl fld87_5) ?_)
            clear hl a; intro a hl
            refine wl (wl_val hl rfl trivial (r_field hl rfl fld47_1) ?_)
            clear hl a; intro a hl
            refine wl (w_store hl hh trivial one3 rfl rfl (by repeat (first | exact find_head | apply find_tail)) (by rw [encL_length]; omega) (by first | rfl | (apply Row.one; assumption)) (by exact st_cnLive _ _) ?_)
            clear hh w; intro w hh
            refine w_nil ?_
            have hl2 := hl.add (t := 0) (hl.add (t := 9) (hl.nil) rfl) rfl; clear hl; have hl := hl2; clear hl2
            refine then_normal ?_
            refine c_seq ?_
            refine c_region ?_
            refine wl (wl_val hl rfl trivial (r_move hl rfl) ?_)
            clear hl a; intro a hl
            refine wl (wl_val hl rfl trivial (r_move hl rfl) ?_)
            clear hl a; intro a hl
            refine wl (wl_val hl rfl trivial (r_move hl rfl) ?_)
            clear hl a; intro a hl
            refine wl (wl_val hl rfl trivial (r_nilCheck hl rfl) ?_)
            clear hl a; intro a hl
            refine wl (wl_val hl rfl trivial (r_field hl rfl fld87_1) ?_)
            clear hl a; intro a hl
            refine wl (wl_val hl rfl trivial (r_indexA hl rfl rfl arr84 (by omega) (by omega) (by first | (simp only [Int.reduceToNat]; rfl) | exact toNat_add1 _ | exact toNat_add2 _ _ | exact toNat_emod _ _ | exact Int.toNat_natCast _ | rfl)) ?_)
            clear hl a; intro a hl
            refine wl (wl_val hl rfl trivial (r_field hl rfl fld83_0) ?_)
            clear hl a; intro a hl
            refine wl (w_load hl hh rfl trivial one27 rfl (by repeat (first | exact find_head | apply find_tail)) (by exact cell_gen _ _ (by omega)) ?_)
            clear hl a; intro a hl
            try simp (disch := omega) only [word_setGen, word_setNxt, word_setSz, word_setRole, word_setLst, word_setFresh, word_setBoot, word_setCnNil, word_setCnLive, word_setCnFree, word_setCnSpent, word_setCnUnt, word_paintTo, word_genTo, gen_setWord, gen_setNxt, gen_setSz, gen_setRole, gen_setLst, gen_setFresh, gen_setBoot, gen_setCnNil, gen_setCnLive, gen_setCnFree, gen_setCnSpent, gen_setCnUnt, gen_paintTo, nxt_setWord, nxt_setGen, nxt_setSz, nxt_setRole, nxt_setLst, nxt_setFresh, nxt_setBoot, nxt_setCnNil, nxt_setCnLive, nxt_setCnFree, nxt_setCnSpent, nxt_setCnUnt, nxt_paintTo, nxt_genTo, sz_setWord, sz_setGen, sz_setNxt, sz_setRole, sz_setLst, sz_setFresh, sz_setBoot, sz_setCnNil, sz_setCnLive, sz_setCnFree, sz_setCnSpent, sz_setCnUnt, sz_paintTo, sz_genTo, role_setWord, role_setGen, role_setNxt, role_setSz, role_setLst, role_setFresh, role_setBoot, role_setCnNil, role_setCnLive, role_setCnFree, role_setCnSpent, role_setCnUnt, role_genTo, lst_setWord, lst_setGen, lst_setNxt, lst_setSz, lst_setRole, lst_setFresh, lst_setBoot, lst_setCnNil, lst_setCnLive, lst_setCnFree, lst_setCnSpent, lst_setCnUnt, lst_paintTo, lst_genTo, fresh_setWord, fresh_setGen, fresh_setNxt, fresh_setSz, fresh_setRole, fresh_setLst, fresh_setBoot, fresh_setCnNil, fresh_setCnLive, fresh_setCnFree, fresh_setCnSpent, fresh_setCnUnt, fresh_setFresh, fresh_paintTo, fresh_genTo, boot_setWord, boot_setGen, boot_setNxt, boot_setSz, boot_setRole, boot_setLst, boot_setFresh, boot_setCnNil, boot_setCnLive, boot_setCnFree, boot_setCnSpent, boot_setCnUnt, boot_setBoot, boot_paintTo, boot_genTo, cnNil_setWord, cnNil_setGen, cnNil_setNxt, cnNil_setSz, cnNil_setRole, cnNil_setLst, cnNil_setFresh, cnNil_setBoot, cnNil_setCnLive, cnNil_setCnFree, cnNil_setCnSpent, cnNil_setCnUnt, cnNil_setCnNil, cnNil_paintTo, cnNil_genTo, cnLive_setWord, cnLive_setGen, cnLive_setNxt, cnLive_setSz, cnLive_setRole, cnLive_setLst, cnLive_setFresh, cnLive_setBoot, cnLive_setCnNil, cnLive_setCnFree, cnLive_setCnSpent, cnLive_setCnUnt, cnLive_setCnLive, cnLive_paintTo, cnLive_genTo, cnFree_setWord, cnFree_setGen, cnFree_setNxt, cnFree_setSz, cnFree_setRole, cnFree_setLst, cnFree_setFresh, cnFree_setBoot, cnFree_setCnNil, cnFree_setCnLive, cnFree_setCnSpent, cnFree_setCnUnt, cnFree_setCnFree, cnFree_paintTo, cnFree_genTo, cnSpent_setWord, cnSpent_setGen, cnSpent_setNxt, cnSpent_setSz, cnSpent_setRole, cnSpent_setLst, cnSpent_setFresh, cnSpent_setBoot, cnSpent_setCnNil, cnSpent_setCnLive, cnSpent_setCnFree, cnSpent_setCnUnt, cnSpent_setCnSpent, cnSpent_paintTo, cnSpent_genTo, cnUnt_setWord, cnUnt_setGen, cnUnt_setNxt, cnUnt_setSz, cnUnt_setRole, cnUnt_setLst, cnUnt_setFresh, cnUnt_setBoot, cnUnt_setCnNil, cnUnt_setCnLive, cnUnt_setCnFree, cnUnt_setCnSpent, cnUnt_setCnUnt, cnUnt_paintTo, cnUnt_genTo, word_popF, gen_popF, sz_popF, role_popF, fresh_popF, boot_popF, cnNil_popF, cnLive_popF, cnSpent_popF, cnUnt_popF, word_carveF, gen_carveF, nxt_carveF, role_carveF, lst_carveF, boot_carveF, cnNil_carveF, cnLive_carveF, cnFree_carveF, cnSpent_carveF] at hl
            try rw [hfin] at hl
            refine wl (w_call hl hh rfl trivial rfl cal40 rfl (makeRef_spec x y (by omega) (by omega)) (by repeat (first | exact keeps_nil | apply keeps_cons (by repeat (first | exact find_head | apply find_tail)) (by first  | rfl) | exact keeps_self | apply keeps_mv)) trivial ?_)
            clear hl hh a w; intro vc Fc a w hR hl hh
            obtain ⟨rfl, rfl⟩ := hR
            simp only [List.cons_append, List.nil_append] at hh
            refine wl (wl_val hl rfl trivial (r_assign hl rfl) ?_)
            clear hl a; intro a hl
            refine wl (wl_val hl rfl trivial (r_assign hl rfl) ?_)
            clear hl a; intro a hl
            refine w_nil ?_
            have hl2 := hl.add (t := 4) (hl.add (t := 5) (hl.nil) rfl) rfl; clear hl; have hl := hl2; clear hl2
            refine then_normal ?_
            refine wp_ret ?_
            refine f_ret2 (F' := [(b, C (encL (handF (carveF f x s) x s)) 87)]) hl hh rfl rfl rfl (by repeat (first | exact keeps_nil | apply keeps_cons (by repeat (first | exact find_head | apply find_tail)) (by first  | exact congrArg (fun q => C (encL q) 87) (by unfold handF; rw [cnLive_carveF _ _ _ (by omega) (by omega)]) | rfl) | exact keeps_self | apply keeps_mv)) ?_
            exact ⟨rfl, rfl⟩
        · intro hc2
          try simp only [decide_eq_true_eq, decide_eq_false_iff_not, Bool.not_eq_true', Bool.not_eq_false', Bool.not_eq_true, Bool.not_eq_false, Bool.and_eq_true, Bool.or_eq_true, Bool.and_eq_false_iff, Bool.or_eq_false_iff, Bool.not_not, ne_eq, Int.not_lt, Int.not_le, Decidable.not_not, beq_iff_eq, bne_iff_ne] at hc2
          exfalso; omega
      · intro hg1; clear hl; intro hl
        try simp only [decide_eq_true_eq, decide_eq_false_iff_not, Bool.not_eq_true', Bool.not_eq_false', Bool.not_eq_true, Bool.not_eq_false, Bool.and_eq_true, Bool.or_eq_true, Bool.and_eq_false_iff, Bool.or_eq_false_iff, Bool.not_not, ne_eq, Int.not_lt, Int.not_le, Decidable.not_not, beq_iff_eq, bne_iff_ne] at hg1
        exfalso; omega
end Go.Proofs.Qxb6500913a

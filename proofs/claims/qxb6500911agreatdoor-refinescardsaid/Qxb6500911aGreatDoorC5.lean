import Derived.Test.Qxb6500911aGreatDoorC2
namespace Go.Proofs.Qxb6500911aGreatDoor
open Go.Eng
set_option linter.unusedVariables false
set_option linter.unusedSimpArgs false

structure PZ4 where
  d : Array Eg
  i : Nat
  s : Nat
theorem pi_eq {d : Array Eg} {lo hi s i u : Nat} (hu : Sort.scanSorted egB d hi i = u) : Sort.partialIns egB lo hi (s + 1) i d = if u = hi then (d, true) else if hi - lo < 50 then (d, false) else Sort.partialIns egB lo hi s u (if hi - u ≥ 2 then Sort.shiftUp egB hi (u + 1) (if u - lo ≥ 2 then Sort.shiftDown egB (u - 1) (Sort.swp d u (u - 1)) else Sort.swp d u (u - 1)) else (if u - lo ≥ 2 then Sort.shiftDown egB (u - 1) (Sort.swp d u (u - 1)) else Sort.swp d u (u - 1))) := by
  rw [Sort.partialIns]
  simp only [hu]

set_option maxHeartbeats 8000000 in
theorem pins_spec {b Bs n c : Nat} {th : Value} {sL junk : List Value} {d : Array Eg} (hE : SE b Bs n c th sL d) (lo hi : Nat) (hab : lo < hi) (hhi : hi ≤ n) : Sp Tryz.prog 111 #[.agg ⟨[lessV Bs, swapV b n c th]⟩, .int .i64 (lo : Int), .int .i64 (hi : Int)] [(b, C (fl egc d.toList ++ junk) 102), (Bs, C sL 46)] (fun v F' => v = .bool (Sort.partialInsertionSort egB d lo hi).2 ∧ F' = [(b, C (fl egc (Sort.partialInsertionSort egB d lo hi).1.toList ++ junk) 102), (Bs, C sL 46)] ∧ (Sort.partialInsertionSort egB d lo hi).1.size = n) := by
  refine f_enter (args := [.agg ⟨[lessV Bs, swapV b n c th]⟩, .int .i64 (lo : Int), .int .i64 (hi : Int)]) Tryz.func111 rfl Tryz.ntmps111 rfl ?_
  intro w0 w a hpre hl hh
  have hsz := hE.sz
  have hbig := hE.big
  simp only [slotsFrom, Nat.reduceAdd] at hl
  refine c_seq ?_
  refine c_region ?_
  refine wl (w_box hl hh rfl trivial rfl rfl ?_)
  clear hl hh a w; intro k3 a w hl hh
  refine wl (wl_val hl rfl trivial (r_assign hl rfl) ?_)
  clear hl a; intro a hl
  refine w_nil ?_
  have hl2 := hl.add (t := 1) (hl.add (t := 2) (hl.add (t := 3) (hl.nil) rfl) rfl) rfl; clear hl; have hl := hl2; clear hl2
  refine then_normal ?_
  refine c_seq ?_
  refine c_region ?_
  refine wl (wl_val hl rfl trivial (r_move hl rfl) ?_)
  clear hl a; intro a hl
  first | refine wl (wl_val hl rfl trivial (r_add hl rfl rfl (by simp only [Fits]; omega)) ?_) | refine wl (wl_val hl rfl trivial (r_addW hl rfl rfl) ?_)
  clear hl a; intro a hl
  refine wl (wl_val hl rfl trivial (r_assign hl rfl) ?_)
  clear hl a; intro a hl
  refine w_nil ?_
  have hl2 := hl.add (t := 1) (hl.add (t := 2) (hl.add (t := 3) (hl.add (t := 7) (hl.nil) rfl) rfl) rfl) rfl; clear hl; have hl := hl2; clear hl2
  refine then_normal ?_
  refine c_seq ?_
  refine c_seq ?_
  refine c_region ?_
  refine wl (wl_val hl rfl trivial (r_assign hl rfl) ?_)
  clear hl a; intro a hl
  refine w_nil ?_
  have hl2 := hl.add (t := 1) (hl.add (t := 2) (hl.add (t := 3) (hl.add (t := 7) (hl.add (t := 8) (hl.nil) rfl) rfl) rfl) rfl) rfl; clear hl; have hl := hl2; clear hl2
  refine then_normal ?_
  refine wp_block ?_
  obtain ⟨KS0, hKS0, hk⟩ := (hl.add (t := 1) (hl.add (t := 2) (hl.add (t := 3) (hl.nil) rfl) rfl) rfl).name
  obtain ⟨HS0, hHS0, hh2⟩ := hh.name (keeps_cons (b := b) (o' := C (fl egc d.toList ++ junk) 102) (by repeat (first | exact find_head | apply find_tail | apply find_skip)) (by first | rfl) (keeps_nil))
  refine c_loop (α := PZ4) (fun z => z.s) (fun z a w => (z.d.size = n ∧ (lo + 1 ≤ z.i ∧ z.i ≤ hi ∧ z.s ≤ 5) ∧ Sort.partialIns egB lo hi z.s z.i z.d = Sort.partialInsertionSort egB d lo hi) ∧ Sl 91 ([(7, .int .i64 (z.i : Int)), (8, .int .i64 (5 - (z.s : Int)))] ++ KS0) a ∧ Has _ w0 ([(b, C (fl egc z.d.toList ++ junk) 102)] ++ HS0) w) ⟨d, lo + 1, 5⟩ ⟨⟨hE.sz, ⟨Nat.le_refl _, hab, Nat.le_refl _⟩, rfl⟩, hl.addE (t := 7) (hl.addE (t := 8) (hk) rfl (by first | exact congrArg (Value.int .i64) (by first | omega | (simp only; omega)) | rfl)) rfl (by first | exact congrArg (Value.int .i64) (by first | omega | (simp only; omega)) | rfl), hh2⟩ ?_
  clear hk hh2 hl hh a w
  intro z a w hI
  obtain ⟨⟨hz2, hz1, hz3⟩, hl, hh⟩ := hI
  subst hKS0; subst hHS0
  simp only [List.cons_append, List.nil_append, List.append_nil, List.append_assoc] at hl hh
  refine c_seq ?_
  refine c_seq ?_
  refine c_region ?_
  refine wl (wl_val hl rfl trivial (r_move hl rfl) ?_)
  clear hl a; intro a hl
  refine wl (wl_val hl rfl trivial (r_lss hl rfl rfl) ?_)
  clear hl a; intro a hl
  refine w_nil ?_
  have hl2 := hl.add (t := 1) (hl.add (t := 2) (hl.add (t := 3) (hl.add (t := 7) (hl.add (t := 8) (hl.add (t := 14) (hl.nil) rfl) rfl) rfl) rfl) rfl) rfl; clear hl; have hl := hl2; clear hl2
  refine then_normal ?_
  refine c_cond hl rfl ?_ ?_
  · intro hc0
    try simp only [decide_eq_true_eq, decide_eq_false_iff_not, Bool.not_eq_true', Bool.not_eq_false', Bool.not_eq_true, Bool.not_eq_false, Bool.and_eq_true, Bool.or_eq_true, Bool.and_eq_false_iff, Bool.or_eq_false_iff, Bool.not_not, ne_eq, Int.not_lt, Int.not_le, Decidable.not_not, beq_iff_eq, bne_iff_ne] at hc0
    obtain ⟨s, hsv⟩ : ∃ s, z.s = s + 1 := ⟨z.s - 1, by omega⟩
    refine wp_skip ?_
    refine then_normal ?_
    refine c_seq ?_
    refine wp_block ?_
    refine c_seq ?_
    refine wp_block ?_
    obtain ⟨KS1, hKS1, hk⟩ := (hl.add (t := 1) (hl.add (t := 2) (hl.add (t := 3) (hl.add (t := 8) (hl.nil) rfl) rfl) rfl) rfl).name
    obtain ⟨HS1, hHS1, hh2⟩ := hh.name (keeps_nil)
    refine c_loop (α := Nat) (fun u => hi - u) (fun u a w => (z.i ≤ u ∧ u ≤ hi ∧ Sort.scanSorted egB z.d hi u = Sort.scanSorted egB z.d hi z.i) ∧ Sl 91 ([(7, .int .i64 (u : Int))] ++ KS1) a ∧ Has _ w0 ([] ++ HS1) w) z.i ⟨⟨Nat.le_refl _, by omega, rfl⟩, hl.addE (t := 7) (hk) rfl (by first | exact congrArg (Value.int .i64) (by first | omega | (simp only; omega)) | rfl), hh2⟩ ?_
    clear hk hh2 hl hh a w
    intro u a w hI
    obtain ⟨⟨hu1, hu2, hu3⟩, hl, hh⟩ := hI
    subst hKS1; subst hHS1
    simp only [List.cons_append, List.nil_append, List.append_nil, List.append_assoc] at hl hh
    refine c_seq ?_
    refine c_seq ?_
    refine c_region ?_
    refine wl (wl_val hl rfl trivial (r_move hl rfl) ?_)
    clear hl a; intro a hl
    refine wl (wl_val hl rfl trivial (r_move hl rfl) ?_)
    clear hl a; intro a hl
    refine wl (wl_val hl rfl trivial (r_lss hl rfl rfl) ?_)
    clear hl a; intro a hl
    refine wl (wl_val hl rfl trivial (r_move hl rfl) ?_)
    clear hl a; intro a hl
    refine sl_split (t := 20) hl rfl ?_ ?_
    · intro hg1; clear hl; intro hl
      try simp only [decide_eq_true_eq, decide_eq_false_iff_not, Bool.not_eq_true', Bool.not_eq_false', Bool.not_eq_true, Bool.not_eq_false, Bool.and_eq_true, Bool.or_eq_true, Bool.and_eq_false_iff, Bool.or_eq_false_iff, Bool.not_not, ne_eq, Int.not_lt, Int.not_le, Decidable.not_not, beq_iff_eq, bne_iff_ne] at hg1
      refine wl (wl_val hl rfl ⟨_, _, rfl, rfl, rfl⟩ (r_field hl rfl fld179_0) ?_)
      clear hl a; intro a hl
      refine wl (w_load hl hh rfl ⟨_, _, rfl, rfl, rfl⟩ one144 rfl (by repeat (first | exact find_head | apply find_tail | apply find_skip)) (by first | rfl) ?_)
      clear hl a; intro a hl
      refine wl (wl_val hl rfl ⟨_, _, rfl, rfl, rfl⟩ (r_move hl rfl) ?_)
      clear hl a; intro a hl
      refine wl (wl_val hl rfl ⟨_, _, rfl, rfl, rfl⟩ (r_move hl rfl) ?_)
      clear hl a; intro a hl
      first | refine wl (wl_val hl rfl ⟨_, _, rfl, rfl, rfl⟩ (r_sub hl rfl rfl (by simp only [Fits]; omega)) ?_) | refine wl (wl_val hl rfl ⟨_, _, rfl, rfl, rfl⟩ (r_subW hl rfl rfl) ?_)
      clear hl a; intro a hl
      refine wl (w_call hl hh rfl ⟨_, _, rfl, rfl, rfl⟩ rfl cal62 rfl (less_spec (hE.to hz2) _ _ u (u - 1) (by omega) (by omega) (by omega) (by omega)) (by repeat (first | exact keeps_nil | apply keeps_cons (by repeat (first | exact find_head | apply find_tail | apply find_skip)) (by first  | rfl) | exact keeps_self | exact keeps_left | apply keeps_app | apply keeps_mv | apply keeps_skip)) trivial ?_)
      clear hl hh a w; intro vc Fc a w hR hl hh
      obtain ⟨rfl, rfl⟩ := hR
      try simp only [List.cons_append, List.nil_append, List.append_assoc, List.append_nil] at hh
      refine wl (wl_val hl rfl ⟨_, _, rfl, rfl, rfl⟩ (r_not hl rfl) ?_)
      clear hl a; intro a hl
      refine wl (wl_val hl rfl trivial (r_pickT hl rfl rfl) ?_)
      clear hl a; intro a hl
      refine w_nil ?_
      have hl2 := hl.add (t := 1) (hl.add (t := 2) (hl.add (t := 3) (hl.add (t := 7) (hl.add (t := 8) (hl.add (t := 28) (hl.nil) rfl) rfl) rfl) rfl) rfl) rfl; clear hl; have hl := hl2; clear hl2
      refine then_normal ?_
      refine c_cond hl rfl ?_ ?_
      · intro hc1
        try simp only [decide_eq_true_eq, decide_eq_false_iff_not, Bool.not_eq_true', Bool.not_eq_false', Bool.not_eq_true, Bool.not_eq_false, Bool.and_eq_true, Bool.or_eq_true, Bool.and_eq_false_iff, Bool.or_eq_false_iff, Bool.not_not, ne_eq, Int.not_lt, Int.not_le, Decidable.not_not, beq_iff_eq, bne_iff_ne] at hc1
        refine wp_skip ?_
        refine then_normal ?_
        refine wp_block ?_
        refine c_region ?_
        refine wl (wl_val hl rfl trivial (r_move hl rfl) ?_)
        clear hl a; intro a hl
        first | refine wl (wl_val hl rfl trivial (r_add hl rfl rfl (by simp only [Fits]; omega)) ?_) | refine wl (wl_val hl rfl trivial (r_addW hl rfl rfl) ?_)
        clear hl a; intro a hl
        refine wl (wl_val hl rfl trivial (r_assign hl rfl) ?_)
        clear hl a; intro a hl
        refine w_nil ?_
        have hl2 := hl.add (t := 1) (hl.add (t := 2) (hl.add (t := 3) (hl.add (t := 7) (hl.add (t := 8) (hl.nil) rfl) rfl) rfl) rfl) rfl; clear hl; have hl := hl2; clear hl2
        refine blk_normal ?_
        refine then_normal ?_
        refine ⟨(u + 1), (by omega), ⟨by omega, by omega, by rw [← hu3]; exact (ss_go (by omega) (by assumption)).symm⟩, hl.addE (t := 7) (hl.addE (t := 1) (hl.addE (t := 2) (hl.addE (t := 3) (hl.addE (t := 8) (hl.nil) rfl (by first | rfl | exact congrArg (Value.int .i64) (by first | omega | (simp only; omega)))) rfl (by first | rfl | exact congrArg (Value.int .i64) (by first | omega | (simp only; omega)))) rfl (by first | rfl | exact congrArg (Value.int .i64) (by first | omega | (simp only; omega)))) rfl (by first | rfl | exact congrArg (Value.int .i64) (by first | omega | (simp only; omega)))) rfl (by first | rfl | exact congrArg (Value.int .i64) (by first | omega | (simp only; omega))), hh.keep (by repeat (first | exact keeps_nil | apply keeps_cons (by repeat (first | exact find_head | apply find_tail | apply find_skip)) (by first  | rfl) | exact keeps_self | exact keeps_left | apply keeps_app | apply keeps_mv | apply keeps_skip))⟩
      · intro hc1
        try simp only [decide_eq_true_eq, decide_eq_false_iff_not, Bool.not_eq_true', Bool.not_eq_false', Bool.not_eq_true, Bool.not_eq_false, Bool.and_eq_true, Bool.or_eq_true, Bool.and_eq_false_iff, Bool.or_eq_false_iff, Bool.not_not, ne_eq, Int.not_lt, Int.not_le, Decidable.not_not, beq_iff_eq, bne_iff_ne] at hc1
        have hue : Sort.scanSorted egB z.d hi z.i = u := by rw [← hu3]; exact ss_stop (fun h9 => by first | omega | (have h8 := h9.2; simp only [show egB z.d[u]! z.d[u - 1]! = true by assumption] at h8; cases h8))
        rw [hsv, pi_eq hue] at hz3
        refine wp_exit ?_
        refine then_exit ?_
        refine then_exit ?_
        refine blk_exit ?_
        refine then_normal ?_
        refine c_seq ?_
        refine c_seq ?_
        refine c_region ?_
        refine wl (wl_val hl rfl trivial (r_move hl rfl) ?_)
        clear hl a; intro a hl
        refine wl (wl_val hl rfl trivial (r_move hl rfl) ?_)
        clear hl a; intro a hl
        refine wl (wl_val hl rfl trivial (r_eql hl rfl rfl) ?_)
        clear hl a; intro a hl
        refine w_nil ?_
        have hl2 := hl.add (t := 1) (hl.add (t := 2) (hl.add (t := 3) (hl.add (t := 7) (hl.add (t := 8) (hl.add (t := 33) (hl.nil) rfl) rfl) rfl) rfl) rfl) rfl; clear hl; have hl := hl2; clear hl2
        refine then_normal ?_
        refine c_cond hl rfl ?_ ?_
        · intro hc2
          try simp only [decide_eq_true_eq, decide_eq_false_iff_not, Bool.not_eq_true', Bool.not_eq_false', Bool.not_eq_true, Bool.not_eq_false, Bool.and_eq_true, Bool.or_eq_true, Bool.and_eq_false_iff, Bool.or_eq_false_iff, Bool.not_not, ne_eq, Int.not_lt, Int.not_le, Decidable.not_not, beq_iff_eq, bne_iff_ne] at hc2
          rw [if_pos (by omega)] at hz3
          refine c_seq ?_
          refine c_region ?_
          refine wl (wl_val hl rfl trivial (r_assign hl rfl) ?_)
          clear hl a; intro a hl
          refine w_nil ?_
          have hl2 := hl.add (t := 6) (hl.nil) rfl; clear hl; have hl := hl2; clear hl2
          refine then_normal ?_
          refine wp_ret ?_
          refine then_ret ?_
          refine blk_ret ?_
          refine then_ret ?_
          refine then_ret ?_
          refine blk_ret ?_
          refine then_ret ?_
          refine f_ret1 (F' := [(b, C (fl egc z.d.toList ++ junk) 102), (Bs, C sL 46)]) hl hh rfl rfl (by repeat (first | exact keeps_nil | apply keeps_cons (by repeat (first | exact find_head | apply find_tail | apply find_skip)) (by first  | rfl) | exact keeps_self | exact keeps_left | apply keeps_app | apply keeps_mv | apply keeps_skip)) ?_
          rw [← hz3]
          exact ⟨rfl, rfl, hz2⟩
        · intro hc2
          try simp only [decide_eq_true_eq, decide_eq_false_iff_not, Bool.not_eq_true', Bool.not_eq_false', Bool.not_eq_true, Bool.not_eq_false, Bool.and_eq_true, Bool.or_eq_true, Bool.and_eq_false_iff, Bool.or_eq_false_iff, Bool.not_not, ne_eq, Int.not_lt, Int.not_le, Decidable.not_not, beq_iff_eq, bne_iff_ne] at hc2
          rw [if_neg (by omega)] at hz3
          refine wp_skip ?_
          refine then_normal ?_
          refine c_seq ?_
          refine c_seq ?_
          refine c_region ?_
          refine wl (wl_val hl rfl trivial (r_move hl rfl) ?_)
          clear hl a; intro a hl
          refine wl (wl_val hl rfl trivial (r_move hl rfl) ?_)
          clear hl a; intro a hl
          first | refine wl (wl_val hl rfl trivial (r_sub hl rfl rfl (by simp only [Fits]; omega)) ?_) | refine wl (wl_val hl rfl trivial (r_subW hl rfl rfl) ?_)
          clear hl a; intro a hl
          refine wl (wl_val hl rfl trivial (r_lss hl rfl rfl) ?_)
          clear hl a; intro a hl
          refine w_nil ?_
          have hl2 := hl.add (t := 1) (hl.add (t := 2) (hl.add (t := 3) (hl.add (t := 7) (hl.add (t := 8) (hl.add (t := 37) (hl.nil) rfl) rfl) rfl) rfl) rfl) rfl; clear hl; have hl := hl2; clear hl2
          refine then_normal ?_
          refine c_cond hl rfl ?_ ?_
          · intro hc3
            try simp only [decide_eq_true_eq, decide_eq_false_iff_not, Bool.not_eq_true', Bool.not_eq_false', Bool.not_eq_true, Bool.not_eq_false, Bool.and_eq_true, Bool.or_eq_true, Bool.and_eq_false_iff, Bool.or_eq_false_iff, Bool.not_not, ne_eq, Int.not_lt, Int.not_le, Decidable.not_not, beq_iff_eq, bne_iff_ne] at hc3
            rw [if_pos (by omega)] at hz3
            refine c_seq ?_
            refine c_region ?_
            refine wl (wl_val hl rfl trivial (r_assign hl rfl) ?_)
            clear hl a; intro a hl
            refine w_nil ?_
            have hl2 := hl.add (t := 6) (hl.nil) rfl; clear hl; have hl := hl2; clear hl2
            refine then_normal ?_
            refine wp_ret ?_
            refine then_ret ?_
            refine blk_ret ?_
            refine then_ret ?_
            refine then_ret ?_
            refine blk_ret ?_
            refine then_ret ?_
            refine f_ret1 (F' := [(b, C (fl egc z.d.toList ++ junk) 102), (Bs, C sL 46)]) hl hh rfl rfl (by repeat (first | exact keeps_nil | apply keeps_cons (by repeat (first | exact find_head | apply find_tail | apply find_skip)) (by first  | rfl) | exact keeps_self | exact keeps_left | apply keeps_app | apply keeps_mv | apply keeps_skip)) ?_
            rw [← hz3]
            exact ⟨rfl, rfl, hz2⟩
          · intro hc3
            try simp only [decide_eq_true_eq, decide_eq_false_iff_not, Bool.not_eq_true', Bool.not_eq_false', Bool.not_eq_true, Bool.not_eq_false, Bool.and_eq_true, Bool.or_eq_true, Bool.and_eq_false_iff, Bool.or_eq_false_iff, Bool.not_not, ne_eq, Int.not_lt, Int.not_le, Decidable.not_not, beq_iff_eq, bne_iff_ne] at hc3
            rw [if_neg (by omega)] at hz3
            refine wp_skip ?_
            refine then_normal ?_
            refine c_seq ?_
            refine c_region ?_
            refine wl (wl_val hl rfl trivial (r_field hl rfl fld179_1) ?_)
            clear hl a; intro a hl
            refine wl (w_load hl hh rfl trivial one173 rfl (by repeat (first | exact find_head | apply find_tail | apply find_skip)) (by first | rfl) ?_)
            clear hl a; intro a hl
            refine wl (wl_val hl rfl trivial (r_move hl rfl) ?_)
            clear hl a; intro a hl
            refine wl (wl_val hl rfl trivial (r_move hl rfl) ?_)
            clear hl a; intro a hl
            first | refine wl (wl_val hl rfl trivial (r_sub hl rfl rfl (by simp only [Fits]; omega)) ?_) | refine wl (wl_val hl rfl trivial (r_subW hl rfl rfl) ?_)
            clear hl a; intro a hl
            refine wl (w_swap (u) (u - 1) egc_len (by decide) hl hh rfl trivial rfl rfl (by repeat (first | exact find_head | apply find_tail | apply find_skip)) (hE.swz hz2) (by omega) (by omega) (by omega) (by omega) ?_)
            clear hl hh a w; intro a w hl hh
            refine w_nil ?_
            have hl2 := hl.add (t := 1) (hl.add (t := 2) (hl.add (t := 3) (hl.add (t := 7) (hl.add (t := 8) (hl.nil) rfl) rfl) rfl) rfl) rfl; clear hl; have hl := hl2; clear hl2
            have hs2 : (Sort.swp z.d u (u - 1)).size = n := by rw [swp_sz]; exact hz2
            refine then_normal ?_
            refine c_seq ?_
            refine c_seq ?_
            refine c_region ?_
            refine wl (wl_val hl rfl trivial (r_move hl rfl) ?_)
            clear hl a; intro a hl
            refine wl (wl_val hl rfl trivial (r_move hl rfl) ?_)
            clear hl a; intro a hl
            first | refine wl (wl_val hl rfl trivial (r_sub hl rfl rfl (by simp only [Fits]; omega)) ?_) | refine wl (wl_val hl rfl trivial (r_subW hl rfl rfl) ?_)
            clear hl a; intro a hl
            refine wl (wl_val hl rfl trivial (r_geq hl rfl rfl) ?_)
            clear hl a; intro a hl
            refine w_nil ?_
            have hl2 := hl.add (t := 1) (hl.add (t := 2) (hl.add (t := 3) (hl.add (t := 7) (hl.add (t := 8) (hl.add (t := 47) (hl.nil) rfl) rfl) rfl) rfl) rfl) rfl; clear hl; have hl := hl2; clear hl2
            refine then_normal ?_
            refine c_cond hl rfl ?_ ?_
            · intro hc4
              try simp only [decide_eq_true_eq, decide_eq_false_iff_not, Bool.not_eq_true', Bool.not_eq_false', Bool.not_eq_true, Bool.not_eq_false, Bool.and_eq_true, Bool.or_eq_true, Bool.and_eq_false_iff, Bool.or_eq_false_iff, Bool.not_not, ne_eq, Int.not_lt, Int.not_le, Decidable.not_not, beq_iff_eq, bne_iff_ne] at hc4
              refine c_seq ?_
              refine c_region ?_
              refine wl (wl_val hl rfl trivial (r_move hl rfl) ?_)
              clear hl a; intro a hl
              first | refine wl (wl_val hl rfl trivial (r_sub hl rfl rfl (by simp only [Fits]; omega)) ?_) | refine wl (wl_val hl rfl trivial (r_subW hl rfl rfl) ?_)
              clear hl a; intro a hl
              refine wl (wl_val hl rfl trivial (r_assign hl rfl) ?_)
              clear hl a; intro a hl
              refine w_nil ?_
              have hl2 := hl.add (t := 1) (hl.add (t := 2) (hl.add (t := 3) (hl.add (t := 7) (hl.add (t := 8) (hl.add (t := 9) (hl.nil) rfl) rfl) rfl) rfl) rfl) rfl; clear hl; have hl := hl2; clear hl2
              refine then_normal ?_
              refine wp_block ?_
              obtain ⟨KS2, hKS2, hk⟩ := (hl.add (t := 1) (hl.add (t := 2) (hl.add (t := 3) (hl.add (t := 7) (hl.add (t := 8) (hl.nil) rfl) rfl) rfl) rfl) rfl).name
              obtain ⟨HS2, hHS2, hh2⟩ := hh.name (keeps_cons (b := b) (o' := C (fl egc (Sort.swp z.d u (u - 1)).toList ++ junk) 102) (by repeat (first | exact find_head | apply find_tail | apply find_skip)) (by first | rfl) (keeps_nil))
              refine c_loop (α := IZ) (fun y => y.i) (fun y a w => (y.i ≤ u - 1 ∧ y.d.size = n ∧ Sort.shiftDown egB y.i y.d = Sort.shiftDown egB (u - 1) (Sort.swp z.d u (u - 1))) ∧ Sl 91 ([(9, .int .i64 (y.i : Int))] ++ KS2) a ∧ Has _ w0 ([(b, C (fl egc y.d.toList ++ junk) 102)] ++ HS2) w) ⟨(Sort.swp z.d u (u - 1)), u - 1⟩ ⟨⟨Nat.le_refl _, hs2, rfl⟩, hl.addE (t := 9) (hk) rfl (by first | exact congrArg (Value.int .i64) (by first | omega | (simp only; omega)) | rfl), hh2⟩ ?_
              clear hk hh2 hl hh a w
              intro y a w hI
              obtain ⟨⟨hy1, hy2, hy3⟩, hl, hh⟩ := hI
              subst hKS2; subst hHS2
              simp only [List.cons_append, List.nil_append, List.append_nil, List.append_assoc] at hl hh
              refine c_seq ?_
              refine c_seq ?_
              refine c_region ?_
              refine wl (wl_val hl rfl trivial (r_move hl rfl) ?_)
              clear hl a; intro a hl
              refine wl (wl_val hl rfl trivial (r_geq hl rfl rfl) ?_)
              clear hl a; intro a hl
              refine w_nil ?_
              have hl2 := hl.add (t := 1) (hl.add (t := 2) (hl.add (t := 3) (hl.add (t := 7) (hl.add (t := 8) (hl.add (t := 9) (hl.add (t := 51) (hl.nil) rfl) rfl) rfl) rfl) rfl) rfl) rfl; clear hl; have hl := hl2; clear hl2
              refine then_normal ?_
              refine c_cond hl rfl ?_ ?_
              · intro hc5
                try simp only [decide_eq_true_eq, decide_eq_false_iff_not, Bool.not_eq_true', Bool.not_eq_false', Bool.not_eq_true, Bool.not_eq_false, Bool.and_eq_true, Bool.or_eq_true, Bool.and_eq_false_iff, Bool.or_eq_false_iff, Bool.not_not, ne_eq, Int.not_lt, Int.not_le, Decidable.not_not, beq_iff_eq, bne_iff_ne] at hc5
                refine wp_skip ?_
                refine then_normal ?_
                refine c_seq ?_
                refine wp_block ?_
                refine c_seq ?_
                refine c_seq ?_
                refine c_region ?_
                refine wl (wl_val hl rfl trivial (r_field hl rfl fld179_0) ?_)
                clear hl a; intro a hl
                refine wl (w_load hl hh rfl trivial one144 rfl (by repeat (first | exact find_head | apply find_tail | apply find_skip)) (by first | rfl) ?_)
                clear hl a; intro a hl
                refine wl (wl_val hl rfl trivial (r_move hl rfl) ?_)
                clear hl a; intro a hl
                refine wl (wl_val hl rfl trivial (r_move hl rfl) ?_)
                clear hl a; intro a hl
                first | refine wl (wl_val hl rfl trivial (r_sub hl rfl rfl (by simp only [Fits]; omega)) ?_) | refine wl (wl_val hl rfl trivial (r_subW hl rfl rfl) ?_)
                clear hl a; intro a hl
                refine wl (w_call hl hh rfl trivial rfl cal62 rfl (less_spec (hE.to hy2) _ _ y.i (y.i - 1) (by omega) (by omega) (by omega) (by omega)) (by repeat (first | exact keeps_nil | apply keeps_cons (by repeat (first | exact find_head | apply find_tail | apply find_skip)) (by first  | rfl) | exact keeps_self | exact keeps_left | apply keeps_app | apply keeps_mv | apply keeps_skip)) trivial ?_)
                clear hl hh a w; intro vc Fc a w hR hl hh
                obtain ⟨rfl, rfl⟩ := hR
                try simp only [List.cons_append, List.nil_append, List.append_assoc, List.append_nil] at hh
                refine wl (wl_val hl rfl trivial (r_not hl rfl) ?_)
                clear hl a; intro a hl
                refine w_nil ?_
                have hl2 := hl.add (t := 1) (hl.add (t := 2) (hl.add (t := 3) (hl.add (t := 7) (hl.add (t := 8) (hl.add (t := 9) (hl.add (t := 60) (hl.nil) rfl) rfl) rfl) rfl) rfl) rfl) rfl; clear hl; have hl := hl2; clear hl2
                refine then_normal ?_
                refine c_cond hl rfl ?_ ?_
                · intro hc6
                  try simp only [decide_eq_true_eq, decide_eq_false_iff_not, Bool.not_eq_true', Bool.not_eq_false', Bool.not_eq_true, Bool.not_eq_false, Bool.and_eq_true, Bool.or_eq_true, Bool.and_eq_false_iff, Bool.or_eq_false_iff, Bool.not_not, ne_eq, Int.not_lt, Int.not_le, Decidable.not_not, beq_iff_eq, bne_iff_ne] at hc6
                  have hye : y.d = Sort.shiftDown egB (u - 1) (Sort.swp z.d u (u - 1)) := by rw [← hy3]; exact (sd_stop (fun h9 => by first | omega | (have h8 := h9.2; simp only [(show egB y.d[y.i]! y.d[y.i - 1]! = false by assumption)] at h8; cases h8))).symm
                  obtain ⟨dH, hdHe, hdH⟩ : ∃ dH, dH = y.d ∧ dH.size = n := ⟨_, rfl, hy2⟩
                  simp only [if_pos (show u - lo ≥ 2 by omega), ← hye, ← hdHe] at hz3
                  rw [← hdHe] at hh
                  refine wp_exit ?_
                  refine then_exit ?_
                  refine blk_exit_ne rfl ?_
                  refine then_exit ?_
                  refine then_exit ?_
                  refine blk_exit ?_
                  refine then_normal ?_
                  refine c_seq ?_
                  refine c_region ?_
                  refine wl (wl_val hl rfl trivial (r_move hl rfl) ?_)
                  clear hl a; intro a hl
                  refine wl (wl_val hl rfl trivial (r_move hl rfl) ?_)
                  clear hl a; intro a hl
                  first | refine wl (wl_val hl rfl trivial (r_sub hl rfl rfl (by simp only [Fits]; omega)) ?_) | refine wl (wl_val hl rfl trivial (r_subW hl rfl rfl) ?_)
                  clear hl a; intro a hl
                  refine wl (wl_val hl rfl trivial (r_geq hl rfl rfl) ?_)
                  clear hl a; intro a hl
                  refine w_nil ?_
                  have hl2 := hl.add (t := 1) (hl.add (t := 2) (hl.add (t := 3) (hl.add (t := 7) (hl.add (t := 8) (hl.add (t := 70) (hl.nil) rfl) rfl) rfl) rfl) rfl) rfl; clear hl; have hl := hl2; clear hl2
                  refine then_normal ?_
                  refine c_cond hl rfl ?_ ?_
                  · intro hc7
                    try simp only [decide_eq_true_eq, decide_eq_false_iff_not, Bool.not_eq_true', Bool.not_eq_false', Bool.not_eq_true, Bool.not_eq_false, Bool.and_eq_true, Bool.or_eq_true, Bool.and_eq_false_iff, Bool.or_eq_false_iff, Bool.not_not, ne_eq, Int.not_lt, Int.not_le, Decidable.not_not, beq_iff_eq, bne_iff_ne] at hc7
                    refine c_seq ?_
                    refine c_region ?_
                    refine wl (wl_val hl rfl trivial (r_move hl rfl) ?_)
                    clear hl a; intro a hl
                    first | refine wl (wl_val hl rfl trivial (r_add hl rfl rfl (by simp only [Fits]; omega)) ?_) | refine wl (wl_val hl rfl trivial (r_addW hl rfl rfl) ?_)
                    clear hl a; intro a hl
                    refine wl (wl_val hl rfl trivial (r_assign hl rfl) ?_)
                    clear hl a; intro a hl
                    refine w_nil ?_
                    have hl2 := hl.add (t := 1) (hl.add (t := 2) (hl.add (t := 3) (hl.add (t := 7) (hl.add (t := 8) (hl.add (t := 10) (hl.nil) rfl) rfl) rfl) rfl) rfl) rfl; clear hl; have hl := hl2; clear hl2
                    refine then_normal ?_
                    refine wp_block ?_
                    obtain ⟨KS3, hKS3, hk⟩ := (hl.add (t := 1) (hl.add (t := 2) (hl.add (t := 3) (hl.add (t := 7) (hl.add (t := 8) (hl.nil) rfl) rfl) rfl) rfl) rfl).name
                    obtain ⟨HS3, hHS3, hh2⟩ := hh.name (keeps_cons (b := b) (o' := C (fl egc dH.toList ++ junk) 102) (by repeat (first | exact find_head | apply find_tail | apply find_skip)) (by first | rfl) (keeps_nil))
                    refine c_loop (α := IZ) (fun x => hi - x.i) (fun x a w => ((u + 1 ≤ x.i ∧ x.i ≤ hi) ∧ x.d.size = n ∧ Sort.shiftUp egB hi x.i x.d = Sort.shiftUp egB hi (u + 1) dH) ∧ Sl 91 ([(10, .int .i64 (x.i : Int))] ++ KS3) a ∧ Has _ w0 ([(b, C (fl egc x.d.toList ++ junk) 102)] ++ HS3) w) ⟨dH, u + 1⟩ ⟨⟨⟨Nat.le_refl _, by simp only; omega⟩, hdH, rfl⟩, hl.addE (t := 10) (hk) rfl (by first | exact congrArg (Value.int .i64) (by first | omega | (simp only; omega)) | rfl), hh2⟩ ?_
                    clear hk hh2 hl hh a w
                    intro x a w hI
                    obtain ⟨⟨hx1, hx2, hx3⟩, hl, hh⟩ := hI
                    subst hKS3; subst hHS3
                    simp only [List.cons_append, List.nil_append, List.append_nil, List.append_assoc] at hl hh
                    refine c_seq ?_
                    refine c_seq ?_
                    refine c_region ?_
                    refine wl (wl_val hl rfl trivial (r_move hl rfl) ?_)
                    clear hl a; intro a hl
                    refine wl (wl_val hl rfl trivial (r_move hl rfl) ?_)
                    clear hl a; intro a hl
                    refine wl (wl_val hl rfl trivial (r_lss hl rfl rfl) ?_)
                    clear hl a; intro a hl
                    refine w_nil ?_
                    have hl2 := hl.add (t := 1) (hl.add (t := 2) (hl.add (t := 3) (hl.add (t := 7) (hl.add (t := 8) (hl.add (t := 10) (hl.add (t := 75) (hl.nil) rfl) rfl) rfl) rfl) rfl) rfl) rfl; clear hl; have hl := hl2; clear hl2
                    refine then_normal ?_
                    refine c_cond hl rfl ?_ ?_
                    · intro hc8
                      try simp only [decide_eq_true_eq, decide_eq_false_iff_not, Bool.not_eq_true', Bool.not_eq_false', Bool.not_eq_true, Bool.not_eq_false, Bool.and_eq_true, Bool.or_eq_true, Bool.and_eq_false_iff, Bool.or_eq_false_iff, Bool.not_not, ne_eq, Int.not_lt, Int.not_le, Decidable.not_not, beq_iff_eq, bne_iff_ne] at hc8
                      refine wp_skip ?_
                      refine then_normal ?_
                      refine c_seq ?_
                      refine wp_block ?_
                      refine c_seq ?_
                      refine c_seq ?_
                      refine c_region ?_
                      refine wl (wl_val hl rfl trivial (r_field hl rfl fld179_0) ?_)
                      clear hl a; intro a hl
                      refine wl (w_load hl hh rfl trivial one144 rfl (by repeat (first | exact find_head | apply find_tail | apply find_skip)) (by first | rfl) ?_)
                      clear hl a; intro a hl
                      refine wl (wl_val hl rfl trivial (r_move hl rfl) ?_)
                      clear hl a; intro a hl
                      refine wl (wl_val hl rfl trivial (r_move hl rfl) ?_)
                      clear hl a; intro a hl
                      first | refine wl (wl_val hl rfl trivial (r_sub hl rfl rfl (by simp only [Fits]; omega)) ?_) | refine wl (wl_val hl rfl trivial (r_subW hl rfl rfl) ?_)
                      clear hl a; intro a hl
                      refine wl (w_call hl hh rfl trivial rfl cal62 rfl (less_spec (hE.to hx2) _ _ x.i (x.i - 1) (by omega) (by omega) (by omega) (by omega)) (by repeat (first | exact keeps_nil | apply keeps_cons (by repeat (first | exact find_head | apply find_tail | apply find_skip)) (by first  | rfl) | exact keeps_self | exact keeps_left | apply keeps_app | apply keeps_mv | apply keeps_skip)) trivial ?_)
                      clear hl hh a w; intro vc Fc a w hR hl hh
                      obtain ⟨rfl, rfl⟩ := hR
                      try simp only [List.cons_append, List.nil_append, List.append_assoc, List.append_nil] at hh
                      refine wl (wl_val hl rfl trivial (r_not hl rfl) ?_)
                      clear hl a; intro a hl
                      refine w_nil ?_
                      have hl2 := hl.add (t := 1) (hl.add (t := 2) (hl.add (t := 3) (hl.add (t := 7) (hl.add (t := 8) (hl.add (t := 10) (hl.add (t := 84) (hl.nil) rfl) rfl) rfl) rfl) rfl) rfl) rfl; clear hl; have hl := hl2; clear hl2
                      refine then_normal ?_
                      refine c_cond hl rfl ?_ ?_
                      · intro hc9
                        try simp only [decide_eq_true_eq, decide_eq_false_iff_not, Bool.not_eq_true', Bool.not_eq_false', Bool.not_eq_true, Bool.not_eq_false, Bool.and_eq_true, Bool.or_eq_true, Bool.and_eq_false_iff, Bool.or_eq_false_iff, Bool.not_not, ne_eq, Int.not_lt, Int.not_le, Decidable.not_not, beq_iff_eq, bne_iff_ne] at hc9
                        have hxe : x.d = Sort.shiftUp egB hi (u + 1) dH := by rw [← hx3]; exact (su_stop (fun h9 => by first | omega | (have h8 := h9.2; simp only [(show egB x.d[x.i]! x.d[x.i - 1]! = false by assumption)] at h8; cases h8))).symm
                        obtain ⟨dE, hdEe, hdE⟩ : ∃ dE, dE = x.d ∧ dE.size = n := ⟨_, rfl, hx2⟩
                        simp only [if_pos (show hi - u ≥ 2 by omega), ← hxe, ← hdEe] at hz3
                        rw [← hdEe] at hh
                        have hdm : Sort.partialIns egB lo hi (z.s - 1) u dE = Sort.partialInsertionSort egB d lo hi := by rw [hsv, Nat.add_sub_cancel]; exact hz3
                        refine wp_exit ?_
                        refine then_exit ?_
                        refine blk_exit_ne rfl ?_
                        refine then_exit ?_
                        refine then_exit ?_
                        refine blk_exit ?_
                        refine blk_normal ?_
                        refine then_normal ?_
                        refine c_region ?_
                        refine wl (wl_val hl rfl trivial (r_move hl rfl) ?_)
                        clear hl a; intro a hl
                        first | refine wl (wl_val hl rfl trivial (r_add hl rfl rfl (by simp only [Fits]; omega)) ?_) | refine wl (wl_val hl rfl trivial (r_addW hl rfl rfl) ?_)
                        clear hl a; intro a hl
                        refine wl (wl_val hl rfl trivial (r_assign hl rfl) ?_)
                        clear hl a; intro a hl
                        refine w_nil ?_
                        have hl2 := hl.add (t := 1) (hl.add (t := 2) (hl.add (t := 3) (hl.add (t := 7) (hl.add (t := 8) (hl.nil) rfl) rfl) rfl) rfl) rfl; clear hl; have hl := hl2; clear hl2
                        refine then_normal ?_
                        refine ⟨⟨dE, u, z.s - 1⟩, (by simp only; omega), ⟨hdE, ⟨by simp only; omega, by simp only; omega, by simp only; omega⟩, hdm⟩, hl.addE (t := 7) (hl.addE (t := 8) (hl.addE (t := 1) (hl.addE (t := 2) (hl.addE (t := 3) (hl.nil) rfl (by first | rfl | exact congrArg (Value.int .i64) (by first | omega | (simp only; omega)))) rfl (by first | rfl | exact congrArg (Value.int .i64) (by first | omega | (simp only; omega)))) rfl (by first | rfl | exact congrArg (Value.int .i64) (by first | omega | (simp only; omega)))) rfl (by first | rfl | exact congrArg (Value.int .i64) (by first | omega | (simp only; omega)))) rfl (by first | rfl | exact congrArg (Value.int .i64) (by first | omega | (simp only; omega))), hh.keep (by repeat (first | exact keeps_nil | apply keeps_cons (by repeat (first | exact find_head | apply find_tail | apply find_skip)) (by first  | rfl) | exact keeps_self | exact keeps_left | apply keeps_app | apply keeps_mv | apply keeps_skip))⟩
                      · intro hc9
                        try simp only [decide_eq_true_eq, decide_eq_false_iff_not, Bool.not_eq_true', Bool.not_eq_false', Bool.not_eq_true, Bool.not_eq_false, Bool.and_eq_true, Bool.or_eq_true, Bool.and_eq_false_iff, Bool.or_eq_false_iff, Bool.not_not, ne_eq, Int.not_lt, Int.not_le, Decidable.not_not, beq_iff_eq, bne_iff_ne] at hc9
                        refine wp_skip ?_
                        refine then_normal ?_
                        refine c_region ?_
                        refine wl (wl_val hl rfl trivial (r_field hl rfl fld179_1) ?_)
                        clear hl a; intro a hl
                        refine wl (w_load hl hh rfl trivial one173 rfl (by repeat (first | exact find_head | apply find_tail | apply find_skip)) (by first | rfl) ?_)
                        clear hl a; intro a hl
                        refine wl (wl_val hl rfl trivial (r_move hl rfl) ?_)
                        clear hl a; intro a hl
                        refine wl (wl_val hl rfl trivial (r_move hl rfl) ?_)
                        clear hl a; intro a hl
                        first | refine wl (wl_val hl rfl trivial (r_sub hl rfl rfl (by simp only [Fits]; omega)) ?_) | refine wl (wl_val hl rfl trivial (r_subW hl rfl rfl) ?_)
                        clear hl a; intro a hl
                        refine wl (w_swap (x.i) (x.i - 1) egc_len (by decide) hl hh rfl trivial rfl rfl (by repeat (first | exact find_head | apply find_tail | apply find_skip)) (hE.swz hx2) (by omega) (by omega) (by omega) (by omega) ?_)
                        clear hl hh a w; intro a w hl hh
                        refine w_nil ?_
                        have hl2 := hl.add (t := 1) (hl.add (t := 2) (hl.add (t := 3) (hl.add (t := 7) (hl.add (t := 8) (hl.add (t := 10) (hl.nil) rfl) rfl) rfl) rfl) rfl) rfl; clear hl; have hl := hl2; clear hl2
                        refine blk_normal ?_
                        refine then_normal ?_
                        refine c_region ?_
                        refine wl (wl_val hl rfl trivial (r_move hl rfl) ?_)
                        clear hl a; intro a hl
                        first | refine wl (wl_val hl rfl trivial (r_add hl rfl rfl (by simp only [Fits]; omega)) ?_) | refine wl (wl_val hl rfl trivial (r_addW hl rfl rfl) ?_)
                        clear hl a; intro a hl
                        refine wl (wl_val hl rfl trivial (r_assign hl rfl) ?_)
                        clear hl a; intro a hl
                        refine w_nil ?_
                        have hl2 := hl.add (t := 1) (hl.add (t := 2) (hl.add (t := 3) (hl.add (t := 7) (hl.add (t := 8) (hl.add (t := 10) (hl.nil) rfl) rfl) rfl) rfl) rfl) rfl; clear hl; have hl := hl2; clear hl2
                        refine then_normal ?_
                        refine ⟨⟨Sort.swp x.d x.i (x.i - 1), x.i + 1⟩, (by simp only; omega), ⟨⟨by simp only; omega, by simp only; omega⟩, by simp only; rw [swp_sz]; exact hx2, by simp only; rw [← hx3]; exact (su_go (by omega) (by assumption)).symm⟩, hl.addE (t := 10) (hl.addE (t := 1) (hl.addE (t := 2) (hl.addE (t := 3) (hl.addE (t := 7) (hl.addE (t := 8) (hl.nil) rfl (by first | rfl | exact congrArg (Value.int .i64) (by first | omega | (simp only; omega)))) rfl (by first | rfl | exact congrArg (Value.int .i64) (by first | omega | (simp only; omega)))) rfl (by first | rfl | exact congrArg (Value.int .i64) (by first | omega | (simp only; omega)))) rfl (by first | rfl | exact congrArg (Value.int .i64) (by first | omega | (simp only; omega)))) rfl (by first | rfl | exact congrArg (Value.int .i64) (by first | omega | (simp only; omega)))) rfl (by first | rfl | exact congrArg (Value.int .i64) (by first | omega | (simp only; omega))), hh.keep (by repeat (first | exact keeps_nil | apply keeps_cons (by repeat (first | exact find_head | apply find_tail | apply find_skip)) (by first  | rfl) | exact keeps_self | exact keeps_left | apply keeps_app | apply keeps_mv | apply keeps_skip))⟩
                    · intro hc8
                      try simp only [decide_eq_true_eq, decide_eq_false_iff_not, Bool.not_eq_true', Bool.not_eq_false', Bool.not_eq_true, Bool.not_eq_false, Bool.and_eq_true, Bool.or_eq_true, Bool.and_eq_false_iff, Bool.or_eq_false_iff, Bool.not_not, ne_eq, Int.not_lt, Int.not_le, Decidable.not_not, beq_iff_eq, bne_iff_ne] at hc8
                      have hxe : x.d = Sort.shiftUp egB hi (u + 1) dH := by rw [← hx3]; exact (su_stop (fun h9 => by omega)).symm
                      obtain ⟨dE, hdEe, hdE⟩ : ∃ dE, dE = x.d ∧ dE.size = n := ⟨_, rfl, hx2⟩
                      simp only [if_pos (show hi - u ≥ 2 by omega), ← hxe, ← hdEe] at hz3
                      rw [← hdEe] at hh
                      have hdm : Sort.partialIns egB lo hi (z.s - 1) u dE = Sort.partialInsertionSort egB d lo hi := by rw [hsv, Nat.add_sub_cancel]; exact hz3
                      refine wp_exit ?_
                      refine then_exit ?_
                      refine then_exit ?_
                      refine blk_exit ?_
                      refine blk_normal ?_
                      refine then_normal ?_
                      refine c_region ?_
                      refine wl (wl_val hl rfl trivial (r_move hl rfl) ?_)
                      clear hl a; intro a hl
                      first | refine wl (wl_val hl rfl trivial (r_add hl rfl rfl (by simp only [Fits]; omega)) ?_) | refine wl (wl_val hl rfl trivial (r_addW hl rfl rfl) ?_)
                      clear hl a; intro a hl
                      refine wl (wl_val hl rfl trivial (r_assign hl rfl) ?_)
                      clear hl a; intro a hl
                      refine w_nil ?_
                      have hl2 := hl.add (t := 1) (hl.add (t := 2) (hl.add (t := 3) (hl.add (t := 7) (hl.add (t := 8) (hl.nil) rfl) rfl) rfl) rfl) rfl; clear hl; have hl := hl2; clear hl2
                      refine then_normal ?_
                      refine ⟨⟨dE, u, z.s - 1⟩, (by simp only; omega), ⟨hdE, ⟨by simp only; omega, by simp only; omega, by simp only; omega⟩, hdm⟩, hl.addE (t := 7) (hl.addE (t := 8) (hl.addE (t := 1) (hl.addE (t := 2) (hl.addE (t := 3) (hl.nil) rfl (by first | rfl | exact congrArg (Value.int .i64) (by first | omega | (simp only; omega)))) rfl (by first | rfl | exact congrArg (Value.int .i64) (by first | omega | (simp only; omega)))) rfl (by first | rfl | exact congrArg (Value.int .i64) (by first | omega | (simp only; omega)))) rfl (by first | rfl | exact congrArg (Value.int .i64) (by first | omega | (simp only; omega)))) rfl (by first | rfl | exact congrArg (Value.int .i64) (by first | omega | (simp only; omega))), hh.keep (by repeat (first | exact keeps_nil | apply keeps_cons (by repeat (first | exact find_head | apply find_tail | apply find_skip)) (by first  | rfl) | exact keeps_self | exact keeps_left | apply keeps_app | apply keeps_mv | apply keeps_skip))⟩
                  · intro hc7
                    try simp only [decide_eq_true_eq, decide_eq_false_iff_not, Bool.not_eq_true', Bool.not_eq_false', Bool.not_eq_true, Bool.not_eq_false, Bool.and_eq_true, Bool.or_eq_true, Bool.and_eq_false_iff, Bool.or_eq_false_iff, Bool.not_not, ne_eq, Int.not_lt, Int.not_le, Decidable.not_not, beq_iff_eq, bne_iff_ne] at hc7
                    obtain ⟨dE, hdEe, hdE⟩ : ∃ dE, dE = dH ∧ dE.size = n := ⟨_, rfl, hdH⟩
                    simp only [if_neg (show ¬ hi - u ≥ 2 by omega), ← hdEe] at hz3
                    rw [← hdEe] at hh
                    have hdm : Sort.partialIns egB lo hi (z.s - 1) u dE = Sort.partialInsertionSort egB d lo hi := by rw [hsv, Nat.add_sub_cancel]; exact hz3
                    refine wp_skip ?_
                    refine blk_normal ?_
                    refine then_normal ?_
                    refine c_region ?_
                    refine wl (wl_val hl rfl trivial (r_move hl rfl) ?_)
                    clear hl a; intro a hl
                    first | refine wl (wl_val hl rfl trivial (r_add hl rfl rfl (by simp only [Fits]; omega)) ?_) | refine wl (wl_val hl rfl trivial (r_addW hl rfl rfl) ?_)
                    clear hl a; intro a hl
                    refine wl (wl_val hl rfl trivial (r_assign hl rfl) ?_)
                    clear hl a; intro a hl
                    refine w_nil ?_
                    have hl2 := hl.add (t := 1) (hl.add (t := 2) (hl.add (t := 3) (hl.add (t := 7) (hl.add (t := 8) (hl.nil) rfl) rfl) rfl) rfl) rfl; clear hl; have hl := hl2; clear hl2
                    refine then_normal ?_
                    refine ⟨⟨dE, u, z.s - 1⟩, (by simp only; omega), ⟨hdE, ⟨by simp only; omega, by simp only; omega, by simp only; omega⟩, hdm⟩, hl.addE (t := 7) (hl.addE (t := 8) (hl.addE (t := 1) (hl.addE (t := 2) (hl.addE (t := 3) (hl.nil) rfl (by first | rfl | exact congrArg (Value.int .i64) (by first | omega | (simp only; omega)))) rfl (by first | rfl | exact congrArg (Value.int .i64) (by first | omega | (simp only; omega)))) rfl (by first | rfl | exact congrArg (Value.int .i64) (by first | omega | (simp only; omega)))) rfl (by first | rfl | exact congrArg (Value.int .i64) (by first | omega | (simp only; omega)))) rfl (by first | rfl | exact congrArg (Value.int .i64) (by first | omega | (simp only; omega))), hh.keep (by repeat (first | exact keeps_nil | apply keeps_cons (by repeat (first | exact find_head | apply find_tail | apply find_skip)) (by first  | rfl) | exact keeps_self | exact keeps_left | apply keeps_app | apply keeps_mv | apply keeps_skip))⟩
                · intro hc6
                  try simp only [decide_eq_true_eq, decide_eq_false_iff_not, Bool.not_eq_true', Bool.not_eq_false', Bool.not_eq_true, Bool.not_eq_false, Bool.and_eq_true, Bool.or_eq_true, Bool.and_eq_false_iff, Bool.or_eq_false_iff, Bool.not_not, ne_eq, Int.not_lt, Int.not_le, Decidable.not_not, beq_iff_eq, bne_iff_ne] at hc6
                  refine wp_skip ?_
                  refine then_normal ?_
                  refine c_region ?_
                  refine wl (wl_val hl rfl trivial (r_field hl rfl fld179_1) ?_)
                  clear hl a; intro a hl
                  refine wl (w_load hl hh rfl trivial one173 rfl (by repeat (first | exact find_head | apply find_tail | apply find_skip)) (by first | rfl) ?_)
                  clear hl a; intro a hl
                  refine wl (wl_val hl rfl trivial (r_move hl rfl) ?_)
                  clear hl a; intro a hl
                  refine wl (wl_val hl rfl trivial (r_move hl rfl) ?_)
                  clear hl a; intro a hl
                  first | refine wl (wl_val hl rfl trivial (r_sub hl rfl rfl (by simp only [Fits]; omega)) ?_) | refine wl (wl_val hl rfl trivial (r_subW hl rfl rfl) ?_)
                  clear hl a; intro a hl
                  refine wl (w_swap (y.i) (y.i - 1) egc_len (by decide) hl hh rfl trivial rfl rfl (by repeat (first | exact find_head | apply find_tail | apply find_skip)) (hE.swz hy2) (by omega) (by omega) (by omega) (by omega) ?_)
                  clear hl hh a w; intro a w hl hh
                  refine w_nil ?_
                  have hl2 := hl.add (t := 1) (hl.add (t := 2) (hl.add (t := 3) (hl.add (t := 7) (hl.add (t := 8) (hl.add (t := 9) (hl.nil) rfl) rfl) rfl) rfl) rfl) rfl; clear hl; have hl := hl2; clear hl2
                  refine blk_normal ?_
                  refine then_normal ?_
                  refine c_region ?_
                  refine wl (wl_val hl rfl trivial (r_move hl rfl) ?_)
                  clear hl a; intro a hl
                  first | refine wl (wl_val hl rfl trivial (r_sub hl rfl rfl (by simp only [Fits]; omega)) ?_) | refine wl (wl_val hl rfl trivial (r_subW hl rfl rfl) ?_)
                  clear hl a; intro a hl
                  refine wl (wl_val hl rfl trivial (r_assign hl rfl) ?_)
                  clear hl a; intro a hl
                  refine w_nil ?_
                  have hl2 := hl.add (t := 1) (hl.add (t := 2) (hl.add (t := 3) (hl.add (t := 7) (hl.add (t := 8) (hl.add (t := 9) (hl.nil) rfl) rfl) rfl) rfl) rfl) rfl; clear hl; have hl := hl2; clear hl2
                  refine then_normal ?_
                  refine ⟨⟨Sort.swp y.d y.i (y.i - 1), y.i - 1⟩, (by simp only; omega), ⟨by simp only; omega, by simp only; rw [swp_sz]; exact hy2, by simp only; rw [← hy3]; exact (sd_go (by omega) (by assumption)).symm⟩, hl.addE (t := 9) (hl.addE (t := 1) (hl.addE (t := 2) (hl.addE (t := 3) (hl.addE (t := 7) (hl.addE (t := 8) (hl.nil) rfl (by first | rfl | exact congrArg (Value.int .i64) (by first | omega | (simp only; omega)))) rfl (by first | rfl | exact congrArg (Value.int .i64) (by first | omega | (simp only; omega)))) rfl (by first | rfl | exact congrArg (Value.int .i64) (by first | omega | (simp only; omega)))) rfl (by first | rfl | exact congrArg (Value.int .i64) (by first | omega | (simp only; omega)))) rfl (by first | rfl | exact congrArg (Value.int .i64) (by first | omega | (simp only; omega)))) rfl (by first | rfl | exact congrArg (Value.int .i64) (by first | omega | (simp only; omega))), hh.keep (by repeat (first | exact keeps_nil | apply keeps_cons (by repeat (first | exact find_head | apply find_tail | apply find_skip)) (by first  | rfl) | exact keeps_self | exact keeps_left | apply keeps_app | apply keeps_mv | apply keeps_skip))⟩
              · intro hc5
                try simp only [decide_eq_true_eq, decide_eq_false_iff_not, Bool.not_eq_true', Bool.not_eq_false', Bool.not_eq_true, Bool.not_eq_false, Bool.and_eq_true, Bool.or_eq_true, Bool.and_eq_false_iff, Bool.or_eq_false_iff, Bool.not_not, ne_eq, Int.not_lt, Int.not_le, Decidable.not_not, beq_iff_eq, bne_iff_ne] at hc5
                have hye : y.d = Sort.shiftDown egB (u - 1) (Sort.swp z.d u (u - 1)) := by rw [← hy3]; exact (sd_stop (fun h9 => by omega)).symm
                obtain ⟨dH, hdHe, hdH⟩ : ∃ dH, dH = y.d ∧ dH.size = n := ⟨_, rfl, hy2⟩
                simp only [if_pos (show u - lo ≥ 2 by omega), ← hye, ← hdHe] at hz3
                rw [← hdHe] at hh
                refine wp_exit ?_
                refine then_exit ?_
                refine then_exit ?_
                refine blk_exit ?_
                refine then_normal ?_
                refine c_seq ?_
                refine c_region ?_
                refine wl (wl_val hl rfl trivial (r_move hl rfl) ?_)
                clear hl a; intro a hl
                refine wl (wl_val hl rfl trivial (r_move hl rfl) ?_)
                clear hl a; intro a hl
                first | refine wl (wl_val hl rfl trivial (r_sub hl rfl rfl (by simp only [Fits]; omega)) ?_) | refine wl (wl_val hl rfl trivial (r_subW hl rfl rfl) ?_)
                clear hl a; intro a hl
                refine wl (wl_val hl rfl trivial (r_geq hl rfl rfl) ?_)
                clear hl a; intro a hl
                refine w_nil ?_
                have hl2 := hl.add (t := 1) (hl.add (t := 2) (hl.add (t := 3) (hl.add (t := 7) (hl.add (t := 8) (hl.add (t := 70) (hl.nil) rfl) rfl) rfl) rfl) rfl) rfl; clear hl; have hl := hl2; clear hl2
                refine then_normal ?_
                refine c_cond hl rfl ?_ ?_
                · intro hc7
                  try simp only [decide_eq_true_eq, decide_eq_false_iff_not, Bool.not_eq_true', Bool.not_eq_false', Bool.not_eq_true, Bool.not_eq_false, Bool.and_eq_true, Bool.or_eq_true, Bool.and_eq_false_iff, Bool.or_eq_false_iff, Bool.not_not, ne_eq, Int.not_lt, Int.not_le, Decidable.not_not, beq_iff_eq, bne_iff_ne] at hc7
                  refine c_seq ?_
                  refine c_region ?_
                  refine wl (wl_val hl rfl trivial (r_move hl rfl) ?_)
                  clear hl a; intro a hl
                  first | refine wl (wl_val hl rfl trivial (r_add hl rfl rfl (by simp only [Fits]; omega)) ?_) | refine wl (wl_val hl rfl trivial (r_addW hl rfl rfl) ?_)
                  clear hl a; intro a hl
                  refine wl (wl_val hl rfl trivial (r_assign hl rfl) ?_)
                  clear hl a; intro a hl
                  refine w_nil ?_
                  have hl2 := hl.add (t := 1) (hl.add (t := 2) (hl.add (t := 3) (hl.add (t := 7) (hl.add (t := 8) (hl.add (t := 10) (hl.nil) rfl) rfl) rfl) rfl) rfl) rfl; clear hl; have hl := hl2; clear hl2
                  refine then_normal ?_
                  refine wp_block ?_
                  obtain ⟨KS3, hKS3, hk⟩ := (hl.add (t := 1) (hl.add (t := 2) (hl.add (t := 3) (hl.add (t := 7) (hl.add (t := 8) (hl.nil) rfl) rfl) rfl) rfl) rfl).name
                  obtain ⟨HS3, hHS3, hh2⟩ := hh.name (keeps_cons (b := b) (o' := C (fl egc dH.toList ++ junk) 102) (by repeat (first | exact find_head | apply find_tail | apply find_skip)) (by first | rfl) (keeps_nil))
                  refine c_loop (α := IZ) (fun x => hi - x.i) (fun x a w => ((u + 1 ≤ x.i ∧ x.i ≤ hi) ∧ x.d.size = n ∧ Sort.shiftUp egB hi x.i x.d = Sort.shiftUp egB hi (u + 1) dH) ∧ Sl 91 ([(10, .int .i64 (x.i : Int))] ++ KS3) a ∧ Has _ w0 ([(b, C (fl egc x.d.toList ++ junk) 102)] ++ HS3) w) ⟨dH, u + 1⟩ ⟨⟨⟨Nat.le_refl _, by simp only; omega⟩, hdH, rfl⟩, hl.addE (t := 10) (hk) rfl (by first | exact congrArg (Value.int .i64) (by first | omega | (simp only; omega)) | rfl), hh2⟩ ?_
                  clear hk hh2 hl hh a w
                  intro x a w hI
                  obtain ⟨⟨hx1, hx2, hx3⟩, hl, hh⟩ := hI
                  subst hKS3; subst hHS3
                  simp only [List.cons_append, List.nil_append, List.append_nil, List.append_assoc] at hl hh
                  refine c_seq ?_
                  refine c_seq ?_
                  refine c_region ?_
                  refine wl (wl_val hl rfl trivial (r_move hl rfl) ?_)
                  clear hl a; intro a hl
                  refine wl (wl_val hl rfl trivial (r_move hl rfl) ?_)
                  clear hl a; intro a hl
                  refine wl (wl_val hl rfl trivial (r_lss hl rfl rfl) ?_)
                  clear hl a; intro a hl
                  refine w_nil ?_
                  have hl2 := hl.add (t := 1) (hl.add (t := 2) (hl.add (t := 3) (hl.add (t := 7) (hl.add (t := 8) (hl.add (t := 10) (hl.add (t := 75) (hl.nil) rfl) rfl) rfl) rfl) rfl) rfl) rfl; clear hl; have hl := hl2; clear hl2
                  refine then_normal ?_
                  refine c_cond hl rfl ?_ ?_
                  · intro hc8
                    try simp only [decide_eq_true_eq, decide_eq_false_iff_not, Bool.not_eq_true', Bool.not_eq_false', Bool.not_eq_true, Bool.not_eq_false, Bool.and_eq_true, Bool.or_eq_true, Bool.and_eq_false_iff, Bool.or_eq_false_iff, Bool.not_not, ne_eq, Int.not_lt, Int.not_le, Decidable.not_not, beq_iff_eq, bne_iff_ne] at hc8
                    refine wp_skip ?_
                    refine then_normal ?_
                    refine c_seq ?_
                    refine wp_block ?_
                    refine c_seq ?_
                    refine c_seq ?_
                    refine c_region ?_
                    refine wl (wl_val hl rfl trivial (r_field hl rfl fld179_0) ?_)
                    clear hl a; intro a hl
                    refine wl (w_load hl hh rfl trivial one144 rfl (by repeat (first | exact find_head | apply find_tail | apply find_skip)) (by first | rfl) ?_)
                    clear hl a; intro a hl
                    refine wl (wl_val hl rfl trivial (r_move hl rfl) ?_)
                    clear hl a; intro a hl
                    refine wl (wl_val hl rfl trivial (r_move hl rfl) ?_)
                    clear hl a; intro a hl
                    first | refine wl (wl_val hl rfl trivial (r_sub hl rfl rfl (by simp only [Fits]; omega)) ?_) | refine wl (wl_val hl rfl trivial (r_subW hl rfl rfl) ?_)
                    clear hl a; intro a hl
                    refine wl (w_call hl hh rfl trivial rfl cal62 rfl (less_spec (hE.to hx2) _ _ x.i (x.i - 1) (by omega) (by omega) (by omega) (by omega)) (by repeat (first | exact keeps_nil | apply keeps_cons (by repeat (first | exact find_head | apply find_tail | apply find_skip)) (by first  | rfl) | exact keeps_self | exact keeps_left | apply keeps_app | apply keeps_mv | apply keeps_skip)) trivial ?_)
                    clear hl hh a w; intro vc Fc a w hR hl hh
                    obtain ⟨rfl, rfl⟩ := hR
                    try simp only [List.cons_append, List.nil_append, List.append_assoc, List.append_nil] at hh
                    refine wl (wl_val hl rfl trivial (r_not hl rfl) ?_)
                    clear hl a; intro a hl
                    refine w_nil ?_
                    have hl2 := hl.add (t := 1) (hl.add (t := 2) (hl.add (t := 3) (hl.add (t := 7) (hl.add (t := 8) (hl.add (t := 10) (hl.add (t := 84) (hl.nil) rfl) rfl) rfl) rfl) rfl) rfl) rfl; clear hl; have hl := hl2; clear hl2
                    refine then_normal ?_
                    refine c_cond hl rfl ?_ ?_
                    · intro hc9
                      try simp only [decide_eq_true_eq, decide_eq_false_iff_not, Bool.not_eq_true', Bool.not_eq_false', Bool.not_eq_true, Bool.not_eq_false, Bool.and_eq_true, Bool.or_eq_true, Bool.and_eq_false_iff, Bool.or_eq_false_iff, Bool.not_not, ne_eq, Int.not_lt, Int.not_le, Decidable.not_not, beq_iff_eq, bne_iff_ne] at hc9
                      have hxe : x.d = Sort.shiftUp egB hi (u + 1) dH := by rw [← hx3]; exact (su_stop (fun h9 => by first | omega | (have h8 := h9.2; simp only [(show egB x.d[x.i]! x.d[x.i - 1]! = false by assumption)] at h8; cases h8))).symm
                      obtain ⟨dE, hdEe, hdE⟩ : ∃ dE, dE = x.d ∧ dE.size = n := ⟨_, rfl, hx2⟩
                      simp only [if_pos (show hi - u ≥ 2 by omega), ← hxe, ← hdEe] at hz3
                      rw [← hdEe] at hh
                      have hdm : Sort.partialIns egB lo hi (z.s - 1) u dE = Sort.partialInsertionSort egB d lo hi := by rw [hsv, Nat.add_sub_cancel]; exact hz3
                      refine wp_exit ?_
                      refine then_exit ?_
                      refine blk_exit_ne rfl ?_
                      refine then_exit ?_
                      refine then_exit ?_
                      refine blk_exit ?_
                      refine blk_normal ?_
                      refine then_normal ?_
                      refine c_region ?_
                      refine wl (wl_val hl rfl trivial (r_move hl rfl) ?_)
                      clear hl a; intro a hl
                      first | refine wl (wl_val hl rfl trivial (r_add hl rfl rfl (by simp only [Fits]; omega)) ?_) | refine wl (wl_val hl rfl trivial (r_addW hl rfl rfl) ?_)
                      clear hl a; intro a hl
                      refine wl (wl_val hl rfl trivial (r_assign hl rfl) ?_)
                      clear hl a; intro a hl
                      refine w_nil ?_
                      have hl2 := hl.add (t := 1) (hl.add (t := 2) (hl.add (t := 3) (hl.add (t := 7) (hl.add (t := 8) (hl.nil) rfl) rfl) rfl) rfl) rfl; clear hl; have hl := hl2; clear hl2
                      refine then_normal ?_
                      refine ⟨⟨dE, u, z.s - 1⟩, (by simp only; omega), ⟨hdE, ⟨by simp only; omega, by simp only; omega, by simp only; omega⟩, hdm⟩, hl.addE (t := 7) (hl.addE (t := 8) (hl.addE (t := 1) (hl.addE (t := 2) (hl.addE (t := 3) (hl.nil) rfl (by first | rfl | exact congrArg (Value.int .i64) (by first | omega | (simp only; omega)))) rfl (by first | rfl | exact congrArg (Value.int .i64) (by first | omega | (simp only; omega)))) rfl (by first | rfl | exact congrArg (Value.int .i64) (by first | omega | (simp only; omega)))) rfl (by first | rfl | exact congrArg (Value.int .i64) (by first | omega | (simp only; omega)))) rfl (by first | rfl | exact congrArg (Value.int .i64) (by first | omega | (simp only; omega))), hh.keep (by repeat (first | exact keeps_nil | apply keeps_cons (by repeat (first | exact find_head | apply find_tail | apply find_skip)) (by first  | rfl) | exact keeps_self | exact keeps_left | apply keeps_app | apply keeps_mv | apply keeps_skip))⟩
                    · intro hc9
                      try simp only [decide_eq_true_eq, decide_eq_false_iff_not, Bool.not_eq_true', Bool.not_eq_false', Bool.not_eq_true, Bool.not_eq_false, Bool.and_eq_true, Bool.or_eq_true, Bool.and_eq_false_iff, Bool.or_eq_false_iff, Bool.not_not, ne_eq, Int.not_lt, Int.not_le, Decidable.not_not, beq_iff_eq, bne_iff_ne] at hc9
                      refine wp_skip ?_
                      refine then_normal ?_
                      refine c_region ?_
                      refine wl (wl_val hl rfl trivial (r_field hl rfl fld179_1) ?_)
                      clear hl a; intro a hl
                      refine wl (w_load hl hh rfl trivial one173 rfl (by repeat (first | exact find_head | apply find_tail | apply find_skip)) (by first | rfl) ?_)
                      clear hl a; intro a hl
                      refine wl (wl_val hl rfl trivial (r_move hl rfl) ?_)
                      clear hl a; intro a hl
                      refine wl (wl_val hl rfl trivial (r_move hl rfl) ?_)
                      clear hl a; intro a hl
                      first | refine wl (wl_val hl rfl trivial (r_sub hl rfl rfl (by simp only [Fits]; omega)) ?_) | refine wl (wl_val hl rfl trivial (r_subW hl rfl rfl) ?_)
                      clear hl a; intro a hl
                      refine wl (w_swap (x.i) (x.i - 1) egc_len (by decide) hl hh rfl trivial rfl rfl (by repeat (first | exact find_head | apply find_tail | apply find_skip)) (hE.swz hx2) (by omega) (by omega) (by omega) (by omega) ?_)
                      clear hl hh a w; intro a w hl hh
                      refine w_nil ?_
                      have hl2 := hl.add (t := 1) (hl.add (t := 2) (hl.add (t := 3) (hl.add (t := 7) (hl.add (t := 8) (hl.add (t := 10) (hl.nil) rfl) rfl) rfl) rfl) rfl) rfl; clear hl; have hl := hl2; clear hl2
                      refine blk_normal ?_
                      refine then_normal ?_
                      refine c_region ?_
                      refine wl (wl_val hl rfl trivial (r_move hl rfl) ?_)
                      clear hl a; intro a hl
                      first | refine wl (wl_val hl rfl trivial (r_add hl rfl rfl (by simp only [Fits]; omega)) ?_) | refine wl (wl_val hl rfl trivial (r_addW hl rfl rfl) ?_)
                      clear hl a; intro a hl
                      refine wl (wl_val hl rfl trivial (r_assign hl rfl) ?_)
                      clear hl a; intro a hl
                      refine w_nil ?_
                      have hl2 := hl.add (t := 1) (hl.add (t := 2) (hl.add (t := 3) (hl.add (t := 7) (hl.add (t := 8) (hl.add (t := 10) (hl.nil) rfl) rfl) rfl) rfl) rfl) rfl; clear hl; have hl := hl2; clear hl2
                      refine then_normal ?_
                      refine ⟨⟨Sort.swp x.d x.i (x.i - 1), x.i + 1⟩, (by simp only; omega), ⟨⟨by simp only; omega, by simp only; omega⟩, by simp only; rw [swp_sz]; exact hx2, by simp only; rw [← hx3]; exact (su_go (by omega) (by assumption)).symm⟩, hl.addE (t := 10) (hl.addE (t := 1) (hl.addE (t := 2) (hl.addE (t := 3) (hl.addE (t := 7) (hl.addE (t := 8) (hl.nil) rfl (by first | rfl | exact congrArg (Value.int .i64) (by first | omega | (simp only; omega)))) rfl (by first | rfl | exact congrArg (Value.int .i64) (by first | omega | (simp only; omega)))) rfl (by first | rfl | exact congrArg (Value.int .i64) (by first | omega | (simp only; omega)))) rfl (by first | rfl | exact congrArg (Value.int .i64) (by first | omega | (simp only; omega)))) rfl (by first | rfl | exact congrArg (Value.int .i64) (by first | omega | (simp only; omega)))) rfl (by first | rfl | exact congrArg (Value.int .i64) (by first | omega | (simp only; omega))), hh.keep (by repeat (first | exact keeps_nil | apply keeps_cons (by repeat (first | exact find_head | apply find_tail | apply find_skip)) (by first  | rfl) | exact keeps_self | exact keeps_left | apply keeps_app | apply keeps_mv | apply keeps_skip))⟩
                  · intro hc8
                    try simp only [decide_eq_true_eq, decide_eq_false_iff_not, Bool.not_eq_true', Bool.not_eq_false', Bool.not_eq_true, Bool.not_eq_false, Bool.and_eq_true, Bool.or_eq_true, Bool.and_eq_false_iff, Bool.or_eq_false_iff, Bool.not_not, ne_eq, Int.not_lt, Int.not_le, Decidable.not_not, beq_iff_eq, bne_iff_ne] at hc8
                    have hxe : x.d = Sort.shiftUp egB hi (u + 1) dH := by rw [← hx3]; exact (su_stop (fun h9 => by omega)).symm
                    obtain ⟨dE, hdEe, hdE⟩ : ∃ dE, dE = x.d ∧ dE.size = n := ⟨_, rfl, hx2⟩
                    simp only [if_pos (show hi - u ≥ 2 by omega), ← hxe, ← hdEe] at hz3
                    rw [← hdEe] at hh
                    have hdm : Sort.partialIns egB lo hi (z.s - 1) u dE = Sort.partialInsertionSort egB d lo hi := by rw [hsv, Nat.add_sub_cancel]; exact hz3
                    refine wp_exit ?_
                    refine then_exit ?_
                    refine then_exit ?_
                    refine blk_exit ?_
                    refine blk_normal ?_
                    refine then_normal ?_
                    refine c_region ?_
                    refine wl (wl_val hl rfl trivial (r_move hl rfl) ?_)
                    clear hl a; intro a hl
                    first | refine wl (wl_val hl rfl trivial (r_add hl rfl rfl (by simp only [Fits]; omega)) ?_) | refine wl (wl_val hl rfl trivial (r_addW hl rfl rfl) ?_)
                    clear hl a; intro a hl
                    refine wl (wl_val hl rfl trivial (r_assign hl rfl) ?_)
                    clear hl a; intro a hl
                    refine w_nil ?_
                    have hl2 := hl.add (t := 1) (hl.add (t := 2) (hl.add (t := 3) (hl.add (t := 7) (hl.add (t := 8) (hl.nil) rfl) rfl) rfl) rfl) rfl; clear hl; have hl := hl2; clear hl2
                    refine then_normal ?_
                    refine ⟨⟨dE, u, z.s - 1⟩, (by simp only; omega), ⟨hdE, ⟨by simp only; omega, by simp only; omega, by simp only; omega⟩, hdm⟩, hl.addE (t := 7) (hl.addE (t := 8) (hl.addE (t := 1) (hl.addE (t := 2) (hl.addE (t := 3) (hl.nil) rfl (by first | rfl | exact congrArg (Value.int .i64) (by first | omega | (simp only; omega)))) rfl (by first | rfl | exact congrArg (Value.int .i64) (by first | omega | (simp only; omega)))) rfl (by first | rfl | exact congrArg (Value.int .i64) (by first | omega | (simp only; omega)))) rfl (by first | rfl | exact congrArg (Value.int .i64) (by first | omega | (simp only; omega)))) rfl (by first | rfl | exact congrArg (Value.int .i64) (by first | omega | (simp only; omega))), hh.keep (by repeat (first | exact keeps_nil | apply keeps_cons (by repeat (first | exact find_head | apply find_tail | apply find_skip)) (by first  | rfl) | exact keeps_self | exact keeps_left | apply keeps_app | apply keeps_mv | apply keeps_skip))⟩
                · intro hc7
                  try simp only [decide_eq_true_eq, decide_eq_false_iff_not, Bool.not_eq_true', Bool.not_eq_false', Bool.not_eq_true, Bool.not_eq_false, Bool.and_eq_true, Bool.or_eq_true, Bool.and_eq_false_iff, Bool.or_eq_false_iff, Bool.not_not, ne_eq, Int.not_lt, Int.not_le, Decidable.not_not, beq_iff_eq, bne_iff_ne] at hc7
                  obtain ⟨dE, hdEe, hdE⟩ : ∃ dE, dE = dH ∧ dE.size = n := ⟨_, rfl, hdH⟩
                  simp only [if_neg (show ¬ hi - u ≥ 2 by omega), ← hdEe] at hz3
                  rw [← hdEe] at hh
                  have hdm : Sort.partialIns egB lo hi (z.s - 1) u dE = Sort.partialInsertionSort egB d lo hi := by rw [hsv, Nat.add_sub_cancel]; exact hz3
                  refine wp_skip ?_
                  refine blk_normal ?_
                  refine then_normal ?_
                  refine c_region ?_
                  refine wl (wl_val hl rfl trivial (r_move hl rfl) ?_)
                  clear hl a; intro a hl
                  first | refine wl (wl_val hl rfl trivial (r_add hl rfl rfl (by simp only [Fits]; omega)) ?_) | refine wl (wl_val hl rfl trivial (r_addW hl rfl rfl) ?_)
                  clear hl a; intro a hl
                  refine wl (wl_val hl rfl trivial (r_assign hl rfl) ?_)
                  clear hl a; intro a hl
                  refine w_nil ?_
                  have hl2 := hl.add (t := 1) (hl.add (t := 2) (hl.add (t := 3) (hl.add (t := 7) (hl.add (t := 8) (hl.nil) rfl) rfl) rfl) rfl) rfl; clear hl; have hl := hl2; clear hl2
                  refine then_normal ?_
                  refine ⟨⟨dE, u, z.s - 1⟩, (by simp only; omega), ⟨hdE, ⟨by simp only; omega, by simp only; omega, by simp only; omega⟩, hdm⟩, hl.addE (t := 7) (hl.addE (t := 8) (hl.addE (t := 1) (hl.addE (t := 2) (hl.addE (t := 3) (hl.nil) rfl (by first | rfl | exact congrArg (Value.int .i64) (by first | omega | (simp only; omega)))) rfl (by first | rfl | exact congrArg (Value.int .i64) (by first | omega | (simp only; omega)))) rfl (by first | rfl | exact congrArg (Value.int .i64) (by first | omega | (simp only; omega)))) rfl (by first | rfl | exact congrArg (Value.int .i64) (by first | omega | (simp only; omega)))) rfl (by first | rfl | exact congrArg (Value.int .i64) (by first | omega | (simp only; omega))), hh.keep (by repeat (first | exact keeps_nil | apply keeps_cons (by repeat (first | exact find_head | apply find_tail | apply find_skip)) (by first  | rfl) | exact keeps_self | exact keeps_left | apply keeps_app | apply keeps_mv | apply keeps_skip))⟩
            · intro hc4
              try simp only [decide_eq_true_eq, decide_eq_false_iff_not, Bool.not_eq_true', Bool.not_eq_false', Bool.not_eq_true, Bool.not_eq_false, Bool.and_eq_true, Bool.or_eq_true, Bool.and_eq_false_iff, Bool.or_eq_false_iff, Bool.not_not, ne_eq, Int.not_lt, Int.not_le, Decidable.not_not, beq_iff_eq, bne_iff_ne] at hc4
              obtain ⟨dH, hdHe, hdH⟩ : ∃ dH, dH = (Sort.swp z.d u (u - 1)) ∧ dH.size = n := ⟨_, rfl, hs2⟩
              simp only [if_neg (show ¬ u - lo ≥ 2 by omega), ← hdHe] at hz3
              rw [← hdHe] at hh
              refine wp_skip ?_
              refine then_normal ?_
              refine c_seq ?_
              refine c_region ?_
              refine wl (wl_val hl rfl trivial (r_move hl rfl) ?_)
              clear hl a; intro a hl
              refine wl (wl_val hl rfl trivial (r_move hl rfl) ?_)
              clear hl a; intro a hl
              first | refine wl (wl_val hl rfl trivial (r_sub hl rfl rfl (by simp only [Fits]; omega)) ?_) | refine wl (wl_val hl rfl trivial (r_subW hl rfl rfl) ?_)
              clear hl a; intro a hl
              refine wl (wl_val hl rfl trivial (r_geq hl rfl rfl) ?_)
              clear hl a; intro a hl
              refine w_nil ?_
              have hl2 := hl.add (t := 1) (hl.add (t := 2) (hl.add (t := 3) (hl.add (t := 7) (hl.add (t := 8) (hl.add (t := 70) (hl.nil) rfl) rfl) rfl) rfl) rfl) rfl; clear hl; have hl := hl2; clear hl2
              refine then_normal ?_
              refine c_cond hl rfl ?_ ?_
              · intro hc7
                try simp only [decide_eq_true_eq, decide_eq_false_iff_not, Bool.not_eq_true', Bool.not_eq_false', Bool.not_eq_true, Bool.not_eq_false, Bool.and_eq_true, Bool.or_eq_true, Bool.and_eq_false_iff, Bool.or_eq_false_iff, Bool.not_not, ne_eq, Int.not_lt, Int.not_le, Decidable.not_not, beq_iff_eq, bne_iff_ne] at hc7
                refine c_seq ?_
                refine c_region ?_
                refine wl (wl_val hl rfl trivial (r_move hl rfl) ?_)
                clear hl a; intro a hl
                first | refine wl (wl_val hl rfl trivial (r_add hl rfl rfl (by simp only [Fits]; omega)) ?_) | refine wl (wl_val hl rfl trivial (r_addW hl rfl rfl) ?_)
                clear hl a; intro a hl
                refine wl (wl_val hl rfl trivial (r_assign hl rfl) ?_)
                clear hl a; intro a hl
                refine w_nil ?_
                have hl2 := hl.add (t := 1) (hl.add (t := 2) (hl.add (t := 3) (hl.add (t := 7) (hl.add (t := 8) (hl.add (t := 10) (hl.nil) rfl) rfl) rfl) rfl) rfl) rfl; clear hl; have hl := hl2; clear hl2
                refine then_normal ?_
                refine wp_block ?_
                obtain ⟨KS3, hKS3, hk⟩ := (hl.add (t := 1) (hl.add (t := 2) (hl.add (t := 3) (hl.add (t := 7) (hl.add (t := 8) (hl.nil) rfl) rfl) rfl) rfl) rfl).name
                obtain ⟨HS3, hHS3, hh2⟩ := hh.name (keeps_cons (b := b) (o' := C (fl egc dH.toList ++ junk) 102) (by repeat (first | exact find_head | apply find_tail | apply find_skip)) (by first | rfl) (keeps_nil))
                refine c_loop (α := IZ) (fun x => hi - x.i) (fun x a w => ((u + 1 ≤ x.i ∧ x.i ≤ hi) ∧ x.d.size = n ∧ Sort.shiftUp egB hi x.i x.d = Sort.shiftUp egB hi (u + 1) dH) ∧ Sl 91 ([(10, .int .i64 (x.i : Int))] ++ KS3) a ∧ Has _ w0 ([(b, C (fl egc x.d.toList ++ junk) 102)] ++ HS3) w) ⟨dH, u + 1⟩ ⟨⟨⟨Nat.le_refl _, by simp only; omega⟩, hdH, rfl⟩, hl.addE (t := 10) (hk) rfl (by first | exact congrArg (Value.int .i64) (by first | omega | (simp only; omega)) | rfl), hh2⟩ ?_
                clear hk hh2 hl hh a w
                intro x a w hI
                obtain ⟨⟨hx1, hx2, hx3⟩, hl, hh⟩ := hI
                subst hKS3; subst hHS3
                simp only [List.cons_append, List.nil_append, List.append_nil, List.append_assoc] at hl hh
                refine c_seq ?_
                refine c_seq ?_
                refine c_region ?_
                refine wl (wl_val hl rfl trivial (r_move hl rfl) ?_)
                clear hl a; intro a hl
                refine wl (wl_val hl rfl trivial (r_move hl rfl) ?_)
                clear hl a; intro a hl
                refine wl (wl_val hl rfl trivial (r_lss hl rfl rfl) ?_)
                clear hl a; intro a hl
                refine w_nil ?_
                have hl2 := hl.add (t := 1) (hl.add (t := 2) (hl.add (t := 3) (hl.add (t := 7) (hl.add (t := 8) (hl.add (t := 10) (hl.add (t := 75) (hl.nil) rfl) rfl) rfl) rfl) rfl) rfl) rfl; clear hl; have hl := hl2; clear hl2
                refine then_normal ?_
                refine c_cond hl rfl ?_ ?_
                · intro hc8
                  try simp only [decide_eq_true_eq, decide_eq_false_iff_not, Bool.not_eq_true', Bool.not_eq_false', Bool.not_eq_true, Bool.not_eq_false, Bool.and_eq_true, Bool.or_eq_true, Bool.and_eq_false_iff, Bool.or_eq_false_iff, Bool.not_not, ne_eq, Int.not_lt, Int.not_le, Decidable.not_not, beq_iff_eq, bne_iff_ne] at hc8
                  refine wp_skip ?_
                  refine then_normal ?_
                  refine c_seq ?_
                  refine wp_block ?_
                  refine c_seq ?_
                  refine c_seq ?_
                  refine c_region ?_
                  refine wl (wl_val hl rfl trivial (r_field hl rfl fld179_0) ?_)
                  clear hl a; intro a hl
                  refine wl (w_load hl hh rfl trivial one144 rfl (by repeat (first | exact find_head | apply find_tail | apply find_skip)) (by first | rfl) ?_)
                  clear hl a; intro a hl
                  refine wl (wl_val hl rfl trivial (r_move hl rfl) ?_)
                  clear hl a; intro a hl
                  refine wl (wl_val hl rfl trivial (r_move hl rfl) ?_)
                  clear hl a; intro a hl
                  first | refine wl (wl_val hl rfl trivial (r_sub hl rfl rfl (by simp only [Fits]; omega)) ?_) | refine wl (wl_val hl rfl trivial (r_subW hl rfl rfl) ?_)
                  clear hl a; intro a hl
                  refine wl (w_call hl hh rfl trivial rfl cal62 rfl (less_spec (hE.to hx2) _ _ x.i (x.i - 1) (by omega) (by omega) (by omega) (by omega)) (by repeat (first | exact keeps_nil | apply keeps_cons (by repeat (first | exact find_head | apply find_tail | apply find_skip)) (by first  | rfl) | exact keeps_self | exact keeps_left | apply keeps_app | apply keeps_mv | apply keeps_skip)) trivial ?_)
                  clear hl hh a w; intro vc Fc a w hR hl hh
                  obtain ⟨rfl, rfl⟩ := hR
                  try simp only [List.cons_append, List.nil_append, List.append_assoc, List.append_nil] at hh
                  refine wl (wl_val hl rfl trivial (r_not hl rfl) ?_)
                  clear hl a; intro a hl
                  refine w_nil ?_
                  have hl2 := hl.add (t := 1) (hl.add (t := 2) (hl.add (t := 3) (hl.add (t := 7) (hl.add (t := 8) (hl.add (t := 10) (hl.add (t := 84) (hl.nil) rfl) rfl) rfl) rfl) rfl) rfl) rfl; clear hl; have hl := hl2; clear hl2
                  refine then_normal ?_
                  refine c_cond hl rfl ?_ ?_
                  · intro hc9
                    try simp only [decide_eq_true_eq, decide_eq_false_iff_not, Bool.not_eq_true', Bool.not_eq_false', Bool.not_eq_true, Bool.not_eq_false, Bool.and_eq_true, Bool.or_eq_true, Bool.and_eq_false_iff, Bool.or_eq_false_iff, Bool.not_not, ne_eq, Int.not_lt, Int.not_le, Decidable.not_not, beq_iff_eq, bne_iff_ne] at hc9
                    have hxe : x.d = Sort.shiftUp egB hi (u + 1) dH := by rw [← hx3]; exact (su_stop (fun h9 => by first | omega | (have h8 := h9.2; simp only [(show egB x.d[x.i]! x.d[x.i - 1]! = false by assumption)] at h8; cases h8))).symm
                    obtain ⟨dE, hdEe, hdE⟩ : ∃ dE, dE = x.d ∧ dE.size = n := ⟨_, rfl, hx2⟩
                    simp only [if_pos (show hi - u ≥ 2 by omega), ← hxe, ← hdEe] at hz3
                    rw [← hdEe] at hh
                    have hdm : Sort.partialIns egB lo hi (z.s - 1) u dE = Sort.partialInsertionSort egB d lo hi := by rw [hsv, Nat.add_sub_cancel]; exact hz3
                    refine wp_exit ?_
                    refine then_exit ?_
                    refine blk_exit_ne rfl ?_
                    refine then_exit ?_
                    refine then_exit ?_
                    refine blk_exit ?_
                    refine blk_normal ?_
                    refine then_normal ?_
                    refine c_region ?_
                    refine wl (wl_val hl rfl trivial (r_move hl rfl) ?_)
                    clear hl a; intro a hl
                    first | refine wl (wl_val hl rfl trivial (r_add hl rfl rfl (by simp only [Fits]; omega)) ?_) | refine wl (wl_val hl rfl trivial (r_addW hl rfl rfl) ?_)
                    clear hl a; intro a hl
                    refine wl (wl_val hl rfl trivial (r_assign hl rfl) ?_)
                    clear hl a; intro a hl
                    refine w_nil ?_
                    have hl2 := hl.add (t := 1) (hl.add (t := 2) (hl.add (t := 3) (hl.add (t := 7) (hl.add (t := 8) (hl.nil) rfl) rfl) rfl) rfl) rfl; clear hl; have hl := hl2; clear hl2
                    refine then_normal ?_
                    refine ⟨⟨dE, u, z.s - 1⟩, (by simp only; omega), ⟨hdE, ⟨by simp only; omega, by simp only; omega, by simp only; omega⟩, hdm⟩, hl.addE (t := 7) (hl.addE (t := 8) (hl.addE (t := 1) (hl.addE (t := 2) (hl.addE (t := 3) (hl.nil) rfl (by first | rfl | exact congrArg (Value.int .i64) (by first | omega | (simp only; omega)))) rfl (by first | rfl | exact congrArg (Value.int .i64) (by first | omega | (simp only; omega)))) rfl (by first | rfl | exact congrArg (Value.int .i64) (by first | omega | (simp only; omega)))) rfl (by first | rfl | exact congrArg (Value.int .i64) (by first | omega | (simp only; omega)))) rfl (by first | rfl | exact congrArg (Value.int .i64) (by first | omega | (simp only; omega))), hh.keep (by repeat (first | exact keeps_nil | apply keeps_cons (by repeat (first | exact find_head | apply find_tail | apply find_skip)) (by first  | rfl) | exact keeps_self | exact keeps_left | apply keeps_app | apply keeps_mv | apply keeps_skip))⟩
                  · intro hc9
                    try simp only [decide_eq_true_eq, decide_eq_false_iff_not, Bool.not_eq_true', Bool.not_eq_false', Bool.not_eq_true, Bool.not_eq_false, Bool.and_eq_true, Bool.or_eq_true, Bool.and_eq_false_iff, Bool.or_eq_false_iff, Bool.not_not, ne_eq, Int.not_lt, Int.not_le, Decidable.not_not, beq_iff_eq, bne_iff_ne] at hc9
                    refine wp_skip ?_
                    refine then_normal ?_
                    refine c_region ?_
                    refine wl (wl_val hl rfl trivial (r_field hl rfl fld179_1) ?_)
                    clear hl a; intro a hl
                    refine wl (w_load hl hh rfl trivial one173 rfl (by repeat (first | exact find_head | apply find_tail | apply find_skip)) (by first | rfl) ?_)
                    clear hl a; intro a hl
                    refine wl (wl_val hl rfl trivial (r_move hl rfl) ?_)
                    clear hl a; intro a hl
                    refine wl (wl_val hl rfl trivial (r_move hl rfl) ?_)
                    clear hl a; intro a hl
                    first | refine wl (wl_val hl rfl trivial (r_sub hl rfl rfl (by simp only [Fits]; omega)) ?_) | refine wl (wl_val hl rfl trivial (r_subW hl rfl rfl) ?_)
                    clear hl a; intro a hl
                    refine wl (w_swap (x.i) (x.i - 1) egc_len (by decide) hl hh rfl trivial rfl rfl (by repeat (first | exact find_head | apply find_tail | apply find_skip)) (hE.swz hx2) (by omega) (by omega) (by omega) (by omega) ?_)
                    clear hl hh a w; intro a w hl hh
                    refine w_nil ?_
                    have hl2 := hl.add (t := 1) (hl.add (t := 2) (hl.add (t := 3) (hl.add (t := 7) (hl.add (t := 8) (hl.add (t := 10) (hl.nil) rfl) rfl) rfl) rfl) rfl) rfl; clear hl; have hl := hl2; clear hl2
                    refine blk_normal ?_
                    refine then_normal ?_
                    refine c_region ?_
                    refine wl (wl_val hl rfl trivial (r_move hl rfl) ?_)
                    clear hl a; intro a hl
                    first | refine wl (wl_val hl rfl trivial (r_add hl rfl rfl (by simp only [Fits]; omega)) ?_) | refine wl (wl_val hl rfl trivial (r_addW hl rfl rfl) ?_)
                    clear hl a; intro a hl
                    refine wl (wl_val hl rfl trivial (r_assign hl rfl) ?_)
                    clear hl a; intro a hl
                    refine w_nil ?_
                    have hl2 := hl.add (t := 1) (hl.add (t := 2) (hl.add (t := 3) (hl.add (t := 7) (hl.add (t := 8) (hl.add (t := 10) (hl.nil) rfl) rfl) rfl) rfl) rfl) rfl; clear hl; have hl := hl2; clear hl2
                    refine then_normal ?_
                    refine ⟨⟨Sort.swp x.d x.i (x.i - 1), x.i + 1⟩, (by simp only; omega), ⟨⟨by simp only; omega, by simp only; omega⟩, by simp only; rw [swp_sz]; exact hx2, by simp only; rw [← hx3]; exact (su_go (by omega) (by assumption)).symm⟩, hl.addE (t := 10) (hl.addE (t := 1) (hl.addE (t := 2) (hl.addE (t := 3) (hl.addE (t := 7) (hl.addE (t := 8) (hl.nil) rfl (by first | rfl | exact congrArg (Value.int .i64) (by first | omega | (simp only; omega)))) rfl (by first | rfl | exact congrArg (Value.int .i64) (by first | omega | (simp only; omega)))) rfl (by first | rfl | exact congrArg (Value.int .i64) (by first | omega | (simp only; omega)))) rfl (by first | rfl | exact congrArg (Value.int .i64) (by first | omega | (simp only; omega)))) rfl (by first | rfl | exact congrArg (Value.int .i64) (by first | omega | (simp only; omega)))) rfl (by first | rfl | exact congrArg (Value.int .i64) (by first | omega | (simp only; omega))), hh.keep (by repeat (first | exact keeps_nil | apply keeps_cons (by repeat (first | exact find_head | apply find_tail | apply find_skip)) (by first  | rfl) | exact keeps_self | exact keeps_left | apply keeps_app | apply keeps_mv | apply keeps_skip))⟩
                · intro hc8
                  try simp only [decide_eq_true_eq, decide_eq_false_iff_not, Bool.not_eq_true', Bool.not_eq_false', Bool.not_eq_true, Bool.not_eq_false, Bool.and_eq_true, Bool.or_eq_true, Bool.and_eq_false_iff, Bool.or_eq_false_iff, Bool.not_not, ne_eq, Int.not_lt, Int.not_le, Decidable.not_not, beq_iff_eq, bne_iff_ne] at hc8
                  have hxe : x.d = Sort.shiftUp egB hi (u + 1) dH := by rw [← hx3]; exact (su_stop (fun h9 => by omega)).symm
                  obtain ⟨dE, hdEe, hdE⟩ : ∃ dE, dE = x.d ∧ dE.size = n := ⟨_, rfl, hx2⟩
                  simp only [if_pos (show hi - u ≥ 2 by omega), ← hxe, ← hdEe] at hz3
                  rw [← hdEe] at hh
                  have hdm : Sort.partialIns egB lo hi (z.s - 1) u dE = Sort.partialInsertionSort egB d lo hi := by rw [hsv, Nat.add_sub_cancel]; exact hz3
                  refine wp_exit ?_
                  refine then_exit ?_
                  refine then_exit ?_
                  refine blk_exit ?_
                  refine blk_normal ?_
                  refine then_normal ?_
                  refine c_region ?_
                  refine wl (wl_val hl rfl trivial (r_move hl rfl) ?_)
                  clear hl a; intro a hl
                  first | refine wl (wl_val hl rfl trivial (r_add hl rfl rfl (by simp only [Fits]; omega)) ?_) | refine wl (wl_val hl rfl trivial (r_addW hl rfl rfl) ?_)
                  clear hl a; intro a hl
                  refine wl (wl_val hl rfl trivial (r_assign hl rfl) ?_)
                  clear hl a; intro a hl
                  refine w_nil ?_
                  have hl2 := hl.add (t := 1) (hl.add (t := 2) (hl.add (t := 3) (hl.add (t := 7) (hl.add (t := 8) (hl.nil) rfl) rfl) rfl) rfl) rfl; clear hl; have hl := hl2; clear hl2
                  refine then_normal ?_
                  refine ⟨⟨dE, u, z.s - 1⟩, (by simp only; omega), ⟨hdE, ⟨by simp only; omega, by simp only; omega, by simp only; omega⟩, hdm⟩, hl.addE (t := 7) (hl.addE (t := 8) (hl.addE (t := 1) (hl.addE (t := 2) (hl.addE (t := 3) (hl.nil) rfl (by first | rfl | exact congrArg (Value.int .i64) (by first | omega | (simp only; omega)))) rfl (by first | rfl | exact congrArg (Value.int .i64) (by first | omega | (simp only; omega)))) rfl (by first | rfl | exact congrArg (Value.int .i64) (by first | omega | (simp only; omega)))) rfl (by first | rfl | exact congrArg (Value.int .i64) (by first | omega | (simp only; omega)))) rfl (by first | rfl | exact congrArg (Value.int .i64) (by first | omega | (simp only; omega))), hh.keep (by repeat (first | exact keeps_nil | apply keeps_cons (by repeat (first | exact find_head | apply find_tail | apply find_skip)) (by first  | rfl) | exact keeps_self | exact keeps_left | apply keeps_app | apply keeps_mv | apply keeps_skip))⟩
              · intro hc7
                try simp only [decide_eq_true_eq, decide_eq_false_iff_not, Bool.not_eq_true', Bool.not_eq_false', Bool.not_eq_true, Bool.not_eq_false, Bool.and_eq_true, Bool.or_eq_true, Bool.and_eq_false_iff, Bool.or_eq_false_iff, Bool.not_not, ne_eq, Int.not_lt, Int.not_le, Decidable.not_not, beq_iff_eq, bne_iff_ne] at hc7
                obtain ⟨dE, hdEe, hdE⟩ : ∃ dE, dE = dH ∧ dE.size = n := ⟨_, rfl, hdH⟩
                simp only [if_neg (show ¬ hi - u ≥ 2 by omega), ← hdEe] at hz3
                rw [← hdEe] at hh
                have hdm : Sort.partialIns egB lo hi (z.s - 1) u dE = Sort.partialInsertionSort egB d lo hi := by rw [hsv, Nat.add_sub_cancel]; exact hz3
                refine wp_skip ?_
                refine blk_normal ?_
                refine then_normal ?_
                refine c_region ?_
                refine wl (wl_val hl rfl trivial (r_move hl rfl) ?_)
                clear hl a; intro a hl
                first | refine wl (wl_val hl rfl trivial (r_add hl rfl rfl (by simp only [Fits]; omega)) ?_) | refine wl (wl_val hl rfl trivial (r_addW hl rfl rfl) ?_)
                clear hl a; intro a hl
                refine wl (wl_val hl rfl trivial (r_assign hl rfl) ?_)
                clear hl a; intro a hl
                refine w_nil ?_
                have hl2 := hl.add (t := 1) (hl.add (t := 2) (hl.add (t := 3) (hl.add (t := 7) (hl.add (t := 8) (hl.nil) rfl) rfl) rfl) rfl) rfl; clear hl; have hl := hl2; clear hl2
                refine then_normal ?_
                refine ⟨⟨dE, u, z.s - 1⟩, (by simp only; omega), ⟨hdE, ⟨by simp only; omega, by simp only; omega, by simp only; omega⟩, hdm⟩, hl.addE (t := 7) (hl.addE (t := 8) (hl.addE (t := 1) (hl.addE (t := 2) (hl.addE (t := 3) (hl.nil) rfl (by first | rfl | exact congrArg (Value.int .i64) (by first | omega | (simp only; omega)))) rfl (by first | rfl | exact congrArg (Value.int .i64) (by first | omega | (simp only; omega)))) rfl (by first | rfl | exact congrArg (Value.int .i64) (by first | omega | (simp only; omega)))) rfl (by first | rfl | exact congrArg (Value.int .i64) (by first | omega | (simp only; omega)))) rfl (by first | rfl | exact congrArg (Value.int .i64) (by first | omega | (simp only; omega))), hh.keep (by repeat (first | exact keeps_nil | apply keeps_cons (by repeat (first | exact find_head | apply find_tail | apply find_skip)) (by first  | rfl) | exact keeps_self | exact keeps_left | apply keeps_app | apply keeps_mv | apply keeps_skip))⟩
    · intro hg1; clear hl; intro hl
      try simp only [decide_eq_true_eq, decide_eq_false_iff_not, Bool.not_eq_true', Bool.not_eq_false', Bool.not_eq_true, Bool.not_eq_false, Bool.and_eq_true, Bool.or_eq_true, Bool.and_eq_false_iff, Bool.or_eq_false_iff, Bool.not_not, ne_eq, Int.not_lt, Int.not_le, Decidable.not_not, beq_iff_eq, bne_iff_ne] at hg1
      refine wl (wl_skip hl rfl ⟨_, _, rfl, rfl, rfl⟩ ?_)
      clear hl a; intro a hl
      refine wl (wl_skip hl rfl ⟨_, _, rfl, rfl, rfl⟩ ?_)
      clear hl a; intro a hl
      refine wl (wl_skip hl rfl ⟨_, _, rfl, rfl, rfl⟩ ?_)
      clear hl a; intro a hl
      refine wl (wl_skip hl rfl ⟨_, _, rfl, rfl, rfl⟩ ?_)
      clear hl a; intro a hl
      refine wl (wl_skip hl rfl ⟨_, _, rfl, rfl, rfl⟩ ?_)
      clear hl a; intro a hl
      refine wl (wl_skip hl rfl ⟨_, _, rfl, rfl, rfl⟩ ?_)
      clear hl a; intro a hl
      refine wl (wl_skip hl rfl ⟨_, _, rfl, rfl, rfl⟩ ?_)
      clear hl a; intro a hl
      refine wl (wl_val hl rfl trivial (r_pickF hl rfl rfl) ?_)
      clear hl a; intro a hl
      refine w_nil ?_
      have hl2 := hl.add (t := 1) (hl.add (t := 2) (hl.add (t := 3) (hl.add (t := 7) (hl.add (t := 8) (hl.add (t := 28) (hl.nil) rfl) rfl) rfl) rfl) rfl) rfl; clear hl; have hl := hl2; clear hl2
      refine then_normal ?_
      refine c_condF hl rfl ?_
      have hue : Sort.scanSorted egB z.d hi z.i = u := by rw [← hu3]; exact ss_stop (fun h9 => by first | omega | (have h8 := h9.2; simp only [show egB z.d[u]! z.d[u - 1]! = true by assumption] at h8; cases h8))
      rw [hsv, pi_eq hue] at hz3
      refine wp_exit ?_
      refine then_exit ?_
      refine then_exit ?_
      refine blk_exit ?_
      refine then_normal ?_
      refine c_seq ?_
      refine c_seq ?_
      refine c_region ?_
      refine wl (wl_val hl rfl trivial (r_move hl rfl) ?_)
      clear hl a; intro a hl
      refine wl (wl_val hl rfl trivial (r_move hl rfl) ?_)
      clear hl a; intro a hl
      refine wl (wl_val hl rfl trivial (r_eql hl rfl rfl) ?_)
      clear hl a; intro a hl
      refine w_nil ?_
      have hl2 := hl.add (t := 1) (hl.add (t := 2) (hl.add (t := 3) (hl.add (t := 7) (hl.add (t := 8) (hl.add (t := 33) (hl.nil) rfl) rfl) rfl) rfl) rfl) rfl; clear hl; have hl := hl2; clear hl2
      refine then_normal ?_
      refine c_cond hl rfl ?_ ?_
      · intro hc2
        try simp only [decide_eq_true_eq, decide_eq_false_iff_not, Bool.not_eq_true', Bool.not_eq_false', Bool.not_eq_true, Bool.not_eq_false, Bool.and_eq_true, Bool.or_eq_true, Bool.and_eq_false_iff, Bool.or_eq_false_iff, Bool.not_not, ne_eq, Int.not_lt, Int.not_le, Decidable.not_not, beq_iff_eq, bne_iff_ne] at hc2
        rw [if_pos (by omega)] at hz3
        refine c_seq ?_
        refine c_region ?_
        refine wl (wl_val hl rfl trivial (r_assign hl rfl) ?_)
        clear hl a; intro a hl
        refine w_nil ?_
        have hl2 := hl.add (t := 6) (hl.nil) rfl; clear hl; have hl := hl2; clear hl2
        refine then_normal ?_
        refine wp_ret ?_
        refine then_ret ?_
        refine blk_ret ?_
        refine then_ret ?_
        refine then_ret ?_
        refine blk_ret ?_
        refine then_ret ?_
        refine f_ret1 (F' := [(b, C (fl egc z.d.toList ++ junk) 102), (Bs, C sL 46)]) hl hh rfl rfl (by repeat (first | exact keeps_nil | apply keeps_cons (by repeat (first | exact find_head | apply find_tail | apply find_skip)) (by first  | rfl) | exact keeps_self | exact keeps_left | apply keeps_app | apply keeps_mv | apply keeps_skip)) ?_
        rw [← hz3]
        exact ⟨rfl, rfl, hz2⟩
      · intro hc2
        try simp only [decide_eq_true_eq, decide_eq_false_iff_not, Bool.not_eq_true', Bool.not_eq_false', Bool.not_eq_true, Bool.not_eq_false, Bool.and_eq_true, Bool.or_eq_true, Bool.and_eq_false_iff, Bool.or_eq_false_iff, Bool.not_not, ne_eq, Int.not_lt, Int.not_le, Decidable.not_not, beq_iff_eq, bne_iff_ne] at hc2
        rw [if_neg (by omega)] at hz3
        refine wp_skip ?_
        refine then_normal ?_
        refine c_seq ?_
        refine c_seq ?_
        refine c_region ?_
        refine wl (wl_val hl rfl trivial (r_move hl rfl) ?_)
        clear hl a; intro a hl
        refine wl (wl_val hl rfl trivial (r_move hl rfl) ?_)
        clear hl a; intro a hl
        first | refine wl (wl_val hl rfl trivial (r_sub hl rfl rfl (by simp only [Fits]; omega)) ?_) | refine wl (wl_val hl rfl trivial (r_subW hl rfl rfl) ?_)
        clear hl a; intro a hl
        refine wl (wl_val hl rfl trivial (r_lss hl rfl rfl) ?_)
        clear hl a; intro a hl
        refine w_nil ?_
        have hl2 := hl.add (t := 1) (hl.add (t := 2) (hl.add (t := 3) (hl.add (t := 7) (hl.add (t := 8) (hl.add (t := 37) (hl.nil) rfl) rfl) rfl) rfl) rfl) rfl; clear hl; have hl := hl2; clear hl2
        refine then_normal ?_
        refine c_cond hl rfl ?_ ?_
        · intro hc3
          try simp only [decide_eq_true_eq, decide_eq_false_iff_not, Bool.not_eq_true', Bool.not_eq_false', Bool.not_eq_true, Bool.not_eq_false, Bool.and_eq_true, Bool.or_eq_true, Bool.and_eq_false_iff, Bool.or_eq_false_iff, Bool.not_not, ne_eq, Int.not_lt, Int.not_le, Decidable.not_not, beq_iff_eq, bne_iff_ne] at hc3
          rw [if_pos (by omega)] at hz3
          refine c_seq ?_
          refine c_region ?_
          refine wl (wl_val hl rfl trivial (r_assign hl rfl) ?_)
          clear hl a; intro a hl
          refine w_nil ?_
          have hl2 := hl.add (t := 6) (hl.nil) rfl; clear hl; have hl := hl2; clear hl2
          refine then_normal ?_
          refine wp_ret ?_
          refine then_ret ?_
          refine blk_ret ?_
          refine then_ret ?_
          refine then_ret ?_
          refine blk_ret ?_
          refine then_ret ?_
          refine f_ret1 (F' := [(b, C (fl egc z.d.toList ++ junk) 102), (Bs, C sL 46)]) hl hh rfl rfl (by repeat (first | exact keeps_nil | apply keeps_cons (by repeat (first | exact find_head | apply find_tail | apply find_skip)) (by first  | rfl) | exact keeps_self | exact keeps_left | apply keeps_app | apply keeps_mv | apply keeps_skip)) ?_
          rw [← hz3]
          exact ⟨rfl, rfl, hz2⟩
        · intro hc3
          try simp only [decide_eq_true_eq, decide_eq_false_iff_not, Bool.not_eq_true', Bool.not_eq_false', Bool.not_eq_true, Bool.not_eq_false, Bool.and_eq_true, Bool.or_eq_true, Bool.and_eq_false_iff, Bool.or_eq_false_iff, Bool.not_not, ne_eq, Int.not_lt, Int.not_le, Decidable.not_not, beq_iff_eq, bne_iff_ne] at hc3
          rw [if_neg (by omega)] at hz3
          refine wp_skip ?_
          refine then_normal ?_
          refine c_seq ?_
          refine c_region ?_
          refine wl (wl_val hl rfl trivial (r_field hl rfl fld179_1) ?_)
          clear hl a; intro a hl
          refine wl (w_load hl hh rfl trivial one173 rfl (by repeat (first | exact find_head | apply find_tail | apply find_skip)) (by first | rfl) ?_)
          clear hl a; intro a hl
          refine wl (wl_val hl rfl trivial (r_move hl rfl) ?_)
          clear hl a; intro a hl
          refine wl (wl_val hl rfl trivial (r_move hl rfl) ?_)
          clear hl a; intro a hl
          first | refine wl (wl_val hl rfl trivial (r_sub hl rfl rfl (by simp only [Fits]; omega)) ?_) | refine wl (wl_val hl rfl trivial (r_subW hl rfl rfl) ?_)
          clear hl a; intro a hl
          refine wl (w_swap (u) (u - 1) egc_len (by decide) hl hh rfl trivial rfl rfl (by repeat (first | exact find_head | apply find_tail | apply find_skip)) (hE.swz hz2) (by omega) (by omega) (by omega) (by omega) ?_)
          clear hl hh a w; intro a w hl hh
          refine w_nil ?_
          have hl2 := hl.add (t := 1) (hl.add (t := 2) (hl.add (t := 3) (hl.add (t := 7) (hl.add (t := 8) (hl.nil) rfl) rfl) rfl) rfl) rfl; clear hl; have hl := hl2; clear hl2
          have hs2 : (Sort.swp z.d u (u - 1)).size = n := by rw [swp_sz]; exact hz2
          refine then_normal ?_
          refine c_seq ?_
          refine c_seq ?_
          refine c_region ?_
          refine wl (wl_val hl rfl trivial (r_move hl rfl) ?_)
          clear hl a; intro a hl
          refine wl (wl_val hl rfl trivial (r_move hl rfl) ?_)
          clear hl a; intro a hl
          first | refine wl (wl_val hl rfl trivial (r_sub hl rfl rfl (by simp only [Fits]; omega)) ?_) | refine wl (wl_val hl rfl trivial (r_subW hl rfl rfl) ?_)
          clear hl a; intro a hl
          refine wl (wl_val hl rfl trivial (r_geq hl rfl rfl) ?_)
          clear hl a; intro a hl
          refine w_nil ?_
          have hl2 := hl.add (t := 1) (hl.add (t := 2) (hl.add (t := 3) (hl.add (t := 7) (hl.add (t := 8) (hl.add (t := 47) (hl.nil) rfl) rfl) rfl) rfl) rfl) rfl; clear hl; have hl := hl2; clear hl2
          refine then_normal ?_
          refine c_cond hl rfl ?_ ?_
          · intro hc4
            try simp only [decide_eq_true_eq, decide_eq_false_iff_not, Bool.not_eq_true', Bool.not_eq_false', Bool.not_eq_true, Bool.not_eq_false, Bool.and_eq_true, Bool.or_eq_true, Bool.and_eq_false_iff, Bool.or_eq_false_iff, Bool.not_not, ne_eq, Int.not_lt, Int.not_le, Decidable.not_not, beq_iff_eq, bne_iff_ne] at hc4
            refine c_seq ?_
            refine c_region ?_
            refine wl (wl_val hl rfl trivial (r_move hl rfl) ?_)
            clear hl a; intro a hl
            first | refine wl (wl_val hl rfl trivial (r_sub hl rfl rfl (by simp only [Fits]; omega)) ?_) | refine wl (wl_val hl rfl trivial (r_subW hl rfl rfl) ?_)
            clear hl a; intro a hl
            refine wl (wl_val hl rfl trivial (r_assign hl rfl) ?_)
            clear hl a; intro a hl
            refine w_nil ?_
            have hl2 := hl.add (t := 1) (hl.add (t := 2) (hl.add (t := 3) (hl.add (t := 7) (hl.add (t := 8) (hl.add (t := 9) (hl.nil) rfl) rfl) rfl) rfl) rfl) rfl; clear hl; have hl := hl2; clear hl2
            refine then_normal ?_
            refine wp_block ?_
            obtain ⟨KS2, hKS2, hk⟩ := (hl.add (t := 1) (hl.add (t := 2) (hl.add (t := 3) (hl.add (t := 7) (hl.add (t := 8) (hl.nil) rfl) rfl) rfl) rfl) rfl).name
            obtain ⟨HS2, hHS2, hh2⟩ := hh.name (keeps_cons (b := b) (o' := C (fl egc (Sort.swp z.d u (u - 1)).toList ++ junk) 102) (by repeat (first | exact find_head | apply find_tail | apply find_skip)) (by first | rfl) (keeps_nil))
            refine c_loop (α := IZ) (fun y => y.i) (fun y a w => (y.i ≤ u - 1 ∧ y.d.size = n ∧ Sort.shiftDown egB y.i y.d = Sort.shiftDown egB (u - 1) (Sort.swp z.d u (u - 1))) ∧ Sl 91 ([(9, .int .i64 (y.i : Int))] ++ KS2) a ∧ Has _ w0 ([(b, C (fl egc y.d.toList ++ junk) 102)] ++ HS2) w) ⟨(Sort.swp z.d u (u - 1)), u - 1⟩ ⟨⟨Nat.le_refl _, hs2, rfl⟩, hl.addE (t := 9) (hk) rfl (by first | exact congrArg (Value.int .i64) (by first | omega | (simp only; omega)) | rfl), hh2⟩ ?_
            clear hk hh2 hl hh a w
            intro y a w hI
            obtain ⟨⟨hy1, hy2, hy3⟩, hl, hh⟩ := hI
            subst hKS2; subst hHS2
            simp only [List.cons_append, List.nil_append, List.append_nil, List.append_assoc] at hl hh
            refine c_seq ?_
            refine c_seq ?_
            refine c_region ?_
            refine wl (wl_val hl rfl trivial (r_move hl rfl) ?_)
            clear hl a; intro a hl
            refine wl (wl_val hl rfl trivial (r_geq hl rfl rfl) ?_)
            clear hl a; intro a hl
            refine w_nil ?_
            have hl2 := hl.add (t := 1) (hl.add (t := 2) (hl.add (t := 3) (hl.add (t := 7) (hl.add (t := 8) (hl.add (t := 9) (hl.add (t := 51) (hl.nil) rfl) rfl) rfl) rfl) rfl) rfl) rfl; clear hl; have hl := hl2; clear hl2
            refine then_normal ?_
            refine c_cond hl rfl ?_ ?_
            · intro hc5
              try simp only [decide_eq_true_eq, decide_eq_false_iff_not, Bool.not_eq_true', Bool.not_eq_false', Bool.not_eq_true, Bool.not_eq_false, Bool.and_eq_true, Bool.or_eq_true, Bool.and_eq_false_iff, Bool.or_eq_false_iff, Bool.not_not, ne_eq, Int.not_lt, Int.not_le, Decidable.not_not, beq_iff_eq, bne_iff_ne] at hc5
              refine wp_skip ?_
              refine then_normal ?_
              refine c_seq ?_
              refine wp_block ?_
              refine c_seq ?_
              refine c_seq ?_
              refine c_region ?_
              refine wl (wl_val hl rfl trivial (r_field hl rfl fld179_0) ?_)
              clear hl a; intro a hl
              refine wl (w_load hl hh rfl trivial one144 rfl (by repeat (first | exact find_head | apply find_tail | apply find_skip)) (by first | rfl) ?_)
              clear hl a; intro a hl
              refine wl (wl_val hl rfl trivial (r_move hl rfl) ?_)
              clear hl a; intro a hl
              refine wl (wl_val hl rfl trivial (r_move hl rfl) ?_)
              clear hl a; intro a hl
              first | refine wl (wl_val hl rfl trivial (r_sub hl rfl rfl (by simp only [Fits]; omega)) ?_) | refine wl (wl_val hl rfl trivial (r_subW hl rfl rfl) ?_)
              clear hl a; intro a hl
              refine wl (w_call hl hh rfl trivial rfl cal62 rfl (less_spec (hE.to hy2) _ _ y.i (y.i - 1) (by omega) (by omega) (by omega) (by omega)) (by repeat (first | exact keeps_nil | apply keeps_cons (by repeat (first | exact find_head | apply find_tail | apply find_skip)) (by first  | rfl) | exact keeps_self | exact keeps_left | apply keeps_app | apply keeps_mv | apply keeps_skip)) trivial ?_)
              clear hl hh a w; intro vc Fc a w hR hl hh
              obtain ⟨rfl, rfl⟩ := hR
              try simp only [List.cons_append, List.nil_append, List.append_assoc, List.append_nil] at hh
              refine wl (wl_val hl rfl trivial (r_not hl rfl) ?_)
              clear hl a; intro a hl
              refine w_nil ?_
              have hl2 := hl.add (t := 1) (hl.add (t := 2) (hl.add (t := 3) (hl.add (t := 7) (hl.add (t := 8) (hl.add (t := 9) (hl.add (t := 60) (hl.nil) rfl) rfl) rfl) rfl) rfl) rfl) rfl; clear hl; have hl := hl2; clear hl2
              refine then_normal ?_
              refine c_cond hl rfl ?_ ?_
              · intro hc6
                try simp only [decide_eq_true_eq, decide_eq_false_iff_not, Bool.not_eq_true', Bool.not_eq_false', Bool.not_eq_true, Bool.not_eq_false, Bool.and_eq_true, Bool.or_eq_true, Bool.and_eq_false_iff, Bool.or_eq_false_iff, Bool.not_not, ne_eq, Int.not_lt, Int.not_le, Decidable.not_not, beq_iff_eq, bne_iff_ne] at hc6
                have hye : y.d = Sort.shiftDown egB (u - 1) (Sort.swp z.d u (u - 1)) := by rw [← hy3]; exact (sd_stop (fun h9 => by first | omega | (have h8 := h9.2; simp only [(show egB y.d[y.i]! y.d[y.i - 1]! = false by assumption)] at h8; cases h8))).symm
                obtain ⟨dH, hdHe, hdH⟩ : ∃ dH, dH = y.d ∧ dH.size = n := ⟨_, rfl, hy2⟩
                simp only [if_pos (show u - lo ≥ 2 by omega), ← hye, ← hdHe] at hz3
                rw [← hdHe] at hh
                refine wp_exit ?_
                refine then_exit ?_
                refine blk_exit_ne rfl ?_
                refine then_exit ?_
                refine then_exit ?_
                refine blk_exit ?_
                refine then_normal ?_
                refine c_seq ?_
                refine c_region ?_
                refine wl (wl_val hl rfl trivial (r_move hl rfl) ?_)
                clear hl a; intro a hl
                refine wl (wl_val hl rfl trivial (r_move hl rfl) ?_)
                clear hl a; intro a hl
                first | refine wl (wl_val hl rfl trivial (r_sub hl rfl rfl (by simp only [Fits]; omega)) ?_) | refine wl (wl_val hl rfl trivial (r_subW hl rfl rfl) ?_)
                clear hl a; intro a hl
                refine wl (wl_val hl rfl trivial (r_geq hl rfl rfl) ?_)
                clear hl a; intro a hl
                refine w_nil ?_
                have hl2 := hl.add (t := 1) (hl.add (t := 2) (hl.add (t := 3) (hl.add (t := 7) (hl.add (t := 8) (hl.add (t := 70) (hl.nil) rfl) rfl) rfl) rfl) rfl) rfl; clear hl; have hl := hl2; clear hl2
                refine then_normal ?_
                refine c_cond hl rfl ?_ ?_
                · intro hc7
                  try simp only [decide_eq_true_eq, decide_eq_false_iff_not, Bool.not_eq_true', Bool.not_eq_false', Bool.not_eq_true, Bool.not_eq_false, Bool.and_eq_true, Bool.or_eq_true, Bool.and_eq_false_iff, Bool.or_eq_false_iff, Bool.not_not, ne_eq, Int.not_lt, Int.not_le, Decidable.not_not, beq_iff_eq, bne_iff_ne] at hc7
                  refine c_seq ?_
                  refine c_region ?_
                  refine wl (wl_val hl rfl trivial (r_move hl rfl) ?_)
                  clear hl a; intro a hl
                  first | refine wl (wl_val hl rfl trivial (r_add hl rfl rfl (by simp only [Fits]; omega)) ?_) | refine wl (wl_val hl rfl trivial (r_addW hl rfl rfl) ?_)
                  clear hl a; intro a hl
                  refine wl (wl_val hl rfl trivial (r_assign hl rfl) ?_)
                  clear hl a; intro a hl
                  refine w_nil ?_
                  have hl2 := hl.add (t := 1) (hl.add (t := 2) (hl.add (t := 3) (hl.add (t := 7) (hl.add (t := 8) (hl.add (t := 10) (hl.nil) rfl) rfl) rfl) rfl) rfl) rfl; clear hl; have hl := hl2; clear hl2
                  refine then_normal ?_
                  refine wp_block ?_
                  obtain ⟨KS3, hKS3, hk⟩ := (hl.add (t := 1) (hl.add (t := 2) (hl.add (t := 3) (hl.add (t := 7) (hl.add (t := 8) (hl.nil) rfl) rfl) rfl) rfl) rfl).name
                  obtain ⟨HS3, hHS3, hh2⟩ := hh.name (keeps_cons (b := b) (o' := C (fl egc dH.toList ++ junk) 102) (by repeat (first | exact find_head | apply find_tail | apply find_skip)) (by first | rfl) (keeps_nil))
                  refine c_loop (α := IZ) (fun x => hi - x.i) (fun x a w => ((u + 1 ≤ x.i ∧ x.i ≤ hi) ∧ x.d.size = n ∧ Sort.shiftUp egB hi x.i x.d = Sort.shiftUp egB hi (u + 1) dH) ∧ Sl 91 ([(10, .int .i64 (x.i : Int))] ++ KS3) a ∧ Has _ w0 ([(b, C (fl egc x.d.toList ++ junk) 102)] ++ HS3) w) ⟨dH, u + 1⟩ ⟨⟨⟨Nat.le_refl _, by simp only; omega⟩, hdH, rfl⟩, hl.addE (t := 10) (hk) rfl (by first | exact congrArg (Value.int .i64) (by first | omega | (simp only; omega)) | rfl), hh2⟩ ?_
                  clear hk hh2 hl hh a w
                  intro x a w hI
                  obtain ⟨⟨hx1, hx2, hx3⟩, hl, hh⟩ := hI
                  subst hKS3; subst hHS3
                  simp only [List.cons_append, List.nil_append, List.append_nil, List.append_assoc] at hl hh
                  refine c_seq ?_
                  refine c_seq ?_
                  refine c_region ?_
                  refine wl (wl_val hl rfl trivial (r_move hl rfl) ?_)
                  clear hl a; intro a hl
                  refine wl (wl_val hl rfl trivial (r_move hl rfl) ?_)
                  clear hl a; intro a hl
                  refine wl (wl_val hl rfl trivial (r_lss hl rfl rfl) ?_)
                  clear hl a; intro a hl
                  refine w_nil ?_
                  have hl2 := hl.add (t := 1) (hl.add (t := 2) (hl.add (t := 3) (hl.add (t := 7) (hl.add (t := 8) (hl.add (t := 10) (hl.add (t := 75) (hl.nil) rfl) rfl) rfl) rfl) rfl) rfl) rfl; clear hl; have hl := hl2; clear hl2
                  refine then_normal ?_
                  refine c_cond hl rfl ?_ ?_
                  · intro hc8
                    try simp only [decide_eq_true_eq, decide_eq_false_iff_not, Bool.not_eq_true', Bool.not_eq_false', Bool.not_eq_true, Bool.not_eq_false, Bool.and_eq_true, Bool.or_eq_true, Bool.and_eq_false_iff, Bool.or_eq_false_iff, Bool.not_not, ne_eq, Int.not_lt, Int.not_le, Decidable.not_not, beq_iff_eq, bne_iff_ne] at hc8
                    refine wp_skip ?_
                    refine then_normal ?_
                    refine c_seq ?_
                    refine wp_block ?_
                    refine c_seq ?_
                    refine c_seq ?_
                    refine c_region ?_
                    refine wl (wl_val hl rfl trivial (r_field hl rfl fld179_0) ?_)
                    clear hl a; intro a hl
                    refine wl (w_load hl hh rfl trivial one144 rfl (by repeat (first | exact find_head | apply find_tail | apply find_skip)) (by first | rfl) ?_)
                    clear hl a; intro a hl
                    refine wl (wl_val hl rfl trivial (r_move hl rfl) ?_)
                    clear hl a; intro a hl
                    refine wl (wl_val hl rfl trivial (r_move hl rfl) ?_)
                    clear hl a; intro a hl
                    first | refine wl (wl_val hl rfl trivial (r_sub hl rfl rfl (by simp only [Fits]; omega)) ?_) | refine wl (wl_val hl rfl trivial (r_subW hl rfl rfl) ?_)
                    clear hl a; intro a hl
                    refine wl (w_call hl hh rfl trivial rfl cal62 rfl (less_spec (hE.to hx2) _ _ x.i (x.i - 1) (by omega) (by omega) (by omega) (by omega)) (by repeat (first | exact keeps_nil | apply keeps_cons (by repeat (first | exact find_head | apply find_tail | apply find_skip)) (by first  | rfl) | exact keeps_self | exact keeps_left | apply keeps_app | apply keeps_mv | apply keeps_skip)) trivial ?_)
                    clear hl hh a w; intro vc Fc a w hR hl hh
                    obtain ⟨rfl, rfl⟩ := hR
                    try simp only [List.cons_append, List.nil_append, List.append_assoc, List.append_nil] at hh
                    refine wl (wl_val hl rfl trivial (r_not hl rfl) ?_)
                    clear hl a; intro a hl
                    refine w_nil ?_
                    have hl2 := hl.add (t := 1) (hl.add (t := 2) (hl.add (t := 3) (hl.add (t := 7) (hl.add (t := 8) (hl.add (t := 10) (hl.add (t := 84) (hl.nil) rfl) rfl) rfl) rfl) rfl) rfl) rfl; clear hl; have hl := hl2; clear hl2
                    refine then_normal ?_
                    refine c_cond hl rfl ?_ ?_
                    · intro hc9
                      try simp only [decide_eq_true_eq, decide_eq_false_iff_not, Bool.not_eq_true', Bool.not_eq_false', Bool.not_eq_true, Bool.not_eq_false, Bool.and_eq_true, Bool.or_eq_true, Bool.and_eq_false_iff, Bool.or_eq_false_iff, Bool.not_not, ne_eq, Int.not_lt, Int.not_le, Decidable.not_not, beq_iff_eq, bne_iff_ne] at hc9
                      have hxe : x.d = Sort.shiftUp egB hi (u + 1) dH := by rw [← hx3]; exact (su_stop (fun h9 => by first | omega | (have h8 := h9.2; simp only [(show egB x.d[x.i]! x.d[x.i - 1]! = false by assumption)] at h8; cases h8))).symm
                      obtain ⟨dE, hdEe, hdE⟩ : ∃ dE, dE = x.d ∧ dE.size = n := ⟨_, rfl, hx2⟩
                      simp only [if_pos (show hi - u ≥ 2 by omega), ← hxe, ← hdEe] at hz3
                      rw [← hdEe] at hh
                      have hdm : Sort.partialIns egB lo hi (z.s - 1) u dE = Sort.partialInsertionSort egB d lo hi := by rw [hsv, Nat.add_sub_cancel]; exact hz3
                      refine wp_exit ?_
                      refine then_exit ?_
                      refine blk_exit_ne rfl ?_
                      refine then_exit ?_
                      refine then_exit ?_
                      refine blk_exit ?_
                      refine blk_normal ?_
                      refine then_normal ?_
                      refine c_region ?_
                      refine wl (wl_val hl rfl trivial (r_move hl rfl) ?_)
                      clear hl a; intro a hl
                      first | refine wl (wl_val hl rfl trivial (r_add hl rfl rfl (by simp only [Fits]; omega)) ?_) | refine wl (wl_val hl rfl trivial (r_addW hl rfl rfl) ?_)
                      clear hl a; intro a hl
                      refine wl (wl_val hl rfl trivial (r_assign hl rfl) ?_)
                      clear hl a; intro a hl
                      refine w_nil ?_
                      have hl2 := hl.add (t := 1) (hl.add (t := 2) (hl.add (t := 3) (hl.add (t := 7) (hl.add (t := 8) (hl.nil) rfl) rfl) rfl) rfl) rfl; clear hl; have hl := hl2; clear hl2
                      refine then_normal ?_
                      refine ⟨⟨dE, u, z.s - 1⟩, (by simp only; omega), ⟨hdE, ⟨by simp only; omega, by simp only; omega, by simp only; omega⟩, hdm⟩, hl.addE (t := 7) (hl.addE (t := 8) (hl.addE (t := 1) (hl.addE (t := 2) (hl.addE (t := 3) (hl.nil) rfl (by first | rfl | exact congrArg (Value.int .i64) (by first | omega | (simp only; omega)))) rfl (by first | rfl | exact congrArg (Value.int .i64) (by first | omega | (simp only; omega)))) rfl (by first | rfl | exact congrArg (Value.int .i64) (by first | omega | (simp only; omega)))) rfl (by first | rfl | exact congrArg (Value.int .i64) (by first | omega | (simp only; omega)))) rfl (by first | rfl | exact congrArg (Value.int .i64) (by first | omega | (simp only; omega))), hh.keep (by repeat (first | exact keeps_nil | apply keeps_cons (by repeat (first | exact find_head | apply find_tail | apply find_skip)) (by first  | rfl) | exact keeps_self | exact keeps_left | apply keeps_app | apply keeps_mv | apply keeps_skip))⟩
                    · intro hc9
                      try simp only [decide_eq_true_eq, decide_eq_false_iff_not, Bool.not_eq_true', Bool.not_eq_false', Bool.not_eq_true, Bool.not_eq_false, Bool.and_eq_true, Bool.or_eq_true, Bool.and_eq_false_iff, Bool.or_eq_false_iff, Bool.not_not, ne_eq, Int.not_lt, Int.not_le, Decidable.not_not, beq_iff_eq, bne_iff_ne] at hc9
                      refine wp_skip ?_
                      refine then_normal ?_
                      refine c_region ?_
                      refine wl (wl_val hl rfl trivial (r_field hl rfl fld179_1) ?_)
                      clear hl a; intro a hl
                      refine wl (w_load hl hh rfl trivial one173 rfl (by repeat (first | exact find_head | apply find_tail | apply find_skip)) (by first | rfl) ?_)
                      clear hl a; intro a hl
                      refine wl (wl_val hl rfl trivial (r_move hl rfl) ?_)
                      clear hl a; intro a hl
                      refine wl (wl_val hl rfl trivial (r_move hl rfl) ?_)
                      clear hl a; intro a hl
                      first | refine wl (wl_val hl rfl trivial (r_sub hl rfl rfl (by simp only [Fits]; omega)) ?_) | refine wl (wl_val hl rfl trivial (r_subW hl rfl rfl) ?_)
                      clear hl a; intro a hl
                      refine wl (w_swap (x.i) (x.i - 1) egc_len (by decide) hl hh rfl trivial rfl rfl (by repeat (first | exact find_head | apply find_tail | apply find_skip)) (hE.swz hx2) (by omega) (by omega) (by omega) (by omega) ?_)
                      clear hl hh a w; intro a w hl hh
                      refine w_nil ?_
                      have hl2 := hl.add (t := 1) (hl.add (t := 2) (hl.add (t := 3) (hl.add (t := 7) (hl.add (t := 8) (hl.add (t := 10) (hl.nil) rfl) rfl) rfl) rfl) rfl) rfl; clear hl; have hl := hl2; clear hl2
                      refine blk_normal ?_
                      refine then_normal ?_
                      refine c_region ?_
                      refine wl (wl_val hl rfl trivial (r_move hl rfl) ?_)
                      clear hl a; intro a hl
                      first | refine wl (wl_val hl rfl trivial (r_add hl rfl rfl (by simp only [Fits]; omega)) ?_) | refine wl (wl_val hl rfl trivial (r_addW hl rfl rfl) ?_)
                      clear hl a; intro a hl
                      refine wl (wl_val hl rfl trivial (r_assign hl rfl) ?_)
                      clear hl a; intro a hl
                      refine w_nil ?_
                      have hl2 := hl.add (t := 1) (hl.add (t := 2) (hl.add (t := 3) (hl.add (t := 7) (hl.add (t := 8) (hl.add (t := 10) (hl.nil) rfl) rfl) rfl) rfl) rfl) rfl; clear hl; have hl := hl2; clear hl2
                      refine then_normal ?_
                      refine ⟨⟨Sort.swp x.d x.i (x.i - 1), x.i + 1⟩, (by simp only; omega), ⟨⟨by simp only; omega, by simp only; omega⟩, by simp only; rw [swp_sz]; exact hx2, by simp only; rw [← hx3]; exact (su_go (by omega) (by assumption)).symm⟩, hl.addE (t := 10) (hl.addE (t := 1) (hl.addE (t := 2) (hl.addE (t := 3) (hl.addE (t := 7) (hl.addE (t := 8) (hl.nil) rfl (by first | rfl | exact congrArg (Value.int .i64) (by first | omega | (simp only; omega)))) rfl (by first | rfl | exact congrArg (Value.int .i64) (by first | omega | (simp only; omega)))) rfl (by first | rfl | exact congrArg (Value.int .i64) (by first | omega | (simp only; omega)))) rfl (by first | rfl | exact congrArg (Value.int .i64) (by first | omega | (simp only; omega)))) rfl (by first | rfl | exact congrArg (Value.int .i64) (by first | omega | (simp only; omega)))) rfl (by first | rfl | exact congrArg (Value.int .i64) (by first | omega | (simp only; omega))), hh.keep (by repeat (first | exact keeps_nil | apply keeps_cons (by repeat (first | exact find_head | apply find_tail | apply find_skip)) (by first  | rfl) | exact keeps_self | exact keeps_left | apply keeps_app | apply keeps_mv | apply keeps_skip))⟩
                  · intro hc8
                    try simp only [decide_eq_true_eq, decide_eq_false_iff_not, Bool.not_eq_true', Bool.not_eq_false', Bool.not_eq_true, Bool.not_eq_false, Bool.and_eq_true, Bool.or_eq_true, Bool.and_eq_false_iff, Bool.or_eq_false_iff, Bool.not_not, ne_eq, Int.not_lt, Int.not_le, Decidable.not_not, beq_iff_eq, bne_iff_ne] at hc8
                    have hxe : x.d = Sort.shiftUp egB hi (u + 1) dH := by rw [← hx3]; exact (su_stop (fun h9 => by omega)).symm
                    obtain ⟨dE, hdEe, hdE⟩ : ∃ dE, dE = x.d ∧ dE.size = n := ⟨_, rfl, hx2⟩
                    simp only [if_pos (show hi - u ≥ 2 by omega), ← hxe, ← hdEe] at hz3
                    rw [← hdEe] at hh
                    have hdm : Sort.partialIns egB lo hi (z.s - 1) u dE = Sort.partialInsertionSort egB d lo hi := by rw [hsv, Nat.add_sub_cancel]; exact hz3
                    refine wp_exit ?_
                    refine then_exit ?_
                    refine then_exit ?_
                    refine blk_exit ?_
                    refine blk_normal ?_
                    refine then_normal ?_
                    refine c_region ?_
                    refine wl (wl_val hl rfl trivial (r_move hl rfl) ?_)
                    clear hl a; intro a hl
                    first | refine wl (wl_val hl rfl trivial (r_add hl rfl rfl (by simp only [Fits]; omega)) ?_) | refine wl (wl_val hl rfl trivial (r_addW hl rfl rfl) ?_)
                    clear hl a; intro a hl
                    refine wl (wl_val hl rfl trivial (r_assign hl rfl) ?_)
                    clear hl a; intro a hl
                    refine w_nil ?_
                    have hl2 := hl.add (t := 1) (hl.add (t := 2) (hl.add (t := 3) (hl.add (t := 7) (hl.add (t := 8) (hl.nil) rfl) rfl) rfl) rfl) rfl; clear hl; have hl := hl2; clear hl2
                    refine then_normal ?_
                    refine ⟨⟨dE, u, z.s - 1⟩, (by simp only; omega), ⟨hdE, ⟨by simp only; omega, by simp only; omega, by simp only; omega⟩, hdm⟩, hl.addE (t := 7) (hl.addE (t := 8) (hl.addE (t := 1) (hl.addE (t := 2) (hl.addE (t := 3) (hl.nil) rfl (by first | rfl | exact congrArg (Value.int .i64) (by first | omega | (simp only; omega)))) rfl (by first | rfl | exact congrArg (Value.int .i64) (by first | omega | (simp only; omega)))) rfl (by first | rfl | exact congrArg (Value.int .i64) (by first | omega | (simp only; omega)))) rfl (by first | rfl | exact congrArg (Value.int .i64) (by first | omega | (simp only; omega)))) rfl (by first | rfl | exact congrArg (Value.int .i64) (by first | omega | (simp only; omega))), hh.keep (by repeat (first | exact keeps_nil | apply keeps_cons (by repeat (first | exact find_head | apply find_tail | apply find_skip)) (by first  | rfl) | exact keeps_self | exact keeps_left | apply keeps_app | apply keeps_mv | apply keeps_skip))⟩
                · intro hc7
                  try simp only [decide_eq_true_eq, decide_eq_false_iff_not, Bool.not_eq_true', Bool.not_eq_false', Bool.not_eq_true, Bool.not_eq_false, Bool.and_eq_true, Bool.or_eq_true, Bool.and_eq_false_iff, Bool.or_eq_false_iff, Bool.not_not, ne_eq, Int.not_lt, Int.not_le, Decidable.not_not, beq_iff_eq, bne_iff_ne] at hc7
                  obtain ⟨dE, hdEe, hdE⟩ : ∃ dE, dE = dH ∧ dE.size = n := ⟨_, rfl, hdH⟩
                  simp only [if_neg (show ¬ hi - u ≥ 2 by omega), ← hdEe] at hz3
                  rw [← hdEe] at hh
                  have hdm : Sort.partialIns egB lo hi (z.s - 1) u dE = Sort.partialInsertionSort egB d lo hi := by rw [hsv, Nat.add_sub_cancel]; exact hz3
                  refine wp_skip ?_
                  refine blk_normal ?_
                  refine then_normal ?_
                  refine c_region ?_
                  refine wl (wl_val hl rfl trivial (r_move hl rfl) ?_)
                  clear hl a; intro a hl
                  first | refine wl (wl_val hl rfl trivial (r_add hl rfl rfl (by simp only [Fits]; omega)) ?_) | refine wl (wl_val hl rfl trivial (r_addW hl rfl rfl) ?_)
                  clear hl a; intro a hl
                  refine wl (wl_val hl rfl trivial (r_assign hl rfl) ?_)
                  clear hl a; intro a hl
                  refine w_nil ?_
                  have hl2 := hl.add (t := 1) (hl.add (t := 2) (hl.add (t := 3) (hl.add (t := 7) (hl.add (t := 8) (hl.nil) rfl) rfl) rfl) rfl) rfl; clear hl; have hl := hl2; clear hl2
                  refine then_normal ?_
                  refine ⟨⟨dE, u, z.s - 1⟩, (by simp only; omega), ⟨hdE, ⟨by simp only; omega, by simp only; omega, by simp only; omega⟩, hdm⟩, hl.addE (t := 7) (hl.addE (t := 8) (hl.addE (t := 1) (hl.addE (t := 2) (hl.addE (t := 3) (hl.nil) rfl (by first | rfl | exact congrArg (Value.int .i64) (by first | omega | (simp only; omega)))) rfl (by first | rfl | exact congrArg (Value.int .i64) (by first | omega | (simp only; omega)))) rfl (by first | rfl | exact congrArg (Value.int .i64) (by first | omega | (simp only; omega)))) rfl (by first | rfl | exact congrArg (Value.int .i64) (by first | omega | (simp only; omega)))) rfl (by first | rfl | exact congrArg (Value.int .i64) (by first | omega | (simp only; omega))), hh.keep (by repeat (first | exact keeps_nil | apply keeps_cons (by repeat (first | exact find_head | apply find_tail | apply find_skip)) (by first  | rfl) | exact keeps_self | exact keeps_left | apply keeps_app | apply keeps_mv | apply keeps_skip))⟩
              · intro hc6
                try simp only [decide_eq_true_eq, decide_eq_false_iff_not, Bool.not_eq_true', Bool.not_eq_false', Bool.not_eq_true, Bool.not_eq_false, Bool.and_eq_true, Bool.or_eq_true, Bool.and_eq_false_iff, Bool.or_eq_false_iff, Bool.not_not, ne_eq, Int.not_lt, Int.not_le, Decidable.not_not, beq_iff_eq, bne_iff_ne] at hc6
                refine wp_skip ?_
                refine then_normal ?_
                refine c_region ?_
                refine wl (wl_val hl rfl trivial (r_field hl rfl fld179_1) ?_)
                clear hl a; intro a hl
                refine wl (w_load hl hh rfl trivial one173 rfl (by repeat (first | exact find_head | apply find_tail | apply find_skip)) (by first | rfl) ?_)
                clear hl a; intro a hl
                refine wl (wl_val hl rfl trivial (r_move hl rfl) ?_)
                clear hl a; intro a hl
                refine wl (wl_val hl rfl trivial (r_move hl rfl) ?_)
                clear hl a; intro a hl
                first | refine wl (wl_val hl rfl trivial (r_sub hl rfl rfl (by simp only [Fits]; omega)) ?_) | refine wl (wl_val hl rfl trivial (r_subW hl rfl rfl) ?_)
                clear hl a; intro a hl
                refine wl (w_swap (y.i) (y.i - 1) egc_len (by decide) hl hh rfl trivial rfl rfl (by repeat (first | exact find_head | apply find_tail | apply find_skip)) (hE.swz hy2) (by omega) (by omega) (by omega) (by omega) ?_)
                clear hl hh a w; intro a w hl hh
                refine w_nil ?_
                have hl2 := hl.add (t := 1) (hl.add (t := 2) (hl.add (t := 3) (hl.add (t := 7) (hl.add (t := 8) (hl.add (t := 9) (hl.nil) rfl) rfl) rfl) rfl) rfl) rfl; clear hl; have hl := hl2; clear hl2
                refine blk_normal ?_
                refine then_normal ?_
                refine c_region ?_
                refine wl (wl_val hl rfl trivial (r_move hl rfl) ?_)
                clear hl a; intro a hl
                first | refine wl (wl_val hl rfl trivial (r_sub hl rfl rfl (by simp only [Fits]; omega)) ?_) | refine wl (wl_val hl rfl trivial (r_subW hl rfl rfl) ?_)
                clear hl a; intro a hl
                refine wl (wl_val hl rfl trivial (r_assign hl rfl) ?_)
                clear hl a; intro a hl
                refine w_nil ?_
                have hl2 := hl.add (t := 1) (hl.add (t := 2) (hl.add (t := 3) (hl.add (t := 7) (hl.add (t := 8) (hl.add (t := 9) (hl.nil) rfl) rfl) rfl) rfl) rfl) rfl; clear hl; have hl := hl2; clear hl2
                refine then_normal ?_
                refine ⟨⟨Sort.swp y.d y.i (y.i - 1), y.i - 1⟩, (by simp only; omega), ⟨by simp only; omega, by simp only; rw [swp_sz]; exact hy2, by simp only; rw [← hy3]; exact (sd_go (by omega) (by assumption)).symm⟩, hl.addE (t := 9) (hl.addE (t := 1) (hl.addE (t := 2) (hl.addE (t := 3) (hl.addE (t := 7) (hl.addE (t := 8) (hl.nil) rfl (by first | rfl | exact congrArg (Value.int .i64) (by first | omega | (simp only; omega)))) rfl (by first | rfl | exact congrArg (Value.int .i64) (by first | omega | (simp only; omega)))) rfl (by first | rfl | exact congrArg (Value.int .i64) (by first | omega | (simp only; omega)))) rfl (by first | rfl | exact congrArg (Value.int .i64) (by first | omega | (simp only; omega)))) rfl (by first | rfl | exact congrArg (Value.int .i64) (by first | omega | (simp only; omega)))) rfl (by first | rfl | exact congrArg (Value.int .i64) (by first | omega | (simp only; omega))), hh.keep (by repeat (first | exact keeps_nil | apply keeps_cons (by repeat (first | exact find_head | apply find_tail | apply find_skip)) (by first  | rfl) | exact keeps_self | exact keeps_left | apply keeps_app | apply keeps_mv | apply keeps_skip))⟩
            · intro hc5
              try simp only [decide_eq_true_eq, decide_eq_false_iff_not, Bool.not_eq_true', Bool.not_eq_false', Bool.not_eq_true, Bool.not_eq_false, Bool.and_eq_true, Bool.or_eq_true, Bool.and_eq_false_iff, Bool.or_eq_false_iff, Bool.not_not, ne_eq, Int.not_lt, Int.not_le, Decidable.not_not, beq_iff_eq, bne_iff_ne] at hc5
              have hye : y.d = Sort.shiftDown egB (u - 1) (Sort.swp z.d u (u - 1)) := by rw [← hy3]; exact (sd_stop (fun h9 => by omega)).symm
              obtain ⟨dH, hdHe, hdH⟩ : ∃ dH, dH = y.d ∧ dH.size = n := ⟨_, rfl, hy2⟩
              simp only [if_pos (show u - lo ≥ 2 by omega), ← hye, ← hdHe] at hz3
              rw [← hdHe] at hh
              refine wp_exit ?_
              refine then_exit ?_
              refine then_exit ?_
              refine blk_exit ?_
              refine then_normal ?_
              refine c_seq ?_
              refine c_region ?_
              refine wl (wl_val hl rfl trivial (r_move hl rfl) ?_)
              clear hl a; intro a hl
              refine wl (wl_val hl rfl trivial (r_move hl rfl) ?_)
              clear hl a; intro a hl
              first | refine wl (wl_val hl rfl trivial (r_sub hl rfl rfl (by simp only [Fits]; omega)) ?_) | refine wl (wl_val hl rfl trivial (r_subW hl rfl rfl) ?_)
              clear hl a; intro a hl
              refine wl (wl_val hl rfl trivial (r_geq hl rfl rfl) ?_)
              clear hl a; intro a hl
              refine w_nil ?_
              have hl2 := hl.add (t := 1) (hl.add (t := 2) (hl.add (t := 3) (hl.add (t := 7) (hl.add (t := 8) (hl.add (t := 70) (hl.nil) rfl) rfl) rfl) rfl) rfl) rfl; clear hl; have hl := hl2; clear hl2
              refine then_normal ?_
              refine c_cond hl rfl ?_ ?_
              · intro hc7
                try simp only [decide_eq_true_eq, decide_eq_false_iff_not, Bool.not_eq_true', Bool.not_eq_false', Bool.not_eq_true, Bool.not_eq_false, Bool.and_eq_true, Bool.or_eq_true, Bool.and_eq_false_iff, Bool.or_eq_false_iff, Bool.not_not, ne_eq, Int.not_lt, Int.not_le, Decidable.not_not, beq_iff_eq, bne_iff_ne] at hc7
                refine c_seq ?_
                refine c_region ?_
                refine wl (wl_val hl rfl trivial (r_move hl rfl) ?_)
                clear hl a; intro a hl
                first | refine wl (wl_val hl rfl trivial (r_add hl rfl rfl (by simp only [Fits]; omega)) ?_) | refine wl (wl_val hl rfl trivial (r_addW hl rfl rfl) ?_)
                clear hl a; intro a hl
                refine wl (wl_val hl rfl trivial (r_assign hl rfl) ?_)
                clear hl a; intro a hl
                refine w_nil ?_
                have hl2 := hl.add (t := 1) (hl.add (t := 2) (hl.add (t := 3) (hl.add (t := 7) (hl.add (t := 8) (hl.add (t := 10) (hl.nil) rfl) rfl) rfl) rfl) rfl) rfl; clear hl; have hl := hl2; clear hl2
                refine then_normal ?_
                refine wp_block ?_
                obtain ⟨KS3, hKS3, hk⟩ := (hl.add (t := 1) (hl.add (t := 2) (hl.add (t := 3) (hl.add (t := 7) (hl.add (t := 8) (hl.nil) rfl) rfl) rfl) rfl) rfl).name
                obtain ⟨HS3, hHS3, hh2⟩ := hh.name (keeps_cons (b := b) (o' := C (fl egc dH.toList ++ junk) 102) (by repeat (first | exact find_head | apply find_tail | apply find_skip)) (by first | rfl) (keeps_nil))
                refine c_loop (α := IZ) (fun x => hi - x.i) (fun x a w => ((u + 1 ≤ x.i ∧ x.i ≤ hi) ∧ x.d.size = n ∧ Sort.shiftUp egB hi x.i x.d = Sort.shiftUp egB hi (u + 1) dH) ∧ Sl 91 ([(10, .int .i64 (x.i : Int))] ++ KS3) a ∧ Has _ w0 ([(b, C (fl egc x.d.toList ++ junk) 102)] ++ HS3) w) ⟨dH, u + 1⟩ ⟨⟨⟨Nat.le_refl _, by simp only; omega⟩, hdH, rfl⟩, hl.addE (t := 10) (hk) rfl (by first | exact congrArg (Value.int .i64) (by first | omega | (simp only; omega)) | rfl), hh2⟩ ?_
                clear hk hh2 hl hh a w
                intro x a w hI
                obtain ⟨⟨hx1, hx2, hx3⟩, hl, hh⟩ := hI
                subst hKS3; subst hHS3
                simp only [List.cons_append, List.nil_append, List.append_nil, List.append_assoc] at hl hh
                refine c_seq ?_
                refine c_seq ?_
                refine c_region ?_
                refine wl (wl_val hl rfl trivial (r_move hl rfl) ?_)
                clear hl a; intro a hl
                refine wl (wl_val hl rfl trivial (r_move hl rfl) ?_)
                clear hl a; intro a hl
                refine wl (wl_val hl rfl trivial (r_lss hl rfl rfl) ?_)
                clear hl a; intro a hl
                refine w_nil ?_
                have hl2 := hl.add (t := 1) (hl.add (t := 2) (hl.add (t := 3) (hl.add (t := 7) (hl.add (t := 8) (hl.add (t := 10) (hl.add (t := 75) (hl.nil) rfl) rfl) rfl) rfl) rfl) rfl) rfl; clear hl; have hl := hl2; clear hl2
                refine then_normal ?_
                refine c_cond hl rfl ?_ ?_
                · intro hc8
                  try simp only [decide_eq_true_eq, decide_eq_false_iff_not, Bool.not_eq_true', Bool.not_eq_false', Bool.not_eq_true, Bool.not_eq_false, Bool.and_eq_true, Bool.or_eq_true, Bool.and_eq_false_iff, Bool.or_eq_false_iff, Bool.not_not, ne_eq, Int.not_lt, Int.not_le, Decidable.not_not, beq_iff_eq, bne_iff_ne] at hc8
                  refine wp_skip ?_
                  refine then_normal ?_
                  refine c_seq ?_
                  refine wp_block ?_
                  refine c_seq ?_
                  refine c_seq ?_
                  refine c_region ?_
                  refine wl (wl_val hl rfl trivial (r_field hl rfl fld179_0) ?_)
                  clear hl a; intro a hl
                  refine wl (w_load hl hh rfl trivial one144 rfl (by repeat (first | exact find_head | apply find_tail | apply find_skip)) (by first | rfl) ?_)
                  clear hl a; intro a hl
                  refine wl (wl_val hl rfl trivial (r_move hl rfl) ?_)
                  clear hl a; intro a hl
                  refine wl (wl_val hl rfl trivial (r_move hl rfl) ?_)
                  clear hl a; intro a hl
                  first | refine wl (wl_val hl rfl trivial (r_sub hl rfl rfl (by simp only [Fits]; omega)) ?_) | refine wl (wl_val hl rfl trivial (r_subW hl rfl rfl) ?_)
                  clear hl a; intro a hl
                  refine wl (w_call hl hh rfl trivial rfl cal62 rfl (less_spec (hE.to hx2) _ _ x.i (x.i - 1) (by omega) (by omega) (by omega) (by omega)) (by repeat (first | exact keeps_nil | apply keeps_cons (by repeat (first | exact find_head | apply find_tail | apply find_skip)) (by first  | rfl) | exact keeps_self | exact keeps_left | apply keeps_app | apply keeps_mv | apply keeps_skip)) trivial ?_)
                  clear hl hh a w; intro vc Fc a w hR hl hh
                  obtain ⟨rfl, rfl⟩ := hR
                  try simp only [List.cons_append, List.nil_append, List.append_assoc, List.append_nil] at hh
                  refine wl (wl_val hl rfl trivial (r_not hl rfl) ?_)
                  clear hl a; intro a hl
                  refine w_nil ?_
                  have hl2 := hl.add (t := 1) (hl.add (t := 2) (hl.add (t := 3) (hl.add (t := 7) (hl.add (t := 8) (hl.add (t := 10) (hl.add (t := 84) (hl.nil) rfl) rfl) rfl) rfl) rfl) rfl) rfl; clear hl; have hl := hl2; clear hl2
                  refine then_normal ?_
                  refine c_cond hl rfl ?_ ?_
                  · intro hc9
                    try simp only [decide_eq_true_eq, decide_eq_false_iff_not, Bool.not_eq_true', Bool.not_eq_false', Bool.not_eq_true, Bool.not_eq_false, Bool.and_eq_true, Bool.or_eq_true, Bool.and_eq_false_iff, Bool.or_eq_false_iff, Bool.not_not, ne_eq, Int.not_lt, Int.not_le, Decidable.not_not, beq_iff_eq, bne_iff_ne] at hc9
                    have hxe : x.d = Sort.shiftUp egB hi (u + 1) dH := by rw [← hx3]; exact (su_stop (fun h9 => by first | omega | (have h8 := h9.2; simp only [(show egB x.d[x.i]! x.d[x.i - 1]! = false by assumption)] at h8; cases h8))).symm
                    obtain ⟨dE, hdEe, hdE⟩ : ∃ dE, dE = x.d ∧ dE.size = n := ⟨_, rfl, hx2⟩
                    simp only [if_pos (show hi - u ≥ 2 by omega), ← hxe, ← hdEe] at hz3
                    rw [← hdEe] at hh
                    have hdm : Sort.partialIns egB lo hi (z.s - 1) u dE = Sort.partialInsertionSort egB d lo hi := by rw [hsv, Nat.add_sub_cancel]; exact hz3
                    refine wp_exit ?_
                    refine then_exit ?_
                    refine blk_exit_ne rfl ?_
                    refine then_exit ?_
                    refine then_exit ?_
                    refine blk_exit ?_
                    refine blk_normal ?_
                    refine then_normal ?_
                    refine c_region ?_
                    refine wl (wl_val hl rfl trivial (r_move hl rfl) ?_)
                    clear hl a; intro a hl
                    first | refine wl (wl_val hl rfl trivial (r_add hl rfl rfl (by simp only [Fits]; omega)) ?_) | refine wl (wl_val hl rfl trivial (r_addW hl rfl rfl) ?_)
                    clear hl a; intro a hl
                    refine wl (wl_val hl rfl trivial (r_assign hl rfl) ?_)
                    clear hl a; intro a hl
                    refine w_nil ?_
                    have hl2 := hl.add (t := 1) (hl.add (t := 2) (hl.add (t := 3) (hl.add (t := 7) (hl.add (t := 8) (hl.nil) rfl) rfl) rfl) rfl) rfl; clear hl; have hl := hl2; clear hl2
                    refine then_normal ?_
                    refine ⟨⟨dE, u, z.s - 1⟩, (by simp only; omega), ⟨hdE, ⟨by simp only; omega, by simp only; omega, by simp only; omega⟩, hdm⟩, hl.addE (t := 7) (hl.addE (t := 8) (hl.addE (t := 1) (hl.addE (t := 2) (hl.addE (t := 3) (hl.nil) rfl (by first | rfl | exact congrArg (Value.int .i64) (by first | omega | (simp only; omega)))) rfl (by first | rfl | exact congrArg (Value.int .i64) (by first | omega | (simp only; omega)))) rfl (by first | rfl | exact congrArg (Value.int .i64) (by first | omega | (simp only; omega)))) rfl (by first | rfl | exact congrArg (Value.int .i64) (by first | omega | (simp only; omega)))) rfl (by first | rfl | exact congrArg (Value.int .i64) (by first | omega | (simp only; omega))), hh.keep (by repeat (first | exact keeps_nil | apply keeps_cons (by repeat (first | exact find_head | apply find_tail | apply find_skip)) (by first  | rfl) | exact keeps_self | exact keeps_left | apply keeps_app | apply keeps_mv | apply keeps_skip))⟩
                  · intro hc9
                    try simp only [decide_eq_true_eq, decide_eq_false_iff_not, Bool.not_eq_true', Bool.not_eq_false', Bool.not_eq_true, Bool.not_eq_false, Bool.and_eq_true, Bool.or_eq_true, Bool.and_eq_false_iff, Bool.or_eq_false_iff, Bool.not_not, ne_eq, Int.not_lt, Int.not_le, Decidable.not_not, beq_iff_eq, bne_iff_ne] at hc9
                    refine wp_skip ?_
                    refine then_normal ?_
                    refine c_region ?_
                    refine wl (wl_val hl rfl trivial (r_field hl rfl fld179_1) ?_)
                    clear hl a; intro a hl
                    refine wl (w_load hl hh rfl trivial one173 rfl (by repeat (first | exact find_head | apply find_tail | apply find_skip)) (by first | rfl) ?_)
                    clear hl a; intro a hl
                    refine wl (wl_val hl rfl trivial (r_move hl rfl) ?_)
                    clear hl a; intro a hl
                    refine wl (wl_val hl rfl trivial (r_move hl rfl) ?_)
                    clear hl a; intro a hl
                    first | refine wl (wl_val hl rfl trivial (r_sub hl rfl rfl (by simp only [Fits]; omega)) ?_) | refine wl (wl_val hl rfl trivial (r_subW hl rfl rfl) ?_)
                    clear hl a; intro a hl
                    refine wl (w_swap (x.i) (x.i - 1) egc_len (by decide) hl hh rfl trivial rfl rfl (by repeat (first | exact find_head | apply find_tail | apply find_skip)) (hE.swz hx2) (by omega) (by omega) (by omega) (by omega) ?_)
                    clear hl hh a w; intro a w hl hh
                    refine w_nil ?_
                    have hl2 := hl.add (t := 1) (hl.add (t := 2) (hl.add (t := 3) (hl.add (t := 7) (hl.add (t := 8) (hl.add (t := 10) (hl.nil) rfl) rfl) rfl) rfl) rfl) rfl; clear hl; have hl := hl2; clear hl2
                    refine blk_normal ?_
                    refine then_normal ?_
                    refine c_region ?_
                    refine wl (wl_val hl rfl trivial (r_move hl rfl) ?_)
                    clear hl a; intro a hl
                    first | refine wl (wl_val hl rfl trivial (r_add hl rfl rfl (by simp only [Fits]; omega)) ?_) | refine wl (wl_val hl rfl trivial (r_addW hl rfl rfl) ?_)
                    clear hl a; intro a hl
                    refine wl (wl_val hl rfl trivial (r_assign hl rfl) ?_)
                    clear hl a; intro a hl
                    refine w_nil ?_
                    have hl2 := hl.add (t := 1) (hl.add (t := 2) (hl.add (t := 3) (hl.add (t := 7) (hl.add (t := 8) (hl.add (t := 10) (hl.nil) rfl) rfl) rfl) rfl) rfl) rfl; clear hl; have hl := hl2; clear hl2
                    refine then_normal ?_
                    refine ⟨⟨Sort.swp x.d x.i (x.i - 1), x.i + 1⟩, (by simp only; omega), ⟨⟨by simp only; omega, by simp only; omega⟩, by simp only; rw [swp_sz]; exact hx2, by simp only; rw [← hx3]; exact (su_go (by omega) (by assumption)).symm⟩, hl.addE (t := 10) (hl.addE (t := 1) (hl.addE (t := 2) (hl.addE (t := 3) (hl.addE (t := 7) (hl.addE (t := 8) (hl.nil) rfl (by first | rfl | exact congrArg (Value.int .i64) (by first | omega | (simp only; omega)))) rfl (by first | rfl | exact congrArg (Value.int .i64) (by first | omega | (simp only; omega)))) rfl (by first | rfl | exact congrArg (Value.int .i64) (by first | omega | (simp only; omega)))) rfl (by first | rfl | exact congrArg (Value.int .i64) (by first | omega | (simp only; omega)))) rfl (by first | rfl | exact congrArg (Value.int .i64) (by first | omega | (simp only; omega)))) rfl (by first | rfl | exact congrArg (Value.int .i64) (by first | omega | (simp only; omega))), hh.keep (by repeat (first | exact keeps_nil | apply keeps_cons (by repeat (first | exact find_head | apply find_tail | apply find_skip)) (by first  | rfl) | exact keeps_self | exact keeps_left | apply keeps_app | apply keeps_mv | apply keeps_skip))⟩
                · intro hc8
                  try simp only [decide_eq_true_eq, decide_eq_false_iff_not, Bool.not_eq_true', Bool.not_eq_false', Bool.not_eq_true, Bool.not_eq_false, Bool.and_eq_true, Bool.or_eq_true, Bool.and_eq_false_iff, Bool.or_eq_false_iff, Bool.not_not, ne_eq, Int.not_lt, Int.not_le, Decidable.not_not, beq_iff_eq, bne_iff_ne] at hc8
                  have hxe : x.d = Sort.shiftUp egB hi (u + 1) dH := by rw [← hx3]; exact (su_stop (fun h9 => by omega)).symm
                  obtain ⟨dE, hdEe, hdE⟩ : ∃ dE, dE = x.d ∧ dE.size = n := ⟨_, rfl, hx2⟩
                  simp only [if_pos (show hi - u ≥ 2 by omega), ← hxe, ← hdEe] at hz3
                  rw [← hdEe] at hh
                  have hdm : Sort.partialIns egB lo hi (z.s - 1) u dE = Sort.partialInsertionSort egB d lo hi := by rw [hsv, Nat.add_sub_cancel]; exact hz3
                  refine wp_exit ?_
                  refine then_exit ?_
                  refine then_exit ?_
                  refine blk_exit ?_
                  refine blk_normal ?_
                  refine then_normal ?_
                  refine c_region ?_
                  refine wl (wl_val hl rfl trivial (r_move hl rfl) ?_)
                  clear hl a; intro a hl
                  first | refine wl (wl_val hl rfl trivial (r_add hl rfl rfl (by simp only [Fits]; omega)) ?_) | refine wl (wl_val hl rfl trivial (r_addW hl rfl rfl) ?_)
                  clear hl a; intro a hl
                  refine wl (wl_val hl rfl trivial (r_assign hl rfl) ?_)
                  clear hl a; intro a hl
                  refine w_nil ?_
                  have hl2 := hl.add (t := 1) (hl.add (t := 2) (hl.add (t := 3) (hl.add (t := 7) (hl.add (t := 8) (hl.nil) rfl) rfl) rfl) rfl) rfl; clear hl; have hl := hl2; clear hl2
                  refine then_normal ?_
                  refine ⟨⟨dE, u, z.s - 1⟩, (by simp only; omega), ⟨hdE, ⟨by simp only; omega, by simp only; omega, by simp only; omega⟩, hdm⟩, hl.addE (t := 7) (hl.addE (t := 8) (hl.addE (t := 1) (hl.addE (t := 2) (hl.addE (t := 3) (hl.nil) rfl (by first | rfl | exact congrArg (Value.int .i64) (by first | omega | (simp only; omega)))) rfl (by first | rfl | exact congrArg (Value.int .i64) (by first | omega | (simp only; omega)))) rfl (by first | rfl | exact congrArg (Value.int .i64) (by first | omega | (simp only; omega)))) rfl (by first | rfl | exact congrArg (Value.int .i64) (by first | omega | (simp only; omega)))) rfl (by first | rfl | exact congrArg (Value.int .i64) (by first | omega | (simp only; omega))), hh.keep (by repeat (first | exact keeps_nil | apply keeps_cons (by repeat (first | exact find_head | apply find_tail | apply find_skip)) (by first  | rfl) | exact keeps_self | exact keeps_left | apply keeps_app | apply keeps_mv | apply keeps_skip))⟩
              · intro hc7
                try simp only [decide_eq_true_eq, decide_eq_false_iff_not, Bool.not_eq_true', Bool.not_eq_false', Bool.not_eq_true, Bool.not_eq_false, Bool.and_eq_true, Bool.or_eq_true, Bool.and_eq_false_iff, Bool.or_eq_false_iff, Bool.not_not, ne_eq, Int.not_lt, Int.not_le, Decidable.not_not, beq_iff_eq, bne_iff_ne] at hc7
                obtain ⟨dE, hdEe, hdE⟩ : ∃ dE, dE = dH ∧ dE.size = n := ⟨_, rfl, hdH⟩
                simp only [if_neg (show ¬ hi - u ≥ 2 by omega), ← hdEe] at hz3
                rw [← hdEe] at hh
                have hdm : Sort.partialIns egB lo hi (z.s - 1) u dE = Sort.partialInsertionSort egB d lo hi := by rw [hsv, Nat.add_sub_cancel]; exact hz3
                refine wp_skip ?_
                refine blk_normal ?_
                refine then_normal ?_
                refine c_region ?_
                refine wl (wl_val hl rfl trivial (r_move hl rfl) ?_)
                clear hl a; intro a hl
                first | refine wl (wl_val hl rfl trivial (r_add hl rfl rfl (by simp only [Fits]; omega)) ?_) | refine wl (wl_val hl rfl trivial (r_addW hl rfl rfl) ?_)
                clear hl a; intro a hl
                refine wl (wl_val hl rfl trivial (r_assign hl rfl) ?_)
                clear hl a; intro a hl
                refine w_nil ?_
                have hl2 := hl.add (t := 1) (hl.add (t := 2) (hl.add (t := 3) (hl.add (t := 7) (hl.add (t := 8) (hl.nil) rfl) rfl) rfl) rfl) rfl; clear hl; have hl := hl2; clear hl2
                refine then_normal ?_
                refine ⟨⟨dE, u, z.s - 1⟩, (by simp only; omega), ⟨hdE, ⟨by simp only; omega, by simp only; omega, by simp only; omega⟩, hdm⟩, hl.addE (t := 7) (hl.addE (t := 8) (hl.addE (t := 1) (hl.addE (t := 2) (hl.addE (t := 3) (hl.nil) rfl (by first | rfl | exact congrArg (Value.int .i64) (by first | omega | (simp only; omega)))) rfl (by first | rfl | exact congrArg (Value.int .i64) (by first | omega | (simp only; omega)))) rfl (by first | rfl | exact congrArg (Value.int .i64) (by first | omega | (simp only; omega)))) rfl (by first | rfl | exact congrArg (Value.int .i64) (by first | omega | (simp only; omega)))) rfl (by first | rfl | exact congrArg (Value.int .i64) (by first | omega | (simp only; omega))), hh.keep (by repeat (first | exact keeps_nil | apply keeps_cons (by repeat (first | exact find_head | apply find_tail | apply find_skip)) (by first  | rfl) | exact keeps_self | exact keeps_left | apply keeps_app | apply keeps_mv | apply keeps_skip))⟩
          · intro hc4
            try simp only [decide_eq_true_eq, decide_eq_false_iff_not, Bool.not_eq_true', Bool.not_eq_false', Bool.not_eq_true, Bool.not_eq_false, Bool.and_eq_true, Bool.or_eq_true, Bool.and_eq_false_iff, Bool.or_eq_false_iff, Bool.not_not, ne_eq, Int.not_lt, Int.not_le, Decidable.not_not, beq_iff_eq, bne_iff_ne] at hc4
            obtain ⟨dH, hdHe, hdH⟩ : ∃ dH, dH = (Sort.swp z.d u (u - 1)) ∧ dH.size = n := ⟨_, rfl, hs2⟩
            simp only [if_neg (show ¬ u - lo ≥ 2 by omega), ← hdHe] at hz3
            rw [← hdHe] at hh
            refine wp_skip ?_
            refine then_normal ?_
            refine c_seq ?_
            refine c_region ?_
            refine wl (wl_val hl rfl trivial (r_move hl rfl) ?_)
            clear hl a; intro a hl
            refine wl (wl_val hl rfl trivial (r_move hl rfl) ?_)
            clear hl a; intro a hl
            first | refine wl (wl_val hl rfl trivial (r_sub hl rfl rfl (by simp only [Fits]; omega)) ?_) | refine wl (wl_val hl rfl trivial (r_subW hl rfl rfl) ?_)
            clear hl a; intro a hl
            refine wl (wl_val hl rfl trivial (r_geq hl rfl rfl) ?_)
            clear hl a; intro a hl
            refine w_nil ?_
            have hl2 := hl.add (t := 1) (hl.add (t := 2) (hl.add (t := 3) (hl.add (t := 7) (hl.add (t := 8) (hl.add (t := 70) (hl.nil) rfl) rfl) rfl) rfl) rfl) rfl; clear hl; have hl := hl2; clear hl2
            refine then_normal ?_
            refine c_cond hl rfl ?_ ?_
            · intro hc7
              try simp only [decide_eq_true_eq, decide_eq_false_iff_not, Bool.not_eq_true', Bool.not_eq_false', Bool.not_eq_true, Bool.not_eq_false, Bool.and_eq_true, Bool.or_eq_true, Bool.and_eq_false_iff, Bool.or_eq_false_iff, Bool.not_not, ne_eq, Int.not_lt, Int.not_le, Decidable.not_not, beq_iff_eq, bne_iff_ne] at hc7
              refine c_seq ?_
              refine c_region ?_
              refine wl (wl_val hl rfl trivial (r_move hl rfl) ?_)
              clear hl a; intro a hl
              first | refine wl (wl_val hl rfl trivial (r_add hl rfl rfl (by simp only [Fits]; omega)) ?_) | refine wl (wl_val hl rfl trivial (r_addW hl rfl rfl) ?_)
              clear hl a; intro a hl
              refine wl (wl_val hl rfl trivial (r_assign hl rfl) ?_)
              clear hl a; intro a hl
              refine w_nil ?_
              have hl2 := hl.add (t := 1) (hl.add (t := 2) (hl.add (t := 3) (hl.add (t := 7) (hl.add (t := 8) (hl.add (t := 10) (hl.nil) rfl) rfl) rfl) rfl) rfl) rfl; clear hl; have hl := hl2; clear hl2
              refine then_normal ?_
              refine wp_block ?_
              obtain ⟨KS3, hKS3, hk⟩ := (hl.add (t := 1) (hl.add (t := 2) (hl.add (t := 3) (hl.add (t := 7) (hl.add (t := 8) (hl.nil) rfl) rfl) rfl) rfl) rfl).name
              obtain ⟨HS3, hHS3, hh2⟩ := hh.name (keeps_cons (b := b) (o' := C (fl egc dH.toList ++ junk) 102) (by repeat (first | exact find_head | apply find_tail | apply find_skip)) (by first | rfl) (keeps_nil))
              refine c_loop (α := IZ) (fun x => hi - x.i) (fun x a w => ((u + 1 ≤ x.i ∧ x.i ≤ hi) ∧ x.d.size = n ∧ Sort.shiftUp egB hi x.i x.d = Sort.shiftUp egB hi (u + 1) dH) ∧ Sl 91 ([(10, .int .i64 (x.i : Int))] ++ KS3) a ∧ Has _ w0 ([(b, C (fl egc x.d.toList ++ junk) 102)] ++ HS3) w) ⟨dH, u + 1⟩ ⟨⟨⟨Nat.le_refl _, by simp only; omega⟩, hdH, rfl⟩, hl.addE (t := 10) (hk) rfl (by first | exact congrArg (Value.int .i64) (by first | omega | (simp only; omega)) | rfl), hh2⟩ ?_
              clear hk hh2 hl hh a w
              intro x a w hI
              obtain ⟨⟨hx1, hx2, hx3⟩, hl, hh⟩ := hI
              subst hKS3; subst hHS3
              simp only [List.cons_append, List.nil_append, List.append_nil, List.append_assoc] at hl hh
              refine c_seq ?_
              refine c_seq ?_
              refine c_region ?_
              refine wl (wl_val hl rfl trivial (r_move hl rfl) ?_)
              clear hl a; intro a hl
              refine wl (wl_val hl rfl trivial (r_move hl rfl) ?_)
              clear hl a; intro a hl
              refine wl (wl_val hl rfl trivial (r_lss hl rfl rfl) ?_)
              clear hl a; intro a hl
              refine w_nil ?_
              have hl2 := hl.add (t := 1) (hl.add (t := 2) (hl.add (t := 3) (hl.add (t := 7) (hl.add (t := 8) (hl.add (t := 10) (hl.add (t := 75) (hl.nil) rfl) rfl) rfl) rfl) rfl) rfl) rfl; clear hl; have hl := hl2; clear hl2
              refine then_normal ?_
              refine c_cond hl rfl ?_ ?_
              · intro hc8
                try simp only [decide_eq_true_eq, decide_eq_false_iff_not, Bool.not_eq_true', Bool.not_eq_false', Bool.not_eq_true, Bool.not_eq_false, Bool.and_eq_true, Bool.or_eq_true, Bool.and_eq_false_iff, Bool.or_eq_false_iff, Bool.not_not, ne_eq, Int.not_lt, Int.not_le, Decidable.not_not, beq_iff_eq, bne_iff_ne] at hc8
                refine wp_skip ?_
                refine then_normal ?_
                refine c_seq ?_
                refine wp_block ?_
                refine c_seq ?_
                refine c_seq ?_
                refine c_region ?_
                refine wl (wl_val hl rfl trivial (r_field hl rfl fld179_0) ?_)
                clear hl a; intro a hl
                refine wl (w_load hl hh rfl trivial one144 rfl (by repeat (first | exact find_head | apply find_tail | apply find_skip)) (by first | rfl) ?_)
                clear hl a; intro a hl
                refine wl (wl_val hl rfl trivial (r_move hl rfl) ?_)
                clear hl a; intro a hl
                refine wl (wl_val hl rfl trivial (r_move hl rfl) ?_)
                clear hl a; intro a hl
                first | refine wl (wl_val hl rfl trivial (r_sub hl rfl rfl (by simp only [Fits]; omega)) ?_) | refine wl (wl_val hl rfl trivial (r_subW hl rfl rfl) ?_)
                clear hl a; intro a hl
                refine wl (w_call hl hh rfl trivial rfl cal62 rfl (less_spec (hE.to hx2) _ _ x.i (x.i - 1) (by omega) (by omega) (by omega) (by omega)) (by repeat (first | exact keeps_nil | apply keeps_cons (by repeat (first | exact find_head | apply find_tail | apply find_skip)) (by first  | rfl) | exact keeps_self | exact keeps_left | apply keeps_app | apply keeps_mv | apply keeps_skip)) trivial ?_)
                clear hl hh a w; intro vc Fc a w hR hl hh
                obtain ⟨rfl, rfl⟩ := hR
                try simp only [List.cons_append, List.nil_append, List.append_assoc, List.append_nil] at hh
                refine wl (wl_val hl rfl trivial (r_not hl rfl) ?_)
                clear hl a; intro a hl
                refine w_nil ?_
                have hl2 := hl.add (t := 1) (hl.add (t := 2) (hl.add (t := 3) (hl.add (t := 7) (hl.add (t := 8) (hl.add (t := 10) (hl.add (t := 84) (hl.nil) rfl) rfl) rfl) rfl) rfl) rfl) rfl; clear hl; have hl := hl2; clear hl2
                refine then_normal ?_
                refine c_cond hl rfl ?_ ?_
                · intro hc9
                  try simp only [decide_eq_true_eq, decide_eq_false_iff_not, Bool.not_eq_true', Bool.not_eq_false', Bool.not_eq_true, Bool.not_eq_false, Bool.and_eq_true, Bool.or_eq_true, Bool.and_eq_false_iff, Bool.or_eq_false_iff, Bool.not_not, ne_eq, Int.not_lt, Int.not_le, Decidable.not_not, beq_iff_eq, bne_iff_ne] at hc9
                  have hxe : x.d = Sort.shiftUp egB hi (u + 1) dH := by rw [← hx3]; exact (su_stop (fun h9 => by first | omega | (have h8 := h9.2; simp only [(show egB x.d[x.i]! x.d[x.i - 1]! = false by assumption)] at h8; cases h8))).symm
                  obtain ⟨dE, hdEe, hdE⟩ : ∃ dE, dE = x.d ∧ dE.size = n := ⟨_, rfl, hx2⟩
                  simp only [if_pos (show hi - u ≥ 2 by omega), ← hxe, ← hdEe] at hz3
                  rw [← hdEe] at hh
                  have hdm : Sort.partialIns egB lo hi (z.s - 1) u dE = Sort.partialInsertionSort egB d lo hi := by rw [hsv, Nat.add_sub_cancel]; exact hz3
                  refine wp_exit ?_
                  refine then_exit ?_
                  refine blk_exit_ne rfl ?_
                  refine then_exit ?_
                  refine then_exit ?_
                  refine blk_exit ?_
                  refine blk_normal ?_
                  refine then_normal ?_
                  refine c_region ?_
                  refine wl (wl_val hl rfl trivial (r_move hl rfl) ?_)
                  clear hl a; intro a hl
                  first | refine wl (wl_val hl rfl trivial (r_add hl rfl rfl (by simp only [Fits]; omega)) ?_) | refine wl (wl_val hl rfl trivial (r_addW hl rfl rfl) ?_)
                  clear hl a; intro a hl
                  refine wl (wl_val hl rfl trivial (r_assign hl rfl) ?_)
                  clear hl a; intro a hl
                  refine w_nil ?_
                  have hl2 := hl.add (t := 1) (hl.add (t := 2) (hl.add (t := 3) (hl.add (t := 7) (hl.add (t := 8) (hl.nil) rfl) rfl) rfl) rfl) rfl; clear hl; have hl := hl2; clear hl2
                  refine then_normal ?_
                  refine ⟨⟨dE, u, z.s - 1⟩, (by simp only; omega), ⟨hdE, ⟨by simp only; omega, by simp only; omega, by simp only; omega⟩, hdm⟩, hl.addE (t := 7) (hl.addE (t := 8) (hl.addE (t := 1) (hl.addE (t := 2) (hl.addE (t := 3) (hl.nil) rfl (by first | rfl | exact congrArg (Value.int .i64) (by first | omega | (simp only; omega)))) rfl (by first | rfl | exact congrArg (Value.int .i64) (by first | omega | (simp only; omega)))) rfl (by first | rfl | exact congrArg (Value.int .i64) (by first | omega | (simp only; omega)))) rfl (by first | rfl | exact congrArg (Value.int .i64) (by first | omega | (simp only; omega)))) rfl (by first | rfl | exact congrArg (Value.int .i64) (by first | omega | (simp only; omega))), hh.keep (by repeat (first | exact keeps_nil | apply keeps_cons (by repeat (first | exact find_head | apply find_tail | apply find_skip)) (by first  | rfl) | exact keeps_self | exact keeps_left | apply keeps_app | apply keeps_mv | apply keeps_skip))⟩
                · intro hc9
                  try simp only [decide_eq_true_eq, decide_eq_false_iff_not, Bool.not_eq_true', Bool.not_eq_false', Bool.not_eq_true, Bool.not_eq_false, Bool.and_eq_true, Bool.or_eq_true, Bool.and_eq_false_iff, Bool.or_eq_false_iff, Bool.not_not, ne_eq, Int.not_lt, Int.not_le, Decidable.not_not, beq_iff_eq, bne_iff_ne] at hc9
                  refine wp_skip ?_
                  refine then_normal ?_
                  refine c_region ?_
                  refine wl (wl_val hl rfl trivial (r_field hl rfl fld179_1) ?_)
                  clear hl a; intro a hl
                  refine wl (w_load hl hh rfl trivial one173 rfl (by repeat (first | exact find_head | apply find_tail | apply find_skip)) (by first | rfl) ?_)
                  clear hl a; intro a hl
                  refine wl (wl_val hl rfl trivial (r_move hl rfl) ?_)
                  clear hl a; intro a hl
                  refine wl (wl_val hl rfl trivial (r_move hl rfl) ?_)
                  clear hl a; intro a hl
                  first | refine wl (wl_val hl rfl trivial (r_sub hl rfl rfl (by simp only [Fits]; omega)) ?_) | refine wl (wl_val hl rfl trivial (r_subW hl rfl rfl) ?_)
                  clear hl a; intro a hl
                  refine wl (w_swap (x.i) (x.i - 1) egc_len (by decide) hl hh rfl trivial rfl rfl (by repeat (first | exact find_head | apply find_tail | apply find_skip)) (hE.swz hx2) (by omega) (by omega) (by omega) (by omega) ?_)
                  clear hl hh a w; intro a w hl hh
                  refine w_nil ?_
                  have hl2 := hl.add (t := 1) (hl.add (t := 2) (hl.add (t := 3) (hl.add (t := 7) (hl.add (t := 8) (hl.add (t := 10) (hl.nil) rfl) rfl) rfl) rfl) rfl) rfl; clear hl; have hl := hl2; clear hl2
                  refine blk_normal ?_
                  refine then_normal ?_
                  refine c_region ?_
                  refine wl (wl_val hl rfl trivial (r_move hl rfl) ?_)
                  clear hl a; intro a hl
                  first | refine wl (wl_val hl rfl trivial (r_add hl rfl rfl (by simp only [Fits]; omega)) ?_) | refine wl (wl_val hl rfl trivial (r_addW hl rfl rfl) ?_)
                  clear hl a; intro a hl
                  refine wl (wl_val hl rfl trivial (r_assign hl rfl) ?_)
                  clear hl a; intro a hl
                  refine w_nil ?_
                  have hl2 := hl.add (t := 1) (hl.add (t := 2) (hl.add (t := 3) (hl.add (t := 7) (hl.add (t := 8) (hl.add (t := 10) (hl.nil) rfl) rfl) rfl) rfl) rfl) rfl; clear hl; have hl := hl2; clear hl2
                  refine then_normal ?_
                  refine ⟨⟨Sort.swp x.d x.i (x.i - 1), x.i + 1⟩, (by simp only; omega), ⟨⟨by simp only; omega, by simp only; omega⟩, by simp only; rw [swp_sz]; exact hx2, by simp only; rw [← hx3]; exact (su_go (by omega) (by assumption)).symm⟩, hl.addE (t := 10) (hl.addE (t := 1) (hl.addE (t := 2) (hl.addE (t := 3) (hl.addE (t := 7) (hl.addE (t := 8) (hl.nil) rfl (by first | rfl | exact congrArg (Value.int .i64) (by first | omega | (simp only; omega)))) rfl (by first | rfl | exact congrArg (Value.int .i64) (by first | omega | (simp only; omega)))) rfl (by first | rfl | exact congrArg (Value.int .i64) (by first | omega | (simp only; omega)))) rfl (by first | rfl | exact congrArg (Value.int .i64) (by first | omega | (simp only; omega)))) rfl (by first | rfl | exact congrArg (Value.int .i64) (by first | omega | (simp only; omega)))) rfl (by first | rfl | exact congrArg (Value.int .i64) (by first | omega | (simp only; omega))), hh.keep (by repeat (first | exact keeps_nil | apply keeps_cons (by repeat (first | exact find_head | apply find_tail | apply find_skip)) (by first  | rfl) | exact keeps_self | exact keeps_left | apply keeps_app | apply keeps_mv | apply keeps_skip))⟩
              · intro hc8
                try simp only [decide_eq_true_eq, decide_eq_false_iff_not, Bool.not_eq_true', Bool.not_eq_false', Bool.not_eq_true, Bool.not_eq_false, Bool.and_eq_true, Bool.or_eq_true, Bool.and_eq_false_iff, Bool.or_eq_false_iff, Bool.not_not, ne_eq, Int.not_lt, Int.not_le, Decidable.not_not, beq_iff_eq, bne_iff_ne] at hc8
                have hxe : x.d = Sort.shiftUp egB hi (u + 1) dH := by rw [← hx3]; exact (su_stop (fun h9 => by omega)).symm
                obtain ⟨dE, hdEe, hdE⟩ : ∃ dE, dE = x.d ∧ dE.size = n := ⟨_, rfl, hx2⟩
                simp only [if_pos (show hi - u ≥ 2 by omega), ← hxe, ← hdEe] at hz3
                rw [← hdEe] at hh
                have hdm : Sort.partialIns egB lo hi (z.s - 1) u dE = Sort.partialInsertionSort egB d lo hi := by rw [hsv, Nat.add_sub_cancel]; exact hz3
                refine wp_exit ?_
                refine then_exit ?_
                refine then_exit ?_
                refine blk_exit ?_
                refine blk_normal ?_
                refine then_normal ?_
                refine c_region ?_
                refine wl (wl_val hl rfl trivial (r_move hl rfl) ?_)
                clear hl a; intro a hl
                first | refine wl (wl_val hl rfl trivial (r_add hl rfl rfl (by simp only [Fits]; omega)) ?_) | refine wl (wl_val hl rfl trivial (r_addW hl rfl rfl) ?_)
                clear hl a; intro a hl
                refine wl (wl_val hl rfl trivial (r_assign hl rfl) ?_)
                clear hl a; intro a hl
                refine w_nil ?_
                have hl2 := hl.add (t := 1) (hl.add (t := 2) (hl.add (t := 3) (hl.add (t := 7) (hl.add (t := 8) (hl.nil) rfl) rfl) rfl) rfl) rfl; clear hl; have hl := hl2; clear hl2
                refine then_normal ?_
                refine ⟨⟨dE, u, z.s - 1⟩, (by simp only; omega), ⟨hdE, ⟨by simp only; omega, by simp only; omega, by simp only; omega⟩, hdm⟩, hl.addE (t := 7) (hl.addE (t := 8) (hl.addE (t := 1) (hl.addE (t := 2) (hl.addE (t := 3) (hl.nil) rfl (by first | rfl | exact congrArg (Value.int .i64) (by first | omega | (simp only; omega)))) rfl (by first | rfl | exact congrArg (Value.int .i64) (by first | omega | (simp only; omega)))) rfl (by first | rfl | exact congrArg (Value.int .i64) (by first | omega | (simp only; omega)))) rfl (by first | rfl | exact congrArg (Value.int .i64) (by first | omega | (simp only; omega)))) rfl (by first | rfl | exact congrArg (Value.int .i64) (by first | omega | (simp only; omega))), hh.keep (by repeat (first | exact keeps_nil | apply keeps_cons (by repeat (first | exact find_head | apply find_tail | apply find_skip)) (by first  | rfl) | exact keeps_self | exact keeps_left | apply keeps_app | apply keeps_mv | apply keeps_skip))⟩
            · intro hc7
              try simp only [decide_eq_true_eq, decide_eq_false_iff_not, Bool.not_eq_true', Bool.not_eq_false', Bool.not_eq_true, Bool.not_eq_false, Bool.and_eq_true, Bool.or_eq_true, Bool.and_eq_false_iff, Bool.or_eq_false_iff, Bool.not_not, ne_eq, Int.not_lt, Int.not_le, Decidable.not_not, beq_iff_eq, bne_iff_ne] at hc7
              obtain ⟨dE, hdEe, hdE⟩ : ∃ dE, dE = dH ∧ dE.size = n := ⟨_, rfl, hdH⟩
              simp only [if_neg (show ¬ hi - u ≥ 2 by omega), ← hdEe] at hz3
              rw [← hdEe] at hh
              have hdm : Sort.partialIns egB lo hi (z.s - 1) u dE = Sort.partialInsertionSort egB d lo hi := by rw [hsv, Nat.add_sub_cancel]; exact hz3
              refine wp_skip ?_
              refine blk_normal ?_
              refine then_normal ?_
              refine c_region ?_
              refine wl (wl_val hl rfl trivial (r_move hl rfl) ?_)
              clear hl a; intro a hl
              first | refine wl (wl_val hl rfl trivial (r_add hl rfl rfl (by simp only [Fits]; omega)) ?_) | refine wl (wl_val hl rfl trivial (r_addW hl rfl rfl) ?_)
              clear hl a; intro a hl
              refine wl (wl_val hl rfl trivial (r_assign hl rfl) ?_)
              clear hl a; intro a hl
              refine w_nil ?_
              have hl2 := hl.add (t := 1) (hl.add (t := 2) (hl.add (t := 3) (hl.add (t := 7) (hl.add (t := 8) (hl.nil) rfl) rfl) rfl) rfl) rfl; clear hl; have hl := hl2; clear hl2
              refine then_normal ?_
              refine ⟨⟨dE, u, z.s - 1⟩, (by simp only; omega), ⟨hdE, ⟨by simp only; omega, by simp only; omega, by simp only; omega⟩, hdm⟩, hl.addE (t := 7) (hl.addE (t := 8) (hl.addE (t := 1) (hl.addE (t := 2) (hl.addE (t := 3) (hl.nil) rfl (by first | rfl | exact congrArg (Value.int .i64) (by first | omega | (simp only; omega)))) rfl (by first | rfl | exact congrArg (Value.int .i64) (by first | omega | (simp only; omega)))) rfl (by first | rfl | exact congrArg (Value.int .i64) (by first | omega | (simp only; omega)))) rfl (by first | rfl | exact congrArg (Value.int .i64) (by first | omega | (simp only; omega)))) rfl (by first | rfl | exact congrArg (Value.int .i64) (by first | omega | (simp only; omega))), hh.keep (by repeat (first | exact keeps_nil | apply keeps_cons (by repeat (first | exact find_head | apply find_tail | apply find_skip)) (by first  | rfl) | exact keeps_self | exact keeps_left | apply keeps_app | apply keeps_mv | apply keeps_skip))⟩
  · intro hc0
    try simp only [decide_eq_true_eq, decide_eq_false_iff_not, Bool.not_eq_true', Bool.not_eq_false', Bool.not_eq_true, Bool.not_eq_false, Bool.and_eq_true, Bool.or_eq_true, Bool.and_eq_false_iff, Bool.or_eq_false_iff, Bool.not_not, ne_eq, Int.not_lt, Int.not_le, Decidable.not_not, beq_iff_eq, bne_iff_ne] at hc0
    have hs0 : z.s = 0 := by omega
    rw [hs0, Sort.partialIns] at hz3
    refine wp_exit ?_
    refine then_exit ?_
    refine then_exit ?_
    refine blk_exit ?_
    refine then_normal ?_
    refine c_seq ?_
    refine c_region ?_
    refine wl (wl_val hl rfl trivial (r_assign hl rfl) ?_)
    clear hl a; intro a hl
    refine w_nil ?_
    have hl2 := hl.add (t := 6) (hl.nil) rfl; clear hl; have hl := hl2; clear hl2
    refine then_normal ?_
    refine wp_ret ?_
    refine f_ret1 (F' := [(b, C (fl egc z.d.toList ++ junk) 102), (Bs, C sL 46)]) hl hh rfl rfl (by repeat (first | exact keeps_nil | apply keeps_cons (by repeat (first | exact find_head | apply find_tail | apply find_skip)) (by first  | rfl) | exact keeps_self | exact keeps_left | apply keeps_app | apply keeps_mv | apply keeps_skip)) ?_
    rw [← hz3]
    exact ⟨rfl, rfl, hz2⟩
end Go.Proofs.Qxb6500911aGreatDoor

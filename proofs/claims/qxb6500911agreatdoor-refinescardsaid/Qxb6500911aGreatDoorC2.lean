import Derived.Test.Qxb6500911aGreatDoorC1
namespace Go.Proofs.Qxb6500911aGreatDoor
open Go.Eng
set_option linter.unusedVariables false
set_option linter.unusedSimpArgs false
theorem agg179 : aggOk Tryz.prog 179 2 = true := by kernel_rfl
theorem cal115 : callable Tryz.prog 115 = true := by kernel_rfl
theorem sift_at {b Bs n c : Nat} {th : Value} {sL junk : List Value} {d : Array Eg} (hE : SE b Bs n c th sL d) (lo hi fi : Nat) (hlh : lo ≤ hi) (hhi : fi + hi ≤ n) (lo1 hi1 fi1 : Int) (elo : lo1 = (lo : Int)) (ehi : hi1 = (hi : Int)) (efi : fi1 = (fi : Int)) : Sp Tryz.prog 115 #[.agg ⟨[lessV Bs, swapV b n c th]⟩, .int .i64 lo1, .int .i64 hi1, .int .i64 fi1] [(b, C (fl egc d.toList ++ junk) 102), (Bs, C sL 46)] (fun v F' => v = .tuple #[] ∧ F' = [(b, C (fl egc (Sort.siftDown egB hi fi lo d).toList ++ junk) 102), (Bs, C sL 46)] ∧ (Sort.siftDown egB hi fi lo d).size = n) := by
  subst elo
  subst ehi
  subst efi
  exact sift_spec hE lo hi fi hlh hhi

set_option maxHeartbeats 4000000 in
theorem heap_spec {b Bs n c : Nat} {th : Value} {sL junk : List Value} {d : Array Eg} (hE : SE b Bs n c th sL d) (lo hi : Nat) (hab : lo < hi) (hhi : hi ≤ n) : Sp Tryz.prog 107 #[.agg ⟨[lessV Bs, swapV b n c th]⟩, .int .i64 (lo : Int), .int .i64 (hi : Int)] [(b, C (fl egc d.toList ++ junk) 102), (Bs, C sL 46)] (fun v F' => v = .tuple #[] ∧ F' = [(b, C (fl egc (Sort.heapSort egB d lo hi).toList ++ junk) 102), (Bs, C sL 46)] ∧ (Sort.heapSort egB d lo hi).size = n) := by
  refine f_enter (args := [.agg ⟨[lessV Bs, swapV b n c th]⟩, .int .i64 (lo : Int), .int .i64 (hi : Int)]) Tryz.func107 rfl Tryz.ntmps107 rfl ?_
  intro w0 w a hpre hl hh
  have hsz := hE.sz
  have hbig := hE.big
  obtain ⟨h, hhv⟩ : ∃ h, h = hi - lo := ⟨_, rfl⟩
  simp only [slotsFrom, Nat.reduceAdd] at hl
  refine c_seq ?_
  refine c_region ?_
  refine wl (w_box hl hh rfl trivial rfl rfl ?_)
  clear hl hh a w; intro k3 a w hl hh
  refine w_nil ?_
  have hl2 := hl.add (t := 1) (hl.add (t := 2) (hl.add (t := 3) (hl.nil) rfl) rfl) rfl; clear hl; have hl := hl2; clear hl2
  refine then_normal ?_
  refine c_seq ?_
  refine c_region ?_
  refine wl (wl_val hl rfl trivial (r_move hl rfl) ?_)
  clear hl a; intro a hl
  refine wl (wl_val hl rfl trivial (r_assign hl rfl) ?_)
  clear hl a; intro a hl
  refine w_nil ?_
  have hl2 := hl.add (t := 1) (hl.add (t := 2) (hl.add (t := 3) (hl.add (t := 6) (hl.nil) rfl) rfl) rfl) rfl; clear hl; have hl := hl2; clear hl2
  refine then_normal ?_
  refine c_seq ?_
  refine c_region ?_
  refine wl (wl_val hl rfl trivial (r_assign hl rfl) ?_)
  clear hl a; intro a hl
  refine w_nil ?_
  have hl2 := hl.add (t := 1) (hl.add (t := 2) (hl.add (t := 3) (hl.add (t := 6) (hl.add (t := 7) (hl.nil) rfl) rfl) rfl) rfl) rfl; clear hl; have hl := hl2; clear hl2
  refine then_normal ?_
  refine c_seq ?_
  refine c_region ?_
  refine wl (wl_val hl rfl trivial (r_move hl rfl) ?_)
  clear hl a; intro a hl
  refine wl (wl_val hl rfl trivial (r_move hl rfl) ?_)
  clear hl a; intro a hl
  first | refine wl (wl_val hl rfl trivial (r_sub hl rfl rfl (by simp only [Fits]; omega)) ?_) | refine wl (wl_val hl rfl trivial (r_subW hl rfl rfl) ?_)
  clear hl a; intro a hl
  rw [show ((hi : Int) - (lo : Int)) = (h : Int) by omega] at hl
  refine wl (wl_val hl rfl trivial (r_assign hl rfl) ?_)
  clear hl a; intro a hl
  refine w_nil ?_
  have hl2 := hl.add (t := 3) (hl.add (t := 6) (hl.add (t := 7) (hl.add (t := 8) (hl.nil) rfl) rfl) rfl) rfl; clear hl; have hl := hl2; clear hl2
  refine then_normal ?_
  refine c_seq ?_
  refine c_seq ?_
  refine c_region ?_
  refine wl (wl_val hl rfl trivial (r_move hl rfl) ?_)
  clear hl a; intro a hl
  first | refine wl (wl_val hl rfl trivial (r_sub hl rfl rfl (by simp only [Fits]; omega)) ?_) | refine wl (wl_val hl rfl trivial (r_subW hl rfl rfl) ?_)
  clear hl a; intro a hl
  first | refine wl (wl_val hl rfl trivial (r_quo hl rfl rfl (by omega) (by omega) (by simp only [Fits]; omega)) ?_) | refine wl (wl_val hl rfl trivial (r_quoT hl rfl rfl (by omega)) ?_)
  clear hl a; intro a hl
  refine wl (wl_val hl rfl trivial (r_assign hl rfl) ?_)
  clear hl a; intro a hl
  refine w_nil ?_
  have hl2 := hl.add (t := 3) (hl.add (t := 6) (hl.add (t := 7) (hl.add (t := 8) (hl.add (t := 9) (hl.nil) rfl) rfl) rfl) rfl) rfl; clear hl; have hl := hl2; clear hl2
  refine then_normal ?_
  refine wp_block ?_
  obtain ⟨KS0, hKS0, hk⟩ := (hl.add (t := 3) (hl.add (t := 6) (hl.add (t := 7) (hl.add (t := 8) (hl.nil) rfl) rfl) rfl) rfl).name
  obtain ⟨HS0, hHS0, hh2⟩ := hh.name (keeps_cons (b := b) (o' := C (fl egc d.toList ++ junk) 102) (by repeat (first | exact find_head | apply find_tail | apply find_skip)) (by first | rfl) (keeps_nil))
  refine c_loop (α := IZ) (fun z => z.i) (fun z a w => (z.i ≤ h ∧ z.d.size = n ∧ Sort.heapBuild egB h lo z.i z.d = Sort.heapBuild egB h lo ((h - 1) / 2 + 1) d) ∧ Sl 45 ([(9, .int .i64 ((z.i : Int) - 1))] ++ KS0) a ∧ Has _ w0 ([(b, C (fl egc z.d.toList ++ junk) 102)] ++ HS0) w) ⟨d, (h - 1) / 2 + 1⟩ ⟨⟨by simp only; omega, hE.sz, rfl⟩, hl.addE (t := 9) (hk) rfl (by first | exact congrArg (Value.int .i64) (by first | omega | (simp only; omega)) | rfl), hh2⟩ ?_
  clear hk hh2 hl hh a w
  intro z a w hI
  obtain ⟨⟨hz1, hz2, hz3⟩, hl, hh⟩ := hI
  subst hKS0; subst hHS0
  simp only [List.cons_append, List.nil_append, List.append_nil, List.append_assoc] at hl hh
  refine c_seq ?_
  refine c_seq ?_
  refine c_region ?_
  refine wl (wl_val hl rfl trivial (r_move hl rfl) ?_)
  clear hl a; intro a hl
  refine wl (wl_val hl rfl trivial (r_geq hl rfl rfl) ?_)
  clear hl a; intro a hl
  refine w_nil ?_
  have hl2 := hl.add (t := 3) (hl.add (t := 6) (hl.add (t := 7) (hl.add (t := 8) (hl.add (t := 9) (hl.add (t := 19) (hl.nil) rfl) rfl) rfl) rfl) rfl) rfl; clear hl; have hl := hl2; clear hl2
  refine then_normal ?_
  refine c_cond hl rfl ?_ ?_
  · intro hc0
    try simp only [decide_eq_true_eq, decide_eq_false_iff_not, Bool.not_eq_true', Bool.not_eq_false', Bool.not_eq_true, Bool.not_eq_false, Bool.and_eq_true, Bool.or_eq_true, Bool.and_eq_false_iff, Bool.or_eq_false_iff, Bool.not_not, ne_eq, Int.not_lt, Int.not_le, Decidable.not_not, beq_iff_eq, bne_iff_ne] at hc0
    refine wp_skip ?_
    refine then_normal ?_
    refine c_seq ?_
    refine wp_block ?_
    refine c_region ?_
    refine wl (w_loadA hl hh rfl trivial agg179 rfl (by repeat (first | exact find_head | apply find_tail | apply find_skip)) (by first | (simp only [List.getElem?_cons_zero, List.getElem?_cons_succ, Value.cells, List.take_zero, List.take_succ_cons, List.take_nil, List.drop_zero, List.drop_succ_cons, List.drop_nil, List.length_cons, List.length_nil, List.cons_append, List.nil_append, List.append_nil, Nat.zero_add, Nat.add_zero, Nat.reduceAdd, Nat.reduceBEq, Nat.reduceEqDiff, Nat.ble, BEq.rfl, Bool.and_true, Bool.and_self, cond_true, beq_self_eq_true]; rfl)) (by first | rfl | (simp; done)) ?_)
    clear hl a; intro a hl
    refine wl (wl_val hl rfl trivial (r_move hl rfl) ?_)
    clear hl a; intro a hl
    refine wl (wl_val hl rfl trivial (r_move hl rfl) ?_)
    clear hl a; intro a hl
    refine wl (wl_val hl rfl trivial (r_move hl rfl) ?_)
    clear hl a; intro a hl
    refine wl (w_call hl hh rfl trivial rfl cal115 rfl (sift_at (hE.to hz2) (z.i - 1) h lo (by omega) (by omega) _ _ _ (by omega) rfl rfl) (by repeat (first | exact keeps_nil | apply keeps_cons (by repeat (first | exact find_head | apply find_tail | apply find_skip)) (by first  | rfl) | exact keeps_self | exact keeps_left | apply keeps_app | apply keeps_mv | apply keeps_skip)) trivial ?_)
    clear hl hh a w; intro vc Fc a w hR hl hh
    obtain ⟨rfl, hF9, hs9⟩ := hR
    try simp only [List.cons_append, List.nil_append, List.append_assoc, List.append_nil] at hh
    subst hF9
    refine w_nil ?_
    have hl2 := hl.add (t := 3) (hl.add (t := 6) (hl.add (t := 7) (hl.add (t := 8) (hl.add (t := 9) (hl.nil) rfl) rfl) rfl) rfl) rfl; clear hl; have hl := hl2; clear hl2
    refine blk_normal ?_
    refine then_normal ?_
    refine c_region ?_
    refine wl (wl_val hl rfl trivial (r_move hl rfl) ?_)
    clear hl a; intro a hl
    first | refine wl (wl_val hl rfl trivial (r_sub hl rfl rfl (by simp only [Fits]; omega)) ?_) | refine wl (wl_val hl rfl trivial (r_subW hl rfl rfl) ?_)
    clear hl a; intro a hl
    refine wl (wl_val hl rfl trivial (r_assign hl rfl) ?_)
    clear hl a; intro a hl
    refine w_nil ?_
    have hl2 := hl.add (t := 3) (hl.add (t := 6) (hl.add (t := 7) (hl.add (t := 8) (hl.add (t := 9) (hl.nil) rfl) rfl) rfl) rfl) rfl; clear hl; have hl := hl2; clear hl2
    refine then_normal ?_
    refine ⟨⟨Sort.siftDown egB h lo (z.i - 1) z.d, z.i - 1⟩, (by simp only; omega), ⟨by simp only; omega, hs9, by simp only; rw [← hz3]; exact (hb_go (by omega)).symm⟩, hl.addE (t := 9) (hl.addE (t := 3) (hl.addE (t := 6) (hl.addE (t := 7) (hl.addE (t := 8) (hl.nil) rfl (by first | rfl | exact congrArg (Value.int .i64) (by first | omega | (simp only; omega)))) rfl (by first | rfl | exact congrArg (Value.int .i64) (by first | omega | (simp only; omega)))) rfl (by first | rfl | exact congrArg (Value.int .i64) (by first | omega | (simp only; omega)))) rfl (by first | rfl | exact congrArg (Value.int .i64) (by first | omega | (simp only; omega)))) rfl (by first | rfl | exact congrArg (Value.int .i64) (by first | omega | (simp only; omega))), hh.keep (by repeat (first | exact keeps_nil | apply keeps_cons (by repeat (first | exact find_head | apply find_tail | apply find_skip)) (by first  | rfl) | exact keeps_self | exact keeps_left | apply keeps_app | apply keeps_mv | apply keeps_skip))⟩
  · intro hc0
    try simp only [decide_eq_true_eq, decide_eq_false_iff_not, Bool.not_eq_true', Bool.not_eq_false', Bool.not_eq_true, Bool.not_eq_false, Bool.and_eq_true, Bool.or_eq_true, Bool.and_eq_false_iff, Bool.or_eq_false_iff, Bool.not_not, ne_eq, Int.not_lt, Int.not_le, Decidable.not_not, beq_iff_eq, bne_iff_ne] at hc0
    have hz0 : z.i = 0 := by omega
    have hbd : z.d = Sort.heapBuild egB h lo ((h - 1) / 2 + 1) d := by rw [← hz3, hz0, Sort.heapBuild]
    refine wp_exit ?_
    refine then_exit ?_
    refine then_exit ?_
    refine blk_exit ?_
    refine then_normal ?_
    refine c_seq ?_
    refine c_region ?_
    refine wl (wl_val hl rfl trivial (r_move hl rfl) ?_)
    clear hl a; intro a hl
    first | refine wl (wl_val hl rfl trivial (r_sub hl rfl rfl (by simp only [Fits]; omega)) ?_) | refine wl (wl_val hl rfl trivial (r_subW hl rfl rfl) ?_)
    clear hl a; intro a hl
    refine wl (wl_val hl rfl trivial (r_assign hl rfl) ?_)
    clear hl a; intro a hl
    refine w_nil ?_
    have hl2 := hl.add (t := 3) (hl.add (t := 6) (hl.add (t := 7) (hl.add (t := 10) (hl.nil) rfl) rfl) rfl) rfl; clear hl; have hl := hl2; clear hl2
    refine then_normal ?_
    refine wp_block ?_
    obtain ⟨KS1, hKS1, hk⟩ := (hl.add (t := 3) (hl.add (t := 6) (hl.add (t := 7) (hl.nil) rfl) rfl) rfl).name
    obtain ⟨HS1, hHS1, hh2⟩ := hh.name (keeps_cons (b := b) (o' := C (fl egc z.d.toList ++ junk) 102) (by repeat (first | exact find_head | apply find_tail | apply find_skip)) (by first | rfl) (keeps_nil))
    refine c_loop (α := IZ) (fun y => y.i) (fun y a w => (y.i ≤ h ∧ y.d.size = n ∧ Sort.heapPop egB lo y.i y.d = Sort.heapSort egB d lo hi) ∧ Sl 45 ([(10, .int .i64 ((y.i : Int) - 1))] ++ KS1) a ∧ Has _ w0 ([(b, C (fl egc y.d.toList ++ junk) 102)] ++ HS1) w) ⟨z.d, h⟩ ⟨⟨Nat.le_refl _, hz2, by simp only; rw [hbd]; unfold Sort.heapSort; rw [← hhv]⟩, hl.addE (t := 10) (hk) rfl (by first | exact congrArg (Value.int .i64) (by first | omega | (simp only; omega)) | rfl), hh2⟩ ?_
    clear hk hh2 hl hh a w
    intro y a w hI
    obtain ⟨⟨hy1, hy2, hy3⟩, hl, hh⟩ := hI
    subst hKS1; subst hHS1
    simp only [List.cons_append, List.nil_append, List.append_nil, List.append_assoc] at hl hh
    refine c_seq ?_
    refine c_seq ?_
    refine c_region ?_
    refine wl (wl_val hl rfl trivial (r_move hl rfl) ?_)
    clear hl a; intro a hl
    refine wl (wl_val hl rfl trivial (r_geq hl rfl rfl) ?_)
    clear hl a; intro a hl
    refine w_nil ?_
    have hl2 := hl.add (t := 3) (hl.add (t := 6) (hl.add (t := 7) (hl.add (t := 10) (hl.add (t := 30) (hl.nil) rfl) rfl) rfl) rfl) rfl; clear hl; have hl := hl2; clear hl2
    refine then_normal ?_
    refine c_cond hl rfl ?_ ?_
    · intro hc1
      try simp only [decide_eq_true_eq, decide_eq_false_iff_not, Bool.not_eq_true', Bool.not_eq_false', Bool.not_eq_true, Bool.not_eq_false, Bool.and_eq_true, Bool.or_eq_true, Bool.and_eq_false_iff, Bool.or_eq_false_iff, Bool.not_not, ne_eq, Int.not_lt, Int.not_le, Decidable.not_not, beq_iff_eq, bne_iff_ne] at hc1
      refine wp_skip ?_
      refine then_normal ?_
      refine c_seq ?_
      refine wp_block ?_
      refine c_seq ?_
      refine c_region ?_
      refine wl (wl_val hl rfl trivial (r_field hl rfl fld179_1) ?_)
      clear hl a; intro a hl
      refine wl (w_load hl hh rfl trivial one173 rfl (by repeat (first | exact find_head | apply find_tail | apply find_skip)) (by first | rfl) ?_)
      clear hl a; intro a hl
      refine wl (wl_val hl rfl trivial (r_move hl rfl) ?_)
      clear hl a; intro a hl
      refine wl (wl_val hl rfl trivial (r_move hl rfl) ?_)
      clear hl a; intro a hl
      refine wl (wl_val hl rfl trivial (r_move hl rfl) ?_)
      clear hl a; intro a hl
      first | refine wl (wl_val hl rfl trivial (r_add hl rfl rfl (by simp only [Fits]; omega)) ?_) | refine wl (wl_val hl rfl trivial (r_addW hl rfl rfl) ?_)
      clear hl a; intro a hl
      refine wl (w_swap (lo) (lo + (y.i - 1)) egc_len (by decide) hl hh rfl trivial rfl rfl (by repeat (first | exact find_head | apply find_tail | apply find_skip)) (hE.swz hy2) (by omega) (by omega) (by omega) (by omega) ?_)
      clear hl hh a w; intro a w hl hh
      have hsw : (Sort.swp y.d lo (lo + (y.i - 1))).size = n := by rw [swp_sz]; exact hy2
      refine w_nil ?_
      have hl2 := hl.add (t := 3) (hl.add (t := 6) (hl.add (t := 7) (hl.add (t := 10) (hl.nil) rfl) rfl) rfl) rfl; clear hl; have hl := hl2; clear hl2
      refine then_normal ?_
      refine c_region ?_
      refine wl (w_loadA hl hh rfl trivial agg179 rfl (by repeat (first | exact find_head | apply find_tail | apply find_skip)) (by first | (simp only [List.getElem?_cons_zero, List.getElem?_cons_succ, Value.cells, List.take_zero, List.take_succ_cons, List.take_nil, List.drop_zero, List.drop_succ_cons, List.drop_nil, List.length_cons, List.length_nil, List.cons_append, List.nil_append, List.append_nil, Nat.zero_add, Nat.add_zero, Nat.reduceAdd, Nat.reduceBEq, Nat.reduceEqDiff, Nat.ble, BEq.rfl, Bool.and_true, Bool.and_self, cond_true, beq_self_eq_true]; rfl)) (by first | rfl | (simp; done)) ?_)
      clear hl a; intro a hl
      refine wl (wl_val hl rfl trivial (r_move hl rfl) ?_)
      clear hl a; intro a hl
      refine wl (wl_val hl rfl trivial (r_move hl rfl) ?_)
      clear hl a; intro a hl
      refine wl (wl_val hl rfl trivial (r_move hl rfl) ?_)
      clear hl a; intro a hl
      refine wl (w_call hl hh rfl trivial rfl cal115 rfl (sift_at (hE.to hsw) 0 (y.i - 1) lo (by omega) (by omega) _ _ _ rfl (by omega) rfl) (by repeat (first | exact keeps_nil | apply keeps_cons (by repeat (first | exact find_head | apply find_tail | apply find_skip)) (by first  | rfl) | exact keeps_self | exact keeps_left | apply keeps_app | apply keeps_mv | apply keeps_skip)) trivial ?_)
      clear hl hh a w; intro vc Fc a w hR hl hh
      obtain ⟨rfl, hF9, hs9⟩ := hR
      try simp only [List.cons_append, List.nil_append, List.append_assoc, List.append_nil] at hh
      subst hF9
      refine w_nil ?_
      have hl2 := hl.add (t := 3) (hl.add (t := 6) (hl.add (t := 7) (hl.add (t := 10) (hl.nil) rfl) rfl) rfl) rfl; clear hl; have hl := hl2; clear hl2
      refine blk_normal ?_
      refine then_normal ?_
      refine c_region ?_
      refine wl (wl_val hl rfl trivial (r_move hl rfl) ?_)
      clear hl a; intro a hl
      first | refine wl (wl_val hl rfl trivial (r_sub hl rfl rfl (by simp only [Fits]; omega)) ?_) | refine wl (wl_val hl rfl trivial (r_subW hl rfl rfl) ?_)
      clear hl a; intro a hl
      refine wl (wl_val hl rfl trivial (r_assign hl rfl) ?_)
      clear hl a; intro a hl
      refine w_nil ?_
      have hl2 := hl.add (t := 3) (hl.add (t := 6) (hl.add (t := 7) (hl.add (t := 10) (hl.nil) rfl) rfl) rfl) rfl; clear hl; have hl := hl2; clear hl2
      refine then_normal ?_
      refine ⟨⟨Sort.siftDown egB (y.i - 1) lo 0 (Sort.swp y.d lo (lo + (y.i - 1))), y.i - 1⟩, (by simp only; omega), ⟨by simp only; omega, hs9, by simp only; rw [← hy3]; exact (hp_go (by omega)).symm⟩, hl.addE (t := 10) (hl.addE (t := 3) (hl.addE (t := 6) (hl.addE (t := 7) (hl.nil) rfl (by first | rfl | exact congrArg (Value.int .i64) (by first | omega | (simp only; omega)))) rfl (by first | rfl | exact congrArg (Value.int .i64) (by first | omega | (simp only; omega)))) rfl (by first | rfl | exact congrArg (Value.int .i64) (by first | omega | (simp only; omega)))) rfl (by first | rfl | exact congrArg (Value.int .i64) (by first | omega | (simp only; omega))), hh.keep (by repeat (first | exact keeps_nil | apply keeps_cons (by repeat (first | exact find_head | apply find_tail | apply find_skip)) (by first  | rfl) | exact keeps_self | exact keeps_left | apply keeps_app | apply keeps_mv | apply keeps_skip))⟩
    · intro hc1
      try simp only [decide_eq_true_eq, decide_eq_false_iff_not, Bool.not_eq_true', Bool.not_eq_false', Bool.not_eq_true, Bool.not_eq_false, Bool.and_eq_true, Bool.or_eq_true, Bool.and_eq_false_iff, Bool.or_eq_false_iff, Bool.not_not, ne_eq, Int.not_lt, Int.not_le, Decidable.not_not, beq_iff_eq, bne_iff_ne] at hc1
      have hy0 : y.i = 0 := by omega
      have hfin : y.d = Sort.heapSort egB d lo hi := by rw [← hy3, hy0, Sort.heapPop]
      refine wp_exit ?_
      refine then_exit ?_
      refine then_exit ?_
      refine blk_exit ?_
      refine f_end0 (F' := [(b, C (fl egc y.d.toList ++ junk) 102), (Bs, C sL 46)]) hl hh rfl (by repeat (first | exact keeps_nil | apply keeps_cons (by repeat (first | exact find_head | apply find_tail | apply find_skip)) (by first  | rfl) | exact keeps_self | exact keeps_left | apply keeps_app | apply keeps_mv | apply keeps_skip)) ?_
      rw [← hfin]
      exact ⟨rfl, rfl, hy2⟩
end Go.Proofs.Qxb6500911aGreatDoor

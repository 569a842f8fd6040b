import Derived.Test.Qxb6500915aGreatDoorZ5
namespace Go.Proofs.Qxb6500915aGreatDoor
open Go.Eng
set_option linter.unusedVariables false
set_option linter.unusedSimpArgs false
theorem cal42 : callable Tryz.prog 42 = true := by kernel_rfl
theorem fld169_0 : fieldOk Tryz.prog 169 0 0 = true := by kernel_rfl
theorem one97 : oneOk Tryz.prog 97 = true := by kernel_rfl
theorem fld169_1 : fieldOk Tryz.prog 169 1 1 = true := by kernel_rfl
theorem one163 : oneOk Tryz.prog 163 = true := by kernel_rfl
theorem agg169 : aggOk Tryz.prog 169 2 = true := by kernel_rfl
theorem cal106 : callable Tryz.prog 106 = true := by kernel_rfl
/-! ## the loops of the sort, one round at a time -/
section sortl
variable {α : Type} [Inhabited α] {lt : α → α → Bool}
open Go
theorem ins_go9 {lo j : Nat} {d : Array α} (h : lo < j) (hl : lt d[j]! d[j - 1]! = true) : Sort.insInner lt lo j d = Sort.insInner lt lo (j - 1) (Sort.swp d j (j - 1)) := by
  obtain ⟨k, rfl⟩ : ∃ k, j = k + 1 := ⟨j - 1, by omega⟩
  rw [Sort.insInner]
  rw [Nat.add_sub_cancel] at hl ⊢
  rw [if_pos (by rw [hl]; simp; omega)]
theorem ins_stop9 {lo j : Nat} {d : Array α} (h : ¬ (lo < j ∧ lt d[j]! d[j - 1]! = true)) : Sort.insInner lt lo j d = d := by
  cases j with
  | zero => rw [Sort.insInner]
  | succ k =>
    rw [Nat.add_sub_cancel] at h
    rw [Sort.insInner, if_neg]
    intro h2
    rw [Bool.and_eq_true, decide_eq_true_eq] at h2
    exact h ⟨h2.1, h2.2⟩
theorem out_go {lo hi i : Nat} {d : Array α} (h : i < hi) : Sort.insOuter lt lo hi i d = Sort.insOuter lt lo hi (i + 1) (Sort.insInner lt lo i d) := by
  rw [Sort.insOuter, if_pos h]
theorem out_stop {lo hi i : Nat} {d : Array α} (h : ¬ i < hi) : Sort.insOuter lt lo hi i d = d := by
  rw [Sort.insOuter, if_neg h]
theorem swp_sz (d : Array α) (i j : Nat) : (Sort.swp d i j).size = d.size := by simp [Sort.swp]
end sortl
structure IZ where
  d : Array RV
  i : Nat


attribute [local irreducible] RV.E

set_option maxHeartbeats 8000000 in
theorem insZ_spec (b kn ks mb n c ln lc sN : Nat) (lp : Option Addr) (th : Value) (junk : List Value) (m : List (ByteArray × Value)) (L : List RV) (d : Array RV) (hE : SF b n c th m L d) (hDr : ∀ x, x ∈ L → ∀ z, z ∈ x.E → z.1 ∉ [b, kn, ks, mb]) : SpK Tryz.prog 106 #[.agg ⟨[lessZ kn ks, swapZ b n c th]⟩, .int .i64 0, .int .i64 (n : Int)] (fun w => ∀ x, x ∈ L → Mem x.E w) [(b, C (fl RV.c3 d.toList ++ junk) 57), (kn, C [.slice lp (ln : Nat) lc, .slice (some ⟨b, 0, none⟩) (n : Nat) c, .int .i64 (sN : Int)] 33), (ks, C [.map (some mb)] 87), (mb, MO kStr m)] (fun v F' => v = .tuple #[] ∧ F' = [(b, C (fl RV.c3 (Sort.insertionSort (rvB m) d 0 n).toList ++ junk) 57), (kn, C [.slice lp (ln : Nat) lc, .slice (some ⟨b, 0, none⟩) (n : Nat) c, .int .i64 (sN : Int)] 33), (ks, C [.map (some mb)] 87), (mb, MO kStr m)] ∧ (Sort.insertionSort (rvB m) d 0 n).size = n ∧ ∀ k, k < n → (Sort.insertionSort (rvB m) d 0 n)[k]! ∈ L) := by
  refine f_enter (args := [.agg ⟨[lessZ kn ks, swapZ b n c th]⟩, .int .i64 0, .int .i64 (n : Int)]) Tryz.func106 rfl Tryz.ntmps106 rfl ?_
  intro w0 w a hpre hl hh
  have hsz := hE.sz
  have hbig := hE.big
  have hDr2 : ∀ x, x ∈ L → ∀ z, z ∈ x.E → z.1 ∉ List.map Prod.fst [(b, C (fl RV.c3 d.toList ++ junk) 57), (kn, C [.slice lp (ln : Nat) lc, .slice (some ⟨b, 0, none⟩) (n : Nat) c, .int .i64 (sN : Int)] 33), (ks, C [.map (some mb)] 87), (mb, MO kStr m)] := hDr
  generalize hDD : List.map Prod.fst [(b, C (fl RV.c3 d.toList ++ junk) 57), (kn, C [.slice lp (ln : Nat) lc, .slice (some ⟨b, 0, none⟩) (n : Nat) c, .int .i64 (sN : Int)] 33), (ks, C [.map (some mb)] 87), (mb, MO kStr m)] = D at hh hDr2 ⊢
  simp only [slotsFrom, Nat.reduceAdd] at hl
  refine c_seq ?_
  refine c_region ?_
  refine wl (w_box hl hh rfl trivial rfl rfl ?_)
  clear hl hh a w; intro k3 a w hl hh
  refine w_nil ?_
  have hl2 := hl.add (t := 1) (hl.add (t := 2) (hl.add (t := 3) (hl.nil) rfl) rfl) rfl; clear hl; have hl := hl2; clear hl2
  refine then_normal ?_
  refine c_seq ?_
  refine c_region ?_
  refine wl (wl_val hl rfl trivial (r_move hl rfl) ?_)
  clear hl a; intro a hl
  first | refine wl (wl_val hl rfl trivial (r_add hl rfl rfl (by simp only [Fits]; omega)) ?_) | refine wl (wl_val hl rfl trivial (r_addW hl rfl rfl) ?_)
  clear hl a; intro a hl
  refine wl (wl_val hl rfl trivial (r_assign hl rfl) ?_)
  clear hl a; intro a hl
  refine w_nil ?_
  have hl2 := hl.add (t := 1) (hl.add (t := 2) (hl.add (t := 3) (hl.add (t := 6) (hl.nil) rfl) rfl) rfl) rfl; clear hl; have hl := hl2; clear hl2
  refine then_normal ?_
  refine wp_block ?_
  obtain ⟨KS0, hKS0, hk⟩ := (hl.add (t := 1) (hl.add (t := 2) (hl.add (t := 3) (hl.nil) rfl) rfl) rfl).name
  obtain ⟨HS0, hHS0, hh2⟩ := hh.name (keeps_cons (b := b) (o' := C (fl RV.c3 d.toList ++ junk) 57) (by repeat (first | exact find_head | apply find_tail | apply find_skip)) (by first | rfl) (keeps_nil))
  refine c_loop (α := IZ) (fun z => n - z.i) (fun z a w => (1 ≤ z.i ∧ z.d.size = n ∧ (∀ k, k < n → z.d[k]! ∈ L) ∧ Sort.insOuter (rvB m) 0 n z.i z.d = Sort.insertionSort (rvB m) d 0 n) ∧ Sl 35 ([(6, .int .i64 (z.i : Int))] ++ KS0) a ∧ Has _ w0 ([(b, C (fl RV.c3 z.d.toList ++ junk) 57)] ++ HS0) w) ⟨d, 1⟩ ⟨⟨Nat.le_refl _, hE.sz, hE.mem, rfl⟩, hl.addE (t := 6) (hk) rfl (by first | rfl), hh2⟩ ?_
  clear hk hh2 hl hh a w
  intro z a w hI
  obtain ⟨⟨hz1, hz2, hz4, hz3⟩, hl, hh⟩ := hI
  subst hKS0; subst hHS0
  simp only [List.cons_append, List.nil_append, List.append_nil, List.append_assoc] at hl hh
  refine c_seq ?_
  refine c_seq ?_
  refine c_region ?_
  refine wl (wl_val hl rfl trivial (r_move hl rfl) ?_)
  clear hl a; intro a hl
  refine wl (wl_val hl rfl trivial (r_move hl rfl) ?_)
  clear hl a; intro a hl
  refine wl (wl_val hl rfl trivial (r_lss hl rfl rfl) ?_)
  clear hl a; intro a hl
  refine w_nil ?_
  have hl2 := hl.add (t := 1) (hl.add (t := 2) (hl.add (t := 3) (hl.add (t := 6) (hl.add (t := 12) (hl.nil) rfl) rfl) rfl) rfl) rfl; clear hl; have hl := hl2; clear hl2
  refine then_normal ?_
  refine c_cond hl rfl ?_ ?_
  · intro hc0
    try simp only [decide_eq_true_eq, decide_eq_false_iff_not, Bool.not_eq_true', Bool.not_eq_false', Bool.not_eq_true, Bool.not_eq_false, Bool.and_eq_true, Bool.or_eq_true, Bool.and_eq_false_iff, Bool.or_eq_false_iff, Bool.not_not, ne_eq, Int.not_lt, Int.not_le, Decidable.not_not, beq_iff_eq, bne_iff_ne] at hc0
    refine wp_skip ?_
    refine then_normal ?_
    refine c_seq ?_
    refine wp_block ?_
    refine c_seq ?_
    refine c_region ?_
    refine wl (wl_val hl rfl trivial (r_move hl rfl) ?_)
    clear hl a; intro a hl
    refine wl (wl_val hl rfl trivial (r_assign hl rfl) ?_)
    clear hl a; intro a hl
    refine w_nil ?_
    have hl2 := hl.add (t := 1) (hl.add (t := 2) (hl.add (t := 3) (hl.add (t := 6) (hl.add (t := 7) (hl.nil) rfl) rfl) rfl) rfl) rfl; clear hl; have hl := hl2; clear hl2
    refine then_normal ?_
    refine wp_block ?_
    obtain ⟨KS1, hKS1, hk⟩ := (hl.add (t := 1) (hl.add (t := 2) (hl.add (t := 3) (hl.add (t := 6) (hl.nil) rfl) rfl) rfl) rfl).name
    obtain ⟨HS1, hHS1, hh2⟩ := hh.name (keeps_cons (b := b) (o' := C (fl RV.c3 z.d.toList ++ junk) 57) (by repeat (first | exact find_head | apply find_tail | apply find_skip)) (by first | rfl) (keeps_nil))
    refine c_loop (α := IZ) (fun y => y.i) (fun y a w => (y.i ≤ z.i ∧ y.d.size = n ∧ (∀ k, k < n → y.d[k]! ∈ L) ∧ Sort.insInner (rvB m) 0 y.i y.d = Sort.insInner (rvB m) 0 z.i z.d) ∧ Sl 35 ([(7, .int .i64 (y.i : Int))] ++ KS1) a ∧ Has _ w0 ([(b, C (fl RV.c3 y.d.toList ++ junk) 57)] ++ HS1) w) ⟨z.d, z.i⟩ ⟨⟨Nat.le_refl _, hz2, hz4, rfl⟩, hl.addE (t := 7) (hk) rfl (by first | rfl), hh2⟩ ?_
    clear hk hh2 hl hh a w
    intro y a w hI
    obtain ⟨⟨hy1, hy2, hy4, hy3⟩, hl, hh⟩ := hI
    subst hKS1; subst hHS1
    simp only [List.cons_append, List.nil_append, List.append_nil, List.append_assoc] at hl hh
    refine c_seq ?_
    refine c_seq ?_
    refine c_region ?_
    refine wl (wl_val hl rfl trivial (r_move hl rfl) ?_)
    clear hl a; intro a hl
    refine wl (wl_val hl rfl trivial (r_move hl rfl) ?_)
    clear hl a; intro a hl
    refine wl (wl_val hl rfl trivial (r_gtr hl rfl rfl) ?_)
    clear hl a; intro a hl
    refine wl (wl_val hl rfl trivial (r_move hl rfl) ?_)
    clear hl a; intro a hl
    refine sl_split (t := 19) hl rfl ?_ ?_
    · intro hg1; clear hl; intro hl
      try simp only [decide_eq_true_eq, decide_eq_false_iff_not, Bool.not_eq_true', Bool.not_eq_false', Bool.not_eq_true, Bool.not_eq_false, Bool.and_eq_true, Bool.or_eq_true, Bool.and_eq_false_iff, Bool.or_eq_false_iff, Bool.not_not, ne_eq, Int.not_lt, Int.not_le, Decidable.not_not, beq_iff_eq, bne_iff_ne] at hg1
      refine wl (wl_val hl rfl ⟨_, _, rfl, rfl, rfl⟩ (r_field hl rfl fld169_0) ?_)
      clear hl a; intro a hl
      refine wl (w_load hl hh rfl ⟨_, _, rfl, rfl, rfl⟩ one97 rfl (by repeat (first | exact find_head | apply find_tail | apply find_skip)) (by first | rfl) ?_)
      clear hl a; intro a hl
      refine wl (wl_val hl rfl ⟨_, _, rfl, rfl, rfl⟩ (r_move hl rfl) ?_)
      clear hl a; intro a hl
      refine wl (wl_val hl rfl ⟨_, _, rfl, rfl, rfl⟩ (r_move hl rfl) ?_)
      clear hl a; intro a hl
      first | refine wl (wl_val hl rfl ⟨_, _, rfl, rfl, rfl⟩ (r_sub hl rfl rfl (by simp only [Fits]; omega)) ?_) | refine wl (wl_val hl rfl ⟨_, _, rfl, rfl, rfl⟩ (r_subW hl rfl rfl) ?_)
      clear hl a; intro a hl
      refine wl (w_call hl hh rfl ⟨_, _, rfl, rfl, rfl⟩ rfl cal42 rfl (lessZ_spec b kn ks mb n c ln lc sN lp th junk m L y.d (hE.to hy2 hy4) hDr _ _ y.i (y.i - 1) (by omega) (by omega) (by omega) (by omega)) (by repeat (first | exact keeps_nil | apply keeps_cons (by repeat (first | exact find_head | apply find_tail | apply find_skip)) (by first  | rfl) | exact keeps_self | exact keeps_left | apply keeps_app | apply keeps_mv | apply keeps_skip)) (fun x hx => mem_keepD hh (hpre x hx) (hDr2 x hx)) ?_)
      clear hl hh a w; intro vc Fc a w hR hl hh
      obtain ⟨rfl, rfl⟩ := hR
      try simp only [List.cons_append, List.nil_append, List.append_assoc, List.append_nil] at hh
      refine wl (wl_val hl rfl trivial (r_pickT hl rfl rfl) ?_)
      clear hl a; intro a hl
      refine w_nil ?_
      have hl2 := hl.add (t := 1) (hl.add (t := 2) (hl.add (t := 3) (hl.add (t := 6) (hl.add (t := 7) (hl.add (t := 26) (hl.nil) rfl) rfl) rfl) rfl) rfl) rfl; clear hl; have hl := hl2; clear hl2
      refine then_normal ?_
      refine c_cond hl rfl ?_ ?_
      · intro hc1
        try simp only [decide_eq_true_eq, decide_eq_false_iff_not, Bool.not_eq_true', Bool.not_eq_false', Bool.not_eq_true, Bool.not_eq_false, Bool.and_eq_true, Bool.or_eq_true, Bool.and_eq_false_iff, Bool.or_eq_false_iff, Bool.not_not, ne_eq, Int.not_lt, Int.not_le, Decidable.not_not, beq_iff_eq, bne_iff_ne] at hc1
        have hgo := ins_go9 (lt := rvB m) (lo := 0) (d := y.d) (j := y.i) (by omega) (by assumption)
        refine wp_skip ?_
        refine then_normal ?_
        refine c_seq ?_
        refine wp_block ?_
        refine c_region ?_
        refine wl (wl_val hl rfl trivial (r_field hl rfl fld169_1) ?_)
        clear hl a; intro a hl
        refine wl (w_load hl hh rfl trivial one163 rfl (by repeat (first | exact find_head | apply find_tail | apply find_skip)) (by first | rfl) ?_)
        clear hl a; intro a hl
        refine wl (wl_val hl rfl trivial (r_move hl rfl) ?_)
        clear hl a; intro a hl
        refine wl (wl_val hl rfl trivial (r_move hl rfl) ?_)
        clear hl a; intro a hl
        first | refine wl (wl_val hl rfl trivial (r_sub hl rfl rfl (by simp only [Fits]; omega)) ?_) | refine wl (wl_val hl rfl trivial (r_subW hl rfl rfl) ?_)
        clear hl a; intro a hl
        refine wl (w_swap (y.i) (y.i - 1) c3_len (by decide) hl hh rfl trivial rfl rfl (by repeat (first | exact find_head | apply find_tail | apply find_skip)) (hE.swz hy2) (by omega) (by omega) (by omega) (by omega) ?_)
        clear hl hh a w; intro a w hl hh
        refine w_nil ?_
        have hl2 := hl.add (t := 1) (hl.add (t := 2) (hl.add (t := 3) (hl.add (t := 6) (hl.add (t := 7) (hl.nil) rfl) rfl) rfl) rfl) rfl; clear hl; have hl := hl2; clear hl2
        refine blk_normal ?_
        refine then_normal ?_
        refine c_region ?_
        refine wl (wl_val hl rfl trivial (r_move hl rfl) ?_)
        clear hl a; intro a hl
        first | refine wl (wl_val hl rfl trivial (r_sub hl rfl rfl (by simp only [Fits]; omega)) ?_) | refine wl (wl_val hl rfl trivial (r_subW hl rfl rfl) ?_)
        clear hl a; intro a hl
        refine wl (wl_val hl rfl trivial (r_assign hl rfl) ?_)
        clear hl a; intro a hl
        refine w_nil ?_
        have hl2 := hl.add (t := 1) (hl.add (t := 2) (hl.add (t := 3) (hl.add (t := 6) (hl.add (t := 7) (hl.nil) rfl) rfl) rfl) rfl) rfl; clear hl; have hl := hl2; clear hl2
        refine then_normal ?_
        refine ⟨⟨Sort.swp y.d y.i (y.i - 1), y.i - 1⟩, (by simp only; omega), ⟨by simp only; omega, by simp only; rw [swp_sz]; exact hy2, (by rw [← hy2] at hy4 ⊢; exact swp_mem hy4 (by omega) (by omega)), by simp only; rw [← hgo]; exact hy3⟩, hl.addE (t := 7) (hl.addE (t := 1) (hl.addE (t := 2) (hl.addE (t := 3) (hl.addE (t := 6) (hl.nil) rfl (by first | rfl | exact congrArg (Value.int .i64) (by first | omega | (simp only; omega)))) rfl (by first | rfl | exact congrArg (Value.int .i64) (by first | omega | (simp only; omega)))) rfl (by first | rfl | exact congrArg (Value.int .i64) (by first | omega | (simp only; omega)))) rfl (by first | rfl | exact congrArg (Value.int .i64) (by first | omega | (simp only; omega)))) rfl (by first | rfl | exact congrArg (Value.int .i64) (by first | omega | (simp only; omega))), hh.keep (by repeat (first | exact keeps_nil | apply keeps_cons (by repeat (first | exact find_head | apply find_tail | apply find_skip)) (by first  | rfl) | exact keeps_self | exact keeps_left | apply keeps_app | apply keeps_mv | apply keeps_skip))⟩
      · intro hc1
        try simp only [decide_eq_true_eq, decide_eq_false_iff_not, Bool.not_eq_true', Bool.not_eq_false', Bool.not_eq_true, Bool.not_eq_false, Bool.and_eq_true, Bool.or_eq_true, Bool.and_eq_false_iff, Bool.or_eq_false_iff, Bool.not_not, ne_eq, Int.not_lt, Int.not_le, Decidable.not_not, beq_iff_eq, bne_iff_ne] at hc1
        have hst : y.d = Sort.insInner (rvB m) 0 z.i z.d := by rw [← hy3]; exact (ins_stop9 (fun h9 => by first | omega | (have h8 := h9.2; rw [show rvB m y.d[y.i]! y.d[y.i - 1]! = false by assumption] at h8; cases h8))).symm
        refine wp_exit ?_
        refine then_exit ?_
        refine then_exit ?_
        refine blk_exit ?_
        refine blk_normal ?_
        refine then_normal ?_
        refine c_region ?_
        refine wl (wl_val hl rfl trivial (r_move hl rfl) ?_)
        clear hl a; intro a hl
        first | refine wl (wl_val hl rfl trivial (r_add hl rfl rfl (by simp only [Fits]; omega)) ?_) | refine wl (wl_val hl rfl trivial (r_addW hl rfl rfl) ?_)
        clear hl a; intro a hl
        refine wl (wl_val hl rfl trivial (r_assign hl rfl) ?_)
        clear hl a; intro a hl
        refine w_nil ?_
        have hl2 := hl.add (t := 1) (hl.add (t := 2) (hl.add (t := 3) (hl.add (t := 6) (hl.nil) rfl) rfl) rfl) rfl; clear hl; have hl := hl2; clear hl2
        refine then_normal ?_
        refine ⟨⟨y.d, z.i + 1⟩, (by simp only; omega), ⟨by simp only; omega, hy2, hy4, by simp only; rw [← hz3, hst]; exact (out_go (by omega)).symm⟩, hl.addE (t := 6) (hl.addE (t := 1) (hl.addE (t := 2) (hl.addE (t := 3) (hl.nil) rfl (by first | rfl | exact congrArg (Value.int .i64) (show (z.i : Int) + 1 = ((z.i + 1 : Nat) : Int) by omega))) rfl (by first | rfl | exact congrArg (Value.int .i64) (show (z.i : Int) + 1 = ((z.i + 1 : Nat) : Int) by omega))) rfl (by first | rfl | exact congrArg (Value.int .i64) (show (z.i : Int) + 1 = ((z.i + 1 : Nat) : Int) by omega))) rfl (by first | rfl | exact congrArg (Value.int .i64) (show (z.i : Int) + 1 = ((z.i + 1 : Nat) : Int) by omega)), hh.keep (by repeat (first | exact keeps_nil | apply keeps_cons (by repeat (first | exact find_head | apply find_tail | apply find_skip)) (by first  | rfl) | exact keeps_self | exact keeps_left | apply keeps_app | apply keeps_mv | apply keeps_skip))⟩
    · intro hg1; clear hl; intro hl
      try simp only [decide_eq_true_eq, decide_eq_false_iff_not, Bool.not_eq_true', Bool.not_eq_false', Bool.not_eq_true, Bool.not_eq_false, Bool.and_eq_true, Bool.or_eq_true, Bool.and_eq_false_iff, Bool.or_eq_false_iff, Bool.not_not, ne_eq, Int.not_lt, Int.not_le, Decidable.not_not, beq_iff_eq, bne_iff_ne] at hg1
      refine wl (wl_skip hl rfl ⟨_, _, rfl, rfl, rfl⟩ ?_)
      clear hl a; intro a hl
      refine wl (wl_skip hl rfl ⟨_, _, rfl, rfl, rfl⟩ ?_)
      clear hl a; intro a hl
      refine wl (wl_skip hl rfl ⟨_, _, rfl, rfl, rfl⟩ ?_)
      clear hl a; intro a hl
      refine wl (wl_skip hl rfl ⟨_, _, rfl, rfl, rfl⟩ ?_)
      clear hl a; intro a hl
      refine wl (wl_skip hl rfl ⟨_, _, rfl, rfl, rfl⟩ ?_)
      clear hl a; intro a hl
      refine wl (wl_skip hl rfl ⟨_, _, rfl, rfl, rfl⟩ ?_)
      clear hl a; intro a hl
      refine wl (wl_val hl rfl trivial (r_pickF hl rfl rfl) ?_)
      clear hl a; intro a hl
      refine w_nil ?_
      have hl2 := hl.add (t := 1) (hl.add (t := 2) (hl.add (t := 3) (hl.add (t := 6) (hl.add (t := 7) (hl.add (t := 26) (hl.nil) rfl) rfl) rfl) rfl) rfl) rfl; clear hl; have hl := hl2; clear hl2
      refine then_normal ?_
      refine c_condF hl rfl ?_
      have hst : y.d = Sort.insInner (rvB m) 0 z.i z.d := by rw [← hy3]; exact (ins_stop9 (fun h9 => by first | omega | (have h8 := h9.2; rw [show rvB m y.d[y.i]! y.d[y.i - 1]! = false by assumption] at h8; cases h8))).symm
      refine wp_exit ?_
      refine then_exit ?_
      refine then_exit ?_
      refine blk_exit ?_
      refine blk_normal ?_
      refine then_normal ?_
      refine c_region ?_
      refine wl (wl_val hl rfl trivial (r_move hl rfl) ?_)
      clear hl a; intro a hl
      first | refine wl (wl_val hl rfl trivial (r_add hl rfl rfl (by simp only [Fits]; omega)) ?_) | refine wl (wl_val hl rfl trivial (r_addW hl rfl rfl) ?_)
      clear hl a; intro a hl
      refine wl (wl_val hl rfl trivial (r_assign hl rfl) ?_)
      clear hl a; intro a hl
      refine w_nil ?_
      have hl2 := hl.add (t := 1) (hl.add (t := 2) (hl.add (t := 3) (hl.add (t := 6) (hl.nil) rfl) rfl) rfl) rfl; clear hl; have hl := hl2; clear hl2
      refine then_normal ?_
      refine ⟨⟨y.d, z.i + 1⟩, (by simp only; omega), ⟨by simp only; omega, hy2, hy4, by simp only; rw [← hz3, hst]; exact (out_go (by omega)).symm⟩, hl.addE (t := 6) (hl.addE (t := 1) (hl.addE (t := 2) (hl.addE (t := 3) (hl.nil) rfl (by first | rfl | exact congrArg (Value.int .i64) (show (z.i : Int) + 1 = ((z.i + 1 : Nat) : Int) by omega))) rfl (by first | rfl | exact congrArg (Value.int .i64) (show (z.i : Int) + 1 = ((z.i + 1 : Nat) : Int) by omega))) rfl (by first | rfl | exact congrArg (Value.int .i64) (show (z.i : Int) + 1 = ((z.i + 1 : Nat) : Int) by omega))) rfl (by first | rfl | exact congrArg (Value.int .i64) (show (z.i : Int) + 1 = ((z.i + 1 : Nat) : Int) by omega)), hh.keep (by repeat (first | exact keeps_nil | apply keeps_cons (by repeat (first | exact find_head | apply find_tail | apply find_skip)) (by first  | rfl) | exact keeps_self | exact keeps_left | apply keeps_app | apply keeps_mv | apply keeps_skip))⟩
  · intro hc0
    try simp only [decide_eq_true_eq, decide_eq_false_iff_not, Bool.not_eq_true', Bool.not_eq_false', Bool.not_eq_true, Bool.not_eq_false, Bool.and_eq_true, Bool.or_eq_true, Bool.and_eq_false_iff, Bool.or_eq_false_iff, Bool.not_not, ne_eq, Int.not_lt, Int.not_le, Decidable.not_not, beq_iff_eq, bne_iff_ne] at hc0
    have hfin : z.d = Sort.insertionSort (rvB m) d 0 n := by rw [← hz3, out_stop (by omega)]
    refine wp_exit ?_
    refine then_exit ?_
    refine then_exit ?_
    refine blk_exit ?_
    refine f_end0 (F' := [(b, C (fl RV.c3 z.d.toList ++ junk) 57), (kn, C [.slice lp (ln : Nat) lc, .slice (some ⟨b, 0, none⟩) (n : Nat) c, .int .i64 (sN : Int)] 33), (ks, C [.map (some mb)] 87), (mb, MO kStr m)]) hl hh rfl (by repeat (first | exact keeps_nil | apply keeps_cons (by repeat (first | exact find_head | apply find_tail | apply find_skip)) (by first  | rfl) | exact keeps_self | exact keeps_left | apply keeps_app | apply keeps_mv | apply keeps_skip)) ?_
    rw [← hfin]
    exact ⟨rfl, rfl, hz2, hz4⟩

set_option maxHeartbeats 8000000 in
theorem pdqZ_spec (b kn ks mb n c ln lc sN : Nat) (lp : Option Addr) (th : Value) (junk : List Value) (m : List (ByteArray × Value)) (L : List RV) (d : Array RV) (hE : SF b n c th m L d) (hDr : ∀ x, x ∈ L → ∀ z, z ∈ x.E → z.1 ∉ [b, kn, ks, mb]) (kk : Int) : SpK Tryz.prog 78 #[.agg ⟨[lessZ kn ks, swapZ b n c th]⟩, .int .i64 0, .int .i64 (n : Int), .int .i64 kk] (fun w => ∀ x, x ∈ L → Mem x.E w) [(b, C (fl RV.c3 d.toList ++ junk) 57), (kn, C [.slice lp (ln : Nat) lc, .slice (some ⟨b, 0, none⟩) (n : Nat) c, .int .i64 (sN : Int)] 33), (ks, C [.map (some mb)] 87), (mb, MO kStr m)] (fun v F' => v = .tuple #[] ∧ F' = [(b, C (fl RV.c3 (Sort.insertionSort (rvB m) d 0 n).toList ++ junk) 57), (kn, C [.slice lp (ln : Nat) lc, .slice (some ⟨b, 0, none⟩) (n : Nat) c, .int .i64 (sN : Int)] 33), (ks, C [.map (some mb)] 87), (mb, MO kStr m)] ∧ (Sort.insertionSort (rvB m) d 0 n).size = n ∧ ∀ k, k < n → (Sort.insertionSort (rvB m) d 0 n)[k]! ∈ L) := by
  refine f_enter (args := [.agg ⟨[lessZ kn ks, swapZ b n c th]⟩, .int .i64 0, .int .i64 (n : Int), .int .i64 kk]) Tryz.func78 rfl Tryz.ntmps78 rfl ?_
  intro w0 w a hpre hl hh
  have hbig := hE.big
  have hDr2 : ∀ x, x ∈ L → ∀ z, z ∈ x.E → z.1 ∉ List.map Prod.fst [(b, C (fl RV.c3 d.toList ++ junk) 57), (kn, C [.slice lp (ln : Nat) lc, .slice (some ⟨b, 0, none⟩) (n : Nat) c, .int .i64 (sN : Int)] 33), (ks, C [.map (some mb)] 87), (mb, MO kStr m)] := hDr
  generalize hDD : List.map Prod.fst [(b, C (fl RV.c3 d.toList ++ junk) 57), (kn, C [.slice lp (ln : Nat) lc, .slice (some ⟨b, 0, none⟩) (n : Nat) c, .int .i64 (sN : Int)] 33), (ks, C [.map (some mb)] 87), (mb, MO kStr m)] = D at hh hDr2 ⊢
  simp only [slotsFrom, Nat.reduceAdd] at hl
  refine c_seq ?_
  refine c_region ?_
  refine wl (w_box hl hh rfl trivial rfl rfl ?_)
  clear hl hh a w; intro k4 a w hl hh
  refine w_nil ?_
  have hl2 := hl.add (t := 1) (hl.add (t := 2) (hl.add (t := 3) (hl.add (t := 4) (hl.nil) rfl) rfl) rfl) rfl; clear hl; have hl := hl2; clear hl2
  refine then_normal ?_
  refine c_seq ?_
  refine c_region ?_
  refine wl (wl_val hl rfl trivial (r_assign hl rfl) ?_)
  clear hl a; intro a hl
  refine w_nil ?_
  have hl2 := hl.add (t := 1) (hl.add (t := 2) (hl.add (t := 3) (hl.add (t := 4) (hl.add (t := 8) (hl.nil) rfl) rfl) rfl) rfl) rfl; clear hl; have hl := hl2; clear hl2
  refine then_normal ?_
  refine c_seq ?_
  refine c_region ?_
  refine wl (wl_val hl rfl trivial (r_assign hl rfl) ?_)
  clear hl a; intro a hl
  refine w_nil ?_
  have hl2 := hl.add (t := 1) (hl.add (t := 2) (hl.add (t := 3) (hl.add (t := 4) (hl.add (t := 8) (hl.add (t := 9) (hl.nil) rfl) rfl) rfl) rfl) rfl) rfl; clear hl; have hl := hl2; clear hl2
  refine then_normal ?_
  refine wp_block ?_
  obtain ⟨KS0, hKS0, hk⟩ := (hl.add (t := 4) (hl.nil) rfl).name
  obtain ⟨HS0, hHS0, hh2⟩ := hh.name (keeps_cons (b := b) (o' := C (fl RV.c3 d.toList ++ junk) 57) (by repeat (first | exact find_head | apply find_tail | apply find_skip)) (by first | rfl) (keeps_nil))
  refine c_loop (α := Nat) (fun u9 => 0 - u9) (fun u9 a w => (True) ∧ Sl 130 ([(1, .int .i64 0), (2, .int .i64 (n : Int)), (3, .int .i64 kk), (8, .bool true), (9, .bool true)] ++ KS0) a ∧ Has _ w0 ([(b, C (fl RV.c3 d.toList ++ junk) 57)] ++ HS0) w) 0 ⟨trivial, hl.addE (t := 1) (hl.addE (t := 2) (hl.addE (t := 3) (hl.addE (t := 8) (hl.addE (t := 9) (hk) rfl (by first | rfl)) rfl (by first | rfl)) rfl (by first | rfl)) rfl (by first | rfl)) rfl (by first | rfl), hh2⟩ ?_
  clear hk hh2 hl hh a w
  intro u9 a w hI
  obtain ⟨_, hl, hh⟩ := hI
  subst hKS0; subst hHS0
  simp only [List.cons_append, List.nil_append, List.append_nil, List.append_assoc] at hl hh
  refine wp_block ?_
  refine c_seq ?_
  refine c_region ?_
  refine wl (wl_val hl rfl trivial (r_move hl rfl) ?_)
  clear hl a; intro a hl
  refine wl (wl_val hl rfl trivial (r_move hl rfl) ?_)
  clear hl a; intro a hl
  first | refine wl (wl_val hl rfl trivial (r_sub hl rfl rfl (by simp only [Fits]; omega)) ?_) | refine wl (wl_val hl rfl trivial (r_subW hl rfl rfl) ?_)
  clear hl a; intro a hl
  refine wl (wl_val hl rfl trivial (r_assign hl rfl) ?_)
  clear hl a; intro a hl
  refine w_nil ?_
  have hl2 := hl.add (t := 1) (hl.add (t := 2) (hl.add (t := 3) (hl.add (t := 4) (hl.add (t := 8) (hl.add (t := 9) (hl.add (t := 10) (hl.nil) rfl) rfl) rfl) rfl) rfl) rfl) rfl; clear hl; have hl := hl2; clear hl2
  refine then_normal ?_
  refine c_seq ?_
  refine c_seq ?_
  refine c_region ?_
  refine wl (wl_val hl rfl trivial (r_move hl rfl) ?_)
  clear hl a; intro a hl
  refine wl (wl_val hl rfl trivial (r_leq hl rfl rfl) ?_)
  clear hl a; intro a hl
  refine w_nil ?_
  have hl2 := hl.add (t := 1) (hl.add (t := 2) (hl.add (t := 3) (hl.add (t := 4) (hl.add (t := 8) (hl.add (t := 9) (hl.add (t := 10) (hl.add (t := 23) (hl.nil) rfl) rfl) rfl) rfl) rfl) rfl) rfl) rfl; clear hl; have hl := hl2; clear hl2
  refine then_normal ?_
  refine c_cond hl rfl ?_ ?_
  · intro hc0
    try simp only [decide_eq_true_eq, decide_eq_false_iff_not, Bool.not_eq_true', Bool.not_eq_false', Bool.not_eq_true, Bool.not_eq_false, Bool.and_eq_true, Bool.or_eq_true, Bool.and_eq_false_iff, Bool.or_eq_false_iff, Bool.not_not, ne_eq, Int.not_lt, Int.not_le, Decidable.not_not, beq_iff_eq, bne_iff_ne] at hc0
    refine c_seq ?_
    refine c_region ?_
    refine wl (w_loadA hl hh rfl trivial agg169 rfl (by repeat (first | exact find_head | apply find_tail | apply find_skip)) (by first | (simp only [List.getElem?_cons_zero, List.getElem?_cons_succ, Value.cells, List.take_zero, List.take_succ_cons, List.take_nil, List.drop_zero, List.drop_succ_cons, List.drop_nil, List.length_cons, List.length_nil, List.cons_append, List.nil_append, List.append_nil, Nat.zero_add, Nat.add_zero, Nat.reduceAdd, Nat.reduceBEq, Nat.reduceEqDiff, Nat.ble, BEq.rfl, Bool.and_true, Bool.and_self, cond_true, beq_self_eq_true]; rfl)) (by first | rfl | (simp; done)) ?_)
    clear hl a; intro a hl
    refine wl (wl_val hl rfl trivial (r_move hl rfl) ?_)
    clear hl a; intro a hl
    refine wl (wl_val hl rfl trivial (r_move hl rfl) ?_)
    clear hl a; intro a hl
    refine wl (w_call hl hh rfl trivial rfl cal106 rfl (insZ_spec b kn ks mb n c ln lc sN lp th junk m L d hE hDr) (by repeat (first | exact keeps_nil | apply keeps_cons (by repeat (first | exact find_head | apply find_tail | apply find_skip)) (by first  | rfl) | exact keeps_self | exact keeps_left | apply keeps_app | apply keeps_mv | apply keeps_skip)) (fun x hx => mem_keepD hh (hpre x hx) (hDr2 x hx)) ?_)
    clear hl hh a w; intro vc Fc a w hR hl hh
    obtain ⟨rfl, hF9, hs9, hm9⟩ := hR
    try simp only [List.cons_append, List.nil_append, List.append_assoc, List.append_nil] at hh
    subst hF9
    refine w_nil ?_
    have hl2 := hl.nil; clear hl; have hl := hl2; clear hl2
    refine then_normal ?_
    refine wp_ret ?_
    refine then_ret ?_
    refine blk_ret ?_
    refine then_ret ?_
    refine blk_ret ?_
    refine f_ret0 (F' := [(b, C (fl RV.c3 (Sort.insertionSort (rvB m) d 0 n).toList ++ junk) 57), (kn, C [.slice lp (ln : Nat) lc, .slice (some ⟨b, 0, none⟩) (n : Nat) c, .int .i64 (sN : Int)] 33), (ks, C [.map (some mb)] 87), (mb, MO kStr m)]) hl hh rfl (by repeat (first | exact keeps_nil | apply keeps_cons (by repeat (first | exact find_head | apply find_tail | apply find_skip)) (by first  | rfl) | exact keeps_self | exact keeps_left | apply keeps_app | apply keeps_mv | apply keeps_skip)) ?_
    exact ⟨rfl, rfl, hs9, hm9⟩
  · intro hc0
    try simp only [decide_eq_true_eq, decide_eq_false_iff_not, Bool.not_eq_true', Bool.not_eq_false', Bool.not_eq_true, Bool.not_eq_false, Bool.and_eq_true, Bool.or_eq_true, Bool.and_eq_false_iff, Bool.or_eq_false_iff, Bool.not_not, ne_eq, Int.not_lt, Int.not_le, Decidable.not_not, beq_iff_eq, bne_iff_ne] at hc0
    exfalso; first | contradiction | omega
end Go.Proofs.Qxb6500915aGreatDoor

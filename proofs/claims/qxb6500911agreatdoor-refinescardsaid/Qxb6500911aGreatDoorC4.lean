import Derived.Test.Qxb6500911aGreatDoorC2
namespace Go.Proofs.Qxb6500911aGreatDoor
open Go.Eng
set_option linter.unusedVariables false
set_option linter.unusedSimpArgs false

set_option maxHeartbeats 8000000 in
theorem peq_spec {b Bs n c : Nat} {th : Value} {sL junk : List Value} {d : Array Eg} (hE : SE b Bs n c th sL d) (lo hi pv : Nat) (hab : lo < hi) (hhi : hi ≤ n) (hpv : lo ≤ pv ∧ pv < hi) : Sp Tryz.prog 112 #[.agg ⟨[lessV Bs, swapV b n c th]⟩, .int .i64 (lo : Int), .int .i64 (hi : Int), .int .i64 (pv : Int)] [(b, C (fl egc d.toList ++ junk) 102), (Bs, C sL 46)] (fun v F' => v = .int .i64 (((Sort.partitionEqual egB d lo hi pv).1 : Nat) : Int) ∧ F' = [(b, C (fl egc (Sort.partitionEqual egB d lo hi pv).2.toList ++ junk) 102), (Bs, C sL 46)] ∧ (Sort.partitionEqual egB d lo hi pv).2.size = n ∧ lo < (Sort.partitionEqual egB d lo hi pv).1 ∧ (Sort.partitionEqual egB d lo hi pv).1 ≤ hi) := by
  refine f_enter (args := [.agg ⟨[lessV Bs, swapV b n c th]⟩, .int .i64 (lo : Int), .int .i64 (hi : Int), .int .i64 (pv : Int)]) Tryz.func112 rfl Tryz.ntmps112 rfl ?_
  intro w0 w a hpre hl hh
  have hsz := hE.sz
  have hbig := hE.big
  have hs0 : (Sort.swp d lo pv).size = n := by rw [swp_sz]; exact hE.sz
  simp only [slotsFrom, Nat.reduceAdd] at hl
  refine c_seq ?_
  refine c_region ?_
  refine wl (w_box hl hh rfl trivial rfl rfl ?_)
  clear hl hh a w; intro k4 a w hl hh
  refine wl (wl_val hl rfl trivial (r_assign hl rfl) ?_)
  clear hl a; intro a hl
  refine w_nil ?_
  have hl2 := hl.add (t := 1) (hl.add (t := 2) (hl.add (t := 3) (hl.add (t := 4) (hl.nil) rfl) rfl) rfl) rfl; clear hl; have hl := hl2; clear hl2
  refine then_normal ?_
  refine c_seq ?_
  refine c_region ?_
  refine wl (wl_val hl rfl trivial (r_field hl rfl fld179_1) ?_)
  clear hl a; intro a hl
  refine wl (w_load hl hh rfl trivial one173 rfl (by repeat (first | exact find_head | apply find_tail | apply find_skip)) (by first | rfl) ?_)
  clear hl a; intro a hl
  refine wl (wl_val hl rfl trivial (r_move hl rfl) ?_)
  clear hl a; intro a hl
  refine wl (wl_val hl rfl trivial (r_move hl rfl) ?_)
  clear hl a; intro a hl
  refine wl (w_swap (lo) (pv) egc_len (by decide) hl hh rfl trivial rfl rfl (by repeat (first | exact find_head | apply find_tail | apply find_skip)) (hE.swz hE.sz) (by omega) (by omega) (by omega) (by omega) ?_)
  clear hl hh a w; intro a w hl hh
  refine w_nil ?_
  have hl2 := hl.add (t := 1) (hl.add (t := 2) (hl.add (t := 4) (hl.nil) rfl) rfl) rfl; clear hl; have hl := hl2; clear hl2
  refine then_normal ?_
  refine c_seq ?_
  refine c_region ?_
  refine wl (wl_val hl rfl trivial (r_move hl rfl) ?_)
  clear hl a; intro a hl
  first | refine wl (wl_val hl rfl trivial (r_add hl rfl rfl (by simp only [Fits]; omega)) ?_) | refine wl (wl_val hl rfl trivial (r_addW hl rfl rfl) ?_)
  clear hl a; intro a hl
  refine wl (wl_val hl rfl trivial (r_move hl rfl) ?_)
  clear hl a; intro a hl
  first | refine wl (wl_val hl rfl trivial (r_sub hl rfl rfl (by simp only [Fits]; omega)) ?_) | refine wl (wl_val hl rfl trivial (r_subW hl rfl rfl) ?_)
  clear hl a; intro a hl
  refine wl (wl_val hl rfl trivial (r_assign hl rfl) ?_)
  clear hl a; intro a hl
  refine wl (wl_val hl rfl trivial (r_assign hl rfl) ?_)
  clear hl a; intro a hl
  refine w_nil ?_
  have hl2 := hl.add (t := 1) (hl.add (t := 4) (hl.add (t := 9) (hl.add (t := 10) (hl.nil) rfl) rfl) rfl) rfl; clear hl; have hl := hl2; clear hl2
  refine then_normal ?_
  refine c_seq ?_
  refine wp_block ?_
  obtain ⟨KS0, hKS0, hk⟩ := (hl.add (t := 1) (hl.add (t := 4) (hl.nil) rfl) rfl).name
  obtain ⟨HS0, hHS0, hh2⟩ := hh.name (keeps_cons (b := b) (o' := C (fl egc (Sort.swp d lo pv).toList ++ junk) 102) (by repeat (first | exact find_head | apply find_tail | apply find_skip)) (by first | rfl) (keeps_nil))
  refine c_loop (α := PZ3) (fun q => q.j + 2 - q.i) (fun q a w => (q.d.size = n ∧ (lo + 1 ≤ q.i ∧ q.i ≤ hi ∧ q.j ≤ hi - 1) ∧ Sort.partEqLoop egB lo q.i q.j q.d = Sort.partitionEqual egB d lo hi pv) ∧ Sl 58 ([(9, .int .i64 (q.i : Int)), (10, .int .i64 (q.j : Int))] ++ KS0) a ∧ Has _ w0 ([(b, C (fl egc q.d.toList ++ junk) 102)] ++ HS0) w) ⟨(Sort.swp d lo pv), lo + 1, hi - 1⟩ ⟨⟨hs0, ⟨Nat.le_refl _, hab, Nat.le_refl _⟩, rfl⟩, hl.addE (t := 9) (hl.addE (t := 10) (hk) rfl (by first | exact congrArg (Value.int .i64) (by first | omega | (simp only; omega)) | rfl)) rfl (by first | exact congrArg (Value.int .i64) (by first | omega | (simp only; omega)) | rfl), hh2⟩ ?_
  clear hk hh2 hl hh a w
  intro q a w hI
  obtain ⟨⟨hq1, hq2, hq3⟩, hl, hh⟩ := hI
  subst hKS0; subst hHS0
  simp only [List.cons_append, List.nil_append, List.append_nil, List.append_assoc] at hl hh
  refine wp_block ?_
  refine c_seq ?_
  refine wp_block ?_
  obtain ⟨KS1, hKS1, hk⟩ := (hl.add (t := 1) (hl.add (t := 4) (hl.add (t := 10) (hl.nil) rfl) rfl) rfl).name
  obtain ⟨HS1, hHS1, hh2⟩ := hh.name (keeps_nil)
  refine c_loop (α := Nat) (fun u2 => hi - u2) (fun u2 a w => (q.i ≤ u2 ∧ u2 ≤ hi ∧ Sort.scanUp (fun x => !egB q.d[lo]! x) q.d q.j u2 = Sort.scanUp (fun x => !egB q.d[lo]! x) q.d q.j q.i) ∧ Sl 58 ([(9, .int .i64 (u2 : Int))] ++ KS1) a ∧ Has _ w0 ([] ++ HS1) w) q.i ⟨⟨Nat.le_refl _, by omega, rfl⟩, hl.addE (t := 9) (hk) rfl (by first | exact congrArg (Value.int .i64) (by first | omega | (simp only; omega)) | rfl), hh2⟩ ?_
  clear hk hh2 hl hh a w
  intro u2 a w hI
  obtain ⟨⟨ha1, ha2, ha3⟩, hl, hh⟩ := hI
  subst hKS1; subst hHS1
  simp only [List.cons_append, List.nil_append, List.append_nil, List.append_assoc] at hl hh
  refine c_seq ?_
  refine c_seq ?_
  refine c_region ?_
  refine wl (wl_val hl rfl trivial (r_move hl rfl) ?_)
  clear hl a; intro a hl
  refine wl (wl_val hl rfl trivial (r_move hl rfl) ?_)
  clear hl a; intro a hl
  refine wl (wl_val hl rfl trivial (r_leq hl rfl rfl) ?_)
  clear hl a; intro a hl
  refine wl (wl_val hl rfl trivial (r_move hl rfl) ?_)
  clear hl a; intro a hl
  refine sl_split (t := 23) hl rfl ?_ ?_
  · intro hg1; clear hl; intro hl
    try simp only [decide_eq_true_eq, decide_eq_false_iff_not, Bool.not_eq_true', Bool.not_eq_false', Bool.not_eq_true, Bool.not_eq_false, Bool.and_eq_true, Bool.or_eq_true, Bool.and_eq_false_iff, Bool.or_eq_false_iff, Bool.not_not, ne_eq, Int.not_lt, Int.not_le, Decidable.not_not, beq_iff_eq, bne_iff_ne] at hg1
    refine wl (wl_val hl rfl ⟨_, _, rfl, rfl, rfl⟩ (r_field hl rfl fld179_0) ?_)
    clear hl a; intro a hl
    refine wl (w_load hl hh rfl ⟨_, _, rfl, rfl, rfl⟩ one144 rfl (by repeat (first | exact find_head | apply find_tail | apply find_skip)) (by first | rfl) ?_)
    clear hl a; intro a hl
    refine wl (wl_val hl rfl ⟨_, _, rfl, rfl, rfl⟩ (r_move hl rfl) ?_)
    clear hl a; intro a hl
    refine wl (wl_val hl rfl ⟨_, _, rfl, rfl, rfl⟩ (r_move hl rfl) ?_)
    clear hl a; intro a hl
    refine wl (w_call hl hh rfl ⟨_, _, rfl, rfl, rfl⟩ rfl cal62 rfl (less_spec (hE.to hq1) _ _ lo u2 (by omega) (by omega) (by omega) (by omega)) (by repeat (first | exact keeps_nil | apply keeps_cons (by repeat (first | exact find_head | apply find_tail | apply find_skip)) (by first  | rfl) | exact keeps_self | exact keeps_left | apply keeps_app | apply keeps_mv | apply keeps_skip)) trivial ?_)
    clear hl hh a w; intro vc Fc a w hR hl hh
    obtain ⟨rfl, rfl⟩ := hR
    try simp only [List.cons_append, List.nil_append, List.append_assoc, List.append_nil] at hh
    refine wl (wl_val hl rfl ⟨_, _, rfl, rfl, rfl⟩ (r_not hl rfl) ?_)
    clear hl a; intro a hl
    refine wl (wl_val hl rfl trivial (r_pickT hl rfl rfl) ?_)
    clear hl a; intro a hl
    refine w_nil ?_
    have hl2 := hl.add (t := 1) (hl.add (t := 4) (hl.add (t := 9) (hl.add (t := 10) (hl.add (t := 30) (hl.nil) rfl) rfl) rfl) rfl) rfl; clear hl; have hl := hl2; clear hl2
    refine then_normal ?_
    refine c_cond hl rfl ?_ ?_
    · intro hc0
      try simp only [decide_eq_true_eq, decide_eq_false_iff_not, Bool.not_eq_true', Bool.not_eq_false', Bool.not_eq_true, Bool.not_eq_false, Bool.and_eq_true, Bool.or_eq_true, Bool.and_eq_false_iff, Bool.or_eq_false_iff, Bool.not_not, ne_eq, Int.not_lt, Int.not_le, Decidable.not_not, beq_iff_eq, bne_iff_ne] at hc0
      refine wp_skip ?_
      refine then_normal ?_
      refine wp_block ?_
      refine c_region ?_
      refine wl (wl_val hl rfl trivial (r_move hl rfl) ?_)
      clear hl a; intro a hl
      first | refine wl (wl_val hl rfl trivial (r_add hl rfl rfl (by simp only [Fits]; omega)) ?_) | refine wl (wl_val hl rfl trivial (r_addW hl rfl rfl) ?_)
      clear hl a; intro a hl
      refine wl (wl_val hl rfl trivial (r_assign hl rfl) ?_)
      clear hl a; intro a hl
      refine w_nil ?_
      have hl2 := hl.add (t := 1) (hl.add (t := 4) (hl.add (t := 9) (hl.add (t := 10) (hl.nil) rfl) rfl) rfl) rfl; clear hl; have hl := hl2; clear hl2
      refine blk_normal ?_
      refine then_normal ?_
      refine ⟨(u2 + 1), (by omega), ⟨by omega, by omega, by rw [← ha3]; exact (up_goN (by omega) (by assumption)).symm⟩, hl.addE (t := 9) (hl.addE (t := 1) (hl.addE (t := 4) (hl.addE (t := 10) (hl.nil) rfl (by first | rfl | exact congrArg (Value.int .i64) (by first | omega | (simp only; omega)))) rfl (by first | rfl | exact congrArg (Value.int .i64) (by first | omega | (simp only; omega)))) rfl (by first | rfl | exact congrArg (Value.int .i64) (by first | omega | (simp only; omega)))) rfl (by first | rfl | exact congrArg (Value.int .i64) (by first | omega | (simp only; omega))), hh.keep (by repeat (first | exact keeps_nil | apply keeps_cons (by repeat (first | exact find_head | apply find_tail | apply find_skip)) (by first  | rfl) | exact keeps_self | exact keeps_left | apply keeps_app | apply keeps_mv | apply keeps_skip))⟩
    · intro hc0
      try simp only [decide_eq_true_eq, decide_eq_false_iff_not, Bool.not_eq_true', Bool.not_eq_false', Bool.not_eq_true, Bool.not_eq_false, Bool.and_eq_true, Bool.or_eq_true, Bool.and_eq_false_iff, Bool.or_eq_false_iff, Bool.not_not, ne_eq, Int.not_lt, Int.not_le, Decidable.not_not, beq_iff_eq, bne_iff_ne] at hc0
      have hu2e : Sort.scanUp (fun x => !egB q.d[lo]! x) q.d q.j q.i = u2 := by rw [← ha3]; exact up_stop (fun h9 => by first | omega | (have h8 := h9.2; simp only [show egB q.d[lo]! q.d[u2]! = true by assumption] at h8; cases h8))
      refine wp_exit ?_
      refine then_exit ?_
      refine then_exit ?_
      refine blk_exit ?_
      refine then_normal ?_
      refine c_seq ?_
      refine wp_block ?_
      obtain ⟨KS2, hKS2, hk⟩ := (hl.add (t := 1) (hl.add (t := 4) (hl.add (t := 9) (hl.nil) rfl) rfl) rfl).name
      obtain ⟨HS2, hHS2, hh2⟩ := hh.name (keeps_nil)
      refine c_loop (α := Nat) (fun v2 => v2) (fun v2 a w => (v2 ≤ q.j ∧ Sort.scanDown (fun x => egB q.d[lo]! x) q.d u2 v2 = Sort.scanDown (fun x => egB q.d[lo]! x) q.d u2 q.j) ∧ Sl 58 ([(10, .int .i64 (v2 : Int))] ++ KS2) a ∧ Has _ w0 ([] ++ HS2) w) q.j ⟨⟨Nat.le_refl _, rfl⟩, hl.addE (t := 10) (hk) rfl (by first | exact congrArg (Value.int .i64) (by first | omega | (simp only; omega)) | rfl), hh2⟩ ?_
      clear hk hh2 hl hh a w
      intro v2 a w hI
      obtain ⟨⟨hd1, hd3⟩, hl, hh⟩ := hI
      subst hKS2; subst hHS2
      simp only [List.cons_append, List.nil_append, List.append_nil, List.append_assoc] at hl hh
      refine c_seq ?_
      refine c_seq ?_
      refine c_region ?_
      refine wl (wl_val hl rfl trivial (r_move hl rfl) ?_)
      clear hl a; intro a hl
      refine wl (wl_val hl rfl trivial (r_move hl rfl) ?_)
      clear hl a; intro a hl
      refine wl (wl_val hl rfl trivial (r_leq hl rfl rfl) ?_)
      clear hl a; intro a hl
      refine wl (wl_val hl rfl trivial (r_move hl rfl) ?_)
      clear hl a; intro a hl
      refine sl_split (t := 36) hl rfl ?_ ?_
      · intro hg2; clear hl; intro hl
        try simp only [decide_eq_true_eq, decide_eq_false_iff_not, Bool.not_eq_true', Bool.not_eq_false', Bool.not_eq_true, Bool.not_eq_false, Bool.and_eq_true, Bool.or_eq_true, Bool.and_eq_false_iff, Bool.or_eq_false_iff, Bool.not_not, ne_eq, Int.not_lt, Int.not_le, Decidable.not_not, beq_iff_eq, bne_iff_ne] at hg2
        refine wl (wl_val hl rfl ⟨_, _, rfl, rfl, rfl⟩ (r_field hl rfl fld179_0) ?_)
        clear hl a; intro a hl
        refine wl (w_load hl hh rfl ⟨_, _, rfl, rfl, rfl⟩ one144 rfl (by repeat (first | exact find_head | apply find_tail | apply find_skip)) (by first | rfl) ?_)
        clear hl a; intro a hl
        refine wl (wl_val hl rfl ⟨_, _, rfl, rfl, rfl⟩ (r_move hl rfl) ?_)
        clear hl a; intro a hl
        refine wl (wl_val hl rfl ⟨_, _, rfl, rfl, rfl⟩ (r_move hl rfl) ?_)
        clear hl a; intro a hl
        refine wl (w_call hl hh rfl ⟨_, _, rfl, rfl, rfl⟩ rfl cal62 rfl (less_spec (hE.to hq1) _ _ lo v2 (by omega) (by omega) (by omega) (by omega)) (by repeat (first | exact keeps_nil | apply keeps_cons (by repeat (first | exact find_head | apply find_tail | apply find_skip)) (by first  | rfl) | exact keeps_self | exact keeps_left | apply keeps_app | apply keeps_mv | apply keeps_skip)) trivial ?_)
        clear hl hh a w; intro vc Fc a w hR hl hh
        obtain ⟨rfl, rfl⟩ := hR
        try simp only [List.cons_append, List.nil_append, List.append_assoc, List.append_nil] at hh
        refine wl (wl_val hl rfl trivial (r_pickT hl rfl rfl) ?_)
        clear hl a; intro a hl
        refine w_nil ?_
        have hl2 := hl.add (t := 1) (hl.add (t := 4) (hl.add (t := 9) (hl.add (t := 10) (hl.add (t := 42) (hl.nil) rfl) rfl) rfl) rfl) rfl; clear hl; have hl := hl2; clear hl2
        refine then_normal ?_
        refine c_cond hl rfl ?_ ?_
        · intro hc1
          try simp only [decide_eq_true_eq, decide_eq_false_iff_not, Bool.not_eq_true', Bool.not_eq_false', Bool.not_eq_true, Bool.not_eq_false, Bool.and_eq_true, Bool.or_eq_true, Bool.and_eq_false_iff, Bool.or_eq_false_iff, Bool.not_not, ne_eq, Int.not_lt, Int.not_le, Decidable.not_not, beq_iff_eq, bne_iff_ne] at hc1
          refine wp_skip ?_
          refine then_normal ?_
          refine wp_block ?_
          refine c_region ?_
          refine wl (wl_val hl rfl trivial (r_move hl rfl) ?_)
          clear hl a; intro a hl
          first | refine wl (wl_val hl rfl trivial (r_sub hl rfl rfl (by simp only [Fits]; omega)) ?_) | refine wl (wl_val hl rfl trivial (r_subW hl rfl rfl) ?_)
          clear hl a; intro a hl
          refine wl (wl_val hl rfl trivial (r_assign hl rfl) ?_)
          clear hl a; intro a hl
          refine w_nil ?_
          have hl2 := hl.add (t := 1) (hl.add (t := 4) (hl.add (t := 9) (hl.add (t := 10) (hl.nil) rfl) rfl) rfl) rfl; clear hl; have hl := hl2; clear hl2
          refine blk_normal ?_
          refine then_normal ?_
          refine ⟨(v2 - 1), (by omega), ⟨by omega, by rw [← hd3]; exact (dn_go (p := (fun x => egB q.d[lo]! x)) (by omega) (by omega) (by assumption)).symm⟩, hl.addE (t := 10) (hl.addE (t := 1) (hl.addE (t := 4) (hl.addE (t := 9) (hl.nil) rfl (by first | rfl | exact congrArg (Value.int .i64) (by first | omega | (simp only; omega)))) rfl (by first | rfl | exact congrArg (Value.int .i64) (by first | omega | (simp only; omega)))) rfl (by first | rfl | exact congrArg (Value.int .i64) (by first | omega | (simp only; omega)))) rfl (by first | rfl | exact congrArg (Value.int .i64) (by first | omega | (simp only; omega))), hh.keep (by repeat (first | exact keeps_nil | apply keeps_cons (by repeat (first | exact find_head | apply find_tail | apply find_skip)) (by first  | rfl) | exact keeps_self | exact keeps_left | apply keeps_app | apply keeps_mv | apply keeps_skip))⟩
        · intro hc1
          try simp only [decide_eq_true_eq, decide_eq_false_iff_not, Bool.not_eq_true', Bool.not_eq_false', Bool.not_eq_true, Bool.not_eq_false, Bool.and_eq_true, Bool.or_eq_true, Bool.and_eq_false_iff, Bool.or_eq_false_iff, Bool.not_not, ne_eq, Int.not_lt, Int.not_le, Decidable.not_not, beq_iff_eq, bne_iff_ne] at hc1
          have hv2e : Sort.scanDown (fun x => egB q.d[lo]! x) q.d u2 q.j = v2 := by rw [← hd3]; exact dn_stop (fun h9 => by first | omega | (have h8 := h9.2; simp only [(show egB q.d[lo]! q.d[v2]! = false by assumption)] at h8; cases h8))
          refine wp_exit ?_
          refine then_exit ?_
          refine then_exit ?_
          refine blk_exit ?_
          refine then_normal ?_
          refine c_seq ?_
          refine c_seq ?_
          refine c_region ?_
          refine wl (wl_val hl rfl trivial (r_move hl rfl) ?_)
          clear hl a; intro a hl
          refine wl (wl_val hl rfl trivial (r_move hl rfl) ?_)
          clear hl a; intro a hl
          refine wl (wl_val hl rfl trivial (r_gtr hl rfl rfl) ?_)
          clear hl a; intro a hl
          refine w_nil ?_
          have hl2 := hl.add (t := 1) (hl.add (t := 4) (hl.add (t := 9) (hl.add (t := 10) (hl.add (t := 47) (hl.nil) rfl) rfl) rfl) rfl) rfl; clear hl; have hl := hl2; clear hl2
          refine then_normal ?_
          refine c_cond hl rfl ?_ ?_
          · intro hc2
            try simp only [decide_eq_true_eq, decide_eq_false_iff_not, Bool.not_eq_true', Bool.not_eq_false', Bool.not_eq_true, Bool.not_eq_false, Bool.and_eq_true, Bool.or_eq_true, Bool.and_eq_false_iff, Bool.or_eq_false_iff, Bool.not_not, ne_eq, Int.not_lt, Int.not_le, Decidable.not_not, beq_iff_eq, bne_iff_ne] at hc2
            have hpt := hq3.symm.trans (pe_stop hu2e hv2e (by omega))
            refine wp_exit ?_
            refine then_exit ?_
            refine blk_exit_ne rfl ?_
            refine then_exit ?_
            refine blk_exit ?_
            refine then_normal ?_
            refine c_seq ?_
            refine c_region ?_
            refine wl (wl_val hl rfl trivial (r_move hl rfl) ?_)
            clear hl a; intro a hl
            refine wl (wl_val hl rfl trivial (r_assign hl rfl) ?_)
            clear hl a; intro a hl
            refine w_nil ?_
            have hl2 := hl.add (t := 8) (hl.nil) rfl; clear hl; have hl := hl2; clear hl2
            refine then_normal ?_
            refine wp_ret ?_
            refine f_ret1 (F' := [(b, C (fl egc q.d.toList ++ junk) 102), (Bs, C sL 46)]) hl hh rfl rfl (by repeat (first | exact keeps_nil | apply keeps_cons (by repeat (first | exact find_head | apply find_tail | apply find_skip)) (by first  | rfl) | exact keeps_self | exact keeps_left | apply keeps_app | apply keeps_mv | apply keeps_skip)) ?_
            rw [hpt]
            exact ⟨rfl, rfl, hq1, by simp only; omega, by simp only; omega⟩
          · intro hc2
            try simp only [decide_eq_true_eq, decide_eq_false_iff_not, Bool.not_eq_true', Bool.not_eq_false', Bool.not_eq_true, Bool.not_eq_false, Bool.and_eq_true, Bool.or_eq_true, Bool.and_eq_false_iff, Bool.or_eq_false_iff, Bool.not_not, ne_eq, Int.not_lt, Int.not_le, Decidable.not_not, beq_iff_eq, bne_iff_ne] at hc2
            refine wp_skip ?_
            refine then_normal ?_
            refine c_seq ?_
            refine c_region ?_
            refine wl (wl_val hl rfl trivial (r_field hl rfl fld179_1) ?_)
            clear hl a; intro a hl
            refine wl (w_load hl hh rfl trivial one173 rfl (by repeat (first | exact find_head | apply find_tail | apply find_skip)) (by first | rfl) ?_)
            clear hl a; intro a hl
            refine wl (wl_val hl rfl trivial (r_move hl rfl) ?_)
            clear hl a; intro a hl
            refine wl (wl_val hl rfl trivial (r_move hl rfl) ?_)
            clear hl a; intro a hl
            refine wl (w_swap (u2) (v2) egc_len (by decide) hl hh rfl trivial rfl rfl (by repeat (first | exact find_head | apply find_tail | apply find_skip)) (hE.swz hq1) (by omega) (by omega) (by omega) (by omega) ?_)
            clear hl hh a w; intro a w hl hh
            refine w_nil ?_
            have hl2 := hl.add (t := 1) (hl.add (t := 4) (hl.add (t := 9) (hl.add (t := 10) (hl.nil) rfl) rfl) rfl) rfl; clear hl; have hl := hl2; clear hl2
            refine then_normal ?_
            refine c_seq ?_
            refine c_region ?_
            refine wl (wl_val hl rfl trivial (r_move hl rfl) ?_)
            clear hl a; intro a hl
            first | refine wl (wl_val hl rfl trivial (r_add hl rfl rfl (by simp only [Fits]; omega)) ?_) | refine wl (wl_val hl rfl trivial (r_addW hl rfl rfl) ?_)
            clear hl a; intro a hl
            refine wl (wl_val hl rfl trivial (r_assign hl rfl) ?_)
            clear hl a; intro a hl
            refine w_nil ?_
            have hl2 := hl.add (t := 1) (hl.add (t := 4) (hl.add (t := 9) (hl.add (t := 10) (hl.nil) rfl) rfl) rfl) rfl; clear hl; have hl := hl2; clear hl2
            refine then_normal ?_
            refine c_region ?_
            refine wl (wl_val hl rfl trivial (r_move hl rfl) ?_)
            clear hl a; intro a hl
            first | refine wl (wl_val hl rfl trivial (r_sub hl rfl rfl (by simp only [Fits]; omega)) ?_) | refine wl (wl_val hl rfl trivial (r_subW hl rfl rfl) ?_)
            clear hl a; intro a hl
            refine wl (wl_val hl rfl trivial (r_assign hl rfl) ?_)
            clear hl a; intro a hl
            refine w_nil ?_
            have hl2 := hl.add (t := 1) (hl.add (t := 4) (hl.add (t := 9) (hl.add (t := 10) (hl.nil) rfl) rfl) rfl) rfl; clear hl; have hl := hl2; clear hl2
            refine blk_normal ?_
            refine then_normal ?_
            refine ⟨⟨Sort.swp q.d u2 v2, u2 + 1, v2 - 1⟩, (by simp only; omega), ⟨by simp only; rw [swp_sz]; exact hq1, ⟨by simp only; omega, by simp only; omega, by simp only; omega⟩, by simp only; rw [← hq3]; exact (pe_go hu2e hv2e (by omega) (by omega) (by omega) (by omega)).symm⟩, hl.addE (t := 9) (hl.addE (t := 10) (hl.addE (t := 1) (hl.addE (t := 4) (hl.nil) rfl (by first | rfl | exact congrArg (Value.int .i64) (by first | omega | (simp only; omega)))) rfl (by first | rfl | exact congrArg (Value.int .i64) (by first | omega | (simp only; omega)))) rfl (by first | rfl | exact congrArg (Value.int .i64) (by first | omega | (simp only; omega)))) rfl (by first | rfl | exact congrArg (Value.int .i64) (by first | omega | (simp only; omega))), hh.keep (by repeat (first | exact keeps_nil | apply keeps_cons (by repeat (first | exact find_head | apply find_tail | apply find_skip)) (by first  | rfl) | exact keeps_self | exact keeps_left | apply keeps_app | apply keeps_mv | apply keeps_skip))⟩
      · intro hg2; clear hl; intro hl
        try simp only [decide_eq_true_eq, decide_eq_false_iff_not, Bool.not_eq_true', Bool.not_eq_false', Bool.not_eq_true, Bool.not_eq_false, Bool.and_eq_true, Bool.or_eq_true, Bool.and_eq_false_iff, Bool.or_eq_false_iff, Bool.not_not, ne_eq, Int.not_lt, Int.not_le, Decidable.not_not, beq_iff_eq, bne_iff_ne] at hg2
        refine wl (wl_skip hl rfl ⟨_, _, rfl, rfl, rfl⟩ ?_)
        clear hl a; intro a hl
        refine wl (wl_skip hl rfl ⟨_, _, rfl, rfl, rfl⟩ ?_)
        clear hl a; intro a hl
        refine wl (wl_skip hl rfl ⟨_, _, rfl, rfl, rfl⟩ ?_)
        clear hl a; intro a hl
        refine wl (wl_skip hl rfl ⟨_, _, rfl, rfl, rfl⟩ ?_)
        clear hl a; intro a hl
        refine wl (wl_skip hl rfl ⟨_, _, rfl, rfl, rfl⟩ ?_)
        clear hl a; intro a hl
        refine wl (wl_val hl rfl trivial (r_pickF hl rfl rfl) ?_)
        clear hl a; intro a hl
        refine w_nil ?_
        have hl2 := hl.add (t := 1) (hl.add (t := 4) (hl.add (t := 9) (hl.add (t := 10) (hl.add (t := 42) (hl.nil) rfl) rfl) rfl) rfl) rfl; clear hl; have hl := hl2; clear hl2
        refine then_normal ?_
        refine c_condF hl rfl ?_
        have hv2e : Sort.scanDown (fun x => egB q.d[lo]! x) q.d u2 q.j = v2 := by rw [← hd3]; exact dn_stop (fun h9 => by first | omega | (have h8 := h9.2; simp only [(show egB q.d[lo]! q.d[v2]! = false by assumption)] at h8; cases h8))
        refine wp_exit ?_
        refine then_exit ?_
        refine then_exit ?_
        refine blk_exit ?_
        refine then_normal ?_
        refine c_seq ?_
        refine c_seq ?_
        refine c_region ?_
        refine wl (wl_val hl rfl trivial (r_move hl rfl) ?_)
        clear hl a; intro a hl
        refine wl (wl_val hl rfl trivial (r_move hl rfl) ?_)
        clear hl a; intro a hl
        refine wl (wl_val hl rfl trivial (r_gtr hl rfl rfl) ?_)
        clear hl a; intro a hl
        refine w_nil ?_
        have hl2 := hl.add (t := 1) (hl.add (t := 4) (hl.add (t := 9) (hl.add (t := 10) (hl.add (t := 47) (hl.nil) rfl) rfl) rfl) rfl) rfl; clear hl; have hl := hl2; clear hl2
        refine then_normal ?_
        refine c_cond hl rfl ?_ ?_
        · intro hc2
          try simp only [decide_eq_true_eq, decide_eq_false_iff_not, Bool.not_eq_true', Bool.not_eq_false', Bool.not_eq_true, Bool.not_eq_false, Bool.and_eq_true, Bool.or_eq_true, Bool.and_eq_false_iff, Bool.or_eq_false_iff, Bool.not_not, ne_eq, Int.not_lt, Int.not_le, Decidable.not_not, beq_iff_eq, bne_iff_ne] at hc2
          have hpt := hq3.symm.trans (pe_stop hu2e hv2e (by omega))
          refine wp_exit ?_
          refine then_exit ?_
          refine blk_exit_ne rfl ?_
          refine then_exit ?_
          refine blk_exit ?_
          refine then_normal ?_
          refine c_seq ?_
          refine c_region ?_
          refine wl (wl_val hl rfl trivial (r_move hl rfl) ?_)
          clear hl a; intro a hl
          refine wl (wl_val hl rfl trivial (r_assign hl rfl) ?_)
          clear hl a; intro a hl
          refine w_nil ?_
          have hl2 := hl.add (t := 8) (hl.nil) rfl; clear hl; have hl := hl2; clear hl2
          refine then_normal ?_
          refine wp_ret ?_
          refine f_ret1 (F' := [(b, C (fl egc q.d.toList ++ junk) 102), (Bs, C sL 46)]) hl hh rfl rfl (by repeat (first | exact keeps_nil | apply keeps_cons (by repeat (first | exact find_head | apply find_tail | apply find_skip)) (by first  | rfl) | exact keeps_self | exact keeps_left | apply keeps_app | apply keeps_mv | apply keeps_skip)) ?_
          rw [hpt]
          exact ⟨rfl, rfl, hq1, by simp only; omega, by simp only; omega⟩
        · intro hc2
          try simp only [decide_eq_true_eq, decide_eq_false_iff_not, Bool.not_eq_true', Bool.not_eq_false', Bool.not_eq_true, Bool.not_eq_false, Bool.and_eq_true, Bool.or_eq_true, Bool.and_eq_false_iff, Bool.or_eq_false_iff, Bool.not_not, ne_eq, Int.not_lt, Int.not_le, Decidable.not_not, beq_iff_eq, bne_iff_ne] at hc2
          refine wp_skip ?_
          refine then_normal ?_
          refine c_seq ?_
          refine c_region ?_
          refine wl (wl_val hl rfl trivial (r_field hl rfl fld179_1) ?_)
          clear hl a; intro a hl
          refine wl (w_load hl hh rfl trivial one173 rfl (by repeat (first | exact find_head | apply find_tail | apply find_skip)) (by first | rfl) ?_)
          clear hl a; intro a hl
          refine wl (wl_val hl rfl trivial (r_move hl rfl) ?_)
          clear hl a; intro a hl
          refine wl (wl_val hl rfl trivial (r_move hl rfl) ?_)
          clear hl a; intro a hl
          refine wl (w_swap (u2) (v2) egc_len (by decide) hl hh rfl trivial rfl rfl (by repeat (first | exact find_head | apply find_tail | apply find_skip)) (hE.swz hq1) (by omega) (by omega) (by omega) (by omega) ?_)
          clear hl hh a w; intro a w hl hh
          refine w_nil ?_
          have hl2 := hl.add (t := 1) (hl.add (t := 4) (hl.add (t := 9) (hl.add (t := 10) (hl.nil) rfl) rfl) rfl) rfl; clear hl; have hl := hl2; clear hl2
          refine then_normal ?_
          refine c_seq ?_
          refine c_region ?_
          refine wl (wl_val hl rfl trivial (r_move hl rfl) ?_)
          clear hl a; intro a hl
          first | refine wl (wl_val hl rfl trivial (r_add hl rfl rfl (by simp only [Fits]; omega)) ?_) | refine wl (wl_val hl rfl trivial (r_addW hl rfl rfl) ?_)
          clear hl a; intro a hl
          refine wl (wl_val hl rfl trivial (r_assign hl rfl) ?_)
          clear hl a; intro a hl
          refine w_nil ?_
          have hl2 := hl.add (t := 1) (hl.add (t := 4) (hl.add (t := 9) (hl.add (t := 10) (hl.nil) rfl) rfl) rfl) rfl; clear hl; have hl := hl2; clear hl2
          refine then_normal ?_
          refine c_region ?_
          refine wl (wl_val hl rfl trivial (r_move hl rfl) ?_)
          clear hl a; intro a hl
          first | refine wl (wl_val hl rfl trivial (r_sub hl rfl rfl (by simp only [Fits]; omega)) ?_) | refine wl (wl_val hl rfl trivial (r_subW hl rfl rfl) ?_)
          clear hl a; intro a hl
          refine wl (wl_val hl rfl trivial (r_assign hl rfl) ?_)
          clear hl a; intro a hl
          refine w_nil ?_
          have hl2 := hl.add (t := 1) (hl.add (t := 4) (hl.add (t := 9) (hl.add (t := 10) (hl.nil) rfl) rfl) rfl) rfl; clear hl; have hl := hl2; clear hl2
          refine blk_normal ?_
          refine then_normal ?_
          refine ⟨⟨Sort.swp q.d u2 v2, u2 + 1, v2 - 1⟩, (by simp only; omega), ⟨by simp only; rw [swp_sz]; exact hq1, ⟨by simp only; omega, by simp only; omega, by simp only; omega⟩, by simp only; rw [← hq3]; exact (pe_go hu2e hv2e (by omega) (by omega) (by omega) (by omega)).symm⟩, hl.addE (t := 9) (hl.addE (t := 10) (hl.addE (t := 1) (hl.addE (t := 4) (hl.nil) rfl (by first | rfl | exact congrArg (Value.int .i64) (by first | omega | (simp only; omega)))) rfl (by first | rfl | exact congrArg (Value.int .i64) (by first | omega | (simp only; omega)))) rfl (by first | rfl | exact congrArg (Value.int .i64) (by first | omega | (simp only; omega)))) rfl (by first | rfl | exact congrArg (Value.int .i64) (by first | omega | (simp only; omega))), hh.keep (by repeat (first | exact keeps_nil | apply keeps_cons (by repeat (first | exact find_head | apply find_tail | apply find_skip)) (by first  | rfl) | exact keeps_self | exact keeps_left | apply keeps_app | apply keeps_mv | apply keeps_skip))⟩
  · intro hg1; clear hl; intro hl
    try simp only [decide_eq_true_eq, decide_eq_false_iff_not, Bool.not_eq_true', Bool.not_eq_false', Bool.not_eq_true, Bool.not_eq_false, Bool.and_eq_true, Bool.or_eq_true, Bool.and_eq_false_iff, Bool.or_eq_false_iff, Bool.not_not, ne_eq, Int.not_lt, Int.not_le, Decidable.not_not, beq_iff_eq, bne_iff_ne] at hg1
    refine wl (wl_skip hl rfl ⟨_, _, rfl, rfl, rfl⟩ ?_)
    clear hl a; intro a hl
    refine wl (wl_skip hl rfl ⟨_, _, rfl, rfl, rfl⟩ ?_)
    clear hl a; intro a hl
    refine wl (wl_skip hl rfl ⟨_, _, rfl, rfl, rfl⟩ ?_)
    clear hl a; intro a hl
    refine wl (wl_skip hl rfl ⟨_, _, rfl, rfl, rfl⟩ ?_)
    clear hl a; intro a hl
    refine wl (wl_skip hl rfl ⟨_, _, rfl, rfl, rfl⟩ ?_)
    clear hl a; intro a hl
    refine wl (wl_skip hl rfl ⟨_, _, rfl, rfl, rfl⟩ ?_)
    clear hl a; intro a hl
    refine wl (wl_val hl rfl trivial (r_pickF hl rfl rfl) ?_)
    clear hl a; intro a hl
    refine w_nil ?_
    have hl2 := hl.add (t := 1) (hl.add (t := 4) (hl.add (t := 9) (hl.add (t := 10) (hl.add (t := 30) (hl.nil) rfl) rfl) rfl) rfl) rfl; clear hl; have hl := hl2; clear hl2
    refine then_normal ?_
    refine c_condF hl rfl ?_
    have hu2e : Sort.scanUp (fun x => !egB q.d[lo]! x) q.d q.j q.i = u2 := by rw [← ha3]; exact up_stop (fun h9 => by first | omega | (have h8 := h9.2; simp only [show egB q.d[lo]! q.d[u2]! = true by assumption] at h8; cases h8))
    refine wp_exit ?_
    refine then_exit ?_
    refine then_exit ?_
    refine blk_exit ?_
    refine then_normal ?_
    refine c_seq ?_
    refine wp_block ?_
    obtain ⟨KS2, hKS2, hk⟩ := (hl.add (t := 1) (hl.add (t := 4) (hl.add (t := 9) (hl.nil) rfl) rfl) rfl).name
    obtain ⟨HS2, hHS2, hh2⟩ := hh.name (keeps_nil)
    refine c_loop (α := Nat) (fun v2 => v2) (fun v2 a w => (v2 ≤ q.j ∧ Sort.scanDown (fun x => egB q.d[lo]! x) q.d u2 v2 = Sort.scanDown (fun x => egB q.d[lo]! x) q.d u2 q.j) ∧ Sl 58 ([(10, .int .i64 (v2 : Int))] ++ KS2) a ∧ Has _ w0 ([] ++ HS2) w) q.j ⟨⟨Nat.le_refl _, rfl⟩, hl.addE (t := 10) (hk) rfl (by first | exact congrArg (Value.int .i64) (by first | omega | (simp only; omega)) | rfl), hh2⟩ ?_
    clear hk hh2 hl hh a w
    intro v2 a w hI
    obtain ⟨⟨hd1, hd3⟩, hl, hh⟩ := hI
    subst hKS2; subst hHS2
    simp only [List.cons_append, List.nil_append, List.append_nil, List.append_assoc] at hl hh
    refine c_seq ?_
    refine c_seq ?_
    refine c_region ?_
    refine wl (wl_val hl rfl trivial (r_move hl rfl) ?_)
    clear hl a; intro a hl
    refine wl (wl_val hl rfl trivial (r_move hl rfl) ?_)
    clear hl a; intro a hl
    refine wl (wl_val hl rfl trivial (r_leq hl rfl rfl) ?_)
    clear hl a; intro a hl
    refine wl (wl_val hl rfl trivial (r_move hl rfl) ?_)
    clear hl a; intro a hl
    refine sl_split (t := 36) hl rfl ?_ ?_
    · intro hg3; clear hl; intro hl
      try simp only [decide_eq_true_eq, decide_eq_false_iff_not, Bool.not_eq_true', Bool.not_eq_false', Bool.not_eq_true, Bool.not_eq_false, Bool.and_eq_true, Bool.or_eq_true, Bool.and_eq_false_iff, Bool.or_eq_false_iff, Bool.not_not, ne_eq, Int.not_lt, Int.not_le, Decidable.not_not, beq_iff_eq, bne_iff_ne] at hg3
      refine wl (wl_val hl rfl ⟨_, _, rfl, rfl, rfl⟩ (r_field hl rfl fld179_0) ?_)
      clear hl a; intro a hl
      refine wl (w_load hl hh rfl ⟨_, _, rfl, rfl, rfl⟩ one144 rfl (by repeat (first | exact find_head | apply find_tail | apply find_skip)) (by first | rfl) ?_)
      clear hl a; intro a hl
      refine wl (wl_val hl rfl ⟨_, _, rfl, rfl, rfl⟩ (r_move hl rfl) ?_)
      clear hl a; intro a hl
      refine wl (wl_val hl rfl ⟨_, _, rfl, rfl, rfl⟩ (r_move hl rfl) ?_)
      clear hl a; intro a hl
      refine wl (w_call hl hh rfl ⟨_, _, rfl, rfl, rfl⟩ rfl cal62 rfl (less_spec (hE.to hq1) _ _ lo v2 (by omega) (by omega) (by omega) (by omega)) (by repeat (first | exact keeps_nil | apply keeps_cons (by repeat (first | exact find_head | apply find_tail | apply find_skip)) (by first  | rfl) | exact keeps_self | exact keeps_left | apply keeps_app | apply keeps_mv | apply keeps_skip)) trivial ?_)
      clear hl hh a w; intro vc Fc a w hR hl hh
      obtain ⟨rfl, rfl⟩ := hR
      try simp only [List.cons_append, List.nil_append, List.append_assoc, List.append_nil] at hh
      refine wl (wl_val hl rfl trivial (r_pickT hl rfl rfl) ?_)
      clear hl a; intro a hl
      refine w_nil ?_
      have hl2 := hl.add (t := 1) (hl.add (t := 4) (hl.add (t := 9) (hl.add (t := 10) (hl.add (t := 42) (hl.nil) rfl) rfl) rfl) rfl) rfl; clear hl; have hl := hl2; clear hl2
      refine then_normal ?_
      refine c_cond hl rfl ?_ ?_
      · intro hc1
        try simp only [decide_eq_true_eq, decide_eq_false_iff_not, Bool.not_eq_true', Bool.not_eq_false', Bool.not_eq_true, Bool.not_eq_false, Bool.and_eq_true, Bool.or_eq_true, Bool.and_eq_false_iff, Bool.or_eq_false_iff, Bool.not_not, ne_eq, Int.not_lt, Int.not_le, Decidable.not_not, beq_iff_eq, bne_iff_ne] at hc1
        refine wp_skip ?_
        refine then_normal ?_
        refine wp_block ?_
        refine c_region ?_
        refine wl (wl_val hl rfl trivial (r_move hl rfl) ?_)
        clear hl a; intro a hl
        first | refine wl (wl_val hl rfl trivial (r_sub hl rfl rfl (by simp only [Fits]; omega)) ?_) | refine wl (wl_val hl rfl trivial (r_subW hl rfl rfl) ?_)
        clear hl a; intro a hl
        refine wl (wl_val hl rfl trivial (r_assign hl rfl) ?_)
        clear hl a; intro a hl
        refine w_nil ?_
        have hl2 := hl.add (t := 1) (hl.add (t := 4) (hl.add (t := 9) (hl.add (t := 10) (hl.nil) rfl) rfl) rfl) rfl; clear hl; have hl := hl2; clear hl2
        refine blk_normal ?_
        refine then_normal ?_
        refine ⟨(v2 - 1), (by omega), ⟨by omega, by rw [← hd3]; exact (dn_go (p := (fun x => egB q.d[lo]! x)) (by omega) (by omega) (by assumption)).symm⟩, hl.addE (t := 10) (hl.addE (t := 1) (hl.addE (t := 4) (hl.addE (t := 9) (hl.nil) rfl (by first | rfl | exact congrArg (Value.int .i64) (by first | omega | (simp only; omega)))) rfl (by first | rfl | exact congrArg (Value.int .i64) (by first | omega | (simp only; omega)))) rfl (by first | rfl | exact congrArg (Value.int .i64) (by first | omega | (simp only; omega)))) rfl (by first | rfl | exact congrArg (Value.int .i64) (by first | omega | (simp only; omega))), hh.keep (by repeat (first | exact keeps_nil | apply keeps_cons (by repeat (first | exact find_head | apply find_tail | apply find_skip)) (by first  | rfl) | exact keeps_self | exact keeps_left | apply keeps_app | apply keeps_mv | apply keeps_skip))⟩
      · intro hc1
        try simp only [decide_eq_true_eq, decide_eq_false_iff_not, Bool.not_eq_true', Bool.not_eq_false', Bool.not_eq_true, Bool.not_eq_false, Bool.and_eq_true, Bool.or_eq_true, Bool.and_eq_false_iff, Bool.or_eq_false_iff, Bool.not_not, ne_eq, Int.not_lt, Int.not_le, Decidable.not_not, beq_iff_eq, bne_iff_ne] at hc1
        have hv2e : Sort.scanDown (fun x => egB q.d[lo]! x) q.d u2 q.j = v2 := by rw [← hd3]; exact dn_stop (fun h9 => by first | omega | (have h8 := h9.2; simp only [(show egB q.d[lo]! q.d[v2]! = false by assumption)] at h8; cases h8))
        refine wp_exit ?_
        refine then_exit ?_
        refine then_exit ?_
        refine blk_exit ?_
        refine then_normal ?_
        refine c_seq ?_
        refine c_seq ?_
        refine c_region ?_
        refine wl (wl_val hl rfl trivial (r_move hl rfl) ?_)
        clear hl a; intro a hl
        refine wl (wl_val hl rfl trivial (r_move hl rfl) ?_)
        clear hl a; intro a hl
        refine wl (wl_val hl rfl trivial (r_gtr hl rfl rfl) ?_)
        clear hl a; intro a hl
        refine w_nil ?_
        have hl2 := hl.add (t := 1) (hl.add (t := 4) (hl.add (t := 9) (hl.add (t := 10) (hl.add (t := 47) (hl.nil) rfl) rfl) rfl) rfl) rfl; clear hl; have hl := hl2; clear hl2
        refine then_normal ?_
        refine c_cond hl rfl ?_ ?_
        · intro hc2
          try simp only [decide_eq_true_eq, decide_eq_false_iff_not, Bool.not_eq_true', Bool.not_eq_false', Bool.not_eq_true, Bool.not_eq_false, Bool.and_eq_true, Bool.or_eq_true, Bool.and_eq_false_iff, Bool.or_eq_false_iff, Bool.not_not, ne_eq, Int.not_lt, Int.not_le, Decidable.not_not, beq_iff_eq, bne_iff_ne] at hc2
          have hpt := hq3.symm.trans (pe_stop hu2e hv2e (by omega))
          refine wp_exit ?_
          refine then_exit ?_
          refine blk_exit_ne rfl ?_
          refine then_exit ?_
          refine blk_exit ?_
          refine then_normal ?_
          refine c_seq ?_
          refine c_region ?_
          refine wl (wl_val hl rfl trivial (r_move hl rfl) ?_)
          clear hl a; intro a hl
          refine wl (wl_val hl rfl trivial (r_assign hl rfl) ?_)
          clear hl a; intro a hl
          refine w_nil ?_
          have hl2 := hl.add (t := 8) (hl.nil) rfl; clear hl; have hl := hl2; clear hl2
          refine then_normal ?_
          refine wp_ret ?_
          refine f_ret1 (F' := [(b, C (fl egc q.d.toList ++ junk) 102), (Bs, C sL 46)]) hl hh rfl rfl (by repeat (first | exact keeps_nil | apply keeps_cons (by repeat (first | exact find_head | apply find_tail | apply find_skip)) (by first  | rfl) | exact keeps_self | exact keeps_left | apply keeps_app | apply keeps_mv | apply keeps_skip)) ?_
          rw [hpt]
          exact ⟨rfl, rfl, hq1, by simp only; omega, by simp only; omega⟩
        · intro hc2
          try simp only [decide_eq_true_eq, decide_eq_false_iff_not, Bool.not_eq_true', Bool.not_eq_false', Bool.not_eq_true, Bool.not_eq_false, Bool.and_eq_true, Bool.or_eq_true, Bool.and_eq_false_iff, Bool.or_eq_false_iff, Bool.not_not, ne_eq, Int.not_lt, Int.not_le, Decidable.not_not, beq_iff_eq, bne_iff_ne] at hc2
          refine wp_skip ?_
          refine then_normal ?_
          refine c_seq ?_
          refine c_region ?_
          refine wl (wl_val hl rfl trivial (r_field hl rfl fld179_1) ?_)
          clear hl a; intro a hl
          refine wl (w_load hl hh rfl trivial one173 rfl (by repeat (first | exact find_head | apply find_tail | apply find_skip)) (by first | rfl) ?_)
          clear hl a; intro a hl
          refine wl (wl_val hl rfl trivial (r_move hl rfl) ?_)
          clear hl a; intro a hl
          refine wl (wl_val hl rfl trivial (r_move hl rfl) ?_)
          clear hl a; intro a hl
          refine wl (w_swap (u2) (v2) egc_len (by decide) hl hh rfl trivial rfl rfl (by repeat (first | exact find_head | apply find_tail | apply find_skip)) (hE.swz hq1) (by omega) (by omega) (by omega) (by omega) ?_)
          clear hl hh a w; intro a w hl hh
          refine w_nil ?_
          have hl2 := hl.add (t := 1) (hl.add (t := 4) (hl.add (t := 9) (hl.add (t := 10) (hl.nil) rfl) rfl) rfl) rfl; clear hl; have hl := hl2; clear hl2
          refine then_normal ?_
          refine c_seq ?_
          refine c_region ?_
          refine wl (wl_val hl rfl trivial (r_move hl rfl) ?_)
          clear hl a; intro a hl
          first | refine wl (wl_val hl rfl trivial (r_add hl rfl rfl (by simp only [Fits]; omega)) ?_) | refine wl (wl_val hl rfl trivial (r_addW hl rfl rfl) ?_)
          clear hl a; intro a hl
          refine wl (wl_val hl rfl trivial (r_assign hl rfl) ?_)
          clear hl a; intro a hl
          refine w_nil ?_
          have hl2 := hl.add (t := 1) (hl.add (t := 4) (hl.add (t := 9) (hl.add (t := 10) (hl.nil) rfl) rfl) rfl) rfl; clear hl; have hl := hl2; clear hl2
          refine then_normal ?_
          refine c_region ?_
          refine wl (wl_val hl rfl trivial (r_move hl rfl) ?_)
          clear hl a; intro a hl
          first | refine wl (wl_val hl rfl trivial (r_sub hl rfl rfl (by simp only [Fits]; omega)) ?_) | refine wl (wl_val hl rfl trivial (r_subW hl rfl rfl) ?_)
          clear hl a; intro a hl
          refine wl (wl_val hl rfl trivial (r_assign hl rfl) ?_)
          clear hl a; intro a hl
          refine w_nil ?_
          have hl2 := hl.add (t := 1) (hl.add (t := 4) (hl.add (t := 9) (hl.add (t := 10) (hl.nil) rfl) rfl) rfl) rfl; clear hl; have hl := hl2; clear hl2
          refine blk_normal ?_
          refine then_normal ?_
          refine ⟨⟨Sort.swp q.d u2 v2, u2 + 1, v2 - 1⟩, (by simp only; omega), ⟨by simp only; rw [swp_sz]; exact hq1, ⟨by simp only; omega, by simp only; omega, by simp only; omega⟩, by simp only; rw [← hq3]; exact (pe_go hu2e hv2e (by omega) (by omega) (by omega) (by omega)).symm⟩, hl.addE (t := 9) (hl.addE (t := 10) (hl.addE (t := 1) (hl.addE (t := 4) (hl.nil) rfl (by first | rfl | exact congrArg (Value.int .i64) (by first | omega | (simp only; omega)))) rfl (by first | rfl | exact congrArg (Value.int .i64) (by first | omega | (simp only; omega)))) rfl (by first | rfl | exact congrArg (Value.int .i64) (by first | omega | (simp only; omega)))) rfl (by first | rfl | exact congrArg (Value.int .i64) (by first | omega | (simp only; omega))), hh.keep (by repeat (first | exact keeps_nil | apply keeps_cons (by repeat (first | exact find_head | apply find_tail | apply find_skip)) (by first  | rfl) | exact keeps_self | exact keeps_left | apply keeps_app | apply keeps_mv | apply keeps_skip))⟩
    · intro hg3; clear hl; intro hl
      try simp only [decide_eq_true_eq, decide_eq_false_iff_not, Bool.not_eq_true', Bool.not_eq_false', Bool.not_eq_true, Bool.not_eq_false, Bool.and_eq_true, Bool.or_eq_true, Bool.and_eq_false_iff, Bool.or_eq_false_iff, Bool.not_not, ne_eq, Int.not_lt, Int.not_le, Decidable.not_not, beq_iff_eq, bne_iff_ne] at hg3
      refine wl (wl_skip hl rfl ⟨_, _, rfl, rfl, rfl⟩ ?_)
      clear hl a; intro a hl
      refine wl (wl_skip hl rfl ⟨_, _, rfl, rfl, rfl⟩ ?_)
      clear hl a; intro a hl
      refine wl (wl_skip hl rfl ⟨_, _, rfl, rfl, rfl⟩ ?_)
      clear hl a; intro a hl
      refine wl (wl_skip hl rfl ⟨_, _, rfl, rfl, rfl⟩ ?_)
      clear hl a; intro a hl
      refine wl (wl_skip hl rfl ⟨_, _, rfl, rfl, rfl⟩ ?_)
      clear hl a; intro a hl
      refine wl (wl_val hl rfl trivial (r_pickF hl rfl rfl) ?_)
      clear hl a; intro a hl
      refine w_nil ?_
      have hl2 := hl.add (t := 1) (hl.add (t := 4) (hl.add (t := 9) (hl.add (t := 10) (hl.add (t := 42) (hl.nil) rfl) rfl) rfl) rfl) rfl; clear hl; have hl := hl2; clear hl2
      refine then_normal ?_
      refine c_condF hl rfl ?_
      have hv2e : Sort.scanDown (fun x => egB q.d[lo]! x) q.d u2 q.j = v2 := by rw [← hd3]; exact dn_stop (fun h9 => by first | omega | (have h8 := h9.2; simp only [(show egB q.d[lo]! q.d[v2]! = false by assumption)] at h8; cases h8))
      refine wp_exit ?_
      refine then_exit ?_
      refine then_exit ?_
      refine blk_exit ?_
      refine then_normal ?_
      refine c_seq ?_
      refine c_seq ?_
      refine c_region ?_
      refine wl (wl_val hl rfl trivial (r_move hl rfl) ?_)
      clear hl a; intro a hl
      refine wl (wl_val hl rfl trivial (r_move hl rfl) ?_)
      clear hl a; intro a hl
      refine wl (wl_val hl rfl trivial (r_gtr hl rfl rfl) ?_)
      clear hl a; intro a hl
      refine w_nil ?_
      have hl2 := hl.add (t := 1) (hl.add (t := 4) (hl.add (t := 9) (hl.add (t := 10) (hl.add (t := 47) (hl.nil) rfl) rfl) rfl) rfl) rfl; clear hl; have hl := hl2; clear hl2
      refine then_normal ?_
      refine c_cond hl rfl ?_ ?_
      · intro hc2
        try simp only [decide_eq_true_eq, decide_eq_false_iff_not, Bool.not_eq_true', Bool.not_eq_false', Bool.not_eq_true, Bool.not_eq_false, Bool.and_eq_true, Bool.or_eq_true, Bool.and_eq_false_iff, Bool.or_eq_false_iff, Bool.not_not, ne_eq, Int.not_lt, Int.not_le, Decidable.not_not, beq_iff_eq, bne_iff_ne] at hc2
        have hpt := hq3.symm.trans (pe_stop hu2e hv2e (by omega))
        refine wp_exit ?_
        refine then_exit ?_
        refine blk_exit_ne rfl ?_
        refine then_exit ?_
        refine blk_exit ?_
        refine then_normal ?_
        refine c_seq ?_
        refine c_region ?_
        refine wl (wl_val hl rfl trivial (r_move hl rfl) ?_)
        clear hl a; intro a hl
        refine wl (wl_val hl rfl trivial (r_assign hl rfl) ?_)
        clear hl a; intro a hl
        refine w_nil ?_
        have hl2 := hl.add (t := 8) (hl.nil) rfl; clear hl; have hl := hl2; clear hl2
        refine then_normal ?_
        refine wp_ret ?_
        refine f_ret1 (F' := [(b, C (fl egc q.d.toList ++ junk) 102), (Bs, C sL 46)]) hl hh rfl rfl (by repeat (first | exact keeps_nil | apply keeps_cons (by repeat (first | exact find_head | apply find_tail | apply find_skip)) (by first  | rfl) | exact keeps_self | exact keeps_left | apply keeps_app | apply keeps_mv | apply keeps_skip)) ?_
        rw [hpt]
        exact ⟨rfl, rfl, hq1, by simp only; omega, by simp only; omega⟩
      · intro hc2
        try simp only [decide_eq_true_eq, decide_eq_false_iff_not, Bool.not_eq_true', Bool.not_eq_false', Bool.not_eq_true, Bool.not_eq_false, Bool.and_eq_true, Bool.or_eq_true, Bool.and_eq_false_iff, Bool.or_eq_false_iff, Bool.not_not, ne_eq, Int.not_lt, Int.not_le, Decidable.not_not, beq_iff_eq, bne_iff_ne] at hc2
        refine wp_skip ?_
        refine then_normal ?_
        refine c_seq ?_
        refine c_region ?_
        refine wl (wl_val hl rfl trivial (r_field hl rfl fld179_1) ?_)
        clear hl a; intro a hl
        refine wl (w_load hl hh rfl trivial one173 rfl (by repeat (first | exact find_head | apply find_tail | apply find_skip)) (by first | rfl) ?_)
        clear hl a; intro a hl
        refine wl (wl_val hl rfl trivial (r_move hl rfl) ?_)
        clear hl a; intro a hl
        refine wl (wl_val hl rfl trivial (r_move hl rfl) ?_)
        clear hl a; intro a hl
        refine wl (w_swap (u2) (v2) egc_len (by decide) hl hh rfl trivial rfl rfl (by repeat (first | exact find_head | apply find_tail | apply find_skip)) (hE.swz hq1) (by omega) (by omega) (by omega) (by omega) ?_)
        clear hl hh a w; intro a w hl hh
        refine w_nil ?_
        have hl2 := hl.add (t := 1) (hl.add (t := 4) (hl.add (t := 9) (hl.add (t := 10) (hl.nil) rfl) rfl) rfl) rfl; clear hl; have hl := hl2; clear hl2
        refine then_normal ?_
        refine c_seq ?_
        refine c_region ?_
        refine wl (wl_val hl rfl trivial (r_move hl rfl) ?_)
        clear hl a; intro a hl
        first | refine wl (wl_val hl rfl trivial (r_add hl rfl rfl (by simp only [Fits]; omega)) ?_) | refine wl (wl_val hl rfl trivial (r_addW hl rfl rfl) ?_)
        clear hl a; intro a hl
        refine wl (wl_val hl rfl trivial (r_assign hl rfl) ?_)
        clear hl a; intro a hl
        refine w_nil ?_
        have hl2 := hl.add (t := 1) (hl.add (t := 4) (hl.add (t := 9) (hl.add (t := 10) (hl.nil) rfl) rfl) rfl) rfl; clear hl; have hl := hl2; clear hl2
        refine then_normal ?_
        refine c_region ?_
        refine wl (wl_val hl rfl trivial (r_move hl rfl) ?_)
        clear hl a; intro a hl
        first | refine wl (wl_val hl rfl trivial (r_sub hl rfl rfl (by simp only [Fits]; omega)) ?_) | refine wl (wl_val hl rfl trivial (r_subW hl rfl rfl) ?_)
        clear hl a; intro a hl
        refine wl (wl_val hl rfl trivial (r_assign hl rfl) ?_)
        clear hl a; intro a hl
        refine w_nil ?_
        have hl2 := hl.add (t := 1) (hl.add (t := 4) (hl.add (t := 9) (hl.add (t := 10) (hl.nil) rfl) rfl) rfl) rfl; clear hl; have hl := hl2; clear hl2
        refine blk_normal ?_
        refine then_normal ?_
        refine ⟨⟨Sort.swp q.d u2 v2, u2 + 1, v2 - 1⟩, (by simp only; omega), ⟨by simp only; rw [swp_sz]; exact hq1, ⟨by simp only; omega, by simp only; omega, by simp only; omega⟩, by simp only; rw [← hq3]; exact (pe_go hu2e hv2e (by omega) (by omega) (by omega) (by omega)).symm⟩, hl.addE (t := 9) (hl.addE (t := 10) (hl.addE (t := 1) (hl.addE (t := 4) (hl.nil) rfl (by first | rfl | exact congrArg (Value.int .i64) (by first | omega | (simp only; omega)))) rfl (by first | rfl | exact congrArg (Value.int .i64) (by first | omega | (simp only; omega)))) rfl (by first | rfl | exact congrArg (Value.int .i64) (by first | omega | (simp only; omega)))) rfl (by first | rfl | exact congrArg (Value.int .i64) (by first | omega | (simp only; omega))), hh.keep (by repeat (first | exact keeps_nil | apply keeps_cons (by repeat (first | exact find_head | apply find_tail | apply find_skip)) (by first  | rfl) | exact keeps_self | exact keeps_left | apply keeps_app | apply keeps_mv | apply keeps_skip))⟩
end Go.Proofs.Qxb6500911aGreatDoor

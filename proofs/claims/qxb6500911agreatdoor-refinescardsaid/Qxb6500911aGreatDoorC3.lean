import Derived.Test.Qxb6500911aGreatDoorC2
namespace Go.Proofs.Qxb6500911aGreatDoor
open Go.Eng
set_option linter.unusedVariables false
set_option linter.unusedSimpArgs false

theorem part_T {d : Array Eg} {lo hi pv u v : Nat} (h1 : Sort.scanUp (fun x => egB x (Sort.swp d lo pv)[lo]!) (Sort.swp d lo pv) (hi - 1) (lo + 1) = u) (h2 : Sort.scanDown (fun x => !egB x (Sort.swp d lo pv)[lo]!) (Sort.swp d lo pv) u (hi - 1) = v) (h : v < u) : Sort.partition egB d lo hi pv = (v, true, Sort.swp (Sort.swp d lo pv) v lo) := by
  unfold Sort.partition
  simp only [h1, h2]
  rw [if_pos h]
theorem part_F {d : Array Eg} {lo hi pv u v m : Nat} {d' : Array Eg} (h1 : Sort.scanUp (fun x => egB x (Sort.swp d lo pv)[lo]!) (Sort.swp d lo pv) (hi - 1) (lo + 1) = u) (h2 : Sort.scanDown (fun x => !egB x (Sort.swp d lo pv)[lo]!) (Sort.swp d lo pv) u (hi - 1) = v) (h : u ≤ v) (h3 : Sort.partLoop egB lo (u + 1) (v - 1) (Sort.swp (Sort.swp d lo pv) u v) = (m, d')) : Sort.partition egB d lo hi pv = (m, false, Sort.swp d' m lo) := by
  unfold Sort.partition
  simp only [h1, h2]
  rw [if_neg (by omega), h3]

set_option maxHeartbeats 8000000 in
theorem part_spec {b Bs n c : Nat} {th : Value} {sL junk : List Value} {d : Array Eg} (hE : SE b Bs n c th sL d) (lo hi pv : Nat) (hab : lo < hi) (hhi : hi ≤ n) (hpv : lo ≤ pv ∧ pv < hi) : Sp Tryz.prog 113 #[.agg ⟨[lessV Bs, swapV b n c th]⟩, .int .i64 (lo : Int), .int .i64 (hi : Int), .int .i64 (pv : Int)] [(b, C (fl egc d.toList ++ junk) 102), (Bs, C sL 46)] (fun v F' => v = .tuple #[.int .i64 (((Sort.partition egB d lo hi pv).1 : Nat) : Int), .bool (Sort.partition egB d lo hi pv).2.1] ∧ F' = [(b, C (fl egc (Sort.partition egB d lo hi pv).2.2.toList ++ junk) 102), (Bs, C sL 46)] ∧ (Sort.partition egB d lo hi pv).2.2.size = n ∧ lo ≤ (Sort.partition egB d lo hi pv).1 ∧ (Sort.partition egB d lo hi pv).1 < hi) := by
  refine f_enter (args := [.agg ⟨[lessV Bs, swapV b n c th]⟩, .int .i64 (lo : Int), .int .i64 (hi : Int), .int .i64 (pv : Int)]) Tryz.func113 rfl Tryz.ntmps113 rfl ?_
  intro w0 w a hpre hl hh
  have hsz := hE.sz
  have hbig := hE.big
  have hs0 : (Sort.swp d lo pv).size = n := by rw [swp_sz]; exact hE.sz
  simp only [slotsFrom, Nat.reduceAdd] at hl
  refine c_seq ?_
  refine c_region ?_
  refine wl (w_box hl hh rfl trivial rfl rfl ?_)
  clear hl hh a w; intro k4 a w hl hh
  refine wl (wl_val hl rfl trivial (r_assign hl rfl) ?_)
  clear hl a; intro a hl
  refine wl (wl_val hl rfl trivial (r_assign hl rfl) ?_)
  clear hl a; intro a hl
  refine w_nil ?_
  have hl2 := hl.add (t := 1) (hl.add (t := 2) (hl.add (t := 3) (hl.add (t := 4) (hl.nil) rfl) rfl) rfl) rfl; clear hl; have hl := hl2; clear hl2
  refine then_normal ?_
  refine c_seq ?_
  refine c_region ?_
  refine wl (wl_val hl rfl trivial (r_field hl rfl fld179_1) ?_)
  clear hl a; intro a hl
  refine wl (w_load hl hh rfl trivial one173 rfl (by repeat (first | exact find_head | apply find_tail | apply find_skip)) (by first | rfl) ?_)
  clear hl a; intro a hl
  refine wl (wl_val hl rfl trivial (r_move hl rfl) ?_)
  clear hl a; intro a hl
  refine wl (wl_val hl rfl trivial (r_move hl rfl) ?_)
  clear hl a; intro a hl
  refine wl (w_swap (lo) (pv) egc_len (by decide) hl hh rfl trivial rfl rfl (by repeat (first | exact find_head | apply find_tail | apply find_skip)) (hE.swz hE.sz) (by omega) (by omega) (by omega) (by omega) ?_)
  clear hl hh a w; intro a w hl hh
  refine w_nil ?_
  have hl2 := hl.add (t := 1) (hl.add (t := 2) (hl.add (t := 4) (hl.nil) rfl) rfl) rfl; clear hl; have hl := hl2; clear hl2
  refine then_normal ?_
  refine c_seq ?_
  refine c_region ?_
  refine wl (wl_val hl rfl trivial (r_move hl rfl) ?_)
  clear hl a; intro a hl
  first | refine wl (wl_val hl rfl trivial (r_add hl rfl rfl (by simp only [Fits]; omega)) ?_) | refine wl (wl_val hl rfl trivial (r_addW hl rfl rfl) ?_)
  clear hl a; intro a hl
  refine wl (wl_val hl rfl trivial (r_move hl rfl) ?_)
  clear hl a; intro a hl
  first | refine wl (wl_val hl rfl trivial (r_sub hl rfl rfl (by simp only [Fits]; omega)) ?_) | refine wl (wl_val hl rfl trivial (r_subW hl rfl rfl) ?_)
  clear hl a; intro a hl
  refine wl (wl_val hl rfl trivial (r_assign hl rfl) ?_)
  clear hl a; intro a hl
  refine wl (wl_val hl rfl trivial (r_assign hl rfl) ?_)
  clear hl a; intro a hl
  refine w_nil ?_
  have hl2 := hl.add (t := 1) (hl.add (t := 4) (hl.add (t := 10) (hl.add (t := 11) (hl.nil) rfl) rfl) rfl) rfl; clear hl; have hl := hl2; clear hl2
  refine then_normal ?_
  refine c_seq ?_
  refine wp_block ?_
  obtain ⟨KS0, hKS0, hk⟩ := (hl.add (t := 1) (hl.add (t := 4) (hl.add (t := 11) (hl.nil) rfl) rfl) rfl).name
  obtain ⟨HS0, hHS0, hh2⟩ := hh.name (keeps_nil)
  refine c_loop (α := Nat) (fun u => hi - u) (fun u a w => (lo + 1 ≤ u ∧ u ≤ hi ∧ Sort.scanUp (fun x => egB x (Sort.swp d lo pv)[lo]!) (Sort.swp d lo pv) (hi - 1) u = Sort.scanUp (fun x => egB x (Sort.swp d lo pv)[lo]!) (Sort.swp d lo pv) (hi - 1) (lo + 1)) ∧ Sl 107 ([(10, .int .i64 (u : Int))] ++ KS0) a ∧ Has _ w0 ([] ++ HS0) w) (lo + 1) ⟨⟨Nat.le_refl _, hab, rfl⟩, hl.addE (t := 10) (hk) rfl (by first | exact congrArg (Value.int .i64) (by first | omega | (simp only; omega)) | rfl), hh2⟩ ?_
  clear hk hh2 hl hh a w
  intro u a w hI
  obtain ⟨⟨hu1, hu2, hu3⟩, hl, hh⟩ := hI
  subst hKS0; subst hHS0
  simp only [List.cons_append, List.nil_append, List.append_nil, List.append_assoc] at hl hh
  refine c_seq ?_
  refine c_seq ?_
  refine c_region ?_
  refine wl (wl_val hl rfl trivial (r_move hl rfl) ?_)
  clear hl a; intro a hl
  refine wl (wl_val hl rfl trivial (r_move hl rfl) ?_)
  clear hl a; intro a hl
  refine wl (wl_val hl rfl trivial (r_leq hl rfl rfl) ?_)
  clear hl a; intro a hl
  refine wl (wl_val hl rfl trivial (r_move hl rfl) ?_)
  clear hl a; intro a hl
  refine sl_split (t := 24) hl rfl ?_ ?_
  · intro hg1; clear hl; intro hl
    try simp only [decide_eq_true_eq, decide_eq_false_iff_not, Bool.not_eq_true', Bool.not_eq_false', Bool.not_eq_true, Bool.not_eq_false, Bool.and_eq_true, Bool.or_eq_true, Bool.and_eq_false_iff, Bool.or_eq_false_iff, Bool.not_not, ne_eq, Int.not_lt, Int.not_le, Decidable.not_not, beq_iff_eq, bne_iff_ne] at hg1
    refine wl (wl_val hl rfl ⟨_, _, rfl, rfl, rfl⟩ (r_field hl rfl fld179_0) ?_)
    clear hl a; intro a hl
    refine wl (w_load hl hh rfl ⟨_, _, rfl, rfl, rfl⟩ one144 rfl (by repeat (first | exact find_head | apply find_tail | apply find_skip)) (by first | rfl) ?_)
    clear hl a; intro a hl
    refine wl (wl_val hl rfl ⟨_, _, rfl, rfl, rfl⟩ (r_move hl rfl) ?_)
    clear hl a; intro a hl
    refine wl (wl_val hl rfl ⟨_, _, rfl, rfl, rfl⟩ (r_move hl rfl) ?_)
    clear hl a; intro a hl
    refine wl (w_call hl hh rfl ⟨_, _, rfl, rfl, rfl⟩ rfl cal62 rfl (less_spec (hE.to hs0) _ _ u lo (by omega) (by omega) (by omega) (by omega)) (by repeat (first | exact keeps_nil | apply keeps_cons (by repeat (first | exact find_head | apply find_tail | apply find_skip)) (by first  | rfl) | exact keeps_self | exact keeps_left | apply keeps_app | apply keeps_mv | apply keeps_skip)) trivial ?_)
    clear hl hh a w; intro vc Fc a w hR hl hh
    obtain ⟨rfl, rfl⟩ := hR
    try simp only [List.cons_append, List.nil_append, List.append_assoc, List.append_nil] at hh
    refine wl (wl_val hl rfl trivial (r_pickT hl rfl rfl) ?_)
    clear hl a; intro a hl
    refine w_nil ?_
    have hl2 := hl.add (t := 1) (hl.add (t := 4) (hl.add (t := 10) (hl.add (t := 11) (hl.add (t := 30) (hl.nil) rfl) rfl) rfl) rfl) rfl; clear hl; have hl := hl2; clear hl2
    refine then_normal ?_
    refine c_cond hl rfl ?_ ?_
    · intro hc0
      try simp only [decide_eq_true_eq, decide_eq_false_iff_not, Bool.not_eq_true', Bool.not_eq_false', Bool.not_eq_true, Bool.not_eq_false, Bool.and_eq_true, Bool.or_eq_true, Bool.and_eq_false_iff, Bool.or_eq_false_iff, Bool.not_not, ne_eq, Int.not_lt, Int.not_le, Decidable.not_not, beq_iff_eq, bne_iff_ne] at hc0
      refine wp_skip ?_
      refine then_normal ?_
      refine wp_block ?_
      refine c_region ?_
      refine wl (wl_val hl rfl trivial (r_move hl rfl) ?_)
      clear hl a; intro a hl
      first | refine wl (wl_val hl rfl trivial (r_add hl rfl rfl (by simp only [Fits]; omega)) ?_) | refine wl (wl_val hl rfl trivial (r_addW hl rfl rfl) ?_)
      clear hl a; intro a hl
      refine wl (wl_val hl rfl trivial (r_assign hl rfl) ?_)
      clear hl a; intro a hl
      refine w_nil ?_
      have hl2 := hl.add (t := 1) (hl.add (t := 4) (hl.add (t := 10) (hl.add (t := 11) (hl.nil) rfl) rfl) rfl) rfl; clear hl; have hl := hl2; clear hl2
      refine blk_normal ?_
      refine then_normal ?_
      refine ⟨(u + 1), (by omega), ⟨by omega, by omega, by rw [← hu3]; exact (up_go (by omega) (by assumption)).symm⟩, hl.addE (t := 10) (hl.addE (t := 1) (hl.addE (t := 4) (hl.addE (t := 11) (hl.nil) rfl (by first | rfl | exact congrArg (Value.int .i64) (by first | omega | (simp only; omega)))) rfl (by first | rfl | exact congrArg (Value.int .i64) (by first | omega | (simp only; omega)))) rfl (by first | rfl | exact congrArg (Value.int .i64) (by first | omega | (simp only; omega)))) rfl (by first | rfl | exact congrArg (Value.int .i64) (by first | omega | (simp only; omega))), hh.keep (by repeat (first | exact keeps_nil | apply keeps_cons (by repeat (first | exact find_head | apply find_tail | apply find_skip)) (by first  | rfl) | exact keeps_self | exact keeps_left | apply keeps_app | apply keeps_mv | apply keeps_skip))⟩
    · intro hc0
      try simp only [decide_eq_true_eq, decide_eq_false_iff_not, Bool.not_eq_true', Bool.not_eq_false', Bool.not_eq_true, Bool.not_eq_false, Bool.and_eq_true, Bool.or_eq_true, Bool.and_eq_false_iff, Bool.or_eq_false_iff, Bool.not_not, ne_eq, Int.not_lt, Int.not_le, Decidable.not_not, beq_iff_eq, bne_iff_ne] at hc0
      have hue : Sort.scanUp (fun x => egB x (Sort.swp d lo pv)[lo]!) (Sort.swp d lo pv) (hi - 1) (lo + 1) = u := by rw [← hu3]; exact up_stop (fun h9 => by first | omega | (have h8 := h9.2; simp only [(show egB (Sort.swp d lo pv)[u]! (Sort.swp d lo pv)[lo]! = false by assumption)] at h8; cases h8))
      refine wp_exit ?_
      refine then_exit ?_
      refine then_exit ?_
      refine blk_exit ?_
      refine then_normal ?_
      refine c_seq ?_
      refine wp_block ?_
      obtain ⟨KS1, hKS1, hk⟩ := (hl.add (t := 1) (hl.add (t := 4) (hl.add (t := 10) (hl.nil) rfl) rfl) rfl).name
      obtain ⟨HS1, hHS1, hh2⟩ := hh.name (keeps_nil)
      refine c_loop (α := Nat) (fun v => v) (fun v a w => (v ≤ hi - 1 ∧ u ≤ v + 1 ∧ Sort.scanDown (fun x => !egB x (Sort.swp d lo pv)[lo]!) (Sort.swp d lo pv) u v = Sort.scanDown (fun x => !egB x (Sort.swp d lo pv)[lo]!) (Sort.swp d lo pv) u (hi - 1)) ∧ Sl 107 ([(11, .int .i64 (v : Int))] ++ KS1) a ∧ Has _ w0 ([] ++ HS1) w) (hi - 1) ⟨⟨Nat.le_refl _, by omega, rfl⟩, hl.addE (t := 11) (hk) rfl (by first | exact congrArg (Value.int .i64) (by first | omega | (simp only; omega)) | rfl), hh2⟩ ?_
      clear hk hh2 hl hh a w
      intro v a w hI
      obtain ⟨⟨hv1, hv2, hv3⟩, hl, hh⟩ := hI
      subst hKS1; subst hHS1
      simp only [List.cons_append, List.nil_append, List.append_nil, List.append_assoc] at hl hh
      refine c_seq ?_
      refine c_seq ?_
      refine c_region ?_
      refine wl (wl_val hl rfl trivial (r_move hl rfl) ?_)
      clear hl a; intro a hl
      refine wl (wl_val hl rfl trivial (r_move hl rfl) ?_)
      clear hl a; intro a hl
      refine wl (wl_val hl rfl trivial (r_leq hl rfl rfl) ?_)
      clear hl a; intro a hl
      refine wl (wl_val hl rfl trivial (r_move hl rfl) ?_)
      clear hl a; intro a hl
      refine sl_split (t := 36) hl rfl ?_ ?_
      · intro hg2; clear hl; intro hl
        try simp only [decide_eq_true_eq, decide_eq_false_iff_not, Bool.not_eq_true', Bool.not_eq_false', Bool.not_eq_true, Bool.not_eq_false, Bool.and_eq_true, Bool.or_eq_true, Bool.and_eq_false_iff, Bool.or_eq_false_iff, Bool.not_not, ne_eq, Int.not_lt, Int.not_le, Decidable.not_not, beq_iff_eq, bne_iff_ne] at hg2
        refine wl (wl_val hl rfl ⟨_, _, rfl, rfl, rfl⟩ (r_field hl rfl fld179_0) ?_)
        clear hl a; intro a hl
        refine wl (w_load hl hh rfl ⟨_, _, rfl, rfl, rfl⟩ one144 rfl (by repeat (first | exact find_head | apply find_tail | apply find_skip)) (by first | rfl) ?_)
        clear hl a; intro a hl
        refine wl (wl_val hl rfl ⟨_, _, rfl, rfl, rfl⟩ (r_move hl rfl) ?_)
        clear hl a; intro a hl
        refine wl (wl_val hl rfl ⟨_, _, rfl, rfl, rfl⟩ (r_move hl rfl) ?_)
        clear hl a; intro a hl
        refine wl (w_call hl hh rfl ⟨_, _, rfl, rfl, rfl⟩ rfl cal62 rfl (less_spec (hE.to hs0) _ _ v lo (by omega) (by omega) (by omega) (by omega)) (by repeat (first | exact keeps_nil | apply keeps_cons (by repeat (first | exact find_head | apply find_tail | apply find_skip)) (by first  | rfl) | exact keeps_self | exact keeps_left | apply keeps_app | apply keeps_mv | apply keeps_skip)) trivial ?_)
        clear hl hh a w; intro vc Fc a w hR hl hh
        obtain ⟨rfl, rfl⟩ := hR
        try simp only [List.cons_append, List.nil_append, List.append_assoc, List.append_nil] at hh
        refine wl (wl_val hl rfl ⟨_, _, rfl, rfl, rfl⟩ (r_not hl rfl) ?_)
        clear hl a; intro a hl
        refine wl (wl_val hl rfl trivial (r_pickT hl rfl rfl) ?_)
        clear hl a; intro a hl
        refine w_nil ?_
        have hl2 := hl.add (t := 1) (hl.add (t := 4) (hl.add (t := 10) (hl.add (t := 11) (hl.add (t := 43) (hl.nil) rfl) rfl) rfl) rfl) rfl; clear hl; have hl := hl2; clear hl2
        refine then_normal ?_
        refine c_cond hl rfl ?_ ?_
        · intro hc1
          try simp only [decide_eq_true_eq, decide_eq_false_iff_not, Bool.not_eq_true', Bool.not_eq_false', Bool.not_eq_true, Bool.not_eq_false, Bool.and_eq_true, Bool.or_eq_true, Bool.and_eq_false_iff, Bool.or_eq_false_iff, Bool.not_not, ne_eq, Int.not_lt, Int.not_le, Decidable.not_not, beq_iff_eq, bne_iff_ne] at hc1
          refine wp_skip ?_
          refine then_normal ?_
          refine wp_block ?_
          refine c_region ?_
          refine wl (wl_val hl rfl trivial (r_move hl rfl) ?_)
          clear hl a; intro a hl
          first | refine wl (wl_val hl rfl trivial (r_sub hl rfl rfl (by simp only [Fits]; omega)) ?_) | refine wl (wl_val hl rfl trivial (r_subW hl rfl rfl) ?_)
          clear hl a; intro a hl
          refine wl (wl_val hl rfl trivial (r_assign hl rfl) ?_)
          clear hl a; intro a hl
          refine w_nil ?_
          have hl2 := hl.add (t := 1) (hl.add (t := 4) (hl.add (t := 10) (hl.add (t := 11) (hl.nil) rfl) rfl) rfl) rfl; clear hl; have hl := hl2; clear hl2
          refine blk_normal ?_
          refine then_normal ?_
          refine ⟨(v - 1), (by omega), ⟨by omega, by omega, by rw [← hv3]; exact (dn_goN (by omega) (by omega) (by assumption)).symm⟩, hl.addE (t := 11) (hl.addE (t := 1) (hl.addE (t := 4) (hl.addE (t := 10) (hl.nil) rfl (by first | rfl | exact congrArg (Value.int .i64) (by first | omega | (simp only; omega)))) rfl (by first | rfl | exact congrArg (Value.int .i64) (by first | omega | (simp only; omega)))) rfl (by first | rfl | exact congrArg (Value.int .i64) (by first | omega | (simp only; omega)))) rfl (by first | rfl | exact congrArg (Value.int .i64) (by first | omega | (simp only; omega))), hh.keep (by repeat (first | exact keeps_nil | apply keeps_cons (by repeat (first | exact find_head | apply find_tail | apply find_skip)) (by first  | rfl) | exact keeps_self | exact keeps_left | apply keeps_app | apply keeps_mv | apply keeps_skip))⟩
        · intro hc1
          try simp only [decide_eq_true_eq, decide_eq_false_iff_not, Bool.not_eq_true', Bool.not_eq_false', Bool.not_eq_true, Bool.not_eq_false, Bool.and_eq_true, Bool.or_eq_true, Bool.and_eq_false_iff, Bool.or_eq_false_iff, Bool.not_not, ne_eq, Int.not_lt, Int.not_le, Decidable.not_not, beq_iff_eq, bne_iff_ne] at hc1
          have hve : Sort.scanDown (fun x => !egB x (Sort.swp d lo pv)[lo]!) (Sort.swp d lo pv) u (hi - 1) = v := by rw [← hv3]; exact dn_stop (fun h9 => by first | omega | (have h8 := h9.2; simp only [show egB (Sort.swp d lo pv)[v]! (Sort.swp d lo pv)[lo]! = true by assumption] at h8; cases h8))
          refine wp_exit ?_
          refine then_exit ?_
          refine then_exit ?_
          refine blk_exit ?_
          refine then_normal ?_
          refine c_seq ?_
          refine c_seq ?_
          refine c_region ?_
          refine wl (wl_val hl rfl trivial (r_move hl rfl) ?_)
          clear hl a; intro a hl
          refine wl (wl_val hl rfl trivial (r_move hl rfl) ?_)
          clear hl a; intro a hl
          refine wl (wl_val hl rfl trivial (r_gtr hl rfl rfl) ?_)
          clear hl a; intro a hl
          refine w_nil ?_
          have hl2 := hl.add (t := 1) (hl.add (t := 4) (hl.add (t := 10) (hl.add (t := 11) (hl.add (t := 48) (hl.nil) rfl) rfl) rfl) rfl) rfl; clear hl; have hl := hl2; clear hl2
          refine then_normal ?_
          refine c_cond hl rfl ?_ ?_
          · intro hc2
            try simp only [decide_eq_true_eq, decide_eq_false_iff_not, Bool.not_eq_true', Bool.not_eq_false', Bool.not_eq_true, Bool.not_eq_false, Bool.and_eq_true, Bool.or_eq_true, Bool.and_eq_false_iff, Bool.or_eq_false_iff, Bool.not_not, ne_eq, Int.not_lt, Int.not_le, Decidable.not_not, beq_iff_eq, bne_iff_ne] at hc2
            have hpt := part_T hue hve (by omega)
            refine c_seq ?_
            refine c_region ?_
            refine wl (wl_val hl rfl trivial (r_field hl rfl fld179_1) ?_)
            clear hl a; intro a hl
            refine wl (w_load hl hh rfl trivial one173 rfl (by repeat (first | exact find_head | apply find_tail | apply find_skip)) (by first | rfl) ?_)
            clear hl a; intro a hl
            refine wl (wl_val hl rfl trivial (r_move hl rfl) ?_)
            clear hl a; intro a hl
            refine wl (wl_val hl rfl trivial (r_move hl rfl) ?_)
            clear hl a; intro a hl
            refine wl (w_swap (v) (lo) egc_len (by decide) hl hh rfl trivial rfl rfl (by repeat (first | exact find_head | apply find_tail | apply find_skip)) (hE.swz hs0) (by omega) (by omega) (by omega) (by omega) ?_)
            clear hl hh a w; intro a w hl hh
            refine w_nil ?_
            have hl2 := hl.add (t := 11) (hl.nil) rfl; clear hl; have hl := hl2; clear hl2
            refine then_normal ?_
            refine c_seq ?_
            refine c_region ?_
            refine wl (wl_val hl rfl trivial (r_move hl rfl) ?_)
            clear hl a; intro a hl
            refine wl (wl_val hl rfl trivial (r_assign hl rfl) ?_)
            clear hl a; intro a hl
            refine wl (wl_val hl rfl trivial (r_assign hl rfl) ?_)
            clear hl a; intro a hl
            refine w_nil ?_
            have hl2 := hl.add (t := 8) (hl.add (t := 9) (hl.nil) rfl) rfl; clear hl; have hl := hl2; clear hl2
            refine then_normal ?_
            refine wp_ret ?_
            refine then_ret ?_
            refine f_ret2 (F' := [(b, C (fl egc (Sort.swp (Sort.swp d lo pv) v lo).toList ++ junk) 102), (Bs, C sL 46)]) hl hh rfl rfl rfl (by repeat (first | exact keeps_nil | apply keeps_cons (by repeat (first | exact find_head | apply find_tail | apply find_skip)) (by first  | rfl) | exact keeps_self | exact keeps_left | apply keeps_app | apply keeps_mv | apply keeps_skip)) ?_
            rw [hpt]
            exact ⟨rfl, rfl, by simp only; rw [swp_sz]; exact hs0, by simp only; omega, by simp only; omega⟩
          · intro hc2
            try simp only [decide_eq_true_eq, decide_eq_false_iff_not, Bool.not_eq_true', Bool.not_eq_false', Bool.not_eq_true, Bool.not_eq_false, Bool.and_eq_true, Bool.or_eq_true, Bool.and_eq_false_iff, Bool.or_eq_false_iff, Bool.not_not, ne_eq, Int.not_lt, Int.not_le, Decidable.not_not, beq_iff_eq, bne_iff_ne] at hc2
            refine wp_skip ?_
            refine then_normal ?_
            refine c_seq ?_
            refine c_region ?_
            refine wl (wl_val hl rfl trivial (r_field hl rfl fld179_1) ?_)
            clear hl a; intro a hl
            refine wl (w_load hl hh rfl trivial one173 rfl (by repeat (first | exact find_head | apply find_tail | apply find_skip)) (by first | rfl) ?_)
            clear hl a; intro a hl
            refine wl (wl_val hl rfl trivial (r_move hl rfl) ?_)
            clear hl a; intro a hl
            refine wl (wl_val hl rfl trivial (r_move hl rfl) ?_)
            clear hl a; intro a hl
            refine wl (w_swap (u) (v) egc_len (by decide) hl hh rfl trivial rfl rfl (by repeat (first | exact find_head | apply find_tail | apply find_skip)) (hE.swz hs0) (by omega) (by omega) (by omega) (by omega) ?_)
            clear hl hh a w; intro a w hl hh
            refine w_nil ?_
            have hl2 := hl.add (t := 1) (hl.add (t := 4) (hl.add (t := 10) (hl.add (t := 11) (hl.nil) rfl) rfl) rfl) rfl; clear hl; have hl := hl2; clear hl2
            refine then_normal ?_
            refine c_seq ?_
            refine c_region ?_
            refine wl (wl_val hl rfl trivial (r_move hl rfl) ?_)
            clear hl a; intro a hl
            first | refine wl (wl_val hl rfl trivial (r_add hl rfl rfl (by simp only [Fits]; omega)) ?_) | refine wl (wl_val hl rfl trivial (r_addW hl rfl rfl) ?_)
            clear hl a; intro a hl
            refine wl (wl_val hl rfl trivial (r_assign hl rfl) ?_)
            clear hl a; intro a hl
            refine w_nil ?_
            have hl2 := hl.add (t := 1) (hl.add (t := 4) (hl.add (t := 10) (hl.add (t := 11) (hl.nil) rfl) rfl) rfl) rfl; clear hl; have hl := hl2; clear hl2
            refine then_normal ?_
            refine c_seq ?_
            refine c_region ?_
            refine wl (wl_val hl rfl trivial (r_move hl rfl) ?_)
            clear hl a; intro a hl
            first | refine wl (wl_val hl rfl trivial (r_sub hl rfl rfl (by simp only [Fits]; omega)) ?_) | refine wl (wl_val hl rfl trivial (r_subW hl rfl rfl) ?_)
            clear hl a; intro a hl
            refine wl (wl_val hl rfl trivial (r_assign hl rfl) ?_)
            clear hl a; intro a hl
            refine w_nil ?_
            have hl2 := hl.add (t := 1) (hl.add (t := 4) (hl.add (t := 10) (hl.add (t := 11) (hl.nil) rfl) rfl) rfl) rfl; clear hl; have hl := hl2; clear hl2
            refine then_normal ?_
            refine c_seq ?_
            refine wp_block ?_
            obtain ⟨KS2, hKS2, hk⟩ := (hl.add (t := 1) (hl.add (t := 4) (hl.nil) rfl) rfl).name
            obtain ⟨HS2, hHS2, hh2⟩ := hh.name (keeps_cons (b := b) (o' := C (fl egc (Sort.swp (Sort.swp d lo pv) u v).toList ++ junk) 102) (by repeat (first | exact find_head | apply find_tail | apply find_skip)) (by first | rfl) (keeps_nil))
            refine c_loop (α := PZ3) (fun q => q.j + 2 - q.i) (fun q a w => (q.d.size = n ∧ (lo + 2 ≤ q.i ∧ q.i ≤ q.j + 2 ∧ q.j ≤ hi - 1) ∧ Sort.partLoop egB lo q.i q.j q.d = Sort.partLoop egB lo (u + 1) (v - 1) (Sort.swp (Sort.swp d lo pv) u v)) ∧ Sl 107 ([(10, .int .i64 (q.i : Int)), (11, .int .i64 (q.j : Int))] ++ KS2) a ∧ Has _ w0 ([(b, C (fl egc q.d.toList ++ junk) 102)] ++ HS2) w) ⟨(Sort.swp (Sort.swp d lo pv) u v), u + 1, v - 1⟩ ⟨⟨by simp only; rw [swp_sz]; exact hs0, ⟨by simp only; omega, by simp only; omega, by simp only; omega⟩, rfl⟩, hl.addE (t := 10) (hl.addE (t := 11) (hk) rfl (by first | exact congrArg (Value.int .i64) (by first | omega | (simp only; omega)) | rfl)) rfl (by first | exact congrArg (Value.int .i64) (by first | omega | (simp only; omega)) | rfl), hh2⟩ ?_
            clear hk hh2 hl hh a w
            intro q a w hI
            obtain ⟨⟨hq1, hq2, hq3⟩, hl, hh⟩ := hI
            subst hKS2; subst hHS2
            simp only [List.cons_append, List.nil_append, List.append_nil, List.append_assoc] at hl hh
            refine wp_block ?_
            refine c_seq ?_
            refine wp_block ?_
            obtain ⟨KS3, hKS3, hk⟩ := (hl.add (t := 1) (hl.add (t := 4) (hl.add (t := 11) (hl.nil) rfl) rfl) rfl).name
            obtain ⟨HS3, hHS3, hh2⟩ := hh.name (keeps_nil)
            refine c_loop (α := Nat) (fun u2 => q.j + 2 - u2) (fun u2 a w => (q.i ≤ u2 ∧ u2 ≤ q.j + 2 ∧ Sort.scanUp (fun x => egB x q.d[lo]!) q.d q.j u2 = Sort.scanUp (fun x => egB x q.d[lo]!) q.d q.j q.i) ∧ Sl 107 ([(10, .int .i64 (u2 : Int))] ++ KS3) a ∧ Has _ w0 ([] ++ HS3) w) q.i ⟨⟨Nat.le_refl _, by omega, rfl⟩, hl.addE (t := 10) (hk) rfl (by first | exact congrArg (Value.int .i64) (by first | omega | (simp only; omega)) | rfl), hh2⟩ ?_
            clear hk hh2 hl hh a w
            intro u2 a w hI
            obtain ⟨⟨ha1, ha2, ha3⟩, hl, hh⟩ := hI
            subst hKS3; subst hHS3
            simp only [List.cons_append, List.nil_append, List.append_nil, List.append_assoc] at hl hh
            refine c_seq ?_
            refine c_seq ?_
            refine c_region ?_
            refine wl (wl_val hl rfl trivial (r_move hl rfl) ?_)
            clear hl a; intro a hl
            refine wl (wl_val hl rfl trivial (r_move hl rfl) ?_)
            clear hl a; intro a hl
            refine wl (wl_val hl rfl trivial (r_leq hl rfl rfl) ?_)
            clear hl a; intro a hl
            refine wl (wl_val hl rfl trivial (r_move hl rfl) ?_)
            clear hl a; intro a hl
            refine sl_split (t := 67) hl rfl ?_ ?_
            · intro hg3; clear hl; intro hl
              try simp only [decide_eq_true_eq, decide_eq_false_iff_not, Bool.not_eq_true', Bool.not_eq_false', Bool.not_eq_true, Bool.not_eq_false, Bool.and_eq_true, Bool.or_eq_true, Bool.and_eq_false_iff, Bool.or_eq_false_iff, Bool.not_not, ne_eq, Int.not_lt, Int.not_le, Decidable.not_not, beq_iff_eq, bne_iff_ne] at hg3
              refine wl (wl_val hl rfl ⟨_, _, rfl, rfl, rfl⟩ (r_field hl rfl fld179_0) ?_)
              clear hl a; intro a hl
              refine wl (w_load hl hh rfl ⟨_, _, rfl, rfl, rfl⟩ one144 rfl (by repeat (first | exact find_head | apply find_tail | apply find_skip)) (by first | rfl) ?_)
              clear hl a; intro a hl
              refine wl (wl_val hl rfl ⟨_, _, rfl, rfl, rfl⟩ (r_move hl rfl) ?_)
              clear hl a; intro a hl
              refine wl (wl_val hl rfl ⟨_, _, rfl, rfl, rfl⟩ (r_move hl rfl) ?_)
              clear hl a; intro a hl
              refine wl (w_call hl hh rfl ⟨_, _, rfl, rfl, rfl⟩ rfl cal62 rfl (less_spec (hE.to hq1) _ _ u2 lo (by omega) (by omega) (by omega) (by omega)) (by repeat (first | exact keeps_nil | apply keeps_cons (by repeat (first | exact find_head | apply find_tail | apply find_skip)) (by first  | rfl) | exact keeps_self | exact keeps_left | apply keeps_app | apply keeps_mv | apply keeps_skip)) trivial ?_)
              clear hl hh a w; intro vc Fc a w hR hl hh
              obtain ⟨rfl, rfl⟩ := hR
              try simp only [List.cons_append, List.nil_append, List.append_assoc, List.append_nil] at hh
              refine wl (wl_val hl rfl trivial (r_pickT hl rfl rfl) ?_)
              clear hl a; intro a hl
              refine w_nil ?_
              have hl2 := hl.add (t := 1) (hl.add (t := 4) (hl.add (t := 10) (hl.add (t := 11) (hl.add (t := 73) (hl.nil) rfl) rfl) rfl) rfl) rfl; clear hl; have hl := hl2; clear hl2
              refine then_normal ?_
              refine c_cond hl rfl ?_ ?_
              · intro hc3
                try simp only [decide_eq_true_eq, decide_eq_false_iff_not, Bool.not_eq_true', Bool.not_eq_false', Bool.not_eq_true, Bool.not_eq_false, Bool.and_eq_true, Bool.or_eq_true, Bool.and_eq_false_iff, Bool.or_eq_false_iff, Bool.not_not, ne_eq, Int.not_lt, Int.not_le, Decidable.not_not, beq_iff_eq, bne_iff_ne] at hc3
                refine wp_skip ?_
                refine then_normal ?_
                refine wp_block ?_
                refine c_region ?_
                refine wl (wl_val hl rfl trivial (r_move hl rfl) ?_)
                clear hl a; intro a hl
                first | refine wl (wl_val hl rfl trivial (r_add hl rfl rfl (by simp only [Fits]; omega)) ?_) | refine wl (wl_val hl rfl trivial (r_addW hl rfl rfl) ?_)
                clear hl a; intro a hl
                refine wl (wl_val hl rfl trivial (r_assign hl rfl) ?_)
                clear hl a; intro a hl
                refine w_nil ?_
                have hl2 := hl.add (t := 1) (hl.add (t := 4) (hl.add (t := 10) (hl.add (t := 11) (hl.nil) rfl) rfl) rfl) rfl; clear hl; have hl := hl2; clear hl2
                refine blk_normal ?_
                refine then_normal ?_
                refine ⟨(u2 + 1), (by omega), ⟨by omega, by omega, by rw [← ha3]; exact (up_go (by omega) (by assumption)).symm⟩, hl.addE (t := 10) (hl.addE (t := 1) (hl.addE (t := 4) (hl.addE (t := 11) (hl.nil) rfl (by first | rfl | exact congrArg (Value.int .i64) (by first | omega | (simp only; omega)))) rfl (by first | rfl | exact congrArg (Value.int .i64) (by first | omega | (simp only; omega)))) rfl (by first | rfl | exact congrArg (Value.int .i64) (by first | omega | (simp only; omega)))) rfl (by first | rfl | exact congrArg (Value.int .i64) (by first | omega | (simp only; omega))), hh.keep (by repeat (first | exact keeps_nil | apply keeps_cons (by repeat (first | exact find_head | apply find_tail | apply find_skip)) (by first  | rfl) | exact keeps_self | exact keeps_left | apply keeps_app | apply keeps_mv | apply keeps_skip))⟩
              · intro hc3
                try simp only [decide_eq_true_eq, decide_eq_false_iff_not, Bool.not_eq_true', Bool.not_eq_false', Bool.not_eq_true, Bool.not_eq_false, Bool.and_eq_true, Bool.or_eq_true, Bool.and_eq_false_iff, Bool.or_eq_false_iff, Bool.not_not, ne_eq, Int.not_lt, Int.not_le, Decidable.not_not, beq_iff_eq, bne_iff_ne] at hc3
                have hu2e : Sort.scanUp (fun x => egB x q.d[lo]!) q.d q.j q.i = u2 := by rw [← ha3]; exact up_stop (fun h9 => by first | omega | (have h8 := h9.2; simp only [(show egB q.d[u2]! q.d[lo]! = false by assumption)] at h8; cases h8))
                refine wp_exit ?_
                refine then_exit ?_
                refine then_exit ?_
                refine blk_exit ?_
                refine then_normal ?_
                refine c_seq ?_
                refine wp_block ?_
                obtain ⟨KS4, hKS4, hk⟩ := (hl.add (t := 1) (hl.add (t := 4) (hl.add (t := 10) (hl.nil) rfl) rfl) rfl).name
                obtain ⟨HS4, hHS4, hh2⟩ := hh.name (keeps_nil)
                refine c_loop (α := Nat) (fun v2 => v2) (fun v2 a w => (v2 ≤ q.j ∧ (u2 ≤ v2 + 2 ∧ lo ≤ v2) ∧ Sort.scanDown (fun x => !egB x q.d[lo]!) q.d u2 v2 = Sort.scanDown (fun x => !egB x q.d[lo]!) q.d u2 q.j) ∧ Sl 107 ([(11, .int .i64 (v2 : Int))] ++ KS4) a ∧ Has _ w0 ([] ++ HS4) w) q.j ⟨⟨Nat.le_refl _, ⟨by omega, by omega⟩, rfl⟩, hl.addE (t := 11) (hk) rfl (by first | exact congrArg (Value.int .i64) (by first | omega | (simp only; omega)) | rfl), hh2⟩ ?_
                clear hk hh2 hl hh a w
                intro v2 a w hI
                obtain ⟨⟨hd1, hd2, hd3⟩, hl, hh⟩ := hI
                subst hKS4; subst hHS4
                simp only [List.cons_append, List.nil_append, List.append_nil, List.append_assoc] at hl hh
                refine c_seq ?_
                refine c_seq ?_
                refine c_region ?_
                refine wl (wl_val hl rfl trivial (r_move hl rfl) ?_)
                clear hl a; intro a hl
                refine wl (wl_val hl rfl trivial (r_move hl rfl) ?_)
                clear hl a; intro a hl
                refine wl (wl_val hl rfl trivial (r_leq hl rfl rfl) ?_)
                clear hl a; intro a hl
                refine wl (wl_val hl rfl trivial (r_move hl rfl) ?_)
                clear hl a; intro a hl
                refine sl_split (t := 79) hl rfl ?_ ?_
                · intro hg4; clear hl; intro hl
                  try simp only [decide_eq_true_eq, decide_eq_false_iff_not, Bool.not_eq_true', Bool.not_eq_false', Bool.not_eq_true, Bool.not_eq_false, Bool.and_eq_true, Bool.or_eq_true, Bool.and_eq_false_iff, Bool.or_eq_false_iff, Bool.not_not, ne_eq, Int.not_lt, Int.not_le, Decidable.not_not, beq_iff_eq, bne_iff_ne] at hg4
                  refine wl (wl_val hl rfl ⟨_, _, rfl, rfl, rfl⟩ (r_field hl rfl fld179_0) ?_)
                  clear hl a; intro a hl
                  refine wl (w_load hl hh rfl ⟨_, _, rfl, rfl, rfl⟩ one144 rfl (by repeat (first | exact find_head | apply find_tail | apply find_skip)) (by first | rfl) ?_)
                  clear hl a; intro a hl
                  refine wl (wl_val hl rfl ⟨_, _, rfl, rfl, rfl⟩ (r_move hl rfl) ?_)
                  clear hl a; intro a hl
                  refine wl (wl_val hl rfl ⟨_, _, rfl, rfl, rfl⟩ (r_move hl rfl) ?_)
                  clear hl a; intro a hl
                  refine wl (w_call hl hh rfl ⟨_, _, rfl, rfl, rfl⟩ rfl cal62 rfl (less_spec (hE.to hq1) _ _ v2 lo (by omega) (by omega) (by omega) (by omega)) (by repeat (first | exact keeps_nil | apply keeps_cons (by repeat (first | exact find_head | apply find_tail | apply find_skip)) (by first  | rfl) | exact keeps_self | exact keeps_left | apply keeps_app | apply keeps_mv | apply keeps_skip)) trivial ?_)
                  clear hl hh a w; intro vc Fc a w hR hl hh
                  obtain ⟨rfl, rfl⟩ := hR
                  try simp only [List.cons_append, List.nil_append, List.append_assoc, List.append_nil] at hh
                  refine wl (wl_val hl rfl ⟨_, _, rfl, rfl, rfl⟩ (r_not hl rfl) ?_)
                  clear hl a; intro a hl
                  refine wl (wl_val hl rfl trivial (r_pickT hl rfl rfl) ?_)
                  clear hl a; intro a hl
                  refine w_nil ?_
                  have hl2 := hl.add (t := 1) (hl.add (t := 4) (hl.add (t := 10) (hl.add (t := 11) (hl.add (t := 86) (hl.nil) rfl) rfl) rfl) rfl) rfl; clear hl; have hl := hl2; clear hl2
                  refine then_normal ?_
                  refine c_cond hl rfl ?_ ?_
                  · intro hc4
                    try simp only [decide_eq_true_eq, decide_eq_false_iff_not, Bool.not_eq_true', Bool.not_eq_false', Bool.not_eq_true, Bool.not_eq_false, Bool.and_eq_true, Bool.or_eq_true, Bool.and_eq_false_iff, Bool.or_eq_false_iff, Bool.not_not, ne_eq, Int.not_lt, Int.not_le, Decidable.not_not, beq_iff_eq, bne_iff_ne] at hc4
                    refine wp_skip ?_
                    refine then_normal ?_
                    refine wp_block ?_
                    refine c_region ?_
                    refine wl (wl_val hl rfl trivial (r_move hl rfl) ?_)
                    clear hl a; intro a hl
                    first | refine wl (wl_val hl rfl trivial (r_sub hl rfl rfl (by simp only [Fits]; omega)) ?_) | refine wl (wl_val hl rfl trivial (r_subW hl rfl rfl) ?_)
                    clear hl a; intro a hl
                    refine wl (wl_val hl rfl trivial (r_assign hl rfl) ?_)
                    clear hl a; intro a hl
                    refine w_nil ?_
                    have hl2 := hl.add (t := 1) (hl.add (t := 4) (hl.add (t := 10) (hl.add (t := 11) (hl.nil) rfl) rfl) rfl) rfl; clear hl; have hl := hl2; clear hl2
                    refine blk_normal ?_
                    refine then_normal ?_
                    refine ⟨(v2 - 1), (by omega), ⟨by omega, ⟨by omega, by omega⟩, by rw [← hd3]; exact (dn_goN (by omega) (by omega) (by assumption)).symm⟩, hl.addE (t := 11) (hl.addE (t := 1) (hl.addE (t := 4) (hl.addE (t := 10) (hl.nil) rfl (by first | rfl | exact congrArg (Value.int .i64) (by first | omega | (simp only; omega)))) rfl (by first | rfl | exact congrArg (Value.int .i64) (by first | omega | (simp only; omega)))) rfl (by first | rfl | exact congrArg (Value.int .i64) (by first | omega | (simp only; omega)))) rfl (by first | rfl | exact congrArg (Value.int .i64) (by first | omega | (simp only; omega))), hh.keep (by repeat (first | exact keeps_nil | apply keeps_cons (by repeat (first | exact find_head | apply find_tail | apply find_skip)) (by first  | rfl) | exact keeps_self | exact keeps_left | apply keeps_app | apply keeps_mv | apply keeps_skip))⟩
                  · intro hc4
                    try simp only [decide_eq_true_eq, decide_eq_false_iff_not, Bool.not_eq_true', Bool.not_eq_false', Bool.not_eq_true, Bool.not_eq_false, Bool.and_eq_true, Bool.or_eq_true, Bool.and_eq_false_iff, Bool.or_eq_false_iff, Bool.not_not, ne_eq, Int.not_lt, Int.not_le, Decidable.not_not, beq_iff_eq, bne_iff_ne] at hc4
                    have hv2e : Sort.scanDown (fun x => !egB x q.d[lo]!) q.d u2 q.j = v2 := by rw [← hd3]; exact dn_stop (fun h9 => by first | omega | (have h8 := h9.2; simp only [show egB q.d[v2]! q.d[lo]! = true by assumption] at h8; cases h8))
                    refine wp_exit ?_
                    refine then_exit ?_
                    refine then_exit ?_
                    refine blk_exit ?_
                    refine then_normal ?_
                    refine c_seq ?_
                    refine c_seq ?_
                    refine c_region ?_
                    refine wl (wl_val hl rfl trivial (r_move hl rfl) ?_)
                    clear hl a; intro a hl
                    refine wl (wl_val hl rfl trivial (r_move hl rfl) ?_)
                    clear hl a; intro a hl
                    refine wl (wl_val hl rfl trivial (r_gtr hl rfl rfl) ?_)
                    clear hl a; intro a hl
                    refine w_nil ?_
                    have hl2 := hl.add (t := 1) (hl.add (t := 4) (hl.add (t := 10) (hl.add (t := 11) (hl.add (t := 91) (hl.nil) rfl) rfl) rfl) rfl) rfl; clear hl; have hl := hl2; clear hl2
                    refine then_normal ?_
                    refine c_cond hl rfl ?_ ?_
                    · intro hc5
                      try simp only [decide_eq_true_eq, decide_eq_false_iff_not, Bool.not_eq_true', Bool.not_eq_false', Bool.not_eq_true, Bool.not_eq_false, Bool.and_eq_true, Bool.or_eq_true, Bool.and_eq_false_iff, Bool.or_eq_false_iff, Bool.not_not, ne_eq, Int.not_lt, Int.not_le, Decidable.not_not, beq_iff_eq, bne_iff_ne] at hc5
                      have hpt := part_F hue hve (by omega) (hq3.symm.trans (pl_stop hu2e hv2e (by omega)))
                      refine wp_exit ?_
                      refine then_exit ?_
                      refine blk_exit_ne rfl ?_
                      refine then_exit ?_
                      refine blk_exit ?_
                      refine then_normal ?_
                      refine c_seq ?_
                      refine c_region ?_
                      refine wl (wl_val hl rfl trivial (r_field hl rfl fld179_1) ?_)
                      clear hl a; intro a hl
                      refine wl (w_load hl hh rfl trivial one173 rfl (by repeat (first | exact find_head | apply find_tail | apply find_skip)) (by first | rfl) ?_)
                      clear hl a; intro a hl
                      refine wl (wl_val hl rfl trivial (r_move hl rfl) ?_)
                      clear hl a; intro a hl
                      refine wl (wl_val hl rfl trivial (r_move hl rfl) ?_)
                      clear hl a; intro a hl
                      refine wl (w_swap (v2) (lo) egc_len (by decide) hl hh rfl trivial rfl rfl (by repeat (first | exact find_head | apply find_tail | apply find_skip)) (hE.swz hq1) (by omega) (by omega) (by omega) (by omega) ?_)
                      clear hl hh a w; intro a w hl hh
                      refine w_nil ?_
                      have hl2 := hl.add (t := 11) (hl.nil) rfl; clear hl; have hl := hl2; clear hl2
                      refine then_normal ?_
                      refine c_seq ?_
                      refine c_region ?_
                      refine wl (wl_val hl rfl trivial (r_move hl rfl) ?_)
                      clear hl a; intro a hl
                      refine wl (wl_val hl rfl trivial (r_assign hl rfl) ?_)
                      clear hl a; intro a hl
                      refine wl (wl_val hl rfl trivial (r_assign hl rfl) ?_)
                      clear hl a; intro a hl
                      refine w_nil ?_
                      have hl2 := hl.add (t := 8) (hl.add (t := 9) (hl.nil) rfl) rfl; clear hl; have hl := hl2; clear hl2
                      refine then_normal ?_
                      refine wp_ret ?_
                      refine f_ret2 (F' := [(b, C (fl egc (Sort.swp q.d v2 lo).toList ++ junk) 102), (Bs, C sL 46)]) hl hh rfl rfl rfl (by repeat (first | exact keeps_nil | apply keeps_cons (by repeat (first | exact find_head | apply find_tail | apply find_skip)) (by first  | rfl) | exact keeps_self | exact keeps_left | apply keeps_app | apply keeps_mv | apply keeps_skip)) ?_
                      rw [hpt]
                      exact ⟨rfl, rfl, by simp only; rw [swp_sz]; exact hq1, by simp only; omega, by simp only; omega⟩
                    · intro hc5
                      try simp only [decide_eq_true_eq, decide_eq_false_iff_not, Bool.not_eq_true', Bool.not_eq_false', Bool.not_eq_true, Bool.not_eq_false, Bool.and_eq_true, Bool.or_eq_true, Bool.and_eq_false_iff, Bool.or_eq_false_iff, Bool.not_not, ne_eq, Int.not_lt, Int.not_le, Decidable.not_not, beq_iff_eq, bne_iff_ne] at hc5
                      refine wp_skip ?_
                      refine then_normal ?_
                      refine c_seq ?_
                      refine c_region ?_
                      refine wl (wl_val hl rfl trivial (r_field hl rfl fld179_1) ?_)
                      clear hl a; intro a hl
                      refine wl (w_load hl hh rfl trivial one173 rfl (by repeat (first | exact find_head | apply find_tail | apply find_skip)) (by first | rfl) ?_)
                      clear hl a; intro a hl
                      refine wl (wl_val hl rfl trivial (r_move hl rfl) ?_)
                      clear hl a; intro a hl
                      refine wl (wl_val hl rfl trivial (r_move hl rfl) ?_)
                      clear hl a; intro a hl
                      refine wl (w_swap (u2) (v2) egc_len (by decide) hl hh rfl trivial rfl rfl (by repeat (first | exact find_head | apply find_tail | apply find_skip)) (hE.swz hq1) (by omega) (by omega) (by omega) (by omega) ?_)
                      clear hl hh a w; intro a w hl hh
                      refine w_nil ?_
                      have hl2 := hl.add (t := 1) (hl.add (t := 4) (hl.add (t := 10) (hl.add (t := 11) (hl.nil) rfl) rfl) rfl) rfl; clear hl; have hl := hl2; clear hl2
                      refine then_normal ?_
                      refine c_seq ?_
                      refine c_region ?_
                      refine wl (wl_val hl rfl trivial (r_move hl rfl) ?_)
                      clear hl a; intro a hl
                      first | refine wl (wl_val hl rfl trivial (r_add hl rfl rfl (by simp only [Fits]; omega)) ?_) | refine wl (wl_val hl rfl trivial (r_addW hl rfl rfl) ?_)
                      clear hl a; intro a hl
                      refine wl (wl_val hl rfl trivial (r_assign hl rfl) ?_)
                      clear hl a; intro a hl
                      refine w_nil ?_
                      have hl2 := hl.add (t := 1) (hl.add (t := 4) (hl.add (t := 10) (hl.add (t := 11) (hl.nil) rfl) rfl) rfl) rfl; clear hl; have hl := hl2; clear hl2
                      refine then_normal ?_
                      refine c_region ?_
                      refine wl (wl_val hl rfl trivial (r_move hl rfl) ?_)
                      clear hl a; intro a hl
                      first | refine wl (wl_val hl rfl trivial (r_sub hl rfl rfl (by simp only [Fits]; omega)) ?_) | refine wl (wl_val hl rfl trivial (r_subW hl rfl rfl) ?_)
                      clear hl a; intro a hl
                      refine wl (wl_val hl rfl trivial (r_assign hl rfl) ?_)
                      clear hl a; intro a hl
                      refine w_nil ?_
                      have hl2 := hl.add (t := 1) (hl.add (t := 4) (hl.add (t := 10) (hl.add (t := 11) (hl.nil) rfl) rfl) rfl) rfl; clear hl; have hl := hl2; clear hl2
                      refine blk_normal ?_
                      refine then_normal ?_
                      refine ⟨⟨Sort.swp q.d u2 v2, u2 + 1, v2 - 1⟩, (by simp only; omega), ⟨by simp only; rw [swp_sz]; exact hq1, ⟨by simp only; omega, by simp only; omega, by simp only; omega⟩, by simp only; rw [← hq3]; exact (pl_go hu2e hv2e (by omega) (by omega) (by omega) (by omega)).symm⟩, hl.addE (t := 10) (hl.addE (t := 11) (hl.addE (t := 1) (hl.addE (t := 4) (hl.nil) rfl (by first | rfl | exact congrArg (Value.int .i64) (by first | omega | (simp only; omega)))) rfl (by first | rfl | exact congrArg (Value.int .i64) (by first | omega | (simp only; omega)))) rfl (by first | rfl | exact congrArg (Value.int .i64) (by first | omega | (simp only; omega)))) rfl (by first | rfl | exact congrArg (Value.int .i64) (by first | omega | (simp only; omega))), hh.keep (by repeat (first | exact keeps_nil | apply keeps_cons (by repeat (first | exact find_head | apply find_tail | apply find_skip)) (by first  | rfl) | exact keeps_self | exact keeps_left | apply keeps_app | apply keeps_mv | apply keeps_skip))⟩
                · intro hg4; clear hl; intro hl
                  try simp only [decide_eq_true_eq, decide_eq_false_iff_not, Bool.not_eq_true', Bool.not_eq_false', Bool.not_eq_true, Bool.not_eq_false, Bool.and_eq_true, Bool.or_eq_true, Bool.and_eq_false_iff, Bool.or_eq_false_iff, Bool.not_not, ne_eq, Int.not_lt, Int.not_le, Decidable.not_not, beq_iff_eq, bne_iff_ne] at hg4
                  refine wl (wl_skip hl rfl ⟨_, _, rfl, rfl, rfl⟩ ?_)
                  clear hl a; intro a hl
                  refine wl (wl_skip hl rfl ⟨_, _, rfl, rfl, rfl⟩ ?_)
                  clear hl a; intro a hl
                  refine wl (wl_skip hl rfl ⟨_, _, rfl, rfl, rfl⟩ ?_)
                  clear hl a; intro a hl
                  refine wl (wl_skip hl rfl ⟨_, _, rfl, rfl, rfl⟩ ?_)
                  clear hl a; intro a hl
                  refine wl (wl_skip hl rfl ⟨_, _, rfl, rfl, rfl⟩ ?_)
                  clear hl a; intro a hl
                  refine wl (wl_skip hl rfl ⟨_, _, rfl, rfl, rfl⟩ ?_)
                  clear hl a; intro a hl
                  refine wl (wl_val hl rfl trivial (r_pickF hl rfl rfl) ?_)
                  clear hl a; intro a hl
                  refine w_nil ?_
                  have hl2 := hl.add (t := 1) (hl.add (t := 4) (hl.add (t := 10) (hl.add (t := 11) (hl.add (t := 86) (hl.nil) rfl) rfl) rfl) rfl) rfl; clear hl; have hl := hl2; clear hl2
                  refine then_normal ?_
                  refine c_condF hl rfl ?_
                  have hv2e : Sort.scanDown (fun x => !egB x q.d[lo]!) q.d u2 q.j = v2 := by rw [← hd3]; exact dn_stop (fun h9 => by first | omega | (have h8 := h9.2; simp only [show egB q.d[v2]! q.d[lo]! = true by assumption] at h8; cases h8))
                  refine wp_exit ?_
                  refine then_exit ?_
                  refine then_exit ?_
                  refine blk_exit ?_
                  refine then_normal ?_
                  refine c_seq ?_
                  refine c_seq ?_
                  refine c_region ?_
                  refine wl (wl_val hl rfl trivial (r_move hl rfl) ?_)
                  clear hl a; intro a hl
                  refine wl (wl_val hl rfl trivial (r_move hl rfl) ?_)
                  clear hl a; intro a hl
                  refine wl (wl_val hl rfl trivial (r_gtr hl rfl rfl) ?_)
                  clear hl a; intro a hl
                  refine w_nil ?_
                  have hl2 := hl.add (t := 1) (hl.add (t := 4) (hl.add (t := 10) (hl.add (t := 11) (hl.add (t := 91) (hl.nil) rfl) rfl) rfl) rfl) rfl; clear hl; have hl := hl2; clear hl2
                  refine then_normal ?_
                  refine c_cond hl rfl ?_ ?_
                  · intro hc5
                    try simp only [decide_eq_true_eq, decide_eq_false_iff_not, Bool.not_eq_true', Bool.not_eq_false', Bool.not_eq_true, Bool.not_eq_false, Bool.and_eq_true, Bool.or_eq_true, Bool.and_eq_false_iff, Bool.or_eq_false_iff, Bool.not_not, ne_eq, Int.not_lt, Int.not_le, Decidable.not_not, beq_iff_eq, bne_iff_ne] at hc5
                    have hpt := part_F hue hve (by omega) (hq3.symm.trans (pl_stop hu2e hv2e (by omega)))
                    refine wp_exit ?_
                    refine then_exit ?_
                    refine blk_exit_ne rfl ?_
                    refine then_exit ?_
                    refine blk_exit ?_
                    refine then_normal ?_
                    refine c_seq ?_
                    refine c_region ?_
                    refine wl (wl_val hl rfl trivial (r_field hl rfl fld179_1) ?_)
                    clear hl a; intro a hl
                    refine wl (w_load hl hh rfl trivial one173 rfl (by repeat (first | exact find_head | apply find_tail | apply find_skip)) (by first | rfl) ?_)
                    clear hl a; intro a hl
                    refine wl (wl_val hl rfl trivial (r_move hl rfl) ?_)
                    clear hl a; intro a hl
                    refine wl (wl_val hl rfl trivial (r_move hl rfl) ?_)
                    clear hl a; intro a hl
                    refine wl (w_swap (v2) (lo) egc_len (by decide) hl hh rfl trivial rfl rfl (by repeat (first | exact find_head | apply find_tail | apply find_skip)) (hE.swz hq1) (by omega) (by omega) (by omega) (by omega) ?_)
                    clear hl hh a w; intro a w hl hh
                    refine w_nil ?_
                    have hl2 := hl.add (t := 11) (hl.nil) rfl; clear hl; have hl := hl2; clear hl2
                    refine then_normal ?_
                    refine c_seq ?_
                    refine c_region ?_
                    refine wl (wl_val hl rfl trivial (r_move hl rfl) ?_)
                    clear hl a; intro a hl
                    refine wl (wl_val hl rfl trivial (r_assign hl rfl) ?_)
                    clear hl a; intro a hl
                    refine wl (wl_val hl rfl trivial (r_assign hl rfl) ?_)
                    clear hl a; intro a hl
                    refine w_nil ?_
                    have hl2 := hl.add (t := 8) (hl.add (t := 9) (hl.nil) rfl) rfl; clear hl; have hl := hl2; clear hl2
                    refine then_normal ?_
                    refine wp_ret ?_
                    refine f_ret2 (F' := [(b, C (fl egc (Sort.swp q.d v2 lo).toList ++ junk) 102), (Bs, C sL 46)]) hl hh rfl rfl rfl (by repeat (first | exact keeps_nil | apply keeps_cons (by repeat (first | exact find_head | apply find_tail | apply find_skip)) (by first  | rfl) | exact keeps_self | exact keeps_left | apply keeps_app | apply keeps_mv | apply keeps_skip)) ?_
                    rw [hpt]
                    exact ⟨rfl, rfl, by simp only; rw [swp_sz]; exact hq1, by simp only; omega, by simp only; omega⟩
                  · intro hc5
                    try simp only [decide_eq_true_eq, decide_eq_false_iff_not, Bool.not_eq_true', Bool.not_eq_false', Bool.not_eq_true, Bool.not_eq_false, Bool.and_eq_true, Bool.or_eq_true, Bool.and_eq_false_iff, Bool.or_eq_false_iff, Bool.not_not, ne_eq, Int.not_lt, Int.not_le, Decidable.not_not, beq_iff_eq, bne_iff_ne] at hc5
                    refine wp_skip ?_
                    refine then_normal ?_
                    refine c_seq ?_
                    refine c_region ?_
                    refine wl (wl_val hl rfl trivial (r_field hl rfl fld179_1) ?_)
                    clear hl a; intro a hl
                    refine wl (w_load hl hh rfl trivial one173 rfl (by repeat (first | exact find_head | apply find_tail | apply find_skip)) (by first | rfl) ?_)
                    clear hl a; intro a hl
                    refine wl (wl_val hl rfl trivial (r_move hl rfl) ?_)
                    clear hl a; intro a hl
                    refine wl (wl_val hl rfl trivial (r_move hl rfl) ?_)
                    clear hl a; intro a hl
                    refine wl (w_swap (u2) (v2) egc_len (by decide) hl hh rfl trivial rfl rfl (by repeat (first | exact find_head | apply find_tail | apply find_skip)) (hE.swz hq1) (by omega) (by omega) (by omega) (by omega) ?_)
                    clear hl hh a w; intro a w hl hh
                    refine w_nil ?_
                    have hl2 := hl.add (t := 1) (hl.add (t := 4) (hl.add (t := 10) (hl.add (t := 11) (hl.nil) rfl) rfl) rfl) rfl; clear hl; have hl := hl2; clear hl2
                    refine then_normal ?_
                    refine c_seq ?_
                    refine c_region ?_
                    refine wl (wl_val hl rfl trivial (r_move hl rfl) ?_)
                    clear hl a; intro a hl
                    first | refine wl (wl_val hl rfl trivial (r_add hl rfl rfl (by simp only [Fits]; omega)) ?_) | refine wl (wl_val hl rfl trivial (r_addW hl rfl rfl) ?_)
                    clear hl a; intro a hl
                    refine wl (wl_val hl rfl trivial (r_assign hl rfl) ?_)
                    clear hl a; intro a hl
                    refine w_nil ?_
                    have hl2 := hl.add (t := 1) (hl.add (t := 4) (hl.add (t := 10) (hl.add (t := 11) (hl.nil) rfl) rfl) rfl) rfl; clear hl; have hl := hl2; clear hl2
                    refine then_normal ?_
                    refine c_region ?_
                    refine wl (wl_val hl rfl trivial (r_move hl rfl) ?_)
                    clear hl a; intro a hl
                    first | refine wl (wl_val hl rfl trivial (r_sub hl rfl rfl (by simp only [Fits]; omega)) ?_) | refine wl (wl_val hl rfl trivial (r_subW hl rfl rfl) ?_)
                    clear hl a; intro a hl
                    refine wl (wl_val hl rfl trivial (r_assign hl rfl) ?_)
                    clear hl a; intro a hl
                    refine w_nil ?_
                    have hl2 := hl.add (t := 1) (hl.add (t := 4) (hl.add (t := 10) (hl.add (t := 11) (hl.nil) rfl) rfl) rfl) rfl; clear hl; have hl := hl2; clear hl2
                    refine blk_normal ?_
                    refine then_normal ?_
                    refine ⟨⟨Sort.swp q.d u2 v2, u2 + 1, v2 - 1⟩, (by simp only; omega), ⟨by simp only; rw [swp_sz]; exact hq1, ⟨by simp only; omega, by simp only; omega, by simp only; omega⟩, by simp only; rw [← hq3]; exact (pl_go hu2e hv2e (by omega) (by omega) (by omega) (by omega)).symm⟩, hl.addE (t := 10) (hl.addE (t := 11) (hl.addE (t := 1) (hl.addE (t := 4) (hl.nil) rfl (by first | rfl | exact congrArg (Value.int .i64) (by first | omega | (simp only; omega)))) rfl (by first | rfl | exact congrArg (Value.int .i64) (by first | omega | (simp only; omega)))) rfl (by first | rfl | exact congrArg (Value.int .i64) (by first | omega | (simp only; omega)))) rfl (by first | rfl | exact congrArg (Value.int .i64) (by first | omega | (simp only; omega))), hh.keep (by repeat (first | exact keeps_nil | apply keeps_cons (by repeat (first | exact find_head | apply find_tail | apply find_skip)) (by first  | rfl) | exact keeps_self | exact keeps_left | apply keeps_app | apply keeps_mv | apply keeps_skip))⟩
            · intro hg3; clear hl; intro hl
              try simp only [decide_eq_true_eq, decide_eq_false_iff_not, Bool.not_eq_true', Bool.not_eq_false', Bool.not_eq_true, Bool.not_eq_false, Bool.and_eq_true, Bool.or_eq_true, Bool.and_eq_false_iff, Bool.or_eq_false_iff, Bool.not_not, ne_eq, Int.not_lt, Int.not_le, Decidable.not_not, beq_iff_eq, bne_iff_ne] at hg3
              refine wl (wl_skip hl rfl ⟨_, _, rfl, rfl, rfl⟩ ?_)
              clear hl a; intro a hl
              refine wl (wl_skip hl rfl ⟨_, _, rfl, rfl, rfl⟩ ?_)
              clear hl a; intro a hl
              refine wl (wl_skip hl rfl ⟨_, _, rfl, rfl, rfl⟩ ?_)
              clear hl a; intro a hl
              refine wl (wl_skip hl rfl ⟨_, _, rfl, rfl, rfl⟩ ?_)
              clear hl a; intro a hl
              refine wl (wl_skip hl rfl ⟨_, _, rfl, rfl, rfl⟩ ?_)
              clear hl a; intro a hl
              refine wl (wl_val hl rfl trivial (r_pickF hl rfl rfl) ?_)
              clear hl a; intro a hl
              refine w_nil ?_
              have hl2 := hl.add (t := 1) (hl.add (t := 4) (hl.add (t := 10) (hl.add (t := 11) (hl.add (t := 73) (hl.nil) rfl) rfl) rfl) rfl) rfl; clear hl; have hl := hl2; clear hl2
              refine then_normal ?_
              refine c_condF hl rfl ?_
              have hu2e : Sort.scanUp (fun x => egB x q.d[lo]!) q.d q.j q.i = u2 := by rw [← ha3]; exact up_stop (fun h9 => by first | omega | (have h8 := h9.2; simp only [(show egB q.d[u2]! q.d[lo]! = false by assumption)] at h8; cases h8))
              refine wp_exit ?_
              refine then_exit ?_
              refine then_exit ?_
              refine blk_exit ?_
              refine then_normal ?_
              refine c_seq ?_
              refine wp_block ?_
              obtain ⟨KS4, hKS4, hk⟩ := (hl.add (t := 1) (hl.add (t := 4) (hl.add (t := 10) (hl.nil) rfl) rfl) rfl).name
              obtain ⟨HS4, hHS4, hh2⟩ := hh.name (keeps_nil)
              refine c_loop (α := Nat) (fun v2 => v2) (fun v2 a w => (v2 ≤ q.j ∧ (u2 ≤ v2 + 2 ∧ lo ≤ v2) ∧ Sort.scanDown (fun x => !egB x q.d[lo]!) q.d u2 v2 = Sort.scanDown (fun x => !egB x q.d[lo]!) q.d u2 q.j) ∧ Sl 107 ([(11, .int .i64 (v2 : Int))] ++ KS4) a ∧ Has _ w0 ([] ++ HS4) w) q.j ⟨⟨Nat.le_refl _, ⟨by omega, by omega⟩, rfl⟩, hl.addE (t := 11) (hk) rfl (by first | exact congrArg (Value.int .i64) (by first | omega | (simp only; omega)) | rfl), hh2⟩ ?_
              clear hk hh2 hl hh a w
              intro v2 a w hI
              obtain ⟨⟨hd1, hd2, hd3⟩, hl, hh⟩ := hI
              subst hKS4; subst hHS4
              simp only [List.cons_append, List.nil_append, List.append_nil, List.append_assoc] at hl hh
              refine c_seq ?_
              refine c_seq ?_
              refine c_region ?_
              refine wl (wl_val hl rfl trivial (r_move hl rfl) ?_)
              clear hl a; intro a hl
              refine wl (wl_val hl rfl trivial (r_move hl rfl) ?_)
              clear hl a; intro a hl
              refine wl (wl_val hl rfl trivial (r_leq hl rfl rfl) ?_)
              clear hl a; intro a hl
              refine wl (wl_val hl rfl trivial (r_move hl rfl) ?_)
              clear hl a; intro a hl
              refine sl_split (t := 79) hl rfl ?_ ?_
              · intro hg5; clear hl; intro hl
                try simp only [decide_eq_true_eq, decide_eq_false_iff_not, Bool.not_eq_true', Bool.not_eq_false', Bool.not_eq_true, Bool.not_eq_false, Bool.and_eq_true, Bool.or_eq_true, Bool.and_eq_false_iff, Bool.or_eq_false_iff, Bool.not_not, ne_eq, Int.not_lt, Int.not_le, Decidable.not_not, beq_iff_eq, bne_iff_ne] at hg5
                refine wl (wl_val hl rfl ⟨_, _, rfl, rfl, rfl⟩ (r_field hl rfl fld179_0) ?_)
                clear hl a; intro a hl
                refine wl (w_load hl hh rfl ⟨_, _, rfl, rfl, rfl⟩ one144 rfl (by repeat (first | exact find_head | apply find_tail | apply find_skip)) (by first | rfl) ?_)
                clear hl a; intro a hl
                refine wl (wl_val hl rfl ⟨_, _, rfl, rfl, rfl⟩ (r_move hl rfl) ?_)
                clear hl a; intro a hl
                refine wl (wl_val hl rfl ⟨_, _, rfl, rfl, rfl⟩ (r_move hl rfl) ?_)
                clear hl a; intro a hl
                refine wl (w_call hl hh rfl ⟨_, _, rfl, rfl, rfl⟩ rfl cal62 rfl (less_spec (hE.to hq1) _ _ v2 lo (by omega) (by omega) (by omega) (by omega)) (by repeat (first | exact keeps_nil | apply keeps_cons (by repeat (first | exact find_head | apply find_tail | apply find_skip)) (by first  | rfl) | exact keeps_self | exact keeps_left | apply keeps_app | apply keeps_mv | apply keeps_skip)) trivial ?_)
                clear hl hh a w; intro vc Fc a w hR hl hh
                obtain ⟨rfl, rfl⟩ := hR
                try simp only [List.cons_append, List.nil_append, List.append_assoc, List.append_nil] at hh
                refine wl (wl_val hl rfl ⟨_, _, rfl, rfl, rfl⟩ (r_not hl rfl) ?_)
                clear hl a; intro a hl
                refine wl (wl_val hl rfl trivial (r_pickT hl rfl rfl) ?_)
                clear hl a; intro a hl
                refine w_nil ?_
                have hl2 := hl.add (t := 1) (hl.add (t := 4) (hl.add (t := 10) (hl.add (t := 11) (hl.add (t := 86) (hl.nil) rfl) rfl) rfl) rfl) rfl; clear hl; have hl := hl2; clear hl2
                refine then_normal ?_
                refine c_cond hl rfl ?_ ?_
                · intro hc4
                  try simp only [decide_eq_true_eq, decide_eq_false_iff_not, Bool.not_eq_true', Bool.not_eq_false', Bool.not_eq_true, Bool.not_eq_false, Bool.and_eq_true, Bool.or_eq_true, Bool.and_eq_false_iff, Bool.or_eq_false_iff, Bool.not_not, ne_eq, Int.not_lt, Int.not_le, Decidable.not_not, beq_iff_eq, bne_iff_ne] at hc4
                  refine wp_skip ?_
                  refine then_normal ?_
                  refine wp_block ?_
                  refine c_region ?_
                  refine wl (wl_val hl rfl trivial (r_move hl rfl) ?_)
                  clear hl a; intro a hl
                  first | refine wl (wl_val hl rfl trivial (r_sub hl rfl rfl (by simp only [Fits]; omega)) ?_) | refine wl (wl_val hl rfl trivial (r_subW hl rfl rfl) ?_)
                  clear hl a; intro a hl
                  refine wl (wl_val hl rfl trivial (r_assign hl rfl) ?_)
                  clear hl a; intro a hl
                  refine w_nil ?_
                  have hl2 := hl.add (t := 1) (hl.add (t := 4) (hl.add (t := 10) (hl.add (t := 11) (hl.nil) rfl) rfl) rfl) rfl; clear hl; have hl := hl2; clear hl2
                  refine blk_normal ?_
                  refine then_normal ?_
                  refine ⟨(v2 - 1), (by omega), ⟨by omega, ⟨by omega, by omega⟩, by rw [← hd3]; exact (dn_goN (by omega) (by omega) (by assumption)).symm⟩, hl.addE (t := 11) (hl.addE (t := 1) (hl.addE (t := 4) (hl.addE (t := 10) (hl.nil) rfl (by first | rfl | exact congrArg (Value.int .i64) (by first | omega | (simp only; omega)))) rfl (by first | rfl | exact congrArg (Value.int .i64) (by first | omega | (simp only; omega)))) rfl (by first | rfl | exact congrArg (Value.int .i64) (by first | omega | (simp only; omega)))) rfl (by first | rfl | exact congrArg (Value.int .i64) (by first | omega | (simp only; omega))), hh.keep (by repeat (first | exact keeps_nil | apply keeps_cons (by repeat (first | exact find_head | apply find_tail | apply find_skip)) (by first  | rfl) | exact keeps_self | exact keeps_left | apply keeps_app | apply keeps_mv | apply keeps_skip))⟩
                · intro hc4
                  try simp only [decide_eq_true_eq, decide_eq_false_iff_not, Bool.not_eq_true', Bool.not_eq_false', Bool.not_eq_true, Bool.not_eq_false, Bool.and_eq_true, Bool.or_eq_true, Bool.and_eq_false_iff, Bool.or_eq_false_iff, Bool.not_not, ne_eq, Int.not_lt, Int.not_le, Decidable.not_not, beq_iff_eq, bne_iff_ne] at hc4
                  have hv2e : Sort.scanDown (fun x => !egB x q.d[lo]!) q.d u2 q.j = v2 := by rw [← hd3]; exact dn_stop (fun h9 => by first | omega | (have h8 := h9.2; simp only [show egB q.d[v2]! q.d[lo]! = true by assumption] at h8; cases h8))
                  refine wp_exit ?_
                  refine then_exit ?_
                  refine then_exit ?_
                  refine blk_exit ?_
                  refine then_normal ?_
                  refine c_seq ?_
                  refine c_seq ?_
                  refine c_region ?_
                  refine wl (wl_val hl rfl trivial (r_move hl rfl) ?_)
                  clear hl a; intro a hl
                  refine wl (wl_val hl rfl trivial (r_move hl rfl) ?_)
                  clear hl a; intro a hl
                  refine wl (wl_val hl rfl trivial (r_gtr hl rfl rfl) ?_)
                  clear hl a; intro a hl
                  refine w_nil ?_
                  have hl2 := hl.add (t := 1) (hl.add (t := 4) (hl.add (t := 10) (hl.add (t := 11) (hl.add (t := 91) (hl.nil) rfl) rfl) rfl) rfl) rfl; clear hl; have hl := hl2; clear hl2
                  refine then_normal ?_
                  refine c_cond hl rfl ?_ ?_
                  · intro hc5
                    try simp only [decide_eq_true_eq, decide_eq_false_iff_not, Bool.not_eq_true', Bool.not_eq_false', Bool.not_eq_true, Bool.not_eq_false, Bool.and_eq_true, Bool.or_eq_true, Bool.and_eq_false_iff, Bool.or_eq_false_iff, Bool.not_not, ne_eq, Int.not_lt, Int.not_le, Decidable.not_not, beq_iff_eq, bne_iff_ne] at hc5
                    have hpt := part_F hue hve (by omega) (hq3.symm.trans (pl_stop hu2e hv2e (by omega)))
                    refine wp_exit ?_
                    refine then_exit ?_
                    refine blk_exit_ne rfl ?_
                    refine then_exit ?_
                    refine blk_exit ?_
                    refine then_normal ?_
                    refine c_seq ?_
                    refine c_region ?_
                    refine wl (wl_val hl rfl trivial (r_field hl rfl fld179_1) ?_)
                    clear hl a; intro a hl
                    refine wl (w_load hl hh rfl trivial one173 rfl (by repeat (first | exact find_head | apply find_tail | apply find_skip)) (by first | rfl) ?_)
                    clear hl a; intro a hl
                    refine wl (wl_val hl rfl trivial (r_move hl rfl) ?_)
                    clear hl a; intro a hl
                    refine wl (wl_val hl rfl trivial (r_move hl rfl) ?_)
                    clear hl a; intro a hl
                    refine wl (w_swap (v2) (lo) egc_len (by decide) hl hh rfl trivial rfl rfl (by repeat (first | exact find_head | apply find_tail | apply find_skip)) (hE.swz hq1) (by omega) (by omega) (by omega) (by omega) ?_)
                    clear hl hh a w; intro a w hl hh
                    refine w_nil ?_
                    have hl2 := hl.add (t := 11) (hl.nil) rfl; clear hl; have hl := hl2; clear hl2
                    refine then_normal ?_
                    refine c_seq ?_
                    refine c_region ?_
                    refine wl (wl_val hl rfl trivial (r_move hl rfl) ?_)
                    clear hl a; intro a hl
                    refine wl (wl_val hl rfl trivial (r_assign hl rfl) ?_)
                    clear hl a; intro a hl
                    refine wl (wl_val hl rfl trivial (r_assign hl rfl) ?_)
                    clear hl a; intro a hl
                    refine w_nil ?_
                    have hl2 := hl.add (t := 8) (hl.add (t := 9) (hl.nil) rfl) rfl; clear hl; have hl := hl2; clear hl2
                    refine then_normal ?_
                    refine wp_ret ?_
                    refine f_ret2 (F' := [(b, C (fl egc (Sort.swp q.d v2 lo).toList ++ junk) 102), (Bs, C sL 46)]) hl hh rfl rfl rfl (by repeat (first | exact keeps_nil | apply keeps_cons (by repeat (first | exact find_head | apply find_tail | apply find_skip)) (by first  | rfl) | exact keeps_self | exact keeps_left | apply keeps_app | apply keeps_mv | apply keeps_skip)) ?_
                    rw [hpt]
                    exact ⟨rfl, rfl, by simp only; rw [swp_sz]; exact hq1, by simp only; omega, by simp only; omega⟩
                  · intro hc5
                    try simp only [decide_eq_true_eq, decide_eq_false_iff_not, Bool.not_eq_true', Bool.not_eq_false', Bool.not_eq_true, Bool.not_eq_false, Bool.and_eq_true, Bool.or_eq_true, Bool.and_eq_false_iff, Bool.or_eq_false_iff, Bool.not_not, ne_eq, Int.not_lt, Int.not_le, Decidable.not_not, beq_iff_eq, bne_iff_ne] at hc5
                    refine wp_skip ?_
                    refine then_normal ?_
                    refine c_seq ?_
                    refine c_region ?_
                    refine wl (wl_val hl rfl trivial (r_field hl rfl fld179_1) ?_)
                    clear hl a; intro a hl
                    refine wl (w_load hl hh rfl trivial one173 rfl (by repeat (first | exact find_head | apply find_tail | apply find_skip)) (by first | rfl) ?_)
                    clear hl a; intro a hl
                    refine wl (wl_val hl rfl trivial (r_move hl rfl) ?_)
                    clear hl a; intro a hl
                    refine wl (wl_val hl rfl trivial (r_move hl rfl) ?_)
                    clear hl a; intro a hl
                    refine wl (w_swap (u2) (v2) egc_len (by decide) hl hh rfl trivial rfl rfl (by repeat (first | exact find_head | apply find_tail | apply find_skip)) (hE.swz hq1) (by omega) (by omega) (by omega) (by omega) ?_)
                    clear hl hh a w; intro a w hl hh
                    refine w_nil ?_
                    have hl2 := hl.add (t := 1) (hl.add (t := 4) (hl.add (t := 10) (hl.add (t := 11) (hl.nil) rfl) rfl) rfl) rfl; clear hl; have hl := hl2; clear hl2
                    refine then_normal ?_
                    refine c_seq ?_
                    refine c_region ?_
                    refine wl (wl_val hl rfl trivial (r_move hl rfl) ?_)
                    clear hl a; intro a hl
                    first | refine wl (wl_val hl rfl trivial (r_add hl rfl rfl (by simp only [Fits]; omega)) ?_) | refine wl (wl_val hl rfl trivial (r_addW hl rfl rfl) ?_)
                    clear hl a; intro a hl
                    refine wl (wl_val hl rfl trivial (r_assign hl rfl) ?_)
                    clear hl a; intro a hl
                    refine w_nil ?_
                    have hl2 := hl.add (t := 1) (hl.add (t := 4) (hl.add (t := 10) (hl.add (t := 11) (hl.nil) rfl) rfl) rfl) rfl; clear hl; have hl := hl2; clear hl2
                    refine then_normal ?_
                    refine c_region ?_
                    refine wl (wl_val hl rfl trivial (r_move hl rfl) ?_)
                    clear hl a; intro a hl
                    first | refine wl (wl_val hl rfl trivial (r_sub hl rfl rfl (by simp only [Fits]; omega)) ?_) | refine wl (wl_val hl rfl trivial (r_subW hl rfl rfl) ?_)
                    clear hl a; intro a hl
                    refine wl (wl_val hl rfl trivial (r_assign hl rfl) ?_)
                    clear hl a; intro a hl
                    refine w_nil ?_
                    have hl2 := hl.add (t := 1) (hl.add (t := 4) (hl.add (t := 10) (hl.add (t := 11) (hl.nil) rfl) rfl) rfl) rfl; clear hl; have hl := hl2; clear hl2
                    refine blk_normal ?_
                    refine then_normal ?_
                    refine ⟨⟨Sort.swp q.d u2 v2, u2 + 1, v2 - 1⟩, (by simp only; omega), ⟨by simp only; rw [swp_sz]; exact hq1, ⟨by simp only; omega, by simp only; omega, by simp only; omega⟩, by simp only; rw [← hq3]; exact (pl_go hu2e hv2e (by omega) (by omega) (by omega) (by omega)).symm⟩, hl.addE (t := 10) (hl.addE (t := 11) (hl.addE (t := 1) (hl.addE (t := 4) (hl.nil) rfl (by first | rfl | exact congrArg (Value.int .i64) (by first | omega | (simp only; omega)))) rfl (by first | rfl | exact congrArg (Value.int .i64) (by first | omega | (simp only; omega)))) rfl (by first | rfl | exact congrArg (Value.int .i64) (by first | omega | (simp only; omega)))) rfl (by first | rfl | exact congrArg (Value.int .i64) (by first | omega | (simp only; omega))), hh.keep (by repeat (first | exact keeps_nil | apply keeps_cons (by repeat (first | exact find_head | apply find_tail | apply find_skip)) (by first  | rfl) | exact keeps_self | exact keeps_left | apply keeps_app | apply keeps_mv | apply keeps_skip))⟩
              · intro hg5; clear hl; intro hl
                try simp only [decide_eq_true_eq, decide_eq_false_iff_not, Bool.not_eq_true', Bool.not_eq_false', Bool.not_eq_true, Bool.not_eq_false, Bool.and_eq_true, Bool.or_eq_true, Bool.and_eq_false_iff, Bool.or_eq_false_iff, Bool.not_not, ne_eq, Int.not_lt, Int.not_le, Decidable.not_not, beq_iff_eq, bne_iff_ne] at hg5
                refine wl (wl_skip hl rfl ⟨_, _, rfl, rfl, rfl⟩ ?_)
                clear hl a; intro a hl
                refine wl (wl_skip hl rfl ⟨_, _, rfl, rfl, rfl⟩ ?_)
                clear hl a; intro a hl
                refine wl (wl_skip hl rfl ⟨_, _, rfl, rfl, rfl⟩ ?_)
                clear hl a; intro a hl
                refine wl (wl_skip hl rfl ⟨_, _, rfl, rfl, rfl⟩ ?_)
                clear hl a; intro a hl
                refine wl (wl_skip hl rfl ⟨_, _, rfl, rfl, rfl⟩ ?_)
                clear hl a; intro a hl
                refine wl (wl_skip hl rfl ⟨_, _, rfl, rfl, rfl⟩ ?_)
                clear hl a; intro a hl
                refine wl (wl_val hl rfl trivial (r_pickF hl rfl rfl) ?_)
                clear hl a; intro a hl
                refine w_nil ?_
                have hl2 := hl.add (t := 1) (hl.add (t := 4) (hl.add (t := 10) (hl.add (t := 11) (hl.add (t := 86) (hl.nil) rfl) rfl) rfl) rfl) rfl; clear hl; have hl := hl2; clear hl2
                refine then_normal ?_
                refine c_condF hl rfl ?_
                have hv2e : Sort.scanDown (fun x => !egB x q.d[lo]!) q.d u2 q.j = v2 := by rw [← hd3]; exact dn_stop (fun h9 => by first | omega | (have h8 := h9.2; simp only [show egB q.d[v2]! q.d[lo]! = true by assumption] at h8; cases h8))
                refine wp_exit ?_
                refine then_exit ?_
                refine then_exit ?_
                refine blk_exit ?_
                refine then_normal ?_
                refine c_seq ?_
                refine c_seq ?_
                refine c_region ?_
                refine wl (wl_val hl rfl trivial (r_move hl rfl) ?_)
                clear hl a; intro a hl
                refine wl (wl_val hl rfl trivial (r_move hl rfl) ?_)
                clear hl a; intro a hl
                refine wl (wl_val hl rfl trivial (r_gtr hl rfl rfl) ?_)
                clear hl a; intro a hl
                refine w_nil ?_
                have hl2 := hl.add (t := 1) (hl.add (t := 4) (hl.add (t := 10) (hl.add (t := 11) (hl.add (t := 91) (hl.nil) rfl) rfl) rfl) rfl) rfl; clear hl; have hl := hl2; clear hl2
                refine then_normal ?_
                refine c_cond hl rfl ?_ ?_
                · intro hc5
                  try simp only [decide_eq_true_eq, decide_eq_false_iff_not, Bool.not_eq_true', Bool.not_eq_false', Bool.not_eq_true, Bool.not_eq_false, Bool.and_eq_true, Bool.or_eq_true, Bool.and_eq_false_iff, Bool.or_eq_false_iff, Bool.not_not, ne_eq, Int.not_lt, Int.not_le, Decidable.not_not, beq_iff_eq, bne_iff_ne] at hc5
                  have hpt := part_F hue hve (by omega) (hq3.symm.trans (pl_stop hu2e hv2e (by omega)))
                  refine wp_exit ?_
                  refine then_exit ?_
                  refine blk_exit_ne rfl ?_
                  refine then_exit ?_
                  refine blk_exit ?_
                  refine then_normal ?_
                  refine c_seq ?_
                  refine c_region ?_
                  refine wl (wl_val hl rfl trivial (r_field hl rfl fld179_1) ?_)
                  clear hl a; intro a hl
                  refine wl (w_load hl hh rfl trivial one173 rfl (by repeat (first | exact find_head | apply find_tail | apply find_skip)) (by first | rfl) ?_)
                  clear hl a; intro a hl
                  refine wl (wl_val hl rfl trivial (r_move hl rfl) ?_)
                  clear hl a; intro a hl
                  refine wl (wl_val hl rfl trivial (r_move hl rfl) ?_)
                  clear hl a; intro a hl
                  refine wl (w_swap (v2) (lo) egc_len (by decide) hl hh rfl trivial rfl rfl (by repeat (first | exact find_head | apply find_tail | apply find_skip)) (hE.swz hq1) (by omega) (by omega) (by omega) (by omega) ?_)
                  clear hl hh a w; intro a w hl hh
                  refine w_nil ?_
                  have hl2 := hl.add (t := 11) (hl.nil) rfl; clear hl; have hl := hl2; clear hl2
                  refine then_normal ?_
                  refine c_seq ?_
                  refine c_region ?_
                  refine wl (wl_val hl rfl trivial (r_move hl rfl) ?_)
                  clear hl a; intro a hl
                  refine wl (wl_val hl rfl trivial (r_assign hl rfl) ?_)
                  clear hl a; intro a hl
                  refine wl (wl_val hl rfl trivial (r_assign hl rfl) ?_)
                  clear hl a; intro a hl
                  refine w_nil ?_
                  have hl2 := hl.add (t := 8) (hl.add (t := 9) (hl.nil) rfl) rfl; clear hl; have hl := hl2; clear hl2
                  refine then_normal ?_
                  refine wp_ret ?_
                  refine f_ret2 (F' := [(b, C (fl egc (Sort.swp q.d v2 lo).toList ++ junk) 102), (Bs, C sL 46)]) hl hh rfl rfl rfl (by repeat (first | exact keeps_nil | apply keeps_cons (by repeat (first | exact find_head | apply find_tail | apply find_skip)) (by first  | rfl) | exact keeps_self | exact keeps_left | apply keeps_app | apply keeps_mv | apply keeps_skip)) ?_
                  rw [hpt]
                  exact ⟨rfl, rfl, by simp only; rw [swp_sz]; exact hq1, by simp only; omega, by simp only; omega⟩
                · intro hc5
                  try simp only [decide_eq_true_eq, decide_eq_false_iff_not, Bool.not_eq_true', Bool.not_eq_false', Bool.not_eq_true, Bool.not_eq_false, Bool.and_eq_true, Bool.or_eq_true, Bool.and_eq_false_iff, Bool.or_eq_false_iff, Bool.not_not, ne_eq, Int.not_lt, Int.not_le, Decidable.not_not, beq_iff_eq, bne_iff_ne] at hc5
                  refine wp_skip ?_
                  refine then_normal ?_
                  refine c_seq ?_
                  refine c_region ?_
                  refine wl (wl_val hl rfl trivial (r_field hl rfl fld179_1) ?_)
                  clear hl a; intro a hl
                  refine wl (w_load hl hh rfl trivial one173 rfl (by repeat (first | exact find_head | apply find_tail | apply find_skip)) (by first | rfl) ?_)
                  clear hl a; intro a hl
                  refine wl (wl_val hl rfl trivial (r_move hl rfl) ?_)
                  clear hl a; intro a hl
                  refine wl (wl_val hl rfl trivial (r_move hl rfl) ?_)
                  clear hl a; intro a hl
                  refine wl (w_swap (u2) (v2) egc_len (by decide) hl hh rfl trivial rfl rfl (by repeat (first | exact find_head | apply find_tail | apply find_skip)) (hE.swz hq1) (by omega) (by omega) (by omega) (by omega) ?_)
                  clear hl hh a w; intro a w hl hh
                  refine w_nil ?_
                  have hl2 := hl.add (t := 1) (hl.add (t := 4) (hl.add (t := 10) (hl.add (t := 11) (hl.nil) rfl) rfl) rfl) rfl; clear hl; have hl := hl2; clear hl2
                  refine then_normal ?_
                  refine c_seq ?_
                  refine c_region ?_
                  refine wl (wl_val hl rfl trivial (r_move hl rfl) ?_)
                  clear hl a; intro a hl
                  first | refine wl (wl_val hl rfl trivial (r_add hl rfl rfl (by simp only [Fits]; omega)) ?_) | refine wl (wl_val hl rfl trivial (r_addW hl rfl rfl) ?_)
                  clear hl a; intro a hl
                  refine wl (wl_val hl rfl trivial (r_assign hl rfl) ?_)
                  clear hl a; intro a hl
                  refine w_nil ?_
                  have hl2 := hl.add (t := 1) (hl.add (t := 4) (hl.add (t := 10) (hl.add (t := 11) (hl.nil) rfl) rfl) rfl) rfl; clear hl; have hl := hl2; clear hl2
                  refine then_normal ?_
                  refine c_region ?_
                  refine wl (wl_val hl rfl trivial (r_move hl rfl) ?_)
                  clear hl a; intro a hl
                  first | refine wl (wl_val hl rfl trivial (r_sub hl rfl rfl (by simp only [Fits]; omega)) ?_) | refine wl (wl_val hl rfl trivial (r_subW hl rfl rfl) ?_)
                  clear hl a; intro a hl
                  refine wl (wl_val hl rfl trivial (r_assign hl rfl) ?_)
                  clear hl a; intro a hl
                  refine w_nil ?_
                  have hl2 := hl.add (t := 1) (hl.add (t := 4) (hl.add (t := 10) (hl.add (t := 11) (hl.nil) rfl) rfl) rfl) rfl; clear hl; have hl := hl2; clear hl2
                  refine blk_normal ?_
                  refine then_normal ?_
                  refine ⟨⟨Sort.swp q.d u2 v2, u2 + 1, v2 - 1⟩, (by simp only; omega), ⟨by simp only; rw [swp_sz]; exact hq1, ⟨by simp only; omega, by simp only; omega, by simp only; omega⟩, by simp only; rw [← hq3]; exact (pl_go hu2e hv2e (by omega) (by omega) (by omega) (by omega)).symm⟩, hl.addE (t := 10) (hl.addE (t := 11) (hl.addE (t := 1) (hl.addE (t := 4) (hl.nil) rfl (by first | rfl | exact congrArg (Value.int .i64) (by first | omega | (simp only; omega)))) rfl (by first | rfl | exact congrArg (Value.int .i64) (by first | omega | (simp only; omega)))) rfl (by first | rfl | exact congrArg (Value.int .i64) (by first | omega | (simp only; omega)))) rfl (by first | rfl | exact congrArg (Value.int .i64) (by first | omega | (simp only; omega))), hh.keep (by repeat (first | exact keeps_nil | apply keeps_cons (by repeat (first | exact find_head | apply find_tail | apply find_skip)) (by first  | rfl) | exact keeps_self | exact keeps_left | apply keeps_app | apply keeps_mv | apply keeps_skip))⟩
      · intro hg2; clear hl; intro hl
        try simp only [decide_eq_true_eq, decide_eq_false_iff_not, Bool.not_eq_true', Bool.not_eq_false', Bool.not_eq_true, Bool.not_eq_false, Bool.and_eq_true, Bool.or_eq_true, Bool.and_eq_false_iff, Bool.or_eq_false_iff, Bool.not_not, ne_eq, Int.not_lt, Int.not_le, Decidable.not_not, beq_iff_eq, bne_iff_ne] at hg2
        refine wl (wl_skip hl rfl ⟨_, _, rfl, rfl, rfl⟩ ?_)
        clear hl a; intro a hl
        refine wl (wl_skip hl rfl ⟨_, _, rfl, rfl, rfl⟩ ?_)
        clear hl a; intro a hl
        refine wl (wl_skip hl rfl ⟨_, _, rfl, rfl, rfl⟩ ?_)
        clear hl a; intro a hl
        refine wl (wl_skip hl rfl ⟨_, _, rfl, rfl, rfl⟩ ?_)
        clear hl a; intro a hl
        refine wl (wl_skip hl rfl ⟨_, _, rfl, rfl, rfl⟩ ?_)
        clear hl a; intro a hl
        refine wl (wl_skip hl rfl ⟨_, _, rfl, rfl, rfl⟩ ?_)
        clear hl a; intro a hl
        refine wl (wl_val hl rfl trivial (r_pickF hl rfl rfl) ?_)
        clear hl a; intro a hl
        refine w_nil ?_
        have hl2 := hl.add (t := 1) (hl.add (t := 4) (hl.add (t := 10) (hl.add (t := 11) (hl.add (t := 43) (hl.nil) rfl) rfl) rfl) rfl) rfl; clear hl; have hl := hl2; clear hl2
        refine then_normal ?_
        refine c_condF hl rfl ?_
        have hve : Sort.scanDown (fun x => !egB x (Sort.swp d lo pv)[lo]!) (Sort.swp d lo pv) u (hi - 1) = v := by rw [← hv3]; exact dn_stop (fun h9 => by first | omega | (have h8 := h9.2; simp only [show egB (Sort.swp d lo pv)[v]! (Sort.swp d lo pv)[lo]! = true by assumption] at h8; cases h8))
        refine wp_exit ?_
        refine then_exit ?_
        refine then_exit ?_
        refine blk_exit ?_
        refine then_normal ?_
        refine c_seq ?_
        refine c_seq ?_
        refine c_region ?_
        refine wl (wl_val hl rfl trivial (r_move hl rfl) ?_)
        clear hl a; intro a hl
        refine wl (wl_val hl rfl trivial (r_move hl rfl) ?_)
        clear hl a; intro a hl
        refine wl (wl_val hl rfl trivial (r_gtr hl rfl rfl) ?_)
        clear hl a; intro a hl
        refine w_nil ?_
        have hl2 := hl.add (t := 1) (hl.add (t := 4) (hl.add (t := 10) (hl.add (t := 11) (hl.add (t := 48) (hl.nil) rfl) rfl) rfl) rfl) rfl; clear hl; have hl := hl2; clear hl2
        refine then_normal ?_
        refine c_cond hl rfl ?_ ?_
        · intro hc2
          try simp only [decide_eq_true_eq, decide_eq_false_iff_not, Bool.not_eq_true', Bool.not_eq_false', Bool.not_eq_true, Bool.not_eq_false, Bool.and_eq_true, Bool.or_eq_true, Bool.and_eq_false_iff, Bool.or_eq_false_iff, Bool.not_not, ne_eq, Int.not_lt, Int.not_le, Decidable.not_not, beq_iff_eq, bne_iff_ne] at hc2
          have hpt := part_T hue hve (by omega)
          refine c_seq ?_
          refine c_region ?_
          refine wl (wl_val hl rfl trivial (r_field hl rfl fld179_1) ?_)
          clear hl a; intro a hl
          refine wl (w_load hl hh rfl trivial one173 rfl (by repeat (first | exact find_head | apply find_tail | apply find_skip)) (by first | rfl) ?_)
          clear hl a; intro a hl
          refine wl (wl_val hl rfl trivial (r_move hl rfl) ?_)
          clear hl a; intro a hl
          refine wl (wl_val hl rfl trivial (r_move hl rfl) ?_)
          clear hl a; intro a hl
          refine wl (w_swap (v) (lo) egc_len (by decide) hl hh rfl trivial rfl rfl (by repeat (first | exact find_head | apply find_tail | apply find_skip)) (hE.swz hs0) (by omega) (by omega) (by omega) (by omega) ?_)
          clear hl hh a w; intro a w hl hh
          refine w_nil ?_
          have hl2 := hl.add (t := 11) (hl.nil) rfl; clear hl; have hl := hl2; clear hl2
          refine then_normal ?_
          refine c_seq ?_
          refine c_region ?_
          refine wl (wl_val hl rfl trivial (r_move hl rfl) ?_)
          clear hl a; intro a hl
          refine wl (wl_val hl rfl trivial (r_assign hl rfl) ?_)
          clear hl a; intro a hl
          refine wl (wl_val hl rfl trivial (r_assign hl rfl) ?_)
          clear hl a; intro a hl
          refine w_nil ?_
          have hl2 := hl.add (t := 8) (hl.add (t := 9) (hl.nil) rfl) rfl; clear hl; have hl := hl2; clear hl2
          refine then_normal ?_
          refine wp_ret ?_
          refine then_ret ?_
          refine f_ret2 (F' := [(b, C (fl egc (Sort.swp (Sort.swp d lo pv) v lo).toList ++ junk) 102), (Bs, C sL 46)]) hl hh rfl rfl rfl (by repeat (first | exact keeps_nil | apply keeps_cons (by repeat (first | exact find_head | apply find_tail | apply find_skip)) (by first  | rfl) | exact keeps_self | exact keeps_left | apply keeps_app | apply keeps_mv | apply keeps_skip)) ?_
          rw [hpt]
          exact ⟨rfl, rfl, by simp only; rw [swp_sz]; exact hs0, by simp only; omega, by simp only; omega⟩
        · intro hc2
          try simp only [decide_eq_true_eq, decide_eq_false_iff_not, Bool.not_eq_true', Bool.not_eq_false', Bool.not_eq_true, Bool.not_eq_false, Bool.and_eq_true, Bool.or_eq_true, Bool.and_eq_false_iff, Bool.or_eq_false_iff, Bool.not_not, ne_eq, Int.not_lt, Int.not_le, Decidable.not_not, beq_iff_eq, bne_iff_ne] at hc2
          refine wp_skip ?_
          refine then_normal ?_
          refine c_seq ?_
          refine c_region ?_
          refine wl (wl_val hl rfl trivial (r_field hl rfl fld179_1) ?_)
          clear hl a; intro a hl
          refine wl (w_load hl hh rfl trivial one173 rfl (by repeat (first | exact find_head | apply find_tail | apply find_skip)) (by first | rfl) ?_)
          clear hl a; intro a hl
          refine wl (wl_val hl rfl trivial (r_move hl rfl) ?_)
          clear hl a; intro a hl
          refine wl (wl_val hl rfl trivial (r_move hl rfl) ?_)
          clear hl a; intro a hl
          refine wl (w_swap (u) (v) egc_len (by decide) hl hh rfl trivial rfl rfl (by repeat (first | exact find_head | apply find_tail | apply find_skip)) (hE.swz hs0) (by omega) (by omega) (by omega) (by omega) ?_)
          clear hl hh a w; intro a w hl hh
          refine w_nil ?_
          have hl2 := hl.add (t := 1) (hl.add (t := 4) (hl.add (t := 10) (hl.add (t := 11) (hl.nil) rfl) rfl) rfl) rfl; clear hl; have hl := hl2; clear hl2
          refine then_normal ?_
          refine c_seq ?_
          refine c_region ?_
          refine wl (wl_val hl rfl trivial (r_move hl rfl) ?_)
          clear hl a; intro a hl
          first | refine wl (wl_val hl rfl trivial (r_add hl rfl rfl (by simp only [Fits]; omega)) ?_) | refine wl (wl_val hl rfl trivial (r_addW hl rfl rfl) ?_)
          clear hl a; intro a hl
          refine wl (wl_val hl rfl trivial (r_assign hl rfl) ?_)
          clear hl a; intro a hl
          refine w_nil ?_
          have hl2 := hl.add (t := 1) (hl.add (t := 4) (hl.add (t := 10) (hl.add (t := 11) (hl.nil) rfl) rfl) rfl) rfl; clear hl; have hl := hl2; clear hl2
          refine then_normal ?_
          refine c_seq ?_
          refine c_region ?_
          refine wl (wl_val hl rfl trivial (r_move hl rfl) ?_)
          clear hl a; intro a hl
          first | refine wl (wl_val hl rfl trivial (r_sub hl rfl rfl (by simp only [Fits]; omega)) ?_) | refine wl (wl_val hl rfl trivial (r_subW hl rfl rfl) ?_)
          clear hl a; intro a hl
          refine wl (wl_val hl rfl trivial (r_assign hl rfl) ?_)
          clear hl a; intro a hl
          refine w_nil ?_
          have hl2 := hl.add (t := 1) (hl.add (t := 4) (hl.add (t := 10) (hl.add (t := 11) (hl.nil) rfl) rfl) rfl) rfl; clear hl; have hl := hl2; clear hl2
          refine then_normal ?_
          refine c_seq ?_
          refine wp_block ?_
          obtain ⟨KS2, hKS2, hk⟩ := (hl.add (t := 1) (hl.add (t := 4) (hl.nil) rfl) rfl).name
          obtain ⟨HS2, hHS2, hh2⟩ := hh.name (keeps_cons (b := b) (o' := C (fl egc (Sort.swp (Sort.swp d lo pv) u v).toList ++ junk) 102) (by repeat (first | exact find_head | apply find_tail | apply find_skip)) (by first | rfl) (keeps_nil))
          refine c_loop (α := PZ3) (fun q => q.j + 2 - q.i) (fun q a w => (q.d.size = n ∧ (lo + 2 ≤ q.i ∧ q.i ≤ q.j + 2 ∧ q.j ≤ hi - 1) ∧ Sort.partLoop egB lo q.i q.j q.d = Sort.partLoop egB lo (u + 1) (v - 1) (Sort.swp (Sort.swp d lo pv) u v)) ∧ Sl 107 ([(10, .int .i64 (q.i : Int)), (11, .int .i64 (q.j : Int))] ++ KS2) a ∧ Has _ w0 ([(b, C (fl egc q.d.toList ++ junk) 102)] ++ HS2) w) ⟨(Sort.swp (Sort.swp d lo pv) u v), u + 1, v - 1⟩ ⟨⟨by simp only; rw [swp_sz]; exact hs0, ⟨by simp only; omega, by simp only; omega, by simp only; omega⟩, rfl⟩, hl.addE (t := 10) (hl.addE (t := 11) (hk) rfl (by first | exact congrArg (Value.int .i64) (by first | omega | (simp only; omega)) | rfl)) rfl (by first | exact congrArg (Value.int .i64) (by first | omega | (simp only; omega)) | rfl), hh2⟩ ?_
          clear hk hh2 hl hh a w
          intro q a w hI
          obtain ⟨⟨hq1, hq2, hq3⟩, hl, hh⟩ := hI
          subst hKS2; subst hHS2
          simp only [List.cons_append, List.nil_append, List.append_nil, List.append_assoc] at hl hh
          refine wp_block ?_
          refine c_seq ?_
          refine wp_block ?_
          obtain ⟨KS3, hKS3, hk⟩ := (hl.add (t := 1) (hl.add (t := 4) (hl.add (t := 11) (hl.nil) rfl) rfl) rfl).name
          obtain ⟨HS3, hHS3, hh2⟩ := hh.name (keeps_nil)
          refine c_loop (α := Nat) (fun u2 => q.j + 2 - u2) (fun u2 a w => (q.i ≤ u2 ∧ u2 ≤ q.j + 2 ∧ Sort.scanUp (fun x => egB x q.d[lo]!) q.d q.j u2 = Sort.scanUp (fun x => egB x q.d[lo]!) q.d q.j q.i) ∧ Sl 107 ([(10, .int .i64 (u2 : Int))] ++ KS3) a ∧ Has _ w0 ([] ++ HS3) w) q.i ⟨⟨Nat.le_refl _, by omega, rfl⟩, hl.addE (t := 10) (hk) rfl (by first | exact congrArg (Value.int .i64) (by first | omega | (simp only; omega)) | rfl), hh2⟩ ?_
          clear hk hh2 hl hh a w
          intro u2 a w hI
          obtain ⟨⟨ha1, ha2, ha3⟩, hl, hh⟩ := hI
          subst hKS3; subst hHS3
          simp only [List.cons_append, List.nil_append, List.append_nil, List.append_assoc] at hl hh
          refine c_seq ?_
          refine c_seq ?_
          refine c_region ?_
          refine wl (wl_val hl rfl trivial (r_move hl rfl) ?_)
          clear hl a; intro a hl
          refine wl (wl_val hl rfl trivial (r_move hl rfl) ?_)
          clear hl a; intro a hl
          refine wl (wl_val hl rfl trivial (r_leq hl rfl rfl) ?_)
          clear hl a; intro a hl
          refine wl (wl_val hl rfl trivial (r_move hl rfl) ?_)
          clear hl a; intro a hl
          refine sl_split (t := 67) hl rfl ?_ ?_
          · intro hg6; clear hl; intro hl
            try simp only [decide_eq_true_eq, decide_eq_false_iff_not, Bool.not_eq_true', Bool.not_eq_false', Bool.not_eq_true, Bool.not_eq_false, Bool.and_eq_true, Bool.or_eq_true, Bool.and_eq_false_iff, Bool.or_eq_false_iff, Bool.not_not, ne_eq, Int.not_lt, Int.not_le, Decidable.not_not, beq_iff_eq, bne_iff_ne] at hg6
            refine wl (wl_val hl rfl ⟨_, _, rfl, rfl, rfl⟩ (r_field hl rfl fld179_0) ?_)
            clear hl a; intro a hl
            refine wl (w_load hl hh rfl ⟨_, _, rfl, rfl, rfl⟩ one144 rfl (by repeat (first | exact find_head | apply find_tail | apply find_skip)) (by first | rfl) ?_)
            clear hl a; intro a hl
            refine wl (wl_val hl rfl ⟨_, _, rfl, rfl, rfl⟩ (r_move hl rfl) ?_)
            clear hl a; intro a hl
            refine wl (wl_val hl rfl ⟨_, _, rfl, rfl, rfl⟩ (r_move hl rfl) ?_)
            clear hl a; intro a hl
            refine wl (w_call hl hh rfl ⟨_, _, rfl, rfl, rfl⟩ rfl cal62 rfl (less_spec (hE.to hq1) _ _ u2 lo (by omega) (by omega) (by omega) (by omega)) (by repeat (first | exact keeps_nil | apply keeps_cons (by repeat (first | exact find_head | apply find_tail | apply find_skip)) (by first  | rfl) | exact keeps_self | exact keeps_left | apply keeps_app | apply keeps_mv | apply keeps_skip)) trivial ?_)
            clear hl hh a w; intro vc Fc a w hR hl hh
            obtain ⟨rfl, rfl⟩ := hR
            try simp only [List.cons_append, List.nil_append, List.append_assoc, List.append_nil] at hh
            refine wl (wl_val hl rfl trivial (r_pickT hl rfl rfl) ?_)
            clear hl a; intro a hl
            refine w_nil ?_
            have hl2 := hl.add (t := 1) (hl.add (t := 4) (hl.add (t := 10) (hl.add (t := 11) (hl.add (t := 73) (hl.nil) rfl) rfl) rfl) rfl) rfl; clear hl; have hl := hl2; clear hl2
            refine then_normal ?_
            refine c_cond hl rfl ?_ ?_
            · intro hc3
              try simp only [decide_eq_true_eq, decide_eq_false_iff_not, Bool.not_eq_true', Bool.not_eq_false', Bool.not_eq_true, Bool.not_eq_false, Bool.and_eq_true, Bool.or_eq_true, Bool.and_eq_false_iff, Bool.or_eq_false_iff, Bool.not_not, ne_eq, Int.not_lt, Int.not_le, Decidable.not_not, beq_iff_eq, bne_iff_ne] at hc3
              refine wp_skip ?_
              refine then_normal ?_
              refine wp_block ?_
              refine c_region ?_
              refine wl (wl_val hl rfl trivial (r_move hl rfl) ?_)
              clear hl a; intro a hl
              first | refine wl (wl_val hl rfl trivial (r_add hl rfl rfl (by simp only [Fits]; omega)) ?_) | refine wl (wl_val hl rfl trivial (r_addW hl rfl rfl) ?_)
              clear hl a; intro a hl
              refine wl (wl_val hl rfl trivial (r_assign hl rfl) ?_)
              clear hl a; intro a hl
              refine w_nil ?_
              have hl2 := hl.add (t := 1) (hl.add (t := 4) (hl.add (t := 10) (hl.add (t := 11) (hl.nil) rfl) rfl) rfl) rfl; clear hl; have hl := hl2; clear hl2
              refine blk_normal ?_
              refine then_normal ?_
              refine ⟨(u2 + 1), (by omega), ⟨by omega, by omega, by rw [← ha3]; exact (up_go (by omega) (by assumption)).symm⟩, hl.addE (t := 10) (hl.addE (t := 1) (hl.addE (t := 4) (hl.addE (t := 11) (hl.nil) rfl (by first | rfl | exact congrArg (Value.int .i64) (by first | omega | (simp only; omega)))) rfl (by first | rfl | exact congrArg (Value.int .i64) (by first | omega | (simp only; omega)))) rfl (by first | rfl | exact congrArg (Value.int .i64) (by first | omega | (simp only; omega)))) rfl (by first | rfl | exact congrArg (Value.int .i64) (by first | omega | (simp only; omega))), hh.keep (by repeat (first | exact keeps_nil | apply keeps_cons (by repeat (first | exact find_head | apply find_tail | apply find_skip)) (by first  | rfl) | exact keeps_self | exact keeps_left | apply keeps_app | apply keeps_mv | apply keeps_skip))⟩
            · intro hc3
              try simp only [decide_eq_true_eq, decide_eq_false_iff_not, Bool.not_eq_true', Bool.not_eq_false', Bool.not_eq_true, Bool.not_eq_false, Bool.and_eq_true, Bool.or_eq_true, Bool.and_eq_false_iff, Bool.or_eq_false_iff, Bool.not_not, ne_eq, Int.not_lt, Int.not_le, Decidable.not_not, beq_iff_eq, bne_iff_ne] at hc3
              have hu2e : Sort.scanUp (fun x => egB x q.d[lo]!) q.d q.j q.i = u2 := by rw [← ha3]; exact up_stop (fun h9 => by first | omega | (have h8 := h9.2; simp only [(show egB q.d[u2]! q.d[lo]! = false by assumption)] at h8; cases h8))
              refine wp_exit ?_
              refine then_exit ?_
              refine then_exit ?_
              refine blk_exit ?_
              refine then_normal ?_
              refine c_seq ?_
              refine wp_block ?_
              obtain ⟨KS4, hKS4, hk⟩ := (hl.add (t := 1) (hl.add (t := 4) (hl.add (t := 10) (hl.nil) rfl) rfl) rfl).name
              obtain ⟨HS4, hHS4, hh2⟩ := hh.name (keeps_nil)
              refine c_loop (α := Nat) (fun v2 => v2) (fun v2 a w => (v2 ≤ q.j ∧ (u2 ≤ v2 + 2 ∧ lo ≤ v2) ∧ Sort.scanDown (fun x => !egB x q.d[lo]!) q.d u2 v2 = Sort.scanDown (fun x => !egB x q.d[lo]!) q.d u2 q.j) ∧ Sl 107 ([(11, .int .i64 (v2 : Int))] ++ KS4) a ∧ Has _ w0 ([] ++ HS4) w) q.j ⟨⟨Nat.le_refl _, ⟨by omega, by omega⟩, rfl⟩, hl.addE (t := 11) (hk) rfl (by first | exact congrArg (Value.int .i64) (by first | omega | (simp only; omega)) | rfl), hh2⟩ ?_
              clear hk hh2 hl hh a w
              intro v2 a w hI
              obtain ⟨⟨hd1, hd2, hd3⟩, hl, hh⟩ := hI
              subst hKS4; subst hHS4
              simp only [List.cons_append, List.nil_append, List.append_nil, List.append_assoc] at hl hh
              refine c_seq ?_
              refine c_seq ?_
              refine c_region ?_
              refine wl (wl_val hl rfl trivial (r_move hl rfl) ?_)
              clear hl a; intro a hl
              refine wl (wl_val hl rfl trivial (r_move hl rfl) ?_)
              clear hl a; intro a hl
              refine wl (wl_val hl rfl trivial (r_leq hl rfl rfl) ?_)
              clear hl a; intro a hl
              refine wl (wl_val hl rfl trivial (r_move hl rfl) ?_)
              clear hl a; intro a hl
              refine sl_split (t := 79) hl rfl ?_ ?_
              · intro hg7; clear hl; intro hl
                try simp only [decide_eq_true_eq, decide_eq_false_iff_not, Bool.not_eq_true', Bool.not_eq_false', Bool.not_eq_true, Bool.not_eq_false, Bool.and_eq_true, Bool.or_eq_true, Bool.and_eq_false_iff, Bool.or_eq_false_iff, Bool.not_not, ne_eq, Int.not_lt, Int.not_le, Decidable.not_not, beq_iff_eq, bne_iff_ne] at hg7
                refine wl (wl_val hl rfl ⟨_, _, rfl, rfl, rfl⟩ (r_field hl rfl fld179_0) ?_)
                clear hl a; intro a hl
                refine wl (w_load hl hh rfl ⟨_, _, rfl, rfl, rfl⟩ one144 rfl (by repeat (first | exact find_head | apply find_tail | apply find_skip)) (by first | rfl) ?_)
                clear hl a; intro a hl
                refine wl (wl_val hl rfl ⟨_, _, rfl, rfl, rfl⟩ (r_move hl rfl) ?_)
                clear hl a; intro a hl
                refine wl (wl_val hl rfl ⟨_, _, rfl, rfl, rfl⟩ (r_move hl rfl) ?_)
                clear hl a; intro a hl
                refine wl (w_call hl hh rfl ⟨_, _, rfl, rfl, rfl⟩ rfl cal62 rfl (less_spec (hE.to hq1) _ _ v2 lo (by omega) (by omega) (by omega) (by omega)) (by repeat (first | exact keeps_nil | apply keeps_cons (by repeat (first | exact find_head | apply find_tail | apply find_skip)) (by first  | rfl) | exact keeps_self | exact keeps_left | apply keeps_app | apply keeps_mv | apply keeps_skip)) trivial ?_)
                clear hl hh a w; intro vc Fc a w hR hl hh
                obtain ⟨rfl, rfl⟩ := hR
                try simp only [List.cons_append, List.nil_append, List.append_assoc, List.append_nil] at hh
                refine wl (wl_val hl rfl ⟨_, _, rfl, rfl, rfl⟩ (r_not hl rfl) ?_)
                clear hl a; intro a hl
                refine wl (wl_val hl rfl trivial (r_pickT hl rfl rfl) ?_)
                clear hl a; intro a hl
                refine w_nil ?_
                have hl2 := hl.add (t := 1) (hl.add (t := 4) (hl.add (t := 10) (hl.add (t := 11) (hl.add (t := 86) (hl.nil) rfl) rfl) rfl) rfl) rfl; clear hl; have hl := hl2; clear hl2
                refine then_normal ?_
                refine c_cond hl rfl ?_ ?_
                · intro hc4
                  try simp only [decide_eq_true_eq, decide_eq_false_iff_not, Bool.not_eq_true', Bool.not_eq_false', Bool.not_eq_true, Bool.not_eq_false, Bool.and_eq_true, Bool.or_eq_true, Bool.and_eq_false_iff, Bool.or_eq_false_iff, Bool.not_not, ne_eq, Int.not_lt, Int.not_le, Decidable.not_not, beq_iff_eq, bne_iff_ne] at hc4
                  refine wp_skip ?_
                  refine then_normal ?_
                  refine wp_block ?_
                  refine c_region ?_
                  refine wl (wl_val hl rfl trivial (r_move hl rfl) ?_)
                  clear hl a; intro a hl
                  first | refine wl (wl_val hl rfl trivial (r_sub hl rfl rfl (by simp only [Fits]; omega)) ?_) | refine wl (wl_val hl rfl trivial (r_subW hl rfl rfl) ?_)
                  clear hl a; intro a hl
                  refine wl (wl_val hl rfl trivial (r_assign hl rfl) ?_)
                  clear hl a; intro a hl
                  refine w_nil ?_
                  have hl2 := hl.add (t := 1) (hl.add (t := 4) (hl.add (t := 10) (hl.add (t := 11) (hl.nil) rfl) rfl) rfl) rfl; clear hl; have hl := hl2; clear hl2
                  refine blk_normal ?_
                  refine then_normal ?_
                  refine ⟨(v2 - 1), (by omega), ⟨by omega, ⟨by omega, by omega⟩, by rw [← hd3]; exact (dn_goN (by omega) (by omega) (by assumption)).symm⟩, hl.addE (t := 11) (hl.addE (t := 1) (hl.addE (t := 4) (hl.addE (t := 10) (hl.nil) rfl (by first | rfl | exact congrArg (Value.int .i64) (by first | omega | (simp only; omega)))) rfl (by first | rfl | exact congrArg (Value.int .i64) (by first | omega | (simp only; omega)))) rfl (by first | rfl | exact congrArg (Value.int .i64) (by first | omega | (simp only; omega)))) rfl (by first | rfl | exact congrArg (Value.int .i64) (by first | omega | (simp only; omega))), hh.keep (by repeat (first | exact keeps_nil | apply keeps_cons (by repeat (first | exact find_head | apply find_tail | apply find_skip)) (by first  | rfl) | exact keeps_self | exact keeps_left | apply keeps_app | apply keeps_mv | apply keeps_skip))⟩
                · intro hc4
                  try simp only [decide_eq_true_eq, decide_eq_false_iff_not, Bool.not_eq_true', Bool.not_eq_false', Bool.not_eq_true, Bool.not_eq_false, Bool.and_eq_true, Bool.or_eq_true, Bool.and_eq_false_iff, Bool.or_eq_false_iff, Bool.not_not, ne_eq, Int.not_lt, Int.not_le, Decidable.not_not, beq_iff_eq, bne_iff_ne] at hc4
                  have hv2e : Sort.scanDown (fun x => !egB x q.d[lo]!) q.d u2 q.j = v2 := by rw [← hd3]; exact dn_stop (fun h9 => by first | omega | (have h8 := h9.2; simp only [show egB q.d[v2]! q.d[lo]! = true by assumption] at h8; cases h8))
                  refine wp_exit ?_
                  refine then_exit ?_
                  refine then_exit ?_
                  refine blk_exit ?_
                  refine then_normal ?_
                  refine c_seq ?_
                  refine c_seq ?_
                  refine c_region ?_
                  refine wl (wl_val hl rfl trivial (r_move hl rfl) ?_)
                  clear hl a; intro a hl
                  refine wl (wl_val hl rfl trivial (r_move hl rfl) ?_)
                  clear hl a; intro a hl
                  refine wl (wl_val hl rfl trivial (r_gtr hl rfl rfl) ?_)
                  clear hl a; intro a hl
                  refine w_nil ?_
                  have hl2 := hl.add (t := 1) (hl.add (t := 4) (hl.add (t := 10) (hl.add (t := 11) (hl.add (t := 91) (hl.nil) rfl) rfl) rfl) rfl) rfl; clear hl; have hl := hl2; clear hl2
                  refine then_normal ?_
                  refine c_cond hl rfl ?_ ?_
                  · intro hc5
                    try simp only [decide_eq_true_eq, decide_eq_false_iff_not, Bool.not_eq_true', Bool.not_eq_false', Bool.not_eq_true, Bool.not_eq_false, Bool.and_eq_true, Bool.or_eq_true, Bool.and_eq_false_iff, Bool.or_eq_false_iff, Bool.not_not, ne_eq, Int.not_lt, Int.not_le, Decidable.not_not, beq_iff_eq, bne_iff_ne] at hc5
                    have hpt := part_F hue hve (by omega) (hq3.symm.trans (pl_stop hu2e hv2e (by omega)))
                    refine wp_exit ?_
                    refine then_exit ?_
                    refine blk_exit_ne rfl ?_
                    refine then_exit ?_
                    refine blk_exit ?_
                    refine then_normal ?_
                    refine c_seq ?_
                    refine c_region ?_
                    refine wl (wl_val hl rfl trivial (r_field hl rfl fld179_1) ?_)
                    clear hl a; intro a hl
                    refine wl (w_load hl hh rfl trivial one173 rfl (by repeat (first | exact find_head | apply find_tail | apply find_skip)) (by first | rfl) ?_)
                    clear hl a; intro a hl
                    refine wl (wl_val hl rfl trivial (r_move hl rfl) ?_)
                    clear hl a; intro a hl
                    refine wl (wl_val hl rfl trivial (r_move hl rfl) ?_)
                    clear hl a; intro a hl
                    refine wl (w_swap (v2) (lo) egc_len (by decide) hl hh rfl trivial rfl rfl (by repeat (first | exact find_head | apply find_tail | apply find_skip)) (hE.swz hq1) (by omega) (by omega) (by omega) (by omega) ?_)
                    clear hl hh a w; intro a w hl hh
                    refine w_nil ?_
                    have hl2 := hl.add (t := 11) (hl.nil) rfl; clear hl; have hl := hl2; clear hl2
                    refine then_normal ?_
                    refine c_seq ?_
                    refine c_region ?_
                    refine wl (wl_val hl rfl trivial (r_move hl rfl) ?_)
                    clear hl a; intro a hl
                    refine wl (wl_val hl rfl trivial (r_assign hl rfl) ?_)
                    clear hl a; intro a hl
                    refine wl (wl_val hl rfl trivial (r_assign hl rfl) ?_)
                    clear hl a; intro a hl
                    refine w_nil ?_
                    have hl2 := hl.add (t := 8) (hl.add (t := 9) (hl.nil) rfl) rfl; clear hl; have hl := hl2; clear hl2
                    refine then_normal ?_
                    refine wp_ret ?_
                    refine f_ret2 (F' := [(b, C (fl egc (Sort.swp q.d v2 lo).toList ++ junk) 102), (Bs, C sL 46)]) hl hh rfl rfl rfl (by repeat (first | exact keeps_nil | apply keeps_cons (by repeat (first | exact find_head | apply find_tail | apply find_skip)) (by first  | rfl) | exact keeps_self | exact keeps_left | apply keeps_app | apply keeps_mv | apply keeps_skip)) ?_
                    rw [hpt]
                    exact ⟨rfl, rfl, by simp only; rw [swp_sz]; exact hq1, by simp only; omega, by simp only; omega⟩
                  · intro hc5
                    try simp only [decide_eq_true_eq, decide_eq_false_iff_not, Bool.not_eq_true', Bool.not_eq_false', Bool.not_eq_true, Bool.not_eq_false, Bool.and_eq_true, Bool.or_eq_true, Bool.and_eq_false_iff, Bool.or_eq_false_iff, Bool.not_not, ne_eq, Int.not_lt, Int.not_le, Decidable.not_not, beq_iff_eq, bne_iff_ne] at hc5
                    refine wp_skip ?_
                    refine then_normal ?_
                    refine c_seq ?_
                    refine c_region ?_
                    refine wl (wl_val hl rfl trivial (r_field hl rfl fld179_1) ?_)
                    clear hl a; intro a hl
                    refine wl (w_load hl hh rfl trivial one173 rfl (by repeat (first | exact find_head | apply find_tail | apply find_skip)) (by first | rfl) ?_)
                    clear hl a; intro a hl
                    refine wl (wl_val hl rfl trivial (r_move hl rfl) ?_)
                    clear hl a; intro a hl
                    refine wl (wl_val hl rfl trivial (r_move hl rfl) ?_)
                    clear hl a; intro a hl
                    refine wl (w_swap (u2) (v2) egc_len (by decide) hl hh rfl trivial rfl rfl (by repeat (first | exact find_head | apply find_tail | apply find_skip)) (hE.swz hq1) (by omega) (by omega) (by omega) (by omega) ?_)
                    clear hl hh a w; intro a w hl hh
                    refine w_nil ?_
                    have hl2 := hl.add (t := 1) (hl.add (t := 4) (hl.add (t := 10) (hl.add (t := 11) (hl.nil) rfl) rfl) rfl) rfl; clear hl; have hl := hl2; clear hl2
                    refine then_normal ?_
                    refine c_seq ?_
                    refine c_region ?_
                    refine wl (wl_val hl rfl trivial (r_move hl rfl) ?_)
                    clear hl a; intro a hl
                    first | refine wl (wl_val hl rfl trivial (r_add hl rfl rfl (by simp only [Fits]; omega)) ?_) | refine wl (wl_val hl rfl trivial (r_addW hl rfl rfl) ?_)
                    clear hl a; intro a hl
                    refine wl (wl_val hl rfl trivial (r_assign hl rfl) ?_)
                    clear hl a; intro a hl
                    refine w_nil ?_
                    have hl2 := hl.add (t := 1) (hl.add (t := 4) (hl.add (t := 10) (hl.add (t := 11) (hl.nil) rfl) rfl) rfl) rfl; clear hl; have hl := hl2; clear hl2
                    refine then_normal ?_
                    refine c_region ?_
                    refine wl (wl_val hl rfl trivial (r_move hl rfl) ?_)
                    clear hl a; intro a hl
                    first | refine wl (wl_val hl rfl trivial (r_sub hl rfl rfl (by simp only [Fits]; omega)) ?_) | refine wl (wl_val hl rfl trivial (r_subW hl rfl rfl) ?_)
                    clear hl a; intro a hl
                    refine wl (wl_val hl rfl trivial (r_assign hl rfl) ?_)
                    clear hl a; intro a hl
                    refine w_nil ?_
                    have hl2 := hl.add (t := 1) (hl.add (t := 4) (hl.add (t := 10) (hl.add (t := 11) (hl.nil) rfl) rfl) rfl) rfl; clear hl; have hl := hl2; clear hl2
                    refine blk_normal ?_
                    refine then_normal ?_
                    refine ⟨⟨Sort.swp q.d u2 v2, u2 + 1, v2 - 1⟩, (by simp only; omega), ⟨by simp only; rw [swp_sz]; exact hq1, ⟨by simp only; omega, by simp only; omega, by simp only; omega⟩, by simp only; rw [← hq3]; exact (pl_go hu2e hv2e (by omega) (by omega) (by omega) (by omega)).symm⟩, hl.addE (t := 10) (hl.addE (t := 11) (hl.addE (t := 1) (hl.addE (t := 4) (hl.nil) rfl (by first | rfl | exact congrArg (Value.int .i64) (by first | omega | (simp only; omega)))) rfl (by first | rfl | exact congrArg (Value.int .i64) (by first | omega | (simp only; omega)))) rfl (by first | rfl | exact congrArg (Value.int .i64) (by first | omega | (simp only; omega)))) rfl (by first | rfl | exact congrArg (Value.int .i64) (by first | omega | (simp only; omega))), hh.keep (by repeat (first | exact keeps_nil | apply keeps_cons (by repeat (first | exact find_head | apply find_tail | apply find_skip)) (by first  | rfl) | exact keeps_self | exact keeps_left | apply keeps_app | apply keeps_mv | apply keeps_skip))⟩
              · intro hg7; clear hl; intro hl
                try simp only [decide_eq_true_eq, decide_eq_false_iff_not, Bool.not_eq_true', Bool.not_eq_false', Bool.not_eq_true, Bool.not_eq_false, Bool.and_eq_true, Bool.or_eq_true, Bool.and_eq_false_iff, Bool.or_eq_false_iff, Bool.not_not, ne_eq, Int.not_lt, Int.not_le, Decidable.not_not, beq_iff_eq, bne_iff_ne] at hg7
                refine wl (wl_skip hl rfl ⟨_, _, rfl, rfl, rfl⟩ ?_)
                clear hl a; intro a hl
                refine wl (wl_skip hl rfl ⟨_, _, rfl, rfl, rfl⟩ ?_)
                clear hl a; intro a hl
                refine wl (wl_skip hl rfl ⟨_, _, rfl, rfl, rfl⟩ ?_)
                clear hl a; intro a hl
                refine wl (wl_skip hl rfl ⟨_, _, rfl, rfl, rfl⟩ ?_)
                clear hl a; intro a hl
                refine wl (wl_skip hl rfl ⟨_, _, rfl, rfl, rfl⟩ ?_)
                clear hl a; intro a hl
                refine wl (wl_skip hl rfl ⟨_, _, rfl, rfl, rfl⟩ ?_)
                clear hl a; intro a hl
                refine wl (wl_val hl rfl trivial (r_pickF hl rfl rfl) ?_)
                clear hl a; intro a hl
                refine w_nil ?_
                have hl2 := hl.add (t := 1) (hl.add (t := 4) (hl.add (t := 10) (hl.add (t := 11) (hl.add (t := 86) (hl.nil) rfl) rfl) rfl) rfl) rfl; clear hl; have hl := hl2; clear hl2
                refine then_normal ?_
                refine c_condF hl rfl ?_
                have hv2e : Sort.scanDown (fun x => !egB x q.d[lo]!) q.d u2 q.j = v2 := by rw [← hd3]; exact dn_stop (fun h9 => by first | omega | (have h8 := h9.2; simp only [show egB q.d[v2]! q.d[lo]! = true by assumption] at h8; cases h8))
                refine wp_exit ?_
                refine then_exit ?_
                refine then_exit ?_
                refine blk_exit ?_
                refine then_normal ?_
                refine c_seq ?_
                refine c_seq ?_
                refine c_region ?_
                refine wl (wl_val hl rfl trivial (r_move hl rfl) ?_)
                clear hl a; intro a hl
                refine wl (wl_val hl rfl trivial (r_move hl rfl) ?_)
                clear hl a; intro a hl
                refine wl (wl_val hl rfl trivial (r_gtr hl rfl rfl) ?_)
                clear hl a; intro a hl
                refine w_nil ?_
                have hl2 := hl.add (t := 1) (hl.add (t := 4) (hl.add (t := 10) (hl.add (t := 11) (hl.add (t := 91) (hl.nil) rfl) rfl) rfl) rfl) rfl; clear hl; have hl := hl2; clear hl2
                refine then_normal ?_
                refine c_cond hl rfl ?_ ?_
                · intro hc5
                  try simp only [decide_eq_true_eq, decide_eq_false_iff_not, Bool.not_eq_true', Bool.not_eq_false', Bool.not_eq_true, Bool.not_eq_false, Bool.and_eq_true, Bool.or_eq_true, Bool.and_eq_false_iff, Bool.or_eq_false_iff, Bool.not_not, ne_eq, Int.not_lt, Int.not_le, Decidable.not_not, beq_iff_eq, bne_iff_ne] at hc5
                  have hpt := part_F hue hve (by omega) (hq3.symm.trans (pl_stop hu2e hv2e (by omega)))
                  refine wp_exit ?_
                  refine then_exit ?_
                  refine blk_exit_ne rfl ?_
                  refine then_exit ?_
                  refine blk_exit ?_
                  refine then_normal ?_
                  refine c_seq ?_
                  refine c_region ?_
                  refine wl (wl_val hl rfl trivial (r_field hl rfl fld179_1) ?_)
                  clear hl a; intro a hl
                  refine wl (w_load hl hh rfl trivial one173 rfl (by repeat (first | exact find_head | apply find_tail | apply find_skip)) (by first | rfl) ?_)
                  clear hl a; intro a hl
                  refine wl (wl_val hl rfl trivial (r_move hl rfl) ?_)
                  clear hl a; intro a hl
                  refine wl (wl_val hl rfl trivial (r_move hl rfl) ?_)
                  clear hl a; intro a hl
                  refine wl (w_swap (v2) (lo) egc_len (by decide) hl hh rfl trivial rfl rfl (by repeat (first | exact find_head | apply find_tail | apply find_skip)) (hE.swz hq1) (by omega) (by omega) (by omega) (by omega) ?_)
                  clear hl hh a w; intro a w hl hh
                  refine w_nil ?_
                  have hl2 := hl.add (t := 11) (hl.nil) rfl; clear hl; have hl := hl2; clear hl2
                  refine then_normal ?_
                  refine c_seq ?_
                  refine c_region ?_
                  refine wl (wl_val hl rfl trivial (r_move hl rfl) ?_)
                  clear hl a; intro a hl
                  refine wl (wl_val hl rfl trivial (r_assign hl rfl) ?_)
                  clear hl a; intro a hl
                  refine wl (wl_val hl rfl trivial (r_assign hl rfl) ?_)
                  clear hl a; intro a hl
                  refine w_nil ?_
                  have hl2 := hl.add (t := 8) (hl.add (t := 9) (hl.nil) rfl) rfl; clear hl; have hl := hl2; clear hl2
                  refine then_normal ?_
                  refine wp_ret ?_
                  refine f_ret2 (F' := [(b, C (fl egc (Sort.swp q.d v2 lo).toList ++ junk) 102), (Bs, C sL 46)]) hl hh rfl rfl rfl (by repeat (first | exact keeps_nil | apply keeps_cons (by repeat (first | exact find_head | apply find_tail | apply find_skip)) (by first  | rfl) | exact keeps_self | exact keeps_left | apply keeps_app | apply keeps_mv | apply keeps_skip)) ?_
                  rw [hpt]
                  exact ⟨rfl, rfl, by simp only; rw [swp_sz]; exact hq1, by simp only; omega, by simp only; omega⟩
                · intro hc5
                  try simp only [decide_eq_true_eq, decide_eq_false_iff_not, Bool.not_eq_true', Bool.not_eq_false', Bool.not_eq_true, Bool.not_eq_false, Bool.and_eq_true, Bool.or_eq_true, Bool.and_eq_false_iff, Bool.or_eq_false_iff, Bool.not_not, ne_eq, Int.not_lt, Int.not_le, Decidable.not_not, beq_iff_eq, bne_iff_ne] at hc5
                  refine wp_skip ?_
                  refine then_normal ?_
                  refine c_seq ?_
                  refine c_region ?_
                  refine wl (wl_val hl rfl trivial (r_field hl rfl fld179_1) ?_)
                  clear hl a; intro a hl
                  refine wl (w_load hl hh rfl trivial one173 rfl (by repeat (first | exact find_head | apply find_tail | apply find_skip)) (by first | rfl) ?_)
                  clear hl a; intro a hl
                  refine wl (wl_val hl rfl trivial (r_move hl rfl) ?_)
                  clear hl a; intro a hl
                  refine wl (wl_val hl rfl trivial (r_move hl rfl) ?_)
                  clear hl a; intro a hl
                  refine wl (w_swap (u2) (v2) egc_len (by decide) hl hh rfl trivial rfl rfl (by repeat (first | exact find_head | apply find_tail | apply find_skip)) (hE.swz hq1) (by omega) (by omega) (by omega) (by omega) ?_)
                  clear hl hh a w; intro a w hl hh
                  refine w_nil ?_
                  have hl2 := hl.add (t := 1) (hl.add (t := 4) (hl.add (t := 10) (hl.add (t := 11) (hl.nil) rfl) rfl) rfl) rfl; clear hl; have hl := hl2; clear hl2
                  refine then_normal ?_
                  refine c_seq ?_
                  refine c_region ?_
                  refine wl (wl_val hl rfl trivial (r_move hl rfl) ?_)
                  clear hl a; intro a hl
                  first | refine wl (wl_val hl rfl trivial (r_add hl rfl rfl (by simp only [Fits]; omega)) ?_) | refine wl (wl_val hl rfl trivial (r_addW hl rfl rfl) ?_)
                  clear hl a; intro a hl
                  refine wl (wl_val hl rfl trivial (r_assign hl rfl) ?_)
                  clear hl a; intro a hl
                  refine w_nil ?_
                  have hl2 := hl.add (t := 1) (hl.add (t := 4) (hl.add (t := 10) (hl.add (t := 11) (hl.nil) rfl) rfl) rfl) rfl; clear hl; have hl := hl2; clear hl2
                  refine then_normal ?_
                  refine c_region ?_
                  refine wl (wl_val hl rfl trivial (r_move hl rfl) ?_)
                  clear hl a; intro a hl
                  first | refine wl (wl_val hl rfl trivial (r_sub hl rfl rfl (by simp only [Fits]; omega)) ?_) | refine wl (wl_val hl rfl trivial (r_subW hl rfl rfl) ?_)
                  clear hl a; intro a hl
                  refine wl (wl_val hl rfl trivial (r_assign hl rfl) ?_)
                  clear hl a; intro a hl
                  refine w_nil ?_
                  have hl2 := hl.add (t := 1) (hl.add (t := 4) (hl.add (t := 10) (hl.add (t := 11) (hl.nil) rfl) rfl) rfl) rfl; clear hl; have hl := hl2; clear hl2
                  refine blk_normal ?_
                  refine then_normal ?_
                  refine ⟨⟨Sort.swp q.d u2 v2, u2 + 1, v2 - 1⟩, (by simp only; omega), ⟨by simp only; rw [swp_sz]; exact hq1, ⟨by simp only; omega, by simp only; omega, by simp only; omega⟩, by simp only; rw [← hq3]; exact (pl_go hu2e hv2e (by omega) (by omega) (by omega) (by omega)).symm⟩, hl.addE (t := 10) (hl.addE (t := 11) (hl.addE (t := 1) (hl.addE (t := 4) (hl.nil) rfl (by first | rfl | exact congrArg (Value.int .i64) (by first | omega | (simp only; omega)))) rfl (by first | rfl | exact congrArg (Value.int .i64) (by first | omega | (simp only; omega)))) rfl (by first | rfl | exact congrArg (Value.int .i64) (by first | omega | (simp only; omega)))) rfl (by first | rfl | exact congrArg (Value.int .i64) (by first | omega | (simp only; omega))), hh.keep (by repeat (first | exact keeps_nil | apply keeps_cons (by repeat (first | exact find_head | apply find_tail | apply find_skip)) (by first  | rfl) | exact keeps_self | exact keeps_left | apply keeps_app | apply keeps_mv | apply keeps_skip))⟩
          · intro hg6; clear hl; intro hl
            try simp only [decide_eq_true_eq, decide_eq_false_iff_not, Bool.not_eq_true', Bool.not_eq_false', Bool.not_eq_true, Bool.not_eq_false, Bool.and_eq_true, Bool.or_eq_true, Bool.and_eq_false_iff, Bool.or_eq_false_iff, Bool.not_not, ne_eq, Int.not_lt, Int.not_le, Decidable.not_not, beq_iff_eq, bne_iff_ne] at hg6
            refine wl (wl_skip hl rfl ⟨_, _, rfl, rfl, rfl⟩ ?_)
            clear hl a; intro a hl
            refine wl (wl_skip hl rfl ⟨_, _, rfl, rfl, rfl⟩ ?_)
            clear hl a; intro a hl
            refine wl (wl_skip hl rfl ⟨_, _, rfl, rfl, rfl⟩ ?_)
            clear hl a; intro a hl
            refine wl (wl_skip hl rfl ⟨_, _, rfl, rfl, rfl⟩ ?_)
            clear hl a; intro a hl
            refine wl (wl_skip hl rfl ⟨_, _, rfl, rfl, rfl⟩ ?_)
            clear hl a; intro a hl
            refine wl (wl_val hl rfl trivial (r_pickF hl rfl rfl) ?_)
            clear hl a; intro a hl
            refine w_nil ?_
            have hl2 := hl.add (t := 1) (hl.add (t := 4) (hl.add (t := 10) (hl.add (t := 11) (hl.add (t := 73) (hl.nil) rfl) rfl) rfl) rfl) rfl; clear hl; have hl := hl2; clear hl2
            refine then_normal ?_
            refine c_condF hl rfl ?_
            have hu2e : Sort.scanUp (fun x => egB x q.d[lo]!) q.d q.j q.i = u2 := by rw [← ha3]; exact up_stop (fun h9 => by first | omega | (have h8 := h9.2; simp only [(show egB q.d[u2]! q.d[lo]! = false by assumption)] at h8; cases h8))
            refine wp_exit ?_
            refine then_exit ?_
            refine then_exit ?_
            refine blk_exit ?_
            refine then_normal ?_
            refine c_seq ?_
            refine wp_block ?_
            obtain ⟨KS4, hKS4, hk⟩ := (hl.add (t := 1) (hl.add (t := 4) (hl.add (t := 10) (hl.nil) rfl) rfl) rfl).name
            obtain ⟨HS4, hHS4, hh2⟩ := hh.name (keeps_nil)
            refine c_loop (α := Nat) (fun v2 => v2) (fun v2 a w => (v2 ≤ q.j ∧ (u2 ≤ v2 + 2 ∧ lo ≤ v2) ∧ Sort.scanDown (fun x => !egB x q.d[lo]!) q.d u2 v2 = Sort.scanDown (fun x => !egB x q.d[lo]!) q.d u2 q.j) ∧ Sl 107 ([(11, .int .i64 (v2 : Int))] ++ KS4) a ∧ Has _ w0 ([] ++ HS4) w) q.j ⟨⟨Nat.le_refl _, ⟨by omega, by omega⟩, rfl⟩, hl.addE (t := 11) (hk) rfl (by first | exact congrArg (Value.int .i64) (by first | omega | (simp only; omega)) | rfl), hh2⟩ ?_
            clear hk hh2 hl hh a w
            intro v2 a w hI
            obtain ⟨⟨hd1, hd2, hd3⟩, hl, hh⟩ := hI
            subst hKS4; subst hHS4
            simp only [List.cons_append, List.nil_append, List.append_nil, List.append_assoc] at hl hh
            refine c_seq ?_
            refine c_seq ?_
            refine c_region ?_
            refine wl (wl_val hl rfl trivial (r_move hl rfl) ?_)
            clear hl a; intro a hl
            refine wl (wl_val hl rfl trivial (r_move hl rfl) ?_)
            clear hl a; intro a hl
            refine wl (wl_val hl rfl trivial (r_leq hl rfl rfl) ?_)
            clear hl a; intro a hl
            refine wl (wl_val hl rfl trivial (r_move hl rfl) ?_)
            clear hl a; intro a hl
            refine sl_split (t := 79) hl rfl ?_ ?_
            · intro hg8; clear hl; intro hl
              try simp only [decide_eq_true_eq, decide_eq_false_iff_not, Bool.not_eq_true', Bool.not_eq_false', Bool.not_eq_true, Bool.not_eq_false, Bool.and_eq_true, Bool.or_eq_true, Bool.and_eq_false_iff, Bool.or_eq_false_iff, Bool.not_not, ne_eq, Int.not_lt, Int.not_le, Decidable.not_not, beq_iff_eq, bne_iff_ne] at hg8
              refine wl (wl_val hl rfl ⟨_, _, rfl, rfl, rfl⟩ (r_field hl rfl fld179_0) ?_)
              clear hl a; intro a hl
              refine wl (w_load hl hh rfl ⟨_, _, rfl, rfl, rfl⟩ one144 rfl (by repeat (first | exact find_head | apply find_tail | apply find_skip)) (by first | rfl) ?_)
              clear hl a; intro a hl
              refine wl (wl_val hl rfl ⟨_, _, rfl, rfl, rfl⟩ (r_move hl rfl) ?_)
              clear hl a; intro a hl
              refine wl (wl_val hl rfl ⟨_, _, rfl, rfl, rfl⟩ (r_move hl rfl) ?_)
              clear hl a; intro a hl
              refine wl (w_call hl hh rfl ⟨_, _, rfl, rfl, rfl⟩ rfl cal62 rfl (less_spec (hE.to hq1) _ _ v2 lo (by omega) (by omega) (by omega) (by omega)) (by repeat (first | exact keeps_nil | apply keeps_cons (by repeat (first | exact find_head | apply find_tail | apply find_skip)) (by first  | rfl) | exact keeps_self | exact keeps_left | apply keeps_app | apply keeps_mv | apply keeps_skip)) trivial ?_)
              clear hl hh a w; intro vc Fc a w hR hl hh
              obtain ⟨rfl, rfl⟩ := hR
              try simp only [List.cons_append, List.nil_append, List.append_assoc, List.append_nil] at hh
              refine wl (wl_val hl rfl ⟨_, _, rfl, rfl, rfl⟩ (r_not hl rfl) ?_)
              clear hl a; intro a hl
              refine wl (wl_val hl rfl trivial (r_pickT hl rfl rfl) ?_)
              clear hl a; intro a hl
              refine w_nil ?_
              have hl2 := hl.add (t := 1) (hl.add (t := 4) (hl.add (t := 10) (hl.add (t := 11) (hl.add (t := 86) (hl.nil) rfl) rfl) rfl) rfl) rfl; clear hl; have hl := hl2; clear hl2
              refine then_normal ?_
              refine c_cond hl rfl ?_ ?_
              · intro hc4
                try simp only [decide_eq_true_eq, decide_eq_false_iff_not, Bool.not_eq_true', Bool.not_eq_false', Bool.not_eq_true, Bool.not_eq_false, Bool.and_eq_true, Bool.or_eq_true, Bool.and_eq_false_iff, Bool.or_eq_false_iff, Bool.not_not, ne_eq, Int.not_lt, Int.not_le, Decidable.not_not, beq_iff_eq, bne_iff_ne] at hc4
                refine wp_skip ?_
                refine then_normal ?_
                refine wp_block ?_
                refine c_region ?_
                refine wl (wl_val hl rfl trivial (r_move hl rfl) ?_)
                clear hl a; intro a hl
                first | refine wl (wl_val hl rfl trivial (r_sub hl rfl rfl (by simp only [Fits]; omega)) ?_) | refine wl (wl_val hl rfl trivial (r_subW hl rfl rfl) ?_)
                clear hl a; intro a hl
                refine wl (wl_val hl rfl trivial (r_assign hl rfl) ?_)
                clear hl a; intro a hl
                refine w_nil ?_
                have hl2 := hl.add (t := 1) (hl.add (t := 4) (hl.add (t := 10) (hl.add (t := 11) (hl.nil) rfl) rfl) rfl) rfl; clear hl; have hl := hl2; clear hl2
                refine blk_normal ?_
                refine then_normal ?_
                refine ⟨(v2 - 1), (by omega), ⟨by omega, ⟨by omega, by omega⟩, by rw [← hd3]; exact (dn_goN (by omega) (by omega) (by assumption)).symm⟩, hl.addE (t := 11) (hl.addE (t := 1) (hl.addE (t := 4) (hl.addE (t := 10) (hl.nil) rfl (by first | rfl | exact congrArg (Value.int .i64) (by first | omega | (simp only; omega)))) rfl (by first | rfl | exact congrArg (Value.int .i64) (by first | omega | (simp only; omega)))) rfl (by first | rfl | exact congrArg (Value.int .i64) (by first | omega | (simp only; omega)))) rfl (by first | rfl | exact congrArg (Value.int .i64) (by first | omega | (simp only; omega))), hh.keep (by repeat (first | exact keeps_nil | apply keeps_cons (by repeat (first | exact find_head | apply find_tail | apply find_skip)) (by first  | rfl) | exact keeps_self | exact keeps_left | apply keeps_app | apply keeps_mv | apply keeps_skip))⟩
              · intro hc4
                try simp only [decide_eq_true_eq, decide_eq_false_iff_not, Bool.not_eq_true', Bool.not_eq_false', Bool.not_eq_true, Bool.not_eq_false, Bool.and_eq_true, Bool.or_eq_true, Bool.and_eq_false_iff, Bool.or_eq_false_iff, Bool.not_not, ne_eq, Int.not_lt, Int.not_le, Decidable.not_not, beq_iff_eq, bne_iff_ne] at hc4
                have hv2e : Sort.scanDown (fun x => !egB x q.d[lo]!) q.d u2 q.j = v2 := by rw [← hd3]; exact dn_stop (fun h9 => by first | omega | (have h8 := h9.2; simp only [show egB q.d[v2]! q.d[lo]! = true by assumption] at h8; cases h8))
                refine wp_exit ?_
                refine then_exit ?_
                refine then_exit ?_
                refine blk_exit ?_
                refine then_normal ?_
                refine c_seq ?_
                refine c_seq ?_
                refine c_region ?_
                refine wl (wl_val hl rfl trivial (r_move hl rfl) ?_)
                clear hl a; intro a hl
                refine wl (wl_val hl rfl trivial (r_move hl rfl) ?_)
                clear hl a; intro a hl
                refine wl (wl_val hl rfl trivial (r_gtr hl rfl rfl) ?_)
                clear hl a; intro a hl
                refine w_nil ?_
                have hl2 := hl.add (t := 1) (hl.add (t := 4) (hl.add (t := 10) (hl.add (t := 11) (hl.add (t := 91) (hl.nil) rfl) rfl) rfl) rfl) rfl; clear hl; have hl := hl2; clear hl2
                refine then_normal ?_
                refine c_cond hl rfl ?_ ?_
                · intro hc5
                  try simp only [decide_eq_true_eq, decide_eq_false_iff_not, Bool.not_eq_true', Bool.not_eq_false', Bool.not_eq_true, Bool.not_eq_false, Bool.and_eq_true, Bool.or_eq_true, Bool.and_eq_false_iff, Bool.or_eq_false_iff, Bool.not_not, ne_eq, Int.not_lt, Int.not_le, Decidable.not_not, beq_iff_eq, bne_iff_ne] at hc5
                  have hpt := part_F hue hve (by omega) (hq3.symm.trans (pl_stop hu2e hv2e (by omega)))
                  refine wp_exit ?_
                  refine then_exit ?_
                  refine blk_exit_ne rfl ?_
                  refine then_exit ?_
                  refine blk_exit ?_
                  refine then_normal ?_
                  refine c_seq ?_
                  refine c_region ?_
                  refine wl (wl_val hl rfl trivial (r_field hl rfl fld179_1) ?_)
                  clear hl a; intro a hl
                  refine wl (w_load hl hh rfl trivial one173 rfl (by repeat (first | exact find_head | apply find_tail | apply find_skip)) (by first | rfl) ?_)
                  clear hl a; intro a hl
                  refine wl (wl_val hl rfl trivial (r_move hl rfl) ?_)
                  clear hl a; intro a hl
                  refine wl (wl_val hl rfl trivial (r_move hl rfl) ?_)
                  clear hl a; intro a hl
                  refine wl (w_swap (v2) (lo) egc_len (by decide) hl hh rfl trivial rfl rfl (by repeat (first | exact find_head | apply find_tail | apply find_skip)) (hE.swz hq1) (by omega) (by omega) (by omega) (by omega) ?_)
                  clear hl hh a w; intro a w hl hh
                  refine w_nil ?_
                  have hl2 := hl.add (t := 11) (hl.nil) rfl; clear hl; have hl := hl2; clear hl2
                  refine then_normal ?_
                  refine c_seq ?_
                  refine c_region ?_
                  refine wl (wl_val hl rfl trivial (r_move hl rfl) ?_)
                  clear hl a; intro a hl
                  refine wl (wl_val hl rfl trivial (r_assign hl rfl) ?_)
                  clear hl a; intro a hl
                  refine wl (wl_val hl rfl trivial (r_assign hl rfl) ?_)
                  clear hl a; intro a hl
                  refine w_nil ?_
                  have hl2 := hl.add (t := 8) (hl.add (t := 9) (hl.nil) rfl) rfl; clear hl; have hl := hl2; clear hl2
                  refine then_normal ?_
                  refine wp_ret ?_
                  refine f_ret2 (F' := [(b, C (fl egc (Sort.swp q.d v2 lo).toList ++ junk) 102), (Bs, C sL 46)]) hl hh rfl rfl rfl (by repeat (first | exact keeps_nil | apply keeps_cons (by repeat (first | exact find_head | apply find_tail | apply find_skip)) (by first  | rfl) | exact keeps_self | exact keeps_left | apply keeps_app | apply keeps_mv | apply keeps_skip)) ?_
                  rw [hpt]
                  exact ⟨rfl, rfl, by simp only; rw [swp_sz]; exact hq1, by simp only; omega, by simp only; omega⟩
                · intro hc5
                  try simp only [decide_eq_true_eq, decide_eq_false_iff_not, Bool.not_eq_true', Bool.not_eq_false', Bool.not_eq_true, Bool.not_eq_false, Bool.and_eq_true, Bool.or_eq_true, Bool.and_eq_false_iff, Bool.or_eq_false_iff, Bool.not_not, ne_eq, Int.not_lt, Int.not_le, Decidable.not_not, beq_iff_eq, bne_iff_ne] at hc5
                  refine wp_skip ?_
                  refine then_normal ?_
                  refine c_seq ?_
                  refine c_region ?_
                  refine wl (wl_val hl rfl trivial (r_field hl rfl fld179_1) ?_)
                  clear hl a; intro a hl
                  refine wl (w_load hl hh rfl trivial one173 rfl (by repeat (first | exact find_head | apply find_tail | apply find_skip)) (by first | rfl) ?_)
                  clear hl a; intro a hl
                  refine wl (wl_val hl rfl trivial (r_move hl rfl) ?_)
                  clear hl a; intro a hl
                  refine wl (wl_val hl rfl trivial (r_move hl rfl) ?_)
                  clear hl a; intro a hl
                  refine wl (w_swap (u2) (v2) egc_len (by decide) hl hh rfl trivial rfl rfl (by repeat (first | exact find_head | apply find_tail | apply find_skip)) (hE.swz hq1) (by omega) (by omega) (by omega) (by omega) ?_)
                  clear hl hh a w; intro a w hl hh
                  refine w_nil ?_
                  have hl2 := hl.add (t := 1) (hl.add (t := 4) (hl.add (t := 10) (hl.add (t := 11) (hl.nil) rfl) rfl) rfl) rfl; clear hl; have hl := hl2; clear hl2
                  refine then_normal ?_
                  refine c_seq ?_
                  refine c_region ?_
                  refine wl (wl_val hl rfl trivial (r_move hl rfl) ?_)
                  clear hl a; intro a hl
                  first | refine wl (wl_val hl rfl trivial (r_add hl rfl rfl (by simp only [Fits]; omega)) ?_) | refine wl (wl_val hl rfl trivial (r_addW hl rfl rfl) ?_)
                  clear hl a; intro a hl
                  refine wl (wl_val hl rfl trivial (r_assign hl rfl) ?_)
                  clear hl a; intro a hl
                  refine w_nil ?_
                  have hl2 := hl.add (t := 1) (hl.add (t := 4) (hl.add (t := 10) (hl.add (t := 11) (hl.nil) rfl) rfl) rfl) rfl; clear hl; have hl := hl2; clear hl2
                  refine then_normal ?_
                  refine c_region ?_
                  refine wl (wl_val hl rfl trivial (r_move hl rfl) ?_)
                  clear hl a; intro a hl
                  first | refine wl (wl_val hl rfl trivial (r_sub hl rfl rfl (by simp only [Fits]; omega)) ?_) | refine wl (wl_val hl rfl trivial (r_subW hl rfl rfl) ?_)
                  clear hl a; intro a hl
                  refine wl (wl_val hl rfl trivial (r_assign hl rfl) ?_)
                  clear hl a; intro a hl
                  refine w_nil ?_
                  have hl2 := hl.add (t := 1) (hl.add (t := 4) (hl.add (t := 10) (hl.add (t := 11) (hl.nil) rfl) rfl) rfl) rfl; clear hl; have hl := hl2; clear hl2
                  refine blk_normal ?_
                  refine then_normal ?_
                  refine ⟨⟨Sort.swp q.d u2 v2, u2 + 1, v2 - 1⟩, (by simp only; omega), ⟨by simp only; rw [swp_sz]; exact hq1, ⟨by simp only; omega, by simp only; omega, by simp only; omega⟩, by simp only; rw [← hq3]; exact (pl_go hu2e hv2e (by omega) (by omega) (by omega) (by omega)).symm⟩, hl.addE (t := 10) (hl.addE (t := 11) (hl.addE (t := 1) (hl.addE (t := 4) (hl.nil) rfl (by first | rfl | exact congrArg (Value.int .i64) (by first | omega | (simp only; omega)))) rfl (by first | rfl | exact congrArg (Value.int .i64) (by first | omega | (simp only; omega)))) rfl (by first | rfl | exact congrArg (Value.int .i64) (by first | omega | (simp only; omega)))) rfl (by first | rfl | exact congrArg (Value.int .i64) (by first | omega | (simp only; omega))), hh.keep (by repeat (first | exact keeps_nil | apply keeps_cons (by repeat (first | exact find_head | apply find_tail | apply find_skip)) (by first  | rfl) | exact keeps_self | exact keeps_left | apply keeps_app | apply keeps_mv | apply keeps_skip))⟩
            · intro hg8; clear hl; intro hl
              try simp only [decide_eq_true_eq, decide_eq_false_iff_not, Bool.not_eq_true', Bool.not_eq_false', Bool.not_eq_true, Bool.not_eq_false, Bool.and_eq_true, Bool.or_eq_true, Bool.and_eq_false_iff, Bool.or_eq_false_iff, Bool.not_not, ne_eq, Int.not_lt, Int.not_le, Decidable.not_not, beq_iff_eq, bne_iff_ne] at hg8
              refine wl (wl_skip hl rfl ⟨_, _, rfl, rfl, rfl⟩ ?_)
              clear hl a; intro a hl
              refine wl (wl_skip hl rfl ⟨_, _, rfl, rfl, rfl⟩ ?_)
              clear hl a; intro a hl
              refine wl (wl_skip hl rfl ⟨_, _, rfl, rfl, rfl⟩ ?_)
              clear hl a; intro a hl
              refine wl (wl_skip hl rfl ⟨_, _, rfl, rfl, rfl⟩ ?_)
              clear hl a; intro a hl
              refine wl (wl_skip hl rfl ⟨_, _, rfl, rfl, rfl⟩ ?_)
              clear hl a; intro a hl
              refine wl (wl_skip hl rfl ⟨_, _, rfl, rfl, rfl⟩ ?_)
              clear hl a; intro a hl
              refine wl (wl_val hl rfl trivial (r_pickF hl rfl rfl) ?_)
              clear hl a; intro a hl
              refine w_nil ?_
              have hl2 := hl.add (t := 1) (hl.add (t := 4) (hl.add (t := 10) (hl.add (t := 11) (hl.add (t := 86) (hl.nil) rfl) rfl) rfl) rfl) rfl; clear hl; have hl := hl2; clear hl2
              refine then_normal ?_
              refine c_condF hl rfl ?_
              have hv2e : Sort.scanDown (fun x => !egB x q.d[lo]!) q.d u2 q.j = v2 := by rw [← hd3]; exact dn_stop (fun h9 => by first | omega | (have h8 := h9.2; simp only [show egB q.d[v2]! q.d[lo]! = true by assumption] at h8; cases h8))
              refine wp_exit ?_
              refine then_exit ?_
              refine then_exit ?_
              refine blk_exit ?_
              refine then_normal ?_
              refine c_seq ?_
              refine c_seq ?_
              refine c_region ?_
              refine wl (wl_val hl rfl trivial (r_move hl rfl) ?_)
              clear hl a; intro a hl
              refine wl (wl_val hl rfl trivial (r_move hl rfl) ?_)
              clear hl a; intro a hl
              refine wl (wl_val hl rfl trivial (r_gtr hl rfl rfl) ?_)
              clear hl a; intro a hl
              refine w_nil ?_
              have hl2 := hl.add (t := 1) (hl.add (t := 4) (hl.add (t := 10) (hl.add (t := 11) (hl.add (t := 91) (hl.nil) rfl) rfl) rfl) rfl) rfl; clear hl; have hl := hl2; clear hl2
              refine then_normal ?_
              refine c_cond hl rfl ?_ ?_
              · intro hc5
                try simp only [decide_eq_true_eq, decide_eq_false_iff_not, Bool.not_eq_true', Bool.not_eq_false', Bool.not_eq_true, Bool.not_eq_false, Bool.and_eq_true, Bool.or_eq_true, Bool.and_eq_false_iff, Bool.or_eq_false_iff, Bool.not_not, ne_eq, Int.not_lt, Int.not_le, Decidable.not_not, beq_iff_eq, bne_iff_ne] at hc5
                have hpt := part_F hue hve (by omega) (hq3.symm.trans (pl_stop hu2e hv2e (by omega)))
                refine wp_exit ?_
                refine then_exit ?_
                refine blk_exit_ne rfl ?_
                refine then_exit ?_
                refine blk_exit ?_
                refine then_normal ?_
                refine c_seq ?_
                refine c_region ?_
                refine wl (wl_val hl rfl trivial (r_field hl rfl fld179_1) ?_)
                clear hl a; intro a hl
                refine wl (w_load hl hh rfl trivial one173 rfl (by repeat (first | exact find_head | apply find_tail | apply find_skip)) (by first | rfl) ?_)
                clear hl a; intro a hl
                refine wl (wl_val hl rfl trivial (r_move hl rfl) ?_)
                clear hl a; intro a hl
                refine wl (wl_val hl rfl trivial (r_move hl rfl) ?_)
                clear hl a; intro a hl
                refine wl (w_swap (v2) (lo) egc_len (by decide) hl hh rfl trivial rfl rfl (by repeat (first | exact find_head | apply find_tail | apply find_skip)) (hE.swz hq1) (by omega) (by omega) (by omega) (by omega) ?_)
                clear hl hh a w; intro a w hl hh
                refine w_nil ?_
                have hl2 := hl.add (t := 11) (hl.nil) rfl; clear hl; have hl := hl2; clear hl2
                refine then_normal ?_
                refine c_seq ?_
                refine c_region ?_
                refine wl (wl_val hl rfl trivial (r_move hl rfl) ?_)
                clear hl a; intro a hl
                refine wl (wl_val hl rfl trivial (r_assign hl rfl) ?_)
                clear hl a; intro a hl
                refine wl (wl_val hl rfl trivial (r_assign hl rfl) ?_)
                clear hl a; intro a hl
                refine w_nil ?_
                have hl2 := hl.add (t := 8) (hl.add (t := 9) (hl.nil) rfl) rfl; clear hl; have hl := hl2; clear hl2
                refine then_normal ?_
                refine wp_ret ?_
                refine f_ret2 (F' := [(b, C (fl egc (Sort.swp q.d v2 lo).toList ++ junk) 102), (Bs, C sL 46)]) hl hh rfl rfl rfl (by repeat (first | exact keeps_nil | apply keeps_cons (by repeat (first | exact find_head | apply find_tail | apply find_skip)) (by first  | rfl) | exact keeps_self | exact keeps_left | apply keeps_app | apply keeps_mv | apply keeps_skip)) ?_
                rw [hpt]
                exact ⟨rfl, rfl, by simp only; rw [swp_sz]; exact hq1, by simp only; omega, by simp only; omega⟩
              · intro hc5
                try simp only [decide_eq_true_eq, decide_eq_false_iff_not, Bool.not_eq_true', Bool.not_eq_false', Bool.not_eq_true, Bool.not_eq_false, Bool.and_eq_true, Bool.or_eq_true, Bool.and_eq_false_iff, Bool.or_eq_false_iff, Bool.not_not, ne_eq, Int.not_lt, Int.not_le, Decidable.not_not, beq_iff_eq, bne_iff_ne] at hc5
                refine wp_skip ?_
                refine then_normal ?_
                refine c_seq ?_
                refine c_region ?_
                refine wl (wl_val hl rfl trivial (r_field hl rfl fld179_1) ?_)
                clear hl a; intro a hl
                refine wl (w_load hl hh rfl trivial one173 rfl (by repeat (first | exact find_head | apply find_tail | apply find_skip)) (by first | rfl) ?_)
                clear hl a; intro a hl
                refine wl (wl_val hl rfl trivial (r_move hl rfl) ?_)
                clear hl a; intro a hl
                refine wl (wl_val hl rfl trivial (r_move hl rfl) ?_)
                clear hl a; intro a hl
                refine wl (w_swap (u2) (v2) egc_len (by decide) hl hh rfl trivial rfl rfl (by repeat (first | exact find_head | apply find_tail | apply find_skip)) (hE.swz hq1) (by omega) (by omega) (by omega) (by omega) ?_)
                clear hl hh a w; intro a w hl hh
                refine w_nil ?_
                have hl2 := hl.add (t := 1) (hl.add (t := 4) (hl.add (t := 10) (hl.add (t := 11) (hl.nil) rfl) rfl) rfl) rfl; clear hl; have hl := hl2; clear hl2
                refine then_normal ?_
                refine c_seq ?_
                refine c_region ?_
                refine wl (wl_val hl rfl trivial (r_move hl rfl) ?_)
                clear hl a; intro a hl
                first | refine wl (wl_val hl rfl trivial (r_add hl rfl rfl (by simp only [Fits]; omega)) ?_) | refine wl (wl_val hl rfl trivial (r_addW hl rfl rfl) ?_)
                clear hl a; intro a hl
                refine wl (wl_val hl rfl trivial (r_assign hl rfl) ?_)
                clear hl a; intro a hl
                refine w_nil ?_
                have hl2 := hl.add (t := 1) (hl.add (t := 4) (hl.add (t := 10) (hl.add (t := 11) (hl.nil) rfl) rfl) rfl) rfl; clear hl; have hl := hl2; clear hl2
                refine then_normal ?_
                refine c_region ?_
                refine wl (wl_val hl rfl trivial (r_move hl rfl) ?_)
                clear hl a; intro a hl
                first | refine wl (wl_val hl rfl trivial (r_sub hl rfl rfl (by simp only [Fits]; omega)) ?_) | refine wl (wl_val hl rfl trivial (r_subW hl rfl rfl) ?_)
                clear hl a; intro a hl
                refine wl (wl_val hl rfl trivial (r_assign hl rfl) ?_)
                clear hl a; intro a hl
                refine w_nil ?_
                have hl2 := hl.add (t := 1) (hl.add (t := 4) (hl.add (t := 10) (hl.add (t := 11) (hl.nil) rfl) rfl) rfl) rfl; clear hl; have hl := hl2; clear hl2
                refine blk_normal ?_
                refine then_normal ?_
                refine ⟨⟨Sort.swp q.d u2 v2, u2 + 1, v2 - 1⟩, (by simp only; omega), ⟨by simp only; rw [swp_sz]; exact hq1, ⟨by simp only; omega, by simp only; omega, by simp only; omega⟩, by simp only; rw [← hq3]; exact (pl_go hu2e hv2e (by omega) (by omega) (by omega) (by omega)).symm⟩, hl.addE (t := 10) (hl.addE (t := 11) (hl.addE (t := 1) (hl.addE (t := 4) (hl.nil) rfl (by first | rfl | exact congrArg (Value.int .i64) (by first | omega | (simp only; omega)))) rfl (by first | rfl | exact congrArg (Value.int .i64) (by first | omega | (simp only; omega)))) rfl (by first | rfl | exact congrArg (Value.int .i64) (by first | omega | (simp only; omega)))) rfl (by first | rfl | exact congrArg (Value.int .i64) (by first | omega | (simp only; omega))), hh.keep (by repeat (first | exact keeps_nil | apply keeps_cons (by repeat (first | exact find_head | apply find_tail | apply find_skip)) (by first  | rfl) | exact keeps_self | exact keeps_left | apply keeps_app | apply keeps_mv | apply keeps_skip))⟩
  · intro hg1; clear hl; intro hl
    try simp only [decide_eq_true_eq, decide_eq_false_iff_not, Bool.not_eq_true', Bool.not_eq_false', Bool.not_eq_true, Bool.not_eq_false, Bool.and_eq_true, Bool.or_eq_true, Bool.and_eq_false_iff, Bool.or_eq_false_iff, Bool.not_not, ne_eq, Int.not_lt, Int.not_le, Decidable.not_not, beq_iff_eq, bne_iff_ne] at hg1
    refine wl (wl_skip hl rfl ⟨_, _, rfl, rfl, rfl⟩ ?_)
    clear hl a; intro a hl
    refine wl (wl_skip hl rfl ⟨_, _, rfl, rfl, rfl⟩ ?_)
    clear hl a; intro a hl
    refine wl (wl_skip hl rfl ⟨_, _, rfl, rfl, rfl⟩ ?_)
    clear hl a; intro a hl
    refine wl (wl_skip hl rfl ⟨_, _, rfl, rfl, rfl⟩ ?_)
    clear hl a; intro a hl
    refine wl (wl_skip hl rfl ⟨_, _, rfl, rfl, rfl⟩ ?_)
    clear hl a; intro a hl
    refine wl (wl_val hl rfl trivial (r_pickF hl rfl rfl) ?_)
    clear hl a; intro a hl
    refine w_nil ?_
    have hl2 := hl.add (t := 1) (hl.add (t := 4) (hl.add (t := 10) (hl.add (t := 11) (hl.add (t := 30) (hl.nil) rfl) rfl) rfl) rfl) rfl; clear hl; have hl := hl2; clear hl2
    refine then_normal ?_
    refine c_condF hl rfl ?_
    have hue : Sort.scanUp (fun x => egB x (Sort.swp d lo pv)[lo]!) (Sort.swp d lo pv) (hi - 1) (lo + 1) = u := by rw [← hu3]; exact up_stop (fun h9 => by first | omega | (have h8 := h9.2; simp only [(show egB (Sort.swp d lo pv)[u]! (Sort.swp d lo pv)[lo]! = false by assumption)] at h8; cases h8))
    refine wp_exit ?_
    refine then_exit ?_
    refine then_exit ?_
    refine blk_exit ?_
    refine then_normal ?_
    refine c_seq ?_
    refine wp_block ?_
    obtain ⟨KS1, hKS1, hk⟩ := (hl.add (t := 1) (hl.add (t := 4) (hl.add (t := 10) (hl.nil) rfl) rfl) rfl).name
    obtain ⟨HS1, hHS1, hh2⟩ := hh.name (keeps_nil)
    refine c_loop (α := Nat) (fun v => v) (fun v a w => (v ≤ hi - 1 ∧ u ≤ v + 1 ∧ Sort.scanDown (fun x => !egB x (Sort.swp d lo pv)[lo]!) (Sort.swp d lo pv) u v = Sort.scanDown (fun x => !egB x (Sort.swp d lo pv)[lo]!) (Sort.swp d lo pv) u (hi - 1)) ∧ Sl 107 ([(11, .int .i64 (v : Int))] ++ KS1) a ∧ Has _ w0 ([] ++ HS1) w) (hi - 1) ⟨⟨Nat.le_refl _, by omega, rfl⟩, hl.addE (t := 11) (hk) rfl (by first | exact congrArg (Value.int .i64) (by first | omega | (simp only; omega)) | rfl), hh2⟩ ?_
    clear hk hh2 hl hh a w
    intro v a w hI
    obtain ⟨⟨hv1, hv2, hv3⟩, hl, hh⟩ := hI
    subst hKS1; subst hHS1
    simp only [List.cons_append, List.nil_append, List.append_nil, List.append_assoc] at hl hh
    refine c_seq ?_
    refine c_seq ?_
    refine c_region ?_
    refine wl (wl_val hl rfl trivial (r_move hl rfl) ?_)
    clear hl a; intro a hl
    refine wl (wl_val hl rfl trivial (r_move hl rfl) ?_)
    clear hl a; intro a hl
    refine wl (wl_val hl rfl trivial (r_leq hl rfl rfl) ?_)
    clear hl a; intro a hl
    refine wl (wl_val hl rfl trivial (r_move hl rfl) ?_)
    clear hl a; intro a hl
    refine sl_split (t := 36) hl rfl ?_ ?_
    · intro hg9; clear hl; intro hl
      try simp only [decide_eq_true_eq, decide_eq_false_iff_not, Bool.not_eq_true', Bool.not_eq_false', Bool.not_eq_true, Bool.not_eq_false, Bool.and_eq_true, Bool.or_eq_true, Bool.and_eq_false_iff, Bool.or_eq_false_iff, Bool.not_not, ne_eq, Int.not_lt, Int.not_le, Decidable.not_not, beq_iff_eq, bne_iff_ne] at hg9
      refine wl (wl_val hl rfl ⟨_, _, rfl, rfl, rfl⟩ (r_field hl rfl fld179_0) ?_)
      clear hl a; intro a hl
      refine wl (w_load hl hh rfl ⟨_, _, rfl, rfl, rfl⟩ one144 rfl (by repeat (first | exact find_head | apply find_tail | apply find_skip)) (by first | rfl) ?_)
      clear hl a; intro a hl
      refine wl (wl_val hl rfl ⟨_, _, rfl, rfl, rfl⟩ (r_move hl rfl) ?_)
      clear hl a; intro a hl
      refine wl (wl_val hl rfl ⟨_, _, rfl, rfl, rfl⟩ (r_move hl rfl) ?_)
      clear hl a; intro a hl
      refine wl (w_call hl hh rfl ⟨_, _, rfl, rfl, rfl⟩ rfl cal62 rfl (less_spec (hE.to hs0) _ _ v lo (by omega) (by omega) (by omega) (by omega)) (by repeat (first | exact keeps_nil | apply keeps_cons (by repeat (first | exact find_head | apply find_tail | apply find_skip)) (by first  | rfl) | exact keeps_self | exact keeps_left | apply keeps_app | apply keeps_mv | apply keeps_skip)) trivial ?_)
      clear hl hh a w; intro vc Fc a w hR hl hh
      obtain ⟨rfl, rfl⟩ := hR
      try simp only [List.cons_append, List.nil_append, List.append_assoc, List.append_nil] at hh
      refine wl (wl_val hl rfl ⟨_, _, rfl, rfl, rfl⟩ (r_not hl rfl) ?_)
      clear hl a; intro a hl
      refine wl (wl_val hl rfl trivial (r_pickT hl rfl rfl) ?_)
      clear hl a; intro a hl
      refine w_nil ?_
      have hl2 := hl.add (t := 1) (hl.add (t := 4) (hl.add (t := 10) (hl.add (t := 11) (hl.add (t := 43) (hl.nil) rfl) rfl) rfl) rfl) rfl; clear hl; have hl := hl2; clear hl2
      refine then_normal ?_
      refine c_cond hl rfl ?_ ?_
      · intro hc1
        try simp only [decide_eq_true_eq, decide_eq_false_iff_not, Bool.not_eq_true', Bool.not_eq_false', Bool.not_eq_true, Bool.not_eq_false, Bool.and_eq_true, Bool.or_eq_true, Bool.and_eq_false_iff, Bool.or_eq_false_iff, Bool.not_not, ne_eq, Int.not_lt, Int.not_le, Decidable.not_not, beq_iff_eq, bne_iff_ne] at hc1
        refine wp_skip ?_
        refine then_normal ?_
        refine wp_block ?_
        refine c_region ?_
        refine wl (wl_val hl rfl trivial (r_move hl rfl) ?_)
        clear hl a; intro a hl
        first | refine wl (wl_val hl rfl trivial (r_sub hl rfl rfl (by simp only [Fits]; omega)) ?_) | refine wl (wl_val hl rfl trivial (r_subW hl rfl rfl) ?_)
        clear hl a; intro a hl
        refine wl (wl_val hl rfl trivial (r_assign hl rfl) ?_)
        clear hl a; intro a hl
        refine w_nil ?_
        have hl2 := hl.add (t := 1) (hl.add (t := 4) (hl.add (t := 10) (hl.add (t := 11) (hl.nil) rfl) rfl) rfl) rfl; clear hl; have hl := hl2; clear hl2
        refine blk_normal ?_
        refine then_normal ?_
        refine ⟨(v - 1), (by omega), ⟨by omega, by omega, by rw [← hv3]; exact (dn_goN (by omega) (by omega) (by assumption)).symm⟩, hl.addE (t := 11) (hl.addE (t := 1) (hl.addE (t := 4) (hl.addE (t := 10) (hl.nil) rfl (by first | rfl | exact congrArg (Value.int .i64) (by first | omega | (simp only; omega)))) rfl (by first | rfl | exact congrArg (Value.int .i64) (by first | omega | (simp only; omega)))) rfl (by first | rfl | exact congrArg (Value.int .i64) (by first | omega | (simp only; omega)))) rfl (by first | rfl | exact congrArg (Value.int .i64) (by first | omega | (simp only; omega))), hh.keep (by repeat (first | exact keeps_nil | apply keeps_cons (by repeat (first | exact find_head | apply find_tail | apply find_skip)) (by first  | rfl) | exact keeps_self | exact keeps_left | apply keeps_app | apply keeps_mv | apply keeps_skip))⟩
      · intro hc1
        try simp only [decide_eq_true_eq, decide_eq_false_iff_not, Bool.not_eq_true', Bool.not_eq_false', Bool.not_eq_true, Bool.not_eq_false, Bool.and_eq_true, Bool.or_eq_true, Bool.and_eq_false_iff, Bool.or_eq_false_iff, Bool.not_not, ne_eq, Int.not_lt, Int.not_le, Decidable.not_not, beq_iff_eq, bne_iff_ne] at hc1
        have hve : Sort.scanDown (fun x => !egB x (Sort.swp d lo pv)[lo]!) (Sort.swp d lo pv) u (hi - 1) = v := by rw [← hv3]; exact dn_stop (fun h9 => by first | omega | (have h8 := h9.2; simp only [show egB (Sort.swp d lo pv)[v]! (Sort.swp d lo pv)[lo]! = true by assumption] at h8; cases h8))
        refine wp_exit ?_
        refine then_exit ?_
        refine then_exit ?_
        refine blk_exit ?_
        refine then_normal ?_
        refine c_seq ?_
        refine c_seq ?_
        refine c_region ?_
        refine wl (wl_val hl rfl trivial (r_move hl rfl) ?_)
        clear hl a; intro a hl
        refine wl (wl_val hl rfl trivial (r_move hl rfl) ?_)
        clear hl a; intro a hl
        refine wl (wl_val hl rfl trivial (r_gtr hl rfl rfl) ?_)
        clear hl a; intro a hl
        refine w_nil ?_
        have hl2 := hl.add (t := 1) (hl.add (t := 4) (hl.add (t := 10) (hl.add (t := 11) (hl.add (t := 48) (hl.nil) rfl) rfl) rfl) rfl) rfl; clear hl; have hl := hl2; clear hl2
        refine then_normal ?_
        refine c_cond hl rfl ?_ ?_
        · intro hc2
          try simp only [decide_eq_true_eq, decide_eq_false_iff_not, Bool.not_eq_true', Bool.not_eq_false', Bool.not_eq_true, Bool.not_eq_false, Bool.and_eq_true, Bool.or_eq_true, Bool.and_eq_false_iff, Bool.or_eq_false_iff, Bool.not_not, ne_eq, Int.not_lt, Int.not_le, Decidable.not_not, beq_iff_eq, bne_iff_ne] at hc2
          have hpt := part_T hue hve (by omega)
          refine c_seq ?_
          refine c_region ?_
          refine wl (wl_val hl rfl trivial (r_field hl rfl fld179_1) ?_)
          clear hl a; intro a hl
          refine wl (w_load hl hh rfl trivial one173 rfl (by repeat (first | exact find_head | apply find_tail | apply find_skip)) (by first | rfl) ?_)
          clear hl a; intro a hl
          refine wl (wl_val hl rfl trivial (r_move hl rfl) ?_)
          clear hl a; intro a hl
          refine wl (wl_val hl rfl trivial (r_move hl rfl) ?_)
          clear hl a; intro a hl
          refine wl (w_swap (v) (lo) egc_len (by decide) hl hh rfl trivial rfl rfl (by repeat (first | exact find_head | apply find_tail | apply find_skip)) (hE.swz hs0) (by omega) (by omega) (by omega) (by omega) ?_)
          clear hl hh a w; intro a w hl hh
          refine w_nil ?_
          have hl2 := hl.add (t := 11) (hl.nil) rfl; clear hl; have hl := hl2; clear hl2
          refine then_normal ?_
          refine c_seq ?_
          refine c_region ?_
          refine wl (wl_val hl rfl trivial (r_move hl rfl) ?_)
          clear hl a; intro a hl
          refine wl (wl_val hl rfl trivial (r_assign hl rfl) ?_)
          clear hl a; intro a hl
          refine wl (wl_val hl rfl trivial (r_assign hl rfl) ?_)
          clear hl a; intro a hl
          refine w_nil ?_
          have hl2 := hl.add (t := 8) (hl.add (t := 9) (hl.nil) rfl) rfl; clear hl; have hl := hl2; clear hl2
          refine then_normal ?_
          refine wp_ret ?_
          refine then_ret ?_
          refine f_ret2 (F' := [(b, C (fl egc (Sort.swp (Sort.swp d lo pv) v lo).toList ++ junk) 102), (Bs, C sL 46)]) hl hh rfl rfl rfl (by repeat (first | exact keeps_nil | apply keeps_cons (by repeat (first | exact find_head | apply find_tail | apply find_skip)) (by first  | rfl) | exact keeps_self | exact keeps_left | apply keeps_app | apply keeps_mv | apply keeps_skip)) ?_
          rw [hpt]
          exact ⟨rfl, rfl, by simp only; rw [swp_sz]; exact hs0, by simp only; omega, by simp only; omega⟩
        · intro hc2
          try simp only [decide_eq_true_eq, decide_eq_false_iff_not, Bool.not_eq_true', Bool.not_eq_false', Bool.not_eq_true, Bool.not_eq_false, Bool.and_eq_true, Bool.or_eq_true, Bool.and_eq_false_iff, Bool.or_eq_false_iff, Bool.not_not, ne_eq, Int.not_lt, Int.not_le, Decidable.not_not, beq_iff_eq, bne_iff_ne] at hc2
          refine wp_skip ?_
          refine then_normal ?_
          refine c_seq ?_
          refine c_region ?_
          refine wl (wl_val hl rfl trivial (r_field hl rfl fld179_1) ?_)
          clear hl a; intro a hl
          refine wl (w_load hl hh rfl trivial one173 rfl (by repeat (first | exact find_head | apply find_tail | apply find_skip)) (by first | rfl) ?_)
          clear hl a; intro a hl
          refine wl (wl_val hl rfl trivial (r_move hl rfl) ?_)
          clear hl a; intro a hl
          refine wl (wl_val hl rfl trivial (r_move hl rfl) ?_)
          clear hl a; intro a hl
          refine wl (w_swap (u) (v) egc_len (by decide) hl hh rfl trivial rfl rfl (by repeat (first | exact find_head | apply find_tail | apply find_skip)) (hE.swz hs0) (by omega) (by omega) (by omega) (by omega) ?_)
          clear hl hh a w; intro a w hl hh
          refine w_nil ?_
          have hl2 := hl.add (t := 1) (hl.add (t := 4) (hl.add (t := 10) (hl.add (t := 11) (hl.nil) rfl) rfl) rfl) rfl; clear hl; have hl := hl2; clear hl2
          refine then_normal ?_
          refine c_seq ?_
          refine c_region ?_
          refine wl (wl_val hl rfl trivial (r_move hl rfl) ?_)
          clear hl a; intro a hl
          first | refine wl (wl_val hl rfl trivial (r_add hl rfl rfl (by simp only [Fits]; omega)) ?_) | refine wl (wl_val hl rfl trivial (r_addW hl rfl rfl) ?_)
          clear hl a; intro a hl
          refine wl (wl_val hl rfl trivial (r_assign hl rfl) ?_)
          clear hl a; intro a hl
          refine w_nil ?_
          have hl2 := hl.add (t := 1) (hl.add (t := 4) (hl.add (t := 10) (hl.add (t := 11) (hl.nil) rfl) rfl) rfl) rfl; clear hl; have hl := hl2; clear hl2
          refine then_normal ?_
          refine c_seq ?_
          refine c_region ?_
          refine wl (wl_val hl rfl trivial (r_move hl rfl) ?_)
          clear hl a; intro a hl
          first | refine wl (wl_val hl rfl trivial (r_sub hl rfl rfl (by simp only [Fits]; omega)) ?_) | refine wl (wl_val hl rfl trivial (r_subW hl rfl rfl) ?_)
          clear hl a; intro a hl
          refine wl (wl_val hl rfl trivial (r_assign hl rfl) ?_)
          clear hl a; intro a hl
          refine w_nil ?_
          have hl2 := hl.add (t := 1) (hl.add (t := 4) (hl.add (t := 10) (hl.add (t := 11) (hl.nil) rfl) rfl) rfl) rfl; clear hl; have hl := hl2; clear hl2
          refine then_normal ?_
          refine c_seq ?_
          refine wp_block ?_
          obtain ⟨KS2, hKS2, hk⟩ := (hl.add (t := 1) (hl.add (t := 4) (hl.nil) rfl) rfl).name
          obtain ⟨HS2, hHS2, hh2⟩ := hh.name (keeps_cons (b := b) (o' := C (fl egc (Sort.swp (Sort.swp d lo pv) u v).toList ++ junk) 102) (by repeat (first | exact find_head | apply find_tail | apply find_skip)) (by first | rfl) (keeps_nil))
          refine c_loop (α := PZ3) (fun q => q.j + 2 - q.i) (fun q a w => (q.d.size = n ∧ (lo + 2 ≤ q.i ∧ q.i ≤ q.j + 2 ∧ q.j ≤ hi - 1) ∧ Sort.partLoop egB lo q.i q.j q.d = Sort.partLoop egB lo (u + 1) (v - 1) (Sort.swp (Sort.swp d lo pv) u v)) ∧ Sl 107 ([(10, .int .i64 (q.i : Int)), (11, .int .i64 (q.j : Int))] ++ KS2) a ∧ Has _ w0 ([(b, C (fl egc q.d.toList ++ junk) 102)] ++ HS2) w) ⟨(Sort.swp (Sort.swp d lo pv) u v), u + 1, v - 1⟩ ⟨⟨by simp only; rw [swp_sz]; exact hs0, ⟨by simp only; omega, by simp only; omega, by simp only; omega⟩, rfl⟩, hl.addE (t := 10) (hl.addE (t := 11) (hk) rfl (by first | exact congrArg (Value.int .i64) (by first | omega | (simp only; omega)) | rfl)) rfl (by first | exact congrArg (Value.int .i64) (by first | omega | (simp only; omega)) | rfl), hh2⟩ ?_
          clear hk hh2 hl hh a w
          intro q a w hI
          obtain ⟨⟨hq1, hq2, hq3⟩, hl, hh⟩ := hI
          subst hKS2; subst hHS2
          simp only [List.cons_append, List.nil_append, List.append_nil, List.append_assoc] at hl hh
          refine wp_block ?_
          refine c_seq ?_
          refine wp_block ?_
          obtain ⟨KS3, hKS3, hk⟩ := (hl.add (t := 1) (hl.add (t := 4) (hl.add (t := 11) (hl.nil) rfl) rfl) rfl).name
          obtain ⟨HS3, hHS3, hh2⟩ := hh.name (keeps_nil)
          refine c_loop (α := Nat) (fun u2 => q.j + 2 - u2) (fun u2 a w => (q.i ≤ u2 ∧ u2 ≤ q.j + 2 ∧ Sort.scanUp (fun x => egB x q.d[lo]!) q.d q.j u2 = Sort.scanUp (fun x => egB x q.d[lo]!) q.d q.j q.i) ∧ Sl 107 ([(10, .int .i64 (u2 : Int))] ++ KS3) a ∧ Has _ w0 ([] ++ HS3) w) q.i ⟨⟨Nat.le_refl _, by omega, rfl⟩, hl.addE (t := 10) (hk) rfl (by first | exact congrArg (Value.int .i64) (by first | omega | (simp only; omega)) | rfl), hh2⟩ ?_
          clear hk hh2 hl hh a w
          intro u2 a w hI
          obtain ⟨⟨ha1, ha2, ha3⟩, hl, hh⟩ := hI
          subst hKS3; subst hHS3
          simp only [List.cons_append, List.nil_append, List.append_nil, List.append_assoc] at hl hh
          refine c_seq ?_
          refine c_seq ?_
          refine c_region ?_
          refine wl (wl_val hl rfl trivial (r_move hl rfl) ?_)
          clear hl a; intro a hl
          refine wl (wl_val hl rfl trivial (r_move hl rfl) ?_)
          clear hl a; intro a hl
          refine wl (wl_val hl rfl trivial (r_leq hl rfl rfl) ?_)
          clear hl a; intro a hl
          refine wl (wl_val hl rfl trivial (r_move hl rfl) ?_)
          clear hl a; intro a hl
          refine sl_split (t := 67) hl rfl ?_ ?_
          · intro hg10; clear hl; intro hl
            try simp only [decide_eq_true_eq, decide_eq_false_iff_not, Bool.not_eq_true', Bool.not_eq_false', Bool.not_eq_true, Bool.not_eq_false, Bool.and_eq_true, Bool.or_eq_true, Bool.and_eq_false_iff, Bool.or_eq_false_iff, Bool.not_not, ne_eq, Int.not_lt, Int.not_le, Decidable.not_not, beq_iff_eq, bne_iff_ne] at hg10
            refine wl (wl_val hl rfl ⟨_, _, rfl, rfl, rfl⟩ (r_field hl rfl fld179_0) ?_)
            clear hl a; intro a hl
            refine wl (w_load hl hh rfl ⟨_, _, rfl, rfl, rfl⟩ one144 rfl (by repeat (first | exact find_head | apply find_tail | apply find_skip)) (by first | rfl) ?_)
            clear hl a; intro a hl
            refine wl (wl_val hl rfl ⟨_, _, rfl, rfl, rfl⟩ (r_move hl rfl) ?_)
            clear hl a; intro a hl
            refine wl (wl_val hl rfl ⟨_, _, rfl, rfl, rfl⟩ (r_move hl rfl) ?_)
            clear hl a; intro a hl
            refine wl (w_call hl hh rfl ⟨_, _, rfl, rfl, rfl⟩ rfl cal62 rfl (less_spec (hE.to hq1) _ _ u2 lo (by omega) (by omega) (by omega) (by omega)) (by repeat (first | exact keeps_nil | apply keeps_cons (by repeat (first | exact find_head | apply find_tail | apply find_skip)) (by first  | rfl) | exact keeps_self | exact keeps_left | apply keeps_app | apply keeps_mv | apply keeps_skip)) trivial ?_)
            clear hl hh a w; intro vc Fc a w hR hl hh
            obtain ⟨rfl, rfl⟩ := hR
            try simp only [List.cons_append, List.nil_append, List.append_assoc, List.append_nil] at hh
            refine wl (wl_val hl rfl trivial (r_pickT hl rfl rfl) ?_)
            clear hl a; intro a hl
            refine w_nil ?_
            have hl2 := hl.add (t := 1) (hl.add (t := 4) (hl.add (t := 10) (hl.add (t := 11) (hl.add (t := 73) (hl.nil) rfl) rfl) rfl) rfl) rfl; clear hl; have hl := hl2; clear hl2
            refine then_normal ?_
            refine c_cond hl rfl ?_ ?_
            · intro hc3
              try simp only [decide_eq_true_eq, decide_eq_false_iff_not, Bool.not_eq_true', Bool.not_eq_false', Bool.not_eq_true, Bool.not_eq_false, Bool.and_eq_true, Bool.or_eq_true, Bool.and_eq_false_iff, Bool.or_eq_false_iff, Bool.not_not, ne_eq, Int.not_lt, Int.not_le, Decidable.not_not, beq_iff_eq, bne_iff_ne] at hc3
              refine wp_skip ?_
              refine then_normal ?_
              refine wp_block ?_
              refine c_region ?_
              refine wl (wl_val hl rfl trivial (r_move hl rfl) ?_)
              clear hl a; intro a hl
              first | refine wl (wl_val hl rfl trivial (r_add hl rfl rfl (by simp only [Fits]; omega)) ?_) | refine wl (wl_val hl rfl trivial (r_addW hl rfl rfl) ?_)
              clear hl a; intro a hl
              refine wl (wl_val hl rfl trivial (r_assign hl rfl) ?_)
              clear hl a; intro a hl
              refine w_nil ?_
              have hl2 := hl.add (t := 1) (hl.add (t := 4) (hl.add (t := 10) (hl.add (t := 11) (hl.nil) rfl) rfl) rfl) rfl; clear hl; have hl := hl2; clear hl2
              refine blk_normal ?_
              refine then_normal ?_
              refine ⟨(u2 + 1), (by omega), ⟨by omega, by omega, by rw [← ha3]; exact (up_go (by omega) (by assumption)).symm⟩, hl.addE (t := 10) (hl.addE (t := 1) (hl.addE (t := 4) (hl.addE (t := 11) (hl.nil) rfl (by first | rfl | exact congrArg (Value.int .i64) (by first | omega | (simp only; omega)))) rfl (by first | rfl | exact congrArg (Value.int .i64) (by first | omega | (simp only; omega)))) rfl (by first | rfl | exact congrArg (Value.int .i64) (by first | omega | (simp only; omega)))) rfl (by first | rfl | exact congrArg (Value.int .i64) (by first | omega | (simp only; omega))), hh.keep (by repeat (first | exact keeps_nil | apply keeps_cons (by repeat (first | exact find_head | apply find_tail | apply find_skip)) (by first  | rfl) | exact keeps_self | exact keeps_left | apply keeps_app | apply keeps_mv | apply keeps_skip))⟩
            · intro hc3
              try simp only [decide_eq_true_eq, decide_eq_false_iff_not, Bool.not_eq_true', Bool.not_eq_false', Bool.not_eq_true, Bool.not_eq_false, Bool.and_eq_true, Bool.or_eq_true, Bool.and_eq_false_iff, Bool.or_eq_false_iff, Bool.not_not, ne_eq, Int.not_lt, Int.not_le, Decidable.not_not, beq_iff_eq, bne_iff_ne] at hc3
              have hu2e : Sort.scanUp (fun x => egB x q.d[lo]!) q.d q.j q.i = u2 := by rw [← ha3]; exact up_stop (fun h9 => by first | omega | (have h8 := h9.2; simp only [(show egB q.d[u2]! q.d[lo]! = false by assumption)] at h8; cases h8))
              refine wp_exit ?_
              refine then_exit ?_
              refine then_exit ?_
              refine blk_exit ?_
              refine then_normal ?_
              refine c_seq ?_
              refine wp_block ?_
              obtain ⟨KS4, hKS4, hk⟩ := (hl.add (t := 1) (hl.add (t := 4) (hl.add (t := 10) (hl.nil) rfl) rfl) rfl).name
              obtain ⟨HS4, hHS4, hh2⟩ := hh.name (keeps_nil)
              refine c_loop (α := Nat) (fun v2 => v2) (fun v2 a w => (v2 ≤ q.j ∧ (u2 ≤ v2 + 2 ∧ lo ≤ v2) ∧ Sort.scanDown (fun x => !egB x q.d[lo]!) q.d u2 v2 = Sort.scanDown (fun x => !egB x q.d[lo]!) q.d u2 q.j) ∧ Sl 107 ([(11, .int .i64 (v2 : Int))] ++ KS4) a ∧ Has _ w0 ([] ++ HS4) w) q.j ⟨⟨Nat.le_refl _, ⟨by omega, by omega⟩, rfl⟩, hl.addE (t := 11) (hk) rfl (by first | exact congrArg (Value.int .i64) (by first | omega | (simp only; omega)) | rfl), hh2⟩ ?_
              clear hk hh2 hl hh a w
              intro v2 a w hI
              obtain ⟨⟨hd1, hd2, hd3⟩, hl, hh⟩ := hI
              subst hKS4; subst hHS4
              simp only [List.cons_append, List.nil_append, List.append_nil, List.append_assoc] at hl hh
              refine c_seq ?_
              refine c_seq ?_
              refine c_region ?_
              refine wl (wl_val hl rfl trivial (r_move hl rfl) ?_)
              clear hl a; intro a hl
              refine wl (wl_val hl rfl trivial (r_move hl rfl) ?_)
              clear hl a; intro a hl
              refine wl (wl_val hl rfl trivial (r_leq hl rfl rfl) ?_)
              clear hl a; intro a hl
              refine wl (wl_val hl rfl trivial (r_move hl rfl) ?_)
              clear hl a; intro a hl
              refine sl_split (t := 79) hl rfl ?_ ?_
              · intro hg11; clear hl; intro hl
                try simp only [decide_eq_true_eq, decide_eq_false_iff_not, Bool.not_eq_true', Bool.not_eq_false', Bool.not_eq_true, Bool.not_eq_false, Bool.and_eq_true, Bool.or_eq_true, Bool.and_eq_false_iff, Bool.or_eq_false_iff, Bool.not_not, ne_eq, Int.not_lt, Int.not_le, Decidable.not_not, beq_iff_eq, bne_iff_ne] at hg11
                refine wl (wl_val hl rfl ⟨_, _, rfl, rfl, rfl⟩ (r_field hl rfl fld179_0) ?_)
                clear hl a; intro a hl
                refine wl (w_load hl hh rfl ⟨_, _, rfl, rfl, rfl⟩ one144 rfl (by repeat (first | exact find_head | apply find_tail | apply find_skip)) (by first | rfl) ?_)
                clear hl a; intro a hl
                refine wl (wl_val hl rfl ⟨_, _, rfl, rfl, rfl⟩ (r_move hl rfl) ?_)
                clear hl a; intro a hl
                refine wl (wl_val hl rfl ⟨_, _, rfl, rfl, rfl⟩ (r_move hl rfl) ?_)
                clear hl a; intro a hl
                refine wl (w_call hl hh rfl ⟨_, _, rfl, rfl, rfl⟩ rfl cal62 rfl (less_spec (hE.to hq1) _ _ v2 lo (by omega) (by omega) (by omega) (by omega)) (by repeat (first | exact keeps_nil | apply keeps_cons (by repeat (first | exact find_head | apply find_tail | apply find_skip)) (by first  | rfl) | exact keeps_self | exact keeps_left | apply keeps_app | apply keeps_mv | apply keeps_skip)) trivial ?_)
                clear hl hh a w; intro vc Fc a w hR hl hh
                obtain ⟨rfl, rfl⟩ := hR
                try simp only [List.cons_append, List.nil_append, List.append_assoc, List.append_nil] at hh
                refine wl (wl_val hl rfl ⟨_, _, rfl, rfl, rfl⟩ (r_not hl rfl) ?_)
                clear hl a; intro a hl
                refine wl (wl_val hl rfl trivial (r_pickT hl rfl rfl) ?_)
                clear hl a; intro a hl
                refine w_nil ?_
                have hl2 := hl.add (t := 1) (hl.add (t := 4) (hl.add (t := 10) (hl.add (t := 11) (hl.add (t := 86) (hl.nil) rfl) rfl) rfl) rfl) rfl; clear hl; have hl := hl2; clear hl2
                refine then_normal ?_
                refine c_cond hl rfl ?_ ?_
                · intro hc4
                  try simp only [decide_eq_true_eq, decide_eq_false_iff_not, Bool.not_eq_true', Bool.not_eq_false', Bool.not_eq_true, Bool.not_eq_false, Bool.and_eq_true, Bool.or_eq_true, Bool.and_eq_false_iff, Bool.or_eq_false_iff, Bool.not_not, ne_eq, Int.not_lt, Int.not_le, Decidable.not_not, beq_iff_eq, bne_iff_ne] at hc4
                  refine wp_skip ?_
                  refine then_normal ?_
                  refine wp_block ?_
                  refine c_region ?_
                  refine wl (wl_val hl rfl trivial (r_move hl rfl) ?_)
                  clear hl a; intro a hl
                  first | refine wl (wl_val hl rfl trivial (r_sub hl rfl rfl (by simp only [Fits]; omega)) ?_) | refine wl (wl_val hl rfl trivial (r_subW hl rfl rfl) ?_)
                  clear hl a; intro a hl
                  refine wl (wl_val hl rfl trivial (r_assign hl rfl) ?_)
                  clear hl a; intro a hl
                  refine w_nil ?_
                  have hl2 := hl.add (t := 1) (hl.add (t := 4) (hl.add (t := 10) (hl.add (t := 11) (hl.nil) rfl) rfl) rfl) rfl; clear hl; have hl := hl2; clear hl2
                  refine blk_normal ?_
                  refine then_normal ?_
                  refine ⟨(v2 - 1), (by omega), ⟨by omega, ⟨by omega, by omega⟩, by rw [← hd3]; exact (dn_goN (by omega) (by omega) (by assumption)).symm⟩, hl.addE (t := 11) (hl.addE (t := 1) (hl.addE (t := 4) (hl.addE (t := 10) (hl.nil) rfl (by first | rfl | exact congrArg (Value.int .i64) (by first | omega | (simp only; omega)))) rfl (by first | rfl | exact congrArg (Value.int .i64) (by first | omega | (simp only; omega)))) rfl (by first | rfl | exact congrArg (Value.int .i64) (by first | omega | (simp only; omega)))) rfl (by first | rfl | exact congrArg (Value.int .i64) (by first | omega | (simp only; omega))), hh.keep (by repeat (first | exact keeps_nil | apply keeps_cons (by repeat (first | exact find_head | apply find_tail | apply find_skip)) (by first  | rfl) | exact keeps_self | exact keeps_left | apply keeps_app | apply keeps_mv | apply keeps_skip))⟩
                · intro hc4
                  try simp only [decide_eq_true_eq, decide_eq_false_iff_not, Bool.not_eq_true', Bool.not_eq_false', Bool.not_eq_true, Bool.not_eq_false, Bool.and_eq_true, Bool.or_eq_true, Bool.and_eq_false_iff, Bool.or_eq_false_iff, Bool.not_not, ne_eq, Int.not_lt, Int.not_le, Decidable.not_not, beq_iff_eq, bne_iff_ne] at hc4
                  have hv2e : Sort.scanDown (fun x => !egB x q.d[lo]!) q.d u2 q.j = v2 := by rw [← hd3]; exact dn_stop (fun h9 => by first | omega | (have h8 := h9.2; simp only [show egB q.d[v2]! q.d[lo]! = true by assumption] at h8; cases h8))
                  refine wp_exit ?_
                  refine then_exit ?_
                  refine then_exit ?_
                  refine blk_exit ?_
                  refine then_normal ?_
                  refine c_seq ?_
                  refine c_seq ?_
                  refine c_region ?_
                  refine wl (wl_val hl rfl trivial (r_move hl rfl) ?_)
                  clear hl a; intro a hl
                  refine wl (wl_val hl rfl trivial (r_move hl rfl) ?_)
                  clear hl a; intro a hl
                  refine wl (wl_val hl rfl trivial (r_gtr hl rfl rfl) ?_)
                  clear hl a; intro a hl
                  refine w_nil ?_
                  have hl2 := hl.add (t := 1) (hl.add (t := 4) (hl.add (t := 10) (hl.add (t := 11) (hl.add (t := 91) (hl.nil) rfl) rfl) rfl) rfl) rfl; clear hl; have hl := hl2; clear hl2
                  refine then_normal ?_
                  refine c_cond hl rfl ?_ ?_
                  · intro hc5
                    try simp only [decide_eq_true_eq, decide_eq_false_iff_not, Bool.not_eq_true', Bool.not_eq_false', Bool.not_eq_true, Bool.not_eq_false, Bool.and_eq_true, Bool.or_eq_true, Bool.and_eq_false_iff, Bool.or_eq_false_iff, Bool.not_not, ne_eq, Int.not_lt, Int.not_le, Decidable.not_not, beq_iff_eq, bne_iff_ne] at hc5
                    have hpt := part_F hue hve (by omega) (hq3.symm.trans (pl_stop hu2e hv2e (by omega)))
                    refine wp_exit ?_
                    refine then_exit ?_
                    refine blk_exit_ne rfl ?_
                    refine then_exit ?_
                    refine blk_exit ?_
                    refine then_normal ?_
                    refine c_seq ?_
                    refine c_region ?_
                    refine wl (wl_val hl rfl trivial (r_field hl rfl fld179_1) ?_)
                    clear hl a; intro a hl
                    refine wl (w_load hl hh rfl trivial one173 rfl (by repeat (first | exact find_head | apply find_tail | apply find_skip)) (by first | rfl) ?_)
                    clear hl a; intro a hl
                    refine wl (wl_val hl rfl trivial (r_move hl rfl) ?_)
                    clear hl a; intro a hl
                    refine wl (wl_val hl rfl trivial (r_move hl rfl) ?_)
                    clear hl a; intro a hl
                    refine wl (w_swap (v2) (lo) egc_len (by decide) hl hh rfl trivial rfl rfl (by repeat (first | exact find_head | apply find_tail | apply find_skip)) (hE.swz hq1) (by omega) (by omega) (by omega) (by omega) ?_)
                    clear hl hh a w; intro a w hl hh
                    refine w_nil ?_
                    have hl2 := hl.add (t := 11) (hl.nil) rfl; clear hl; have hl := hl2; clear hl2
                    refine then_normal ?_
                    refine c_seq ?_
                    refine c_region ?_
                    refine wl (wl_val hl rfl trivial (r_move hl rfl) ?_)
                    clear hl a; intro a hl
                    refine wl (wl_val hl rfl trivial (r_assign hl rfl) ?_)
                    clear hl a; intro a hl
                    refine wl (wl_val hl rfl trivial (r_assign hl rfl) ?_)
                    clear hl a; intro a hl
                    refine w_nil ?_
                    have hl2 := hl.add (t := 8) (hl.add (t := 9) (hl.nil) rfl) rfl; clear hl; have hl := hl2; clear hl2
                    refine then_normal ?_
                    refine wp_ret ?_
                    refine f_ret2 (F' := [(b, C (fl egc (Sort.swp q.d v2 lo).toList ++ junk) 102), (Bs, C sL 46)]) hl hh rfl rfl rfl (by repeat (first | exact keeps_nil | apply keeps_cons (by repeat (first | exact find_head | apply find_tail | apply find_skip)) (by first  | rfl) | exact keeps_self | exact keeps_left | apply keeps_app | apply keeps_mv | apply keeps_skip)) ?_
                    rw [hpt]
                    exact ⟨rfl, rfl, by simp only; rw [swp_sz]; exact hq1, by simp only; omega, by simp only; omega⟩
                  · intro hc5
                    try simp only [decide_eq_true_eq, decide_eq_false_iff_not, Bool.not_eq_true', Bool.not_eq_false', Bool.not_eq_true, Bool.not_eq_false, Bool.and_eq_true, Bool.or_eq_true, Bool.and_eq_false_iff, Bool.or_eq_false_iff, Bool.not_not, ne_eq, Int.not_lt, Int.not_le, Decidable.not_not, beq_iff_eq, bne_iff_ne] at hc5
                    refine wp_skip ?_
                    refine then_normal ?_
                    refine c_seq ?_
                    refine c_region ?_
                    refine wl (wl_val hl rfl trivial (r_field hl rfl fld179_1) ?_)
                    clear hl a; intro a hl
                    refine wl (w_load hl hh rfl trivial one173 rfl (by repeat (first | exact find_head | apply find_tail | apply find_skip)) (by first | rfl) ?_)
                    clear hl a; intro a hl
                    refine wl (wl_val hl rfl trivial (r_move hl rfl) ?_)
                    clear hl a; intro a hl
                    refine wl (wl_val hl rfl trivial (r_move hl rfl) ?_)
                    clear hl a; intro a hl
                    refine wl (w_swap (u2) (v2) egc_len (by decide) hl hh rfl trivial rfl rfl (by repeat (first | exact find_head | apply find_tail | apply find_skip)) (hE.swz hq1) (by omega) (by omega) (by omega) (by omega) ?_)
                    clear hl hh a w; intro a w hl hh
                    refine w_nil ?_
                    have hl2 := hl.add (t := 1) (hl.add (t := 4) (hl.add (t := 10) (hl.add (t := 11) (hl.nil) rfl) rfl) rfl) rfl; clear hl; have hl := hl2; clear hl2
                    refine then_normal ?_
                    refine c_seq ?_
                    refine c_region ?_
                    refine wl (wl_val hl rfl trivial (r_move hl rfl) ?_)
                    clear hl a; intro a hl
                    first | refine wl (wl_val hl rfl trivial (r_add hl rfl rfl (by simp only [Fits]; omega)) ?_) | refine wl (wl_val hl rfl trivial (r_addW hl rfl rfl) ?_)
                    clear hl a; intro a hl
                    refine wl (wl_val hl rfl trivial (r_assign hl rfl) ?_)
                    clear hl a; intro a hl
                    refine w_nil ?_
                    have hl2 := hl.add (t := 1) (hl.add (t := 4) (hl.add (t := 10) (hl.add (t := 11) (hl.nil) rfl) rfl) rfl) rfl; clear hl; have hl := hl2; clear hl2
                    refine then_normal ?_
                    refine c_region ?_
                    refine wl (wl_val hl rfl trivial (r_move hl rfl) ?_)
                    clear hl a; intro a hl
                    first | refine wl (wl_val hl rfl trivial (r_sub hl rfl rfl (by simp only [Fits]; omega)) ?_) | refine wl (wl_val hl rfl trivial (r_subW hl rfl rfl) ?_)
                    clear hl a; intro a hl
                    refine wl (wl_val hl rfl trivial (r_assign hl rfl) ?_)
                    clear hl a; intro a hl
                    refine w_nil ?_
                    have hl2 := hl.add (t := 1) (hl.add (t := 4) (hl.add (t := 10) (hl.add (t := 11) (hl.nil) rfl) rfl) rfl) rfl; clear hl; have hl := hl2; clear hl2
                    refine blk_normal ?_
                    refine then_normal ?_
                    refine ⟨⟨Sort.swp q.d u2 v2, u2 + 1, v2 - 1⟩, (by simp only; omega), ⟨by simp only; rw [swp_sz]; exact hq1, ⟨by simp only; omega, by simp only; omega, by simp only; omega⟩, by simp only; rw [← hq3]; exact (pl_go hu2e hv2e (by omega) (by omega) (by omega) (by omega)).symm⟩, hl.addE (t := 10) (hl.addE (t := 11) (hl.addE (t := 1) (hl.addE (t := 4) (hl.nil) rfl (by first | rfl | exact congrArg (Value.int .i64) (by first | omega | (simp only; omega)))) rfl (by first | rfl | exact congrArg (Value.int .i64) (by first | omega | (simp only; omega)))) rfl (by first | rfl | exact congrArg (Value.int .i64) (by first | omega | (simp only; omega)))) rfl (by first | rfl | exact congrArg (Value.int .i64) (by first | omega | (simp only; omega))), hh.keep (by repeat (first | exact keeps_nil | apply keeps_cons (by repeat (first | exact find_head | apply find_tail | apply find_skip)) (by first  | rfl) | exact keeps_self | exact keeps_left | apply keeps_app | apply keeps_mv | apply keeps_skip))⟩
              · intro hg11; clear hl; intro hl
                try simp only [decide_eq_true_eq, decide_eq_false_iff_not, Bool.not_eq_true', Bool.not_eq_false', Bool.not_eq_true, Bool.not_eq_false, Bool.and_eq_true, Bool.or_eq_true, Bool.and_eq_false_iff, Bool.or_eq_false_iff, Bool.not_not, ne_eq, Int.not_lt, Int.not_le, Decidable.not_not, beq_iff_eq, bne_iff_ne] at hg11
                refine wl (wl_skip hl rfl ⟨_, _, rfl, rfl, rfl⟩ ?_)
                clear hl a; intro a hl
                refine wl (wl_skip hl rfl ⟨_, _, rfl, rfl, rfl⟩ ?_)
                clear hl a; intro a hl
                refine wl (wl_skip hl rfl ⟨_, _, rfl, rfl, rfl⟩ ?_)
                clear hl a; intro a hl
                refine wl (wl_skip hl rfl ⟨_, _, rfl, rfl, rfl⟩ ?_)
                clear hl a; intro a hl
                refine wl (wl_skip hl rfl ⟨_, _, rfl, rfl, rfl⟩ ?_)
                clear hl a; intro a hl
                refine wl (wl_skip hl rfl ⟨_, _, rfl, rfl, rfl⟩ ?_)
                clear hl a; intro a hl
                refine wl (wl_val hl rfl trivial (r_pickF hl rfl rfl) ?_)
                clear hl a; intro a hl
                refine w_nil ?_
                have hl2 := hl.add (t := 1) (hl.add (t := 4) (hl.add (t := 10) (hl.add (t := 11) (hl.add (t := 86) (hl.nil) rfl) rfl) rfl) rfl) rfl; clear hl; have hl := hl2; clear hl2
                refine then_normal ?_
                refine c_condF hl rfl ?_
                have hv2e : Sort.scanDown (fun x => !egB x q.d[lo]!) q.d u2 q.j = v2 := by rw [← hd3]; exact dn_stop (fun h9 => by first | omega | (have h8 := h9.2; simp only [show egB q.d[v2]! q.d[lo]! = true by assumption] at h8; cases h8))
                refine wp_exit ?_
                refine then_exit ?_
                refine then_exit ?_
                refine blk_exit ?_
                refine then_normal ?_
                refine c_seq ?_
                refine c_seq ?_
                refine c_region ?_
                refine wl (wl_val hl rfl trivial (r_move hl rfl) ?_)
                clear hl a; intro a hl
                refine wl (wl_val hl rfl trivial (r_move hl rfl) ?_)
                clear hl a; intro a hl
                refine wl (wl_val hl rfl trivial (r_gtr hl rfl rfl) ?_)
                clear hl a; intro a hl
                refine w_nil ?_
                have hl2 := hl.add (t := 1) (hl.add (t := 4) (hl.add (t := 10) (hl.add (t := 11) (hl.add (t := 91) (hl.nil) rfl) rfl) rfl) rfl) rfl; clear hl; have hl := hl2; clear hl2
                refine then_normal ?_
                refine c_cond hl rfl ?_ ?_
                · intro hc5
                  try simp only [decide_eq_true_eq, decide_eq_false_iff_not, Bool.not_eq_true', Bool.not_eq_false', Bool.not_eq_true, Bool.not_eq_false, Bool.and_eq_true, Bool.or_eq_true, Bool.and_eq_false_iff, Bool.or_eq_false_iff, Bool.not_not, ne_eq, Int.not_lt, Int.not_le, Decidable.not_not, beq_iff_eq, bne_iff_ne] at hc5
                  have hpt := part_F hue hve (by omega) (hq3.symm.trans (pl_stop hu2e hv2e (by omega)))
                  refine wp_exit ?_
                  refine then_exit ?_
                  refine blk_exit_ne rfl ?_
                  refine then_exit ?_
                  refine blk_exit ?_
                  refine then_normal ?_
                  refine c_seq ?_
                  refine c_region ?_
                  refine wl (wl_val hl rfl trivial (r_field hl rfl fld179_1) ?_)
                  clear hl a; intro a hl
                  refine wl (w_load hl hh rfl trivial one173 rfl (by repeat (first | exact find_head | apply find_tail | apply find_skip)) (by first | rfl) ?_)
                  clear hl a; intro a hl
                  refine wl (wl_val hl rfl trivial (r_move hl rfl) ?_)
                  clear hl a; intro a hl
                  refine wl (wl_val hl rfl trivial (r_move hl rfl) ?_)
                  clear hl a; intro a hl
                  refine wl (w_swap (v2) (lo) egc_len (by decide) hl hh rfl trivial rfl rfl (by repeat (first | exact find_head | apply find_tail | apply find_skip)) (hE.swz hq1) (by omega) (by omega) (by omega) (by omega) ?_)
                  clear hl hh a w; intro a w hl hh
                  refine w_nil ?_
                  have hl2 := hl.add (t := 11) (hl.nil) rfl; clear hl; have hl := hl2; clear hl2
                  refine then_normal ?_
                  refine c_seq ?_
                  refine c_region ?_
                  refine wl (wl_val hl rfl trivial (r_move hl rfl) ?_)
                  clear hl a; intro a hl
                  refine wl (wl_val hl rfl trivial (r_assign hl rfl) ?_)
                  clear hl a; intro a hl
                  refine wl (wl_val hl rfl trivial (r_assign hl rfl) ?_)
                  clear hl a; intro a hl
                  refine w_nil ?_
                  have hl2 := hl.add (t := 8) (hl.add (t := 9) (hl.nil) rfl) rfl; clear hl; have hl := hl2; clear hl2
                  refine then_normal ?_
                  refine wp_ret ?_
                  refine f_ret2 (F' := [(b, C (fl egc (Sort.swp q.d v2 lo).toList ++ junk) 102), (Bs, C sL 46)]) hl hh rfl rfl rfl (by repeat (first | exact keeps_nil | apply keeps_cons (by repeat (first | exact find_head | apply find_tail | apply find_skip)) (by first  | rfl) | exact keeps_self | exact keeps_left | apply keeps_app | apply keeps_mv | apply keeps_skip)) ?_
                  rw [hpt]
                  exact ⟨rfl, rfl, by simp only; rw [swp_sz]; exact hq1, by simp only; omega, by simp only; omega⟩
                · intro hc5
                  try simp only [decide_eq_true_eq, decide_eq_false_iff_not, Bool.not_eq_true', Bool.not_eq_false', Bool.not_eq_true, Bool.not_eq_false, Bool.and_eq_true, Bool.or_eq_true, Bool.and_eq_false_iff, Bool.or_eq_false_iff, Bool.not_not, ne_eq, Int.not_lt, Int.not_le, Decidable.not_not, beq_iff_eq, bne_iff_ne] at hc5
                  refine wp_skip ?_
                  refine then_normal ?_
                  refine c_seq ?_
                  refine c_region ?_
                  refine wl (wl_val hl rfl trivial (r_field hl rfl fld179_1) ?_)
                  clear hl a; intro a hl
                  refine wl (w_load hl hh rfl trivial one173 rfl (by repeat (first | exact find_head | apply find_tail | apply find_skip)) (by first | rfl) ?_)
                  clear hl a; intro a hl
                  refine wl (wl_val hl rfl trivial (r_move hl rfl) ?_)
                  clear hl a; intro a hl
                  refine wl (wl_val hl rfl trivial (r_move hl rfl) ?_)
                  clear hl a; intro a hl
                  refine wl (w_swap (u2) (v2) egc_len (by decide) hl hh rfl trivial rfl rfl (by repeat (first | exact find_head | apply find_tail | apply find_skip)) (hE.swz hq1) (by omega) (by omega) (by omega) (by omega) ?_)
                  clear hl hh a w; intro a w hl hh
                  refine w_nil ?_
                  have hl2 := hl.add (t := 1) (hl.add (t := 4) (hl.add (t := 10) (hl.add (t := 11) (hl.nil) rfl) rfl) rfl) rfl; clear hl; have hl := hl2; clear hl2
                  refine then_normal ?_
                  refine c_seq ?_
                  refine c_region ?_
                  refine wl (wl_val hl rfl trivial (r_move hl rfl) ?_)
                  clear hl a; intro a hl
                  first | refine wl (wl_val hl rfl trivial (r_add hl rfl rfl (by simp only [Fits]; omega)) ?_) | refine wl (wl_val hl rfl trivial (r_addW hl rfl rfl) ?_)
                  clear hl a; intro a hl
                  refine wl (wl_val hl rfl trivial (r_assign hl rfl) ?_)
                  clear hl a; intro a hl
                  refine w_nil ?_
                  have hl2 := hl.add (t := 1) (hl.add (t := 4) (hl.add (t := 10) (hl.add (t := 11) (hl.nil) rfl) rfl) rfl) rfl; clear hl; have hl := hl2; clear hl2
                  refine then_normal ?_
                  refine c_region ?_
                  refine wl (wl_val hl rfl trivial (r_move hl rfl) ?_)
                  clear hl a; intro a hl
                  first | refine wl (wl_val hl rfl trivial (r_sub hl rfl rfl (by simp only [Fits]; omega)) ?_) | refine wl (wl_val hl rfl trivial (r_subW hl rfl rfl) ?_)
                  clear hl a; intro a hl
                  refine wl (wl_val hl rfl trivial (r_assign hl rfl) ?_)
                  clear hl a; intro a hl
                  refine w_nil ?_
                  have hl2 := hl.add (t := 1) (hl.add (t := 4) (hl.add (t := 10) (hl.add (t := 11) (hl.nil) rfl) rfl) rfl) rfl; clear hl; have hl := hl2; clear hl2
                  refine blk_normal ?_
                  refine then_normal ?_
                  refine ⟨⟨Sort.swp q.d u2 v2, u2 + 1, v2 - 1⟩, (by simp only; omega), ⟨by simp only; rw [swp_sz]; exact hq1, ⟨by simp only; omega, by simp only; omega, by simp only; omega⟩, by simp only; rw [← hq3]; exact (pl_go hu2e hv2e (by omega) (by omega) (by omega) (by omega)).symm⟩, hl.addE (t := 10) (hl.addE (t := 11) (hl.addE (t := 1) (hl.addE (t := 4) (hl.nil) rfl (by first | rfl | exact congrArg (Value.int .i64) (by first | omega | (simp only; omega)))) rfl (by first | rfl | exact congrArg (Value.int .i64) (by first | omega | (simp only; omega)))) rfl (by first | rfl | exact congrArg (Value.int .i64) (by first | omega | (simp only; omega)))) rfl (by first | rfl | exact congrArg (Value.int .i64) (by first | omega | (simp only; omega))), hh.keep (by repeat (first | exact keeps_nil | apply keeps_cons (by repeat (first | exact find_head | apply find_tail | apply find_skip)) (by first  | rfl) | exact keeps_self | exact keeps_left | apply keeps_app | apply keeps_mv | apply keeps_skip))⟩
          · intro hg10; clear hl; intro hl
            try simp only [decide_eq_true_eq, decide_eq_false_iff_not, Bool.not_eq_true', Bool.not_eq_false', Bool.not_eq_true, Bool.not_eq_false, Bool.and_eq_true, Bool.or_eq_true, Bool.and_eq_false_iff, Bool.or_eq_false_iff, Bool.not_not, ne_eq, Int.not_lt, Int.not_le, Decidable.not_not, beq_iff_eq, bne_iff_ne] at hg10
            refine wl (wl_skip hl rfl ⟨_, _, rfl, rfl, rfl⟩ ?_)
            clear hl a; intro a hl
            refine wl (wl_skip hl rfl ⟨_, _, rfl, rfl, rfl⟩ ?_)
            clear hl a; intro a hl
            refine wl (wl_skip hl rfl ⟨_, _, rfl, rfl, rfl⟩ ?_)
            clear hl a; intro a hl
            refine wl (wl_skip hl rfl ⟨_, _, rfl, rfl, rfl⟩ ?_)
            clear hl a; intro a hl
            refine wl (wl_skip hl rfl ⟨_, _, rfl, rfl, rfl⟩ ?_)
            clear hl a; intro a hl
            refine wl (wl_val hl rfl trivial (r_pickF hl rfl rfl) ?_)
            clear hl a; intro a hl
            refine w_nil ?_
            have hl2 := hl.add (t := 1) (hl.add (t := 4) (hl.add (t := 10) (hl.add (t := 11) (hl.add (t := 73) (hl.nil) rfl) rfl) rfl) rfl) rfl; clear hl; have hl := hl2; clear hl2
            refine then_normal ?_
            refine c_condF hl rfl ?_
            have hu2e : Sort.scanUp (fun x => egB x q.d[lo]!) q.d q.j q.i = u2 := by rw [← ha3]; exact up_stop (fun h9 => by first | omega | (have h8 := h9.2; simp only [(show egB q.d[u2]! q.d[lo]! = false by assumption)] at h8; cases h8))
            refine wp_exit ?_
            refine then_exit ?_
            refine then_exit ?_
            refine blk_exit ?_
            refine then_normal ?_
            refine c_seq ?_
            refine wp_block ?_
            obtain ⟨KS4, hKS4, hk⟩ := (hl.add (t := 1) (hl.add (t := 4) (hl.add (t := 10) (hl.nil) rfl) rfl) rfl).name
            obtain ⟨HS4, hHS4, hh2⟩ := hh.name (keeps_nil)
            refine c_loop (α := Nat) (fun v2 => v2) (fun v2 a w => (v2 ≤ q.j ∧ (u2 ≤ v2 + 2 ∧ lo ≤ v2) ∧ Sort.scanDown (fun x => !egB x q.d[lo]!) q.d u2 v2 = Sort.scanDown (fun x => !egB x q.d[lo]!) q.d u2 q.j) ∧ Sl 107 ([(11, .int .i64 (v2 : Int))] ++ KS4) a ∧ Has _ w0 ([] ++ HS4) w) q.j ⟨⟨Nat.le_refl _, ⟨by omega, by omega⟩, rfl⟩, hl.addE (t := 11) (hk) rfl (by first | exact congrArg (Value.int .i64) (by first | omega | (simp only; omega)) | rfl), hh2⟩ ?_
            clear hk hh2 hl hh a w
            intro v2 a w hI
            obtain ⟨⟨hd1, hd2, hd3⟩, hl, hh⟩ := hI
            subst hKS4; subst hHS4
            simp only [List.cons_append, List.nil_append, List.append_nil, List.append_assoc] at hl hh
            refine c_seq ?_
            refine c_seq ?_
            refine c_region ?_
            refine wl (wl_val hl rfl trivial (r_move hl rfl) ?_)
            clear hl a; intro a hl
            refine wl (wl_val hl rfl trivial (r_move hl rfl) ?_)
            clear hl a; intro a hl
            refine wl (wl_val hl rfl trivial (r_leq hl rfl rfl) ?_)
            clear hl a; intro a hl
            refine wl (wl_val hl rfl trivial (r_move hl rfl) ?_)
            clear hl a; intro a hl
            refine sl_split (t := 79) hl rfl ?_ ?_
            · intro hg12; clear hl; intro hl
              try simp only [decide_eq_true_eq, decide_eq_false_iff_not, Bool.not_eq_true', Bool.not_eq_false', Bool.not_eq_true, Bool.not_eq_false, Bool.and_eq_true, Bool.or_eq_true, Bool.and_eq_false_iff, Bool.or_eq_false_iff, Bool.not_not, ne_eq, Int.not_lt, Int.not_le, Decidable.not_not, beq_iff_eq, bne_iff_ne] at hg12
              refine wl (wl_val hl rfl ⟨_, _, rfl, rfl, rfl⟩ (r_field hl rfl fld179_0) ?_)
              clear hl a; intro a hl
              refine wl (w_load hl hh rfl ⟨_, _, rfl, rfl, rfl⟩ one144 rfl (by repeat (first | exact find_head | apply find_tail | apply find_skip)) (by first | rfl) ?_)
              clear hl a; intro a hl
              refine wl (wl_val hl rfl ⟨_, _, rfl, rfl, rfl⟩ (r_move hl rfl) ?_)
              clear hl a; intro a hl
              refine wl (wl_val hl rfl ⟨_, _, rfl, rfl, rfl⟩ (r_move hl rfl) ?_)
              clear hl a; intro a hl
              refine wl (w_call hl hh rfl ⟨_, _, rfl, rfl, rfl⟩ rfl cal62 rfl (less_spec (hE.to hq1) _ _ v2 lo (by omega) (by omega) (by omega) (by omega)) (by repeat (first | exact keeps_nil | apply keeps_cons (by repeat (first | exact find_head | apply find_tail | apply find_skip)) (by first  | rfl) | exact keeps_self | exact keeps_left | apply keeps_app | apply keeps_mv | apply keeps_skip)) trivial ?_)
              clear hl hh a w; intro vc Fc a w hR hl hh
              obtain ⟨rfl, rfl⟩ := hR
              try simp only [List.cons_append, List.nil_append, List.append_assoc, List.append_nil] at hh
              refine wl (wl_val hl rfl ⟨_, _, rfl, rfl, rfl⟩ (r_not hl rfl) ?_)
              clear hl a; intro a hl
              refine wl (wl_val hl rfl trivial (r_pickT hl rfl rfl) ?_)
              clear hl a; intro a hl
              refine w_nil ?_
              have hl2 := hl.add (t := 1) (hl.add (t := 4) (hl.add (t := 10) (hl.add (t := 11) (hl.add (t := 86) (hl.nil) rfl) rfl) rfl) rfl) rfl; clear hl; have hl := hl2; clear hl2
              refine then_normal ?_
              refine c_cond hl rfl ?_ ?_
              · intro hc4
                try simp only [decide_eq_true_eq, decide_eq_false_iff_not, Bool.not_eq_true', Bool.not_eq_false', Bool.not_eq_true, Bool.not_eq_false, Bool.and_eq_true, Bool.or_eq_true, Bool.and_eq_false_iff, Bool.or_eq_false_iff, Bool.not_not, ne_eq, Int.not_lt, Int.not_le, Decidable.not_not, beq_iff_eq, bne_iff_ne] at hc4
                refine wp_skip ?_
                refine then_normal ?_
                refine wp_block ?_
                refine c_region ?_
                refine wl (wl_val hl rfl trivial (r_move hl rfl) ?_)
                clear hl a; intro a hl
                first | refine wl (wl_val hl rfl trivial (r_sub hl rfl rfl (by simp only [Fits]; omega)) ?_) | refine wl (wl_val hl rfl trivial (r_subW hl rfl rfl) ?_)
                clear hl a; intro a hl
                refine wl (wl_val hl rfl trivial (r_assign hl rfl) ?_)
                clear hl a; intro a hl
                refine w_nil ?_
                have hl2 := hl.add (t := 1) (hl.add (t := 4) (hl.add (t := 10) (hl.add (t := 11) (hl.nil) rfl) rfl) rfl) rfl; clear hl; have hl := hl2; clear hl2
                refine blk_normal ?_
                refine then_normal ?_
                refine ⟨(v2 - 1), (by omega), ⟨by omega, ⟨by omega, by omega⟩, by rw [← hd3]; exact (dn_goN (by omega) (by omega) (by assumption)).symm⟩, hl.addE (t := 11) (hl.addE (t := 1) (hl.addE (t := 4) (hl.addE (t := 10) (hl.nil) rfl (by first | rfl | exact congrArg (Value.int .i64) (by first | omega | (simp only; omega)))) rfl (by first | rfl | exact congrArg (Value.int .i64) (by first | omega | (simp only; omega)))) rfl (by first | rfl | exact congrArg (Value.int .i64) (by first | omega | (simp only; omega)))) rfl (by first | rfl | exact congrArg (Value.int .i64) (by first | omega | (simp only; omega))), hh.keep (by repeat (first | exact keeps_nil | apply keeps_cons (by repeat (first | exact find_head | apply find_tail | apply find_skip)) (by first  | rfl) | exact keeps_self | exact keeps_left | apply keeps_app | apply keeps_mv | apply keeps_skip))⟩
              · intro hc4
                try simp only [decide_eq_true_eq, decide_eq_false_iff_not, Bool.not_eq_true', Bool.not_eq_false', Bool.not_eq_true, Bool.not_eq_false, Bool.and_eq_true, Bool.or_eq_true, Bool.and_eq_false_iff, Bool.or_eq_false_iff, Bool.not_not, ne_eq, Int.not_lt, Int.not_le, Decidable.not_not, beq_iff_eq, bne_iff_ne] at hc4
                have hv2e : Sort.scanDown (fun x => !egB x q.d[lo]!) q.d u2 q.j = v2 := by rw [← hd3]; exact dn_stop (fun h9 => by first | omega | (have h8 := h9.2; simp only [show egB q.d[v2]! q.d[lo]! = true by assumption] at h8; cases h8))
                refine wp_exit ?_
                refine then_exit ?_
                refine then_exit ?_
                refine blk_exit ?_
                refine then_normal ?_
                refine c_seq ?_
                refine c_seq ?_
                refine c_region ?_
                refine wl (wl_val hl rfl trivial (r_move hl rfl) ?_)
                clear hl a; intro a hl
                refine wl (wl_val hl rfl trivial (r_move hl rfl) ?_)
                clear hl a; intro a hl
                refine wl (wl_val hl rfl trivial (r_gtr hl rfl rfl) ?_)
                clear hl a; intro a hl
                refine w_nil ?_
                have hl2 := hl.add (t := 1) (hl.add (t := 4) (hl.add (t := 10) (hl.add (t := 11) (hl.add (t := 91) (hl.nil) rfl) rfl) rfl) rfl) rfl; clear hl; have hl := hl2; clear hl2
                refine then_normal ?_
                refine c_cond hl rfl ?_ ?_
                · intro hc5
                  try simp only [decide_eq_true_eq, decide_eq_false_iff_not, Bool.not_eq_true', Bool.not_eq_false', Bool.not_eq_true, Bool.not_eq_false, Bool.and_eq_true, Bool.or_eq_true, Bool.and_eq_false_iff, Bool.or_eq_false_iff, Bool.not_not, ne_eq, Int.not_lt, Int.not_le, Decidable.not_not, beq_iff_eq, bne_iff_ne] at hc5
                  have hpt := part_F hue hve (by omega) (hq3.symm.trans (pl_stop hu2e hv2e (by omega)))
                  refine wp_exit ?_
                  refine then_exit ?_
                  refine blk_exit_ne rfl ?_
                  refine then_exit ?_
                  refine blk_exit ?_
                  refine then_normal ?_
                  refine c_seq ?_
                  refine c_region ?_
                  refine wl (wl_val hl rfl trivial (r_field hl rfl fld179_1) ?_)
                  clear hl a; intro a hl
                  refine wl (w_load hl hh rfl trivial one173 rfl (by repeat (first | exact find_head | apply find_tail | apply find_skip)) (by first | rfl) ?_)
                  clear hl a; intro a hl
                  refine wl (wl_val hl rfl trivial (r_move hl rfl) ?_)
                  clear hl a; intro a hl
                  refine wl (wl_val hl rfl trivial (r_move hl rfl) ?_)
                  clear hl a; intro a hl
                  refine wl (w_swap (v2) (lo) egc_len (by decide) hl hh rfl trivial rfl rfl (by repeat (first | exact find_head | apply find_tail | apply find_skip)) (hE.swz hq1) (by omega) (by omega) (by omega) (by omega) ?_)
                  clear hl hh a w; intro a w hl hh
                  refine w_nil ?_
                  have hl2 := hl.add (t := 11) (hl.nil) rfl; clear hl; have hl := hl2; clear hl2
                  refine then_normal ?_
                  refine c_seq ?_
                  refine c_region ?_
                  refine wl (wl_val hl rfl trivial (r_move hl rfl) ?_)
                  clear hl a; intro a hl
                  refine wl (wl_val hl rfl trivial (r_assign hl rfl) ?_)
                  clear hl a; intro a hl
                  refine wl (wl_val hl rfl trivial (r_assign hl rfl) ?_)
                  clear hl a; intro a hl
                  refine w_nil ?_
                  have hl2 := hl.add (t := 8) (hl.add (t := 9) (hl.nil) rfl) rfl; clear hl; have hl := hl2; clear hl2
                  refine then_normal ?_
                  refine wp_ret ?_
                  refine f_ret2 (F' := [(b, C (fl egc (Sort.swp q.d v2 lo).toList ++ junk) 102), (Bs, C sL 46)]) hl hh rfl rfl rfl (by repeat (first | exact keeps_nil | apply keeps_cons (by repeat (first | exact find_head | apply find_tail | apply find_skip)) (by first  | rfl) | exact keeps_self | exact keeps_left | apply keeps_app | apply keeps_mv | apply keeps_skip)) ?_
                  rw [hpt]
                  exact ⟨rfl, rfl, by simp only; rw [swp_sz]; exact hq1, by simp only; omega, by simp only; omega⟩
                · intro hc5
                  try simp only [decide_eq_true_eq, decide_eq_false_iff_not, Bool.not_eq_true', Bool.not_eq_false', Bool.not_eq_true, Bool.not_eq_false, Bool.and_eq_true, Bool.or_eq_true, Bool.and_eq_false_iff, Bool.or_eq_false_iff, Bool.not_not, ne_eq, Int.not_lt, Int.not_le, Decidable.not_not, beq_iff_eq, bne_iff_ne] at hc5
                  refine wp_skip ?_
                  refine then_normal ?_
                  refine c_seq ?_
                  refine c_region ?_
                  refine wl (wl_val hl rfl trivial (r_field hl rfl fld179_1) ?_)
                  clear hl a; intro a hl
                  refine wl (w_load hl hh rfl trivial one173 rfl (by repeat (first | exact find_head | apply find_tail | apply find_skip)) (by first | rfl) ?_)
                  clear hl a; intro a hl
                  refine wl (wl_val hl rfl trivial (r_move hl rfl) ?_)
                  clear hl a; intro a hl
                  refine wl (wl_val hl rfl trivial (r_move hl rfl) ?_)
                  clear hl a; intro a hl
                  refine wl (w_swap (u2) (v2) egc_len (by decide) hl hh rfl trivial rfl rfl (by repeat (first | exact find_head | apply find_tail | apply find_skip)) (hE.swz hq1) (by omega) (by omega) (by omega) (by omega) ?_)
                  clear hl hh a w; intro a w hl hh
                  refine w_nil ?_
                  have hl2 := hl.add (t := 1) (hl.add (t := 4) (hl.add (t := 10) (hl.add (t := 11) (hl.nil) rfl) rfl) rfl) rfl; clear hl; have hl := hl2; clear hl2
                  refine then_normal ?_
                  refine c_seq ?_
                  refine c_region ?_
                  refine wl (wl_val hl rfl trivial (r_move hl rfl) ?_)
                  clear hl a; intro a hl
                  first | refine wl (wl_val hl rfl trivial (r_add hl rfl rfl (by simp only [Fits]; omega)) ?_) | refine wl (wl_val hl rfl trivial (r_addW hl rfl rfl) ?_)
                  clear hl a; intro a hl
                  refine wl (wl_val hl rfl trivial (r_assign hl rfl) ?_)
                  clear hl a; intro a hl
                  refine w_nil ?_
                  have hl2 := hl.add (t := 1) (hl.add (t := 4) (hl.add (t := 10) (hl.add (t := 11) (hl.nil) rfl) rfl) rfl) rfl; clear hl; have hl := hl2; clear hl2
                  refine then_normal ?_
                  refine c_region ?_
                  refine wl (wl_val hl rfl trivial (r_move hl rfl) ?_)
                  clear hl a; intro a hl
                  first | refine wl (wl_val hl rfl trivial (r_sub hl rfl rfl (by simp only [Fits]; omega)) ?_) | refine wl (wl_val hl rfl trivial (r_subW hl rfl rfl) ?_)
                  clear hl a; intro a hl
                  refine wl (wl_val hl rfl trivial (r_assign hl rfl) ?_)
                  clear hl a; intro a hl
                  refine w_nil ?_
                  have hl2 := hl.add (t := 1) (hl.add (t := 4) (hl.add (t := 10) (hl.add (t := 11) (hl.nil) rfl) rfl) rfl) rfl; clear hl; have hl := hl2; clear hl2
                  refine blk_normal ?_
                  refine then_normal ?_
                  refine ⟨⟨Sort.swp q.d u2 v2, u2 + 1, v2 - 1⟩, (by simp only; omega), ⟨by simp only; rw [swp_sz]; exact hq1, ⟨by simp only; omega, by simp only; omega, by simp only; omega⟩, by simp only; rw [← hq3]; exact (pl_go hu2e hv2e (by omega) (by omega) (by omega) (by omega)).symm⟩, hl.addE (t := 10) (hl.addE (t := 11) (hl.addE (t := 1) (hl.addE (t := 4) (hl.nil) rfl (by first | rfl | exact congrArg (Value.int .i64) (by first | omega | (simp only; omega)))) rfl (by first | rfl | exact congrArg (Value.int .i64) (by first | omega | (simp only; omega)))) rfl (by first | rfl | exact congrArg (Value.int .i64) (by first | omega | (simp only; omega)))) rfl (by first | rfl | exact congrArg (Value.int .i64) (by first | omega | (simp only; omega))), hh.keep (by repeat (first | exact keeps_nil | apply keeps_cons (by repeat (first | exact find_head | apply find_tail | apply find_skip)) (by first  | rfl) | exact keeps_self | exact keeps_left | apply keeps_app | apply keeps_mv | apply keeps_skip))⟩
            · intro hg12; clear hl; intro hl
              try simp only [decide_eq_true_eq, decide_eq_false_iff_not, Bool.not_eq_true', Bool.not_eq_false', Bool.not_eq_true, Bool.not_eq_false, Bool.and_eq_true, Bool.or_eq_true, Bool.and_eq_false_iff, Bool.or_eq_false_iff, Bool.not_not, ne_eq, Int.not_lt, Int.not_le, Decidable.not_not, beq_iff_eq, bne_iff_ne] at hg12
              refine wl (wl_skip hl rfl ⟨_, _, rfl, rfl, rfl⟩ ?_)
              clear hl a; intro a hl
              refine wl (wl_skip hl rfl ⟨_, _, rfl, rfl, rfl⟩ ?_)
              clear hl a; intro a hl
              refine wl (wl_skip hl rfl ⟨_, _, rfl, rfl, rfl⟩ ?_)
              clear hl a; intro a hl
              refine wl (wl_skip hl rfl ⟨_, _, rfl, rfl, rfl⟩ ?_)
              clear hl a; intro a hl
              refine wl (wl_skip hl rfl ⟨_, _, rfl, rfl, rfl⟩ ?_)
              clear hl a; intro a hl
              refine wl (wl_skip hl rfl ⟨_, _, rfl, rfl, rfl⟩ ?_)
              clear hl a; intro a hl
              refine wl (wl_val hl rfl trivial (r_pickF hl rfl rfl) ?_)
              clear hl a; intro a hl
              refine w_nil ?_
              have hl2 := hl.add (t := 1) (hl.add (t := 4) (hl.add (t := 10) (hl.add (t := 11) (hl.add (t := 86) (hl.nil) rfl) rfl) rfl) rfl) rfl; clear hl; have hl := hl2; clear hl2
              refine then_normal ?_
              refine c_condF hl rfl ?_
              have hv2e : Sort.scanDown (fun x => !egB x q.d[lo]!) q.d u2 q.j = v2 := by rw [← hd3]; exact dn_stop (fun h9 => by first | omega | (have h8 := h9.2; simp only [show egB q.d[v2]! q.d[lo]! = true by assumption] at h8; cases h8))
              refine wp_exit ?_
              refine then_exit ?_
              refine then_exit ?_
              refine blk_exit ?_
              refine then_normal ?_
              refine c_seq ?_
              refine c_seq ?_
              refine c_region ?_
              refine wl (wl_val hl rfl trivial (r_move hl rfl) ?_)
              clear hl a; intro a hl
              refine wl (wl_val hl rfl trivial (r_move hl rfl) ?_)
              clear hl a; intro a hl
              refine wl (wl_val hl rfl trivial (r_gtr hl rfl rfl) ?_)
              clear hl a; intro a hl
              refine w_nil ?_
              have hl2 := hl.add (t := 1) (hl.add (t := 4) (hl.add (t := 10) (hl.add (t := 11) (hl.add (t := 91) (hl.nil) rfl) rfl) rfl) rfl) rfl; clear hl; have hl := hl2; clear hl2
              refine then_normal ?_
              refine c_cond hl rfl ?_ ?_
              · intro hc5
                try simp only [decide_eq_true_eq, decide_eq_false_iff_not, Bool.not_eq_true', Bool.not_eq_false', Bool.not_eq_true, Bool.not_eq_false, Bool.and_eq_true, Bool.or_eq_true, Bool.and_eq_false_iff, Bool.or_eq_false_iff, Bool.not_not, ne_eq, Int.not_lt, Int.not_le, Decidable.not_not, beq_iff_eq, bne_iff_ne] at hc5
                have hpt := part_F hue hve (by omega) (hq3.symm.trans (pl_stop hu2e hv2e (by omega)))
                refine wp_exit ?_
                refine then_exit ?_
                refine blk_exit_ne rfl ?_
                refine then_exit ?_
                refine blk_exit ?_
                refine then_normal ?_
                refine c_seq ?_
                refine c_region ?_
                refine wl (wl_val hl rfl trivial (r_field hl rfl fld179_1) ?_)
                clear hl a; intro a hl
                refine wl (w_load hl hh rfl trivial one173 rfl (by repeat (first | exact find_head | apply find_tail | apply find_skip)) (by first | rfl) ?_)
                clear hl a; intro a hl
                refine wl (wl_val hl rfl trivial (r_move hl rfl) ?_)
                clear hl a; intro a hl
                refine wl (wl_val hl rfl trivial (r_move hl rfl) ?_)
                clear hl a; intro a hl
                refine wl (w_swap (v2) (lo) egc_len (by decide) hl hh rfl trivial rfl rfl (by repeat (first | exact find_head | apply find_tail | apply find_skip)) (hE.swz hq1) (by omega) (by omega) (by omega) (by omega) ?_)
                clear hl hh a w; intro a w hl hh
                refine w_nil ?_
                have hl2 := hl.add (t := 11) (hl.nil) rfl; clear hl; have hl := hl2; clear hl2
                refine then_normal ?_
                refine c_seq ?_
                refine c_region ?_
                refine wl (wl_val hl rfl trivial (r_move hl rfl) ?_)
                clear hl a; intro a hl
                refine wl (wl_val hl rfl trivial (r_assign hl rfl) ?_)
                clear hl a; intro a hl
                refine wl (wl_val hl rfl trivial (r_assign hl rfl) ?_)
                clear hl a; intro a hl
                refine w_nil ?_
                have hl2 := hl.add (t := 8) (hl.add (t := 9) (hl.nil) rfl) rfl; clear hl; have hl := hl2; clear hl2
                refine then_normal ?_
                refine wp_ret ?_
                refine f_ret2 (F' := [(b, C (fl egc (Sort.swp q.d v2 lo).toList ++ junk) 102), (Bs, C sL 46)]) hl hh rfl rfl rfl (by repeat (first | exact keeps_nil | apply keeps_cons (by repeat (first | exact find_head | apply find_tail | apply find_skip)) (by first  | rfl) | exact keeps_self | exact keeps_left | apply keeps_app | apply keeps_mv | apply keeps_skip)) ?_
                rw [hpt]
                exact ⟨rfl, rfl, by simp only; rw [swp_sz]; exact hq1, by simp only; omega, by simp only; omega⟩
              · intro hc5
                try simp only [decide_eq_true_eq, decide_eq_false_iff_not, Bool.not_eq_true', Bool.not_eq_false', Bool.not_eq_true, Bool.not_eq_false, Bool.and_eq_true, Bool.or_eq_true, Bool.and_eq_false_iff, Bool.or_eq_false_iff, Bool.not_not, ne_eq, Int.not_lt, Int.not_le, Decidable.not_not, beq_iff_eq, bne_iff_ne] at hc5
                refine wp_skip ?_
                refine then_normal ?_
                refine c_seq ?_
                refine c_region ?_
                refine wl (wl_val hl rfl trivial (r_field hl rfl fld179_1) ?_)
                clear hl a; intro a hl
                refine wl (w_load hl hh rfl trivial one173 rfl (by repeat (first | exact find_head | apply find_tail | apply find_skip)) (by first | rfl) ?_)
                clear hl a; intro a hl
                refine wl (wl_val hl rfl trivial (r_move hl rfl) ?_)
                clear hl a; intro a hl
                refine wl (wl_val hl rfl trivial (r_move hl rfl) ?_)
                clear hl a; intro a hl
                refine wl (w_swap (u2) (v2) egc_len (by decide) hl hh rfl trivial rfl rfl (by repeat (first | exact find_head | apply find_tail | apply find_skip)) (hE.swz hq1) (by omega) (by omega) (by omega) (by omega) ?_)
                clear hl hh a w; intro a w hl hh
                refine w_nil ?_
                have hl2 := hl.add (t := 1) (hl.add (t := 4) (hl.add (t := 10) (hl.add (t := 11) (hl.nil) rfl) rfl) rfl) rfl; clear hl; have hl := hl2; clear hl2
                refine then_normal ?_
                refine c_seq ?_
                refine c_region ?_
                refine wl (wl_val hl rfl trivial (r_move hl rfl) ?_)
                clear hl a; intro a hl
                first | refine wl (wl_val hl rfl trivial (r_add hl rfl rfl (by simp only [Fits]; omega)) ?_) | refine wl (wl_val hl rfl trivial (r_addW hl rfl rfl) ?_)
                clear hl a; intro a hl
                refine wl (wl_val hl rfl trivial (r_assign hl rfl) ?_)
                clear hl a; intro a hl
                refine w_nil ?_
                have hl2 := hl.add (t := 1) (hl.add (t := 4) (hl.add (t := 10) (hl.add (t := 11) (hl.nil) rfl) rfl) rfl) rfl; clear hl; have hl := hl2; clear hl2
                refine then_normal ?_
                refine c_region ?_
                refine wl (wl_val hl rfl trivial (r_move hl rfl) ?_)
                clear hl a; intro a hl
                first | refine wl (wl_val hl rfl trivial (r_sub hl rfl rfl (by simp only [Fits]; omega)) ?_) | refine wl (wl_val hl rfl trivial (r_subW hl rfl rfl) ?_)
                clear hl a; intro a hl
                refine wl (wl_val hl rfl trivial (r_assign hl rfl) ?_)
                clear hl a; intro a hl
                refine w_nil ?_
                have hl2 := hl.add (t := 1) (hl.add (t := 4) (hl.add (t := 10) (hl.add (t := 11) (hl.nil) rfl) rfl) rfl) rfl; clear hl; have hl := hl2; clear hl2
                refine blk_normal ?_
                refine then_normal ?_
                refine ⟨⟨Sort.swp q.d u2 v2, u2 + 1, v2 - 1⟩, (by simp only; omega), ⟨by simp only; rw [swp_sz]; exact hq1, ⟨by simp only; omega, by simp only; omega, by simp only; omega⟩, by simp only; rw [← hq3]; exact (pl_go hu2e hv2e (by omega) (by omega) (by omega) (by omega)).symm⟩, hl.addE (t := 10) (hl.addE (t := 11) (hl.addE (t := 1) (hl.addE (t := 4) (hl.nil) rfl (by first | rfl | exact congrArg (Value.int .i64) (by first | omega | (simp only; omega)))) rfl (by first | rfl | exact congrArg (Value.int .i64) (by first | omega | (simp only; omega)))) rfl (by first | rfl | exact congrArg (Value.int .i64) (by first | omega | (simp only; omega)))) rfl (by first | rfl | exact congrArg (Value.int .i64) (by first | omega | (simp only; omega))), hh.keep (by repeat (first | exact keeps_nil | apply keeps_cons (by repeat (first | exact find_head | apply find_tail | apply find_skip)) (by first  | rfl) | exact keeps_self | exact keeps_left | apply keeps_app | apply keeps_mv | apply keeps_skip))⟩
    · intro hg9; clear hl; intro hl
      try simp only [decide_eq_true_eq, decide_eq_false_iff_not, Bool.not_eq_true', Bool.not_eq_false', Bool.not_eq_true, Bool.not_eq_false, Bool.and_eq_true, Bool.or_eq_true, Bool.and_eq_false_iff, Bool.or_eq_false_iff, Bool.not_not, ne_eq, Int.not_lt, Int.not_le, Decidable.not_not, beq_iff_eq, bne_iff_ne] at hg9
      refine wl (wl_skip hl rfl ⟨_, _, rfl, rfl, rfl⟩ ?_)
      clear hl a; intro a hl
      refine wl (wl_skip hl rfl ⟨_, _, rfl, rfl, rfl⟩ ?_)
      clear hl a; intro a hl
      refine wl (wl_skip hl rfl ⟨_, _, rfl, rfl, rfl⟩ ?_)
      clear hl a; intro a hl
      refine wl (wl_skip hl rfl ⟨_, _, rfl, rfl, rfl⟩ ?_)
      clear hl a; intro a hl
      refine wl (wl_skip hl rfl ⟨_, _, rfl, rfl, rfl⟩ ?_)
      clear hl a; intro a hl
      refine wl (wl_skip hl rfl ⟨_, _, rfl, rfl, rfl⟩ ?_)
      clear hl a; intro a hl
      refine wl (wl_val hl rfl trivial (r_pickF hl rfl rfl) ?_)
      clear hl a; intro a hl
      refine w_nil ?_
      have hl2 := hl.add (t := 1) (hl.add (t := 4) (hl.add (t := 10) (hl.add (t := 11) (hl.add (t := 43) (hl.nil) rfl) rfl) rfl) rfl) rfl; clear hl; have hl := hl2; clear hl2
      refine then_normal ?_
      refine c_condF hl rfl ?_
      have hve : Sort.scanDown (fun x => !egB x (Sort.swp d lo pv)[lo]!) (Sort.swp d lo pv) u (hi - 1) = v := by rw [← hv3]; exact dn_stop (fun h9 => by first | omega | (have h8 := h9.2; simp only [show egB (Sort.swp d lo pv)[v]! (Sort.swp d lo pv)[lo]! = true by assumption] at h8; cases h8))
      refine wp_exit ?_
      refine then_exit ?_
      refine then_exit ?_
      refine blk_exit ?_
      refine then_normal ?_
      refine c_seq ?_
      refine c_seq ?_
      refine c_region ?_
      refine wl (wl_val hl rfl trivial (r_move hl rfl) ?_)
      clear hl a; intro a hl
      refine wl (wl_val hl rfl trivial (r_move hl rfl) ?_)
      clear hl a; intro a hl
      refine wl (wl_val hl rfl trivial (r_gtr hl rfl rfl) ?_)
      clear hl a; intro a hl
      refine w_nil ?_
      have hl2 := hl.add (t := 1) (hl.add (t := 4) (hl.add (t := 10) (hl.add (t := 11) (hl.add (t := 48) (hl.nil) rfl) rfl) rfl) rfl) rfl; clear hl; have hl := hl2; clear hl2
      refine then_normal ?_
      refine c_cond hl rfl ?_ ?_
      · intro hc2
        try simp only [decide_eq_true_eq, decide_eq_false_iff_not, Bool.not_eq_true', Bool.not_eq_false', Bool.not_eq_true, Bool.not_eq_false, Bool.and_eq_true, Bool.or_eq_true, Bool.and_eq_false_iff, Bool.or_eq_false_iff, Bool.not_not, ne_eq, Int.not_lt, Int.not_le, Decidable.not_not, beq_iff_eq, bne_iff_ne] at hc2
        have hpt := part_T hue hve (by omega)
        refine c_seq ?_
        refine c_region ?_
        refine wl (wl_val hl rfl trivial (r_field hl rfl fld179_1) ?_)
        clear hl a; intro a hl
        refine wl (w_load hl hh rfl trivial one173 rfl (by repeat (first | exact find_head | apply find_tail | apply find_skip)) (by first | rfl) ?_)
        clear hl a; intro a hl
        refine wl (wl_val hl rfl trivial (r_move hl rfl) ?_)
        clear hl a; intro a hl
        refine wl (wl_val hl rfl trivial (r_move hl rfl) ?_)
        clear hl a; intro a hl
        refine wl (w_swap (v) (lo) egc_len (by decide) hl hh rfl trivial rfl rfl (by repeat (first | exact find_head | apply find_tail | apply find_skip)) (hE.swz hs0) (by omega) (by omega) (by omega) (by omega) ?_)
        clear hl hh a w; intro a w hl hh
        refine w_nil ?_
        have hl2 := hl.add (t := 11) (hl.nil) rfl; clear hl; have hl := hl2; clear hl2
        refine then_normal ?_
        refine c_seq ?_
        refine c_region ?_
        refine wl (wl_val hl rfl trivial (r_move hl rfl) ?_)
        clear hl a; intro a hl
        refine wl (wl_val hl rfl trivial (r_assign hl rfl) ?_)
        clear hl a; intro a hl
        refine wl (wl_val hl rfl trivial (r_assign hl rfl) ?_)
        clear hl a; intro a hl
        refine w_nil ?_
        have hl2 := hl.add (t := 8) (hl.add (t := 9) (hl.nil) rfl) rfl; clear hl; have hl := hl2; clear hl2
        refine then_normal ?_
        refine wp_ret ?_
        refine then_ret ?_
        refine f_ret2 (F' := [(b, C (fl egc (Sort.swp (Sort.swp d lo pv) v lo).toList ++ junk) 102), (Bs, C sL 46)]) hl hh rfl rfl rfl (by repeat (first | exact keeps_nil | apply keeps_cons (by repeat (first | exact find_head | apply find_tail | apply find_skip)) (by first  | rfl) | exact keeps_self | exact keeps_left | apply keeps_app | apply keeps_mv | apply keeps_skip)) ?_
        rw [hpt]
        exact ⟨rfl, rfl, by simp only; rw [swp_sz]; exact hs0, by simp only; omega, by simp only; omega⟩
      · intro hc2
        try simp only [decide_eq_true_eq, decide_eq_false_iff_not, Bool.not_eq_true', Bool.not_eq_false', Bool.not_eq_true, Bool.not_eq_false, Bool.and_eq_true, Bool.or_eq_true, Bool.and_eq_false_iff, Bool.or_eq_false_iff, Bool.not_not, ne_eq, Int.not_lt, Int.not_le, Decidable.not_not, beq_iff_eq, bne_iff_ne] at hc2
        refine wp_skip ?_
        refine then_normal ?_
        refine c_seq ?_
        refine c_region ?_
        refine wl (wl_val hl rfl trivial (r_field hl rfl fld179_1) ?_)
        clear hl a; intro a hl
        refine wl (w_load hl hh rfl trivial one173 rfl (by repeat (first | exact find_head | apply find_tail | apply find_skip)) (by first | rfl) ?_)
        clear hl a; intro a hl
        refine wl (wl_val hl rfl trivial (r_move hl rfl) ?_)
        clear hl a; intro a hl
        refine wl (wl_val hl rfl trivial (r_move hl rfl) ?_)
        clear hl a; intro a hl
        refine wl (w_swap (u) (v) egc_len (by decide) hl hh rfl trivial rfl rfl (by repeat (first | exact find_head | apply find_tail | apply find_skip)) (hE.swz hs0) (by omega) (by omega) (by omega) (by omega) ?_)
        clear hl hh a w; intro a w hl hh
        refine w_nil ?_
        have hl2 := hl.add (t := 1) (hl.add (t := 4) (hl.add (t := 10) (hl.add (t := 11) (hl.nil) rfl) rfl) rfl) rfl; clear hl; have hl := hl2; clear hl2
        refine then_normal ?_
        refine c_seq ?_
        refine c_region ?_
        refine wl (wl_val hl rfl trivial (r_move hl rfl) ?_)
        clear hl a; intro a hl
        first | refine wl (wl_val hl rfl trivial (r_add hl rfl rfl (by simp only [Fits]; omega)) ?_) | refine wl (wl_val hl rfl trivial (r_addW hl rfl rfl) ?_)
        clear hl a; intro a hl
        refine wl (wl_val hl rfl trivial (r_assign hl rfl) ?_)
        clear hl a; intro a hl
        refine w_nil ?_
        have hl2 := hl.add (t := 1) (hl.add (t := 4) (hl.add (t := 10) (hl.add (t := 11) (hl.nil) rfl) rfl) rfl) rfl; clear hl; have hl := hl2; clear hl2
        refine then_normal ?_
        refine c_seq ?_
        refine c_region ?_
        refine wl (wl_val hl rfl trivial (r_move hl rfl) ?_)
        clear hl a; intro a hl
        first | refine wl (wl_val hl rfl trivial (r_sub hl rfl rfl (by simp only [Fits]; omega)) ?_) | refine wl (wl_val hl rfl trivial (r_subW hl rfl rfl) ?_)
        clear hl a; intro a hl
        refine wl (wl_val hl rfl trivial (r_assign hl rfl) ?_)
        clear hl a; intro a hl
        refine w_nil ?_
        have hl2 := hl.add (t := 1) (hl.add (t := 4) (hl.add (t := 10) (hl.add (t := 11) (hl.nil) rfl) rfl) rfl) rfl; clear hl; have hl := hl2; clear hl2
        refine then_normal ?_
        refine c_seq ?_
        refine wp_block ?_
        obtain ⟨KS2, hKS2, hk⟩ := (hl.add (t := 1) (hl.add (t := 4) (hl.nil) rfl) rfl).name
        obtain ⟨HS2, hHS2, hh2⟩ := hh.name (keeps_cons (b := b) (o' := C (fl egc (Sort.swp (Sort.swp d lo pv) u v).toList ++ junk) 102) (by repeat (first | exact find_head | apply find_tail | apply find_skip)) (by first | rfl) (keeps_nil))
        refine c_loop (α := PZ3) (fun q => q.j + 2 - q.i) (fun q a w => (q.d.size = n ∧ (lo + 2 ≤ q.i ∧ q.i ≤ q.j + 2 ∧ q.j ≤ hi - 1) ∧ Sort.partLoop egB lo q.i q.j q.d = Sort.partLoop egB lo (u + 1) (v - 1) (Sort.swp (Sort.swp d lo pv) u v)) ∧ Sl 107 ([(10, .int .i64 (q.i : Int)), (11, .int .i64 (q.j : Int))] ++ KS2) a ∧ Has _ w0 ([(b, C (fl egc q.d.toList ++ junk) 102)] ++ HS2) w) ⟨(Sort.swp (Sort.swp d lo pv) u v), u + 1, v - 1⟩ ⟨⟨by simp only; rw [swp_sz]; exact hs0, ⟨by simp only; omega, by simp only; omega, by simp only; omega⟩, rfl⟩, hl.addE (t := 10) (hl.addE (t := 11) (hk) rfl (by first | exact congrArg (Value.int .i64) (by first | omega | (simp only; omega)) | rfl)) rfl (by first | exact congrArg (Value.int .i64) (by first | omega | (simp only; omega)) | rfl), hh2⟩ ?_
        clear hk hh2 hl hh a w
        intro q a w hI
        obtain ⟨⟨hq1, hq2, hq3⟩, hl, hh⟩ := hI
        subst hKS2; subst hHS2
        simp only [List.cons_append, List.nil_append, List.append_nil, List.append_assoc] at hl hh
        refine wp_block ?_
        refine c_seq ?_
        refine wp_block ?_
        obtain ⟨KS3, hKS3, hk⟩ := (hl.add (t := 1) (hl.add (t := 4) (hl.add (t := 11) (hl.nil) rfl) rfl) rfl).name
        obtain ⟨HS3, hHS3, hh2⟩ := hh.name (keeps_nil)
        refine c_loop (α := Nat) (fun u2 => q.j + 2 - u2) (fun u2 a w => (q.i ≤ u2 ∧ u2 ≤ q.j + 2 ∧ Sort.scanUp (fun x => egB x q.d[lo]!) q.d q.j u2 = Sort.scanUp (fun x => egB x q.d[lo]!) q.d q.j q.i) ∧ Sl 107 ([(10, .int .i64 (u2 : Int))] ++ KS3) a ∧ Has _ w0 ([] ++ HS3) w) q.i ⟨⟨Nat.le_refl _, by omega, rfl⟩, hl.addE (t := 10) (hk) rfl (by first | exact congrArg (Value.int .i64) (by first | omega | (simp only; omega)) | rfl), hh2⟩ ?_
        clear hk hh2 hl hh a w
        intro u2 a w hI
        obtain ⟨⟨ha1, ha2, ha3⟩, hl, hh⟩ := hI
        subst hKS3; subst hHS3
        simp only [List.cons_append, List.nil_append, List.append_nil, List.append_assoc] at hl hh
        refine c_seq ?_
        refine c_seq ?_
        refine c_region ?_
        refine wl (wl_val hl rfl trivial (r_move hl rfl) ?_)
        clear hl a; intro a hl
        refine wl (wl_val hl rfl trivial (r_move hl rfl) ?_)
        clear hl a; intro a hl
        refine wl (wl_val hl rfl trivial (r_leq hl rfl rfl) ?_)
        clear hl a; intro a hl
        refine wl (wl_val hl rfl trivial (r_move hl rfl) ?_)
        clear hl a; intro a hl
        refine sl_split (t := 67) hl rfl ?_ ?_
        · intro hg13; clear hl; intro hl
          try simp only [decide_eq_true_eq, decide_eq_false_iff_not, Bool.not_eq_true', Bool.not_eq_false', Bool.not_eq_true, Bool.not_eq_false, Bool.and_eq_true, Bool.or_eq_true, Bool.and_eq_false_iff, Bool.or_eq_false_iff, Bool.not_not, ne_eq, Int.not_lt, Int.not_le, Decidable.not_not, beq_iff_eq, bne_iff_ne] at hg13
          refine wl (wl_val hl rfl ⟨_, _, rfl, rfl, rfl⟩ (r_field hl rfl fld179_0) ?_)
          clear hl a; intro a hl
          refine wl (w_load hl hh rfl ⟨_, _, rfl, rfl, rfl⟩ one144 rfl (by repeat (first | exact find_head | apply find_tail | apply find_skip)) (by first | rfl) ?_)
          clear hl a; intro a hl
          refine wl (wl_val hl rfl ⟨_, _, rfl, rfl, rfl⟩ (r_move hl rfl) ?_)
          clear hl a; intro a hl
          refine wl (wl_val hl rfl ⟨_, _, rfl, rfl, rfl⟩ (r_move hl rfl) ?_)
          clear hl a; intro a hl
          refine wl (w_call hl hh rfl ⟨_, _, rfl, rfl, rfl⟩ rfl cal62 rfl (less_spec (hE.to hq1) _ _ u2 lo (by omega) (by omega) (by omega) (by omega)) (by repeat (first | exact keeps_nil | apply keeps_cons (by repeat (first | exact find_head | apply find_tail | apply find_skip)) (by first  | rfl) | exact keeps_self | exact keeps_left | apply keeps_app | apply keeps_mv | apply keeps_skip)) trivial ?_)
          clear hl hh a w; intro vc Fc a w hR hl hh
          obtain ⟨rfl, rfl⟩ := hR
          try simp only [List.cons_append, List.nil_append, List.append_assoc, List.append_nil] at hh
          refine wl (wl_val hl rfl trivial (r_pickT hl rfl rfl) ?_)
          clear hl a; intro a hl
          refine w_nil ?_
          have hl2 := hl.add (t := 1) (hl.add (t := 4) (hl.add (t := 10) (hl.add (t := 11) (hl.add (t := 73) (hl.nil) rfl) rfl) rfl) rfl) rfl; clear hl; have hl := hl2; clear hl2
          refine then_normal ?_
          refine c_cond hl rfl ?_ ?_
          · intro hc3
            try simp only [decide_eq_true_eq, decide_eq_false_iff_not, Bool.not_eq_true', Bool.not_eq_false', Bool.not_eq_true, Bool.not_eq_false, Bool.and_eq_true, Bool.or_eq_true, Bool.and_eq_false_iff, Bool.or_eq_false_iff, Bool.not_not, ne_eq, Int.not_lt, Int.not_le, Decidable.not_not, beq_iff_eq, bne_iff_ne] at hc3
            refine wp_skip ?_
            refine then_normal ?_
            refine wp_block ?_
            refine c_region ?_
            refine wl (wl_val hl rfl trivial (r_move hl rfl) ?_)
            clear hl a; intro a hl
            first | refine wl (wl_val hl rfl trivial (r_add hl rfl rfl (by simp only [Fits]; omega)) ?_) | refine wl (wl_val hl rfl trivial (r_addW hl rfl rfl) ?_)
            clear hl a; intro a hl
            refine wl (wl_val hl rfl trivial (r_assign hl rfl) ?_)
            clear hl a; intro a hl
            refine w_nil ?_
            have hl2 := hl.add (t := 1) (hl.add (t := 4) (hl.add (t := 10) (hl.add (t := 11) (hl.nil) rfl) rfl) rfl) rfl; clear hl; have hl := hl2; clear hl2
            refine blk_normal ?_
            refine then_normal ?_
            refine ⟨(u2 + 1), (by omega), ⟨by omega, by omega, by rw [← ha3]; exact (up_go (by omega) (by assumption)).symm⟩, hl.addE (t := 10) (hl.addE (t := 1) (hl.addE (t := 4) (hl.addE (t := 11) (hl.nil) rfl (by first | rfl | exact congrArg (Value.int .i64) (by first | omega | (simp only; omega)))) rfl (by first | rfl | exact congrArg (Value.int .i64) (by first | omega | (simp only; omega)))) rfl (by first | rfl | exact congrArg (Value.int .i64) (by first | omega | (simp only; omega)))) rfl (by first | rfl | exact congrArg (Value.int .i64) (by first | omega | (simp only; omega))), hh.keep (by repeat (first | exact keeps_nil | apply keeps_cons (by repeat (first | exact find_head | apply find_tail | apply find_skip)) (by first  | rfl) | exact keeps_self | exact keeps_left | apply keeps_app | apply keeps_mv | apply keeps_skip))⟩
          · intro hc3
            try simp only [decide_eq_true_eq, decide_eq_false_iff_not, Bool.not_eq_true', Bool.not_eq_false', Bool.not_eq_true, Bool.not_eq_false, Bool.and_eq_true, Bool.or_eq_true, Bool.and_eq_false_iff, Bool.or_eq_false_iff, Bool.not_not, ne_eq, Int.not_lt, Int.not_le, Decidable.not_not, beq_iff_eq, bne_iff_ne] at hc3
            have hu2e : Sort.scanUp (fun x => egB x q.d[lo]!) q.d q.j q.i = u2 := by rw [← ha3]; exact up_stop (fun h9 => by first | omega | (have h8 := h9.2; simp only [(show egB q.d[u2]! q.d[lo]! = false by assumption)] at h8; cases h8))
            refine wp_exit ?_
            refine then_exit ?_
            refine then_exit ?_
            refine blk_exit ?_
            refine then_normal ?_
            refine c_seq ?_
            refine wp_block ?_
            obtain ⟨KS4, hKS4, hk⟩ := (hl.add (t := 1) (hl.add (t := 4) (hl.add (t := 10) (hl.nil) rfl) rfl) rfl).name
            obtain ⟨HS4, hHS4, hh2⟩ := hh.name (keeps_nil)
            refine c_loop (α := Nat) (fun v2 => v2) (fun v2 a w => (v2 ≤ q.j ∧ (u2 ≤ v2 + 2 ∧ lo ≤ v2) ∧ Sort.scanDown (fun x => !egB x q.d[lo]!) q.d u2 v2 = Sort.scanDown (fun x => !egB x q.d[lo]!) q.d u2 q.j) ∧ Sl 107 ([(11, .int .i64 (v2 : Int))] ++ KS4) a ∧ Has _ w0 ([] ++ HS4) w) q.j ⟨⟨Nat.le_refl _, ⟨by omega, by omega⟩, rfl⟩, hl.addE (t := 11) (hk) rfl (by first | exact congrArg (Value.int .i64) (by first | omega | (simp only; omega)) | rfl), hh2⟩ ?_
            clear hk hh2 hl hh a w
            intro v2 a w hI
            obtain ⟨⟨hd1, hd2, hd3⟩, hl, hh⟩ := hI
            subst hKS4; subst hHS4
            simp only [List.cons_append, List.nil_append, List.append_nil, List.append_assoc] at hl hh
            refine c_seq ?_
            refine c_seq ?_
            refine c_region ?_
            refine wl (wl_val hl rfl trivial (r_move hl rfl) ?_)
            clear hl a; intro a hl
            refine wl (wl_val hl rfl trivial (r_move hl rfl) ?_)
            clear hl a; intro a hl
            refine wl (wl_val hl rfl trivial (r_leq hl rfl rfl) ?_)
            clear hl a; intro a hl
            refine wl (wl_val hl rfl trivial (r_move hl rfl) ?_)
            clear hl a; intro a hl
            refine sl_split (t := 79) hl rfl ?_ ?_
            · intro hg14; clear hl; intro hl
              try simp only [decide_eq_true_eq, decide_eq_false_iff_not, Bool.not_eq_true', Bool.not_eq_false', Bool.not_eq_true, Bool.not_eq_false, Bool.and_eq_true, Bool.or_eq_true, Bool.and_eq_false_iff, Bool.or_eq_false_iff, Bool.not_not, ne_eq, Int.not_lt, Int.not_le, Decidable.not_not, beq_iff_eq, bne_iff_ne] at hg14
              refine wl (wl_val hl rfl ⟨_, _, rfl, rfl, rfl⟩ (r_field hl rfl fld179_0) ?_)
              clear hl a; intro a hl
              refine wl (w_load hl hh rfl ⟨_, _, rfl, rfl, rfl⟩ one144 rfl (by repeat (first | exact find_head | apply find_tail | apply find_skip)) (by first | rfl) ?_)
              clear hl a; intro a hl
              refine wl (wl_val hl rfl ⟨_, _, rfl, rfl, rfl⟩ (r_move hl rfl) ?_)
              clear hl a; intro a hl
              refine wl (wl_val hl rfl ⟨_, _, rfl, rfl, rfl⟩ (r_move hl rfl) ?_)
              clear hl a; intro a hl
              refine wl (w_call hl hh rfl ⟨_, _, rfl, rfl, rfl⟩ rfl cal62 rfl (less_spec (hE.to hq1) _ _ v2 lo (by omega) (by omega) (by omega) (by omega)) (by repeat (first | exact keeps_nil | apply keeps_cons (by repeat (first | exact find_head | apply find_tail | apply find_skip)) (by first  | rfl) | exact keeps_self | exact keeps_left | apply keeps_app | apply keeps_mv | apply keeps_skip)) trivial ?_)
              clear hl hh a w; intro vc Fc a w hR hl hh
              obtain ⟨rfl, rfl⟩ := hR
              try simp only [List.cons_append, List.nil_append, List.append_assoc, List.append_nil] at hh
              refine wl (wl_val hl rfl ⟨_, _, rfl, rfl, rfl⟩ (r_not hl rfl) ?_)
              clear hl a; intro a hl
              refine wl (wl_val hl rfl trivial (r_pickT hl rfl rfl) ?_)
              clear hl a; intro a hl
              refine w_nil ?_
              have hl2 := hl.add (t := 1) (hl.add (t := 4) (hl.add (t := 10) (hl.add (t := 11) (hl.add (t := 86) (hl.nil) rfl) rfl) rfl) rfl) rfl; clear hl; have hl := hl2; clear hl2
              refine then_normal ?_
              refine c_cond hl rfl ?_ ?_
              · intro hc4
                try simp only [decide_eq_true_eq, decide_eq_false_iff_not, Bool.not_eq_true', Bool.not_eq_false', Bool.not_eq_true, Bool.not_eq_false, Bool.and_eq_true, Bool.or_eq_true, Bool.and_eq_false_iff, Bool.or_eq_false_iff, Bool.not_not, ne_eq, Int.not_lt, Int.not_le, Decidable.not_not, beq_iff_eq, bne_iff_ne] at hc4
                refine wp_skip ?_
                refine then_normal ?_
                refine wp_block ?_
                refine c_region ?_
                refine wl (wl_val hl rfl trivial (r_move hl rfl) ?_)
                clear hl a; intro a hl
                first | refine wl (wl_val hl rfl trivial (r_sub hl rfl rfl (by simp only [Fits]; omega)) ?_) | refine wl (wl_val hl rfl trivial (r_subW hl rfl rfl) ?_)
                clear hl a; intro a hl
                refine wl (wl_val hl rfl trivial (r_assign hl rfl) ?_)
                clear hl a; intro a hl
                refine w_nil ?_
                have hl2 := hl.add (t := 1) (hl.add (t := 4) (hl.add (t := 10) (hl.add (t := 11) (hl.nil) rfl) rfl) rfl) rfl; clear hl; have hl := hl2; clear hl2
                refine blk_normal ?_
                refine then_normal ?_
                refine ⟨(v2 - 1), (by omega), ⟨by omega, ⟨by omega, by omega⟩, by rw [← hd3]; exact (dn_goN (by omega) (by omega) (by assumption)).symm⟩, hl.addE (t := 11) (hl.addE (t := 1) (hl.addE (t := 4) (hl.addE (t := 10) (hl.nil) rfl (by first | rfl | exact congrArg (Value.int .i64) (by first | omega | (simp only; omega)))) rfl (by first | rfl | exact congrArg (Value.int .i64) (by first | omega | (simp only; omega)))) rfl (by first | rfl | exact congrArg (Value.int .i64) (by first | omega | (simp only; omega)))) rfl (by first | rfl | exact congrArg (Value.int .i64) (by first | omega | (simp only; omega))), hh.keep (by repeat (first | exact keeps_nil | apply keeps_cons (by repeat (first | exact find_head | apply find_tail | apply find_skip)) (by first  | rfl) | exact keeps_self | exact keeps_left | apply keeps_app | apply keeps_mv | apply keeps_skip))⟩
              · intro hc4
                try simp only [decide_eq_true_eq, decide_eq_false_iff_not, Bool.not_eq_true', Bool.not_eq_false', Bool.not_eq_true, Bool.not_eq_false, Bool.and_eq_true, Bool.or_eq_true, Bool.and_eq_false_iff, Bool.or_eq_false_iff, Bool.not_not, ne_eq, Int.not_lt, Int.not_le, Decidable.not_not, beq_iff_eq, bne_iff_ne] at hc4
                have hv2e : Sort.scanDown (fun x => !egB x q.d[lo]!) q.d u2 q.j = v2 := by rw [← hd3]; exact dn_stop (fun h9 => by first | omega | (have h8 := h9.2; simp only [show egB q.d[v2]! q.d[lo]! = true by assumption] at h8; cases h8))
                refine wp_exit ?_
                refine then_exit ?_
                refine then_exit ?_
                refine blk_exit ?_
                refine then_normal ?_
                refine c_seq ?_
                refine c_seq ?_
                refine c_region ?_
                refine wl (wl_val hl rfl trivial (r_move hl rfl) ?_)
                clear hl a; intro a hl
                refine wl (wl_val hl rfl trivial (r_move hl rfl) ?_)
                clear hl a; intro a hl
                refine wl (wl_val hl rfl trivial (r_gtr hl rfl rfl) ?_)
                clear hl a; intro a hl
                refine w_nil ?_
                have hl2 := hl.add (t := 1) (hl.add (t := 4) (hl.add (t := 10) (hl.add (t := 11) (hl.add (t := 91) (hl.nil) rfl) rfl) rfl) rfl) rfl; clear hl; have hl := hl2; clear hl2
                refine then_normal ?_
                refine c_cond hl rfl ?_ ?_
                · intro hc5
                  try simp only [decide_eq_true_eq, decide_eq_false_iff_not, Bool.not_eq_true', Bool.not_eq_false', Bool.not_eq_true, Bool.not_eq_false, Bool.and_eq_true, Bool.or_eq_true, Bool.and_eq_false_iff, Bool.or_eq_false_iff, Bool.not_not, ne_eq, Int.not_lt, Int.not_le, Decidable.not_not, beq_iff_eq, bne_iff_ne] at hc5
                  have hpt := part_F hue hve (by omega) (hq3.symm.trans (pl_stop hu2e hv2e (by omega)))
                  refine wp_exit ?_
                  refine then_exit ?_
                  refine blk_exit_ne rfl ?_
                  refine then_exit ?_
                  refine blk_exit ?_
                  refine then_normal ?_
                  refine c_seq ?_
                  refine c_region ?_
                  refine wl (wl_val hl rfl trivial (r_field hl rfl fld179_1) ?_)
                  clear hl a; intro a hl
                  refine wl (w_load hl hh rfl trivial one173 rfl (by repeat (first | exact find_head | apply find_tail | apply find_skip)) (by first | rfl) ?_)
                  clear hl a; intro a hl
                  refine wl (wl_val hl rfl trivial (r_move hl rfl) ?_)
                  clear hl a; intro a hl
                  refine wl (wl_val hl rfl trivial (r_move hl rfl) ?_)
                  clear hl a; intro a hl
                  refine wl (w_swap (v2) (lo) egc_len (by decide) hl hh rfl trivial rfl rfl (by repeat (first | exact find_head | apply find_tail | apply find_skip)) (hE.swz hq1) (by omega) (by omega) (by omega) (by omega) ?_)
                  clear hl hh a w; intro a w hl hh
                  refine w_nil ?_
                  have hl2 := hl.add (t := 11) (hl.nil) rfl; clear hl; have hl := hl2; clear hl2
                  refine then_normal ?_
                  refine c_seq ?_
                  refine c_region ?_
                  refine wl (wl_val hl rfl trivial (r_move hl rfl) ?_)
                  clear hl a; intro a hl
                  refine wl (wl_val hl rfl trivial (r_assign hl rfl) ?_)
                  clear hl a; intro a hl
                  refine wl (wl_val hl rfl trivial (r_assign hl rfl) ?_)
                  clear hl a; intro a hl
                  refine w_nil ?_
                  have hl2 := hl.add (t := 8) (hl.add (t := 9) (hl.nil) rfl) rfl; clear hl; have hl := hl2; clear hl2
                  refine then_normal ?_
                  refine wp_ret ?_
                  refine f_ret2 (F' := [(b, C (fl egc (Sort.swp q.d v2 lo).toList ++ junk) 102), (Bs, C sL 46)]) hl hh rfl rfl rfl (by repeat (first | exact keeps_nil | apply keeps_cons (by repeat (first | exact find_head | apply find_tail | apply find_skip)) (by first  | rfl) | exact keeps_self | exact keeps_left | apply keeps_app | apply keeps_mv | apply keeps_skip)) ?_
                  rw [hpt]
                  exact ⟨rfl, rfl, by simp only; rw [swp_sz]; exact hq1, by simp only; omega, by simp only; omega⟩
                · intro hc5
                  try simp only [decide_eq_true_eq, decide_eq_false_iff_not, Bool.not_eq_true', Bool.not_eq_false', Bool.not_eq_true, Bool.not_eq_false, Bool.and_eq_true, Bool.or_eq_true, Bool.and_eq_false_iff, Bool.or_eq_false_iff, Bool.not_not, ne_eq, Int.not_lt, Int.not_le, Decidable.not_not, beq_iff_eq, bne_iff_ne] at hc5
                  refine wp_skip ?_
                  refine then_normal ?_
                  refine c_seq ?_
                  refine c_region ?_
                  refine wl (wl_val hl rfl trivial (r_field hl rfl fld179_1) ?_)
                  clear hl a; intro a hl
                  refine wl (w_load hl hh rfl trivial one173 rfl (by repeat (first | exact find_head | apply find_tail | apply find_skip)) (by first | rfl) ?_)
                  clear hl a; intro a hl
                  refine wl (wl_val hl rfl trivial (r_move hl rfl) ?_)
                  clear hl a; intro a hl
                  refine wl (wl_val hl rfl trivial (r_move hl rfl) ?_)
                  clear hl a; intro a hl
                  refine wl (w_swap (u2) (v2) egc_len (by decide) hl hh rfl trivial rfl rfl (by repeat (first | exact find_head | apply find_tail | apply find_skip)) (hE.swz hq1) (by omega) (by omega) (by omega) (by omega) ?_)
                  clear hl hh a w; intro a w hl hh
                  refine w_nil ?_
                  have hl2 := hl.add (t := 1) (hl.add (t := 4) (hl.add (t := 10) (hl.add (t := 11) (hl.nil) rfl) rfl) rfl) rfl; clear hl; have hl := hl2; clear hl2
                  refine then_normal ?_
                  refine c_seq ?_
                  refine c_region ?_
                  refine wl (wl_val hl rfl trivial (r_move hl rfl) ?_)
                  clear hl a; intro a hl
                  first | refine wl (wl_val hl rfl trivial (r_add hl rfl rfl (by simp only [Fits]; omega)) ?_) | refine wl (wl_val hl rfl trivial (r_addW hl rfl rfl) ?_)
                  clear hl a; intro a hl
                  refine wl (wl_val hl rfl trivial (r_assign hl rfl) ?_)
                  clear hl a; intro a hl
                  refine w_nil ?_
                  have hl2 := hl.add (t := 1) (hl.add (t := 4) (hl.add (t := 10) (hl.add (t := 11) (hl.nil) rfl) rfl) rfl) rfl; clear hl; have hl := hl2; clear hl2
                  refine then_normal ?_
                  refine c_region ?_
                  refine wl (wl_val hl rfl trivial (r_move hl rfl) ?_)
                  clear hl a; intro a hl
                  first | refine wl (wl_val hl rfl trivial (r_sub hl rfl rfl (by simp only [Fits]; omega)) ?_) | refine wl (wl_val hl rfl trivial (r_subW hl rfl rfl) ?_)
                  clear hl a; intro a hl
                  refine wl (wl_val hl rfl trivial (r_assign hl rfl) ?_)
                  clear hl a; intro a hl
                  refine w_nil ?_
                  have hl2 := hl.add (t := 1) (hl.add (t := 4) (hl.add (t := 10) (hl.add (t := 11) (hl.nil) rfl) rfl) rfl) rfl; clear hl; have hl := hl2; clear hl2
                  refine blk_normal ?_
                  refine then_normal ?_
                  refine ⟨⟨Sort.swp q.d u2 v2, u2 + 1, v2 - 1⟩, (by simp only; omega), ⟨by simp only; rw [swp_sz]; exact hq1, ⟨by simp only; omega, by simp only; omega, by simp only; omega⟩, by simp only; rw [← hq3]; exact (pl_go hu2e hv2e (by omega) (by omega) (by omega) (by omega)).symm⟩, hl.addE (t := 10) (hl.addE (t := 11) (hl.addE (t := 1) (hl.addE (t := 4) (hl.nil) rfl (by first | rfl | exact congrArg (Value.int .i64) (by first | omega | (simp only; omega)))) rfl (by first | rfl | exact congrArg (Value.int .i64) (by first | omega | (simp only; omega)))) rfl (by first | rfl | exact congrArg (Value.int .i64) (by first | omega | (simp only; omega)))) rfl (by first | rfl | exact congrArg (Value.int .i64) (by first | omega | (simp only; omega))), hh.keep (by repeat (first | exact keeps_nil | apply keeps_cons (by repeat (first | exact find_head | apply find_tail | apply find_skip)) (by first  | rfl) | exact keeps_self | exact keeps_left | apply keeps_app | apply keeps_mv | apply keeps_skip))⟩
            · intro hg14; clear hl; intro hl
              try simp only [decide_eq_true_eq, decide_eq_false_iff_not, Bool.not_eq_true', Bool.not_eq_false', Bool.not_eq_true, Bool.not_eq_false, Bool.and_eq_true, Bool.or_eq_true, Bool.and_eq_false_iff, Bool.or_eq_false_iff, Bool.not_not, ne_eq, Int.not_lt, Int.not_le, Decidable.not_not, beq_iff_eq, bne_iff_ne] at hg14
              refine wl (wl_skip hl rfl ⟨_, _, rfl, rfl, rfl⟩ ?_)
              clear hl a; intro a hl
              refine wl (wl_skip hl rfl ⟨_, _, rfl, rfl, rfl⟩ ?_)
              clear hl a; intro a hl
              refine wl (wl_skip hl rfl ⟨_, _, rfl, rfl, rfl⟩ ?_)
              clear hl a; intro a hl
              refine wl (wl_skip hl rfl ⟨_, _, rfl, rfl, rfl⟩ ?_)
              clear hl a; intro a hl
              refine wl (wl_skip hl rfl ⟨_, _, rfl, rfl, rfl⟩ ?_)
              clear hl a; intro a hl
              refine wl (wl_skip hl rfl ⟨_, _, rfl, rfl, rfl⟩ ?_)
              clear hl a; intro a hl
              refine wl (wl_val hl rfl trivial (r_pickF hl rfl rfl) ?_)
              clear hl a; intro a hl
              refine w_nil ?_
              have hl2 := hl.add (t := 1) (hl.add (t := 4) (hl.add (t := 10) (hl.add (t := 11) (hl.add (t := 86) (hl.nil) rfl) rfl) rfl) rfl) rfl; clear hl; have hl := hl2; clear hl2
              refine then_normal ?_
              refine c_condF hl rfl ?_
              have hv2e : Sort.scanDown (fun x => !egB x q.d[lo]!) q.d u2 q.j = v2 := by rw [← hd3]; exact dn_stop (fun h9 => by first | omega | (have h8 := h9.2; simp only [show egB q.d[v2]! q.d[lo]! = true by assumption] at h8; cases h8))
              refine wp_exit ?_
              refine then_exit ?_
              refine then_exit ?_
              refine blk_exit ?_
              refine then_normal ?_
              refine c_seq ?_
              refine c_seq ?_
              refine c_region ?_
              refine wl (wl_val hl rfl trivial (r_move hl rfl) ?_)
              clear hl a; intro a hl
              refine wl (wl_val hl rfl trivial (r_move hl rfl) ?_)
              clear hl a; intro a hl
              refine wl (wl_val hl rfl trivial (r_gtr hl rfl rfl) ?_)
              clear hl a; intro a hl
              refine w_nil ?_
              have hl2 := hl.add (t := 1) (hl.add (t := 4) (hl.add (t := 10) (hl.add (t := 11) (hl.add (t := 91) (hl.nil) rfl) rfl) rfl) rfl) rfl; clear hl; have hl := hl2; clear hl2
              refine then_normal ?_
              refine c_cond hl rfl ?_ ?_
              · intro hc5
                try simp only [decide_eq_true_eq, decide_eq_false_iff_not, Bool.not_eq_true', Bool.not_eq_false', Bool.not_eq_true, Bool.not_eq_false, Bool.and_eq_true, Bool.or_eq_true, Bool.and_eq_false_iff, Bool.or_eq_false_iff, Bool.not_not, ne_eq, Int.not_lt, Int.not_le, Decidable.not_not, beq_iff_eq, bne_iff_ne] at hc5
                have hpt := part_F hue hve (by omega) (hq3.symm.trans (pl_stop hu2e hv2e (by omega)))
                refine wp_exit ?_
                refine then_exit ?_
                refine blk_exit_ne rfl ?_
                refine then_exit ?_
                refine blk_exit ?_
                refine then_normal ?_
                refine c_seq ?_
                refine c_region ?_
                refine wl (wl_val hl rfl trivial (r_field hl rfl fld179_1) ?_)
                clear hl a; intro a hl
                refine wl (w_load hl hh rfl trivial one173 rfl (by repeat (first | exact find_head | apply find_tail | apply find_skip)) (by first | rfl) ?_)
                clear hl a; intro a hl
                refine wl (wl_val hl rfl trivial (r_move hl rfl) ?_)
                clear hl a; intro a hl
                refine wl (wl_val hl rfl trivial (r_move hl rfl) ?_)
                clear hl a; intro a hl
                refine wl (w_swap (v2) (lo) egc_len (by decide) hl hh rfl trivial rfl rfl (by repeat (first | exact find_head | apply find_tail | apply find_skip)) (hE.swz hq1) (by omega) (by omega) (by omega) (by omega) ?_)
                clear hl hh a w; intro a w hl hh
                refine w_nil ?_
                have hl2 := hl.add (t := 11) (hl.nil) rfl; clear hl; have hl := hl2; clear hl2
                refine then_normal ?_
                refine c_seq ?_
                refine c_region ?_
                refine wl (wl_val hl rfl trivial (r_move hl rfl) ?_)
                clear hl a; intro a hl
                refine wl (wl_val hl rfl trivial (r_assign hl rfl) ?_)
                clear hl a; intro a hl
                refine wl (wl_val hl rfl trivial (r_assign hl rfl) ?_)
                clear hl a; intro a hl
                refine w_nil ?_
                have hl2 := hl.add (t := 8) (hl.add (t := 9) (hl.nil) rfl) rfl; clear hl; have hl := hl2; clear hl2
                refine then_normal ?_
                refine wp_ret ?_
                refine f_ret2 (F' := [(b, C (fl egc (Sort.swp q.d v2 lo).toList ++ junk) 102), (Bs, C sL 46)]) hl hh rfl rfl rfl (by repeat (first | exact keeps_nil | apply keeps_cons (by repeat (first | exact find_head | apply find_tail | apply find_skip)) (by first  | rfl) | exact keeps_self | exact keeps_left | apply keeps_app | apply keeps_mv | apply keeps_skip)) ?_
                rw [hpt]
                exact ⟨rfl, rfl, by simp only; rw [swp_sz]; exact hq1, by simp only; omega, by simp only; omega⟩
              · intro hc5
                try simp only [decide_eq_true_eq, decide_eq_false_iff_not, Bool.not_eq_true', Bool.not_eq_false', Bool.not_eq_true, Bool.not_eq_false, Bool.and_eq_true, Bool.or_eq_true, Bool.and_eq_false_iff, Bool.or_eq_false_iff, Bool.not_not, ne_eq, Int.not_lt, Int.not_le, Decidable.not_not, beq_iff_eq, bne_iff_ne] at hc5
                refine wp_skip ?_
                refine then_normal ?_
                refine c_seq ?_
                refine c_region ?_
                refine wl (wl_val hl rfl trivial (r_field hl rfl fld179_1) ?_)
                clear hl a; intro a hl
                refine wl (w_load hl hh rfl trivial one173 rfl (by repeat (first | exact find_head | apply find_tail | apply find_skip)) (by first | rfl) ?_)
                clear hl a; intro a hl
                refine wl (wl_val hl rfl trivial (r_move hl rfl) ?_)
                clear hl a; intro a hl
                refine wl (wl_val hl rfl trivial (r_move hl rfl) ?_)
                clear hl a; intro a hl
                refine wl (w_swap (u2) (v2) egc_len (by decide) hl hh rfl trivial rfl rfl (by repeat (first | exact find_head | apply find_tail | apply find_skip)) (hE.swz hq1) (by omega) (by omega) (by omega) (by omega) ?_)
                clear hl hh a w; intro a w hl hh
                refine w_nil ?_
                have hl2 := hl.add (t := 1) (hl.add (t := 4) (hl.add (t := 10) (hl.add (t := 11) (hl.nil) rfl) rfl) rfl) rfl; clear hl; have hl := hl2; clear hl2
                refine then_normal ?_
                refine c_seq ?_
                refine c_region ?_
                refine wl (wl_val hl rfl trivial (r_move hl rfl) ?_)
                clear hl a; intro a hl
                first | refine wl (wl_val hl rfl trivial (r_add hl rfl rfl (by simp only [Fits]; omega)) ?_) | refine wl (wl_val hl rfl trivial (r_addW hl rfl rfl) ?_)
                clear hl a; intro a hl
                refine wl (wl_val hl rfl trivial (r_assign hl rfl) ?_)
                clear hl a; intro a hl
                refine w_nil ?_
                have hl2 := hl.add (t := 1) (hl.add (t := 4) (hl.add (t := 10) (hl.add (t := 11) (hl.nil) rfl) rfl) rfl) rfl; clear hl; have hl := hl2; clear hl2
                refine then_normal ?_
                refine c_region ?_
                refine wl (wl_val hl rfl trivial (r_move hl rfl) ?_)
                clear hl a; intro a hl
                first | refine wl (wl_val hl rfl trivial (r_sub hl rfl rfl (by simp only [Fits]; omega)) ?_) | refine wl (wl_val hl rfl trivial (r_subW hl rfl rfl) ?_)
                clear hl a; intro a hl
                refine wl (wl_val hl rfl trivial (r_assign hl rfl) ?_)
                clear hl a; intro a hl
                refine w_nil ?_
                have hl2 := hl.add (t := 1) (hl.add (t := 4) (hl.add (t := 10) (hl.add (t := 11) (hl.nil) rfl) rfl) rfl) rfl; clear hl; have hl := hl2; clear hl2
                refine blk_normal ?_
                refine then_normal ?_
                refine ⟨⟨Sort.swp q.d u2 v2, u2 + 1, v2 - 1⟩, (by simp only; omega), ⟨by simp only; rw [swp_sz]; exact hq1, ⟨by simp only; omega, by simp only; omega, by simp only; omega⟩, by simp only; rw [← hq3]; exact (pl_go hu2e hv2e (by omega) (by omega) (by omega) (by omega)).symm⟩, hl.addE (t := 10) (hl.addE (t := 11) (hl.addE (t := 1) (hl.addE (t := 4) (hl.nil) rfl (by first | rfl | exact congrArg (Value.int .i64) (by first | omega | (simp only; omega)))) rfl (by first | rfl | exact congrArg (Value.int .i64) (by first | omega | (simp only; omega)))) rfl (by first | rfl | exact congrArg (Value.int .i64) (by first | omega | (simp only; omega)))) rfl (by first | rfl | exact congrArg (Value.int .i64) (by first | omega | (simp only; omega))), hh.keep (by repeat (first | exact keeps_nil | apply keeps_cons (by repeat (first | exact find_head | apply find_tail | apply find_skip)) (by first  | rfl) | exact keeps_self | exact keeps_left | apply keeps_app | apply keeps_mv | apply keeps_skip))⟩
        · intro hg13; clear hl; intro hl
          try simp only [decide_eq_true_eq, decide_eq_false_iff_not, Bool.not_eq_true', Bool.not_eq_false', Bool.not_eq_true, Bool.not_eq_false, Bool.and_eq_true, Bool.or_eq_true, Bool.and_eq_false_iff, Bool.or_eq_false_iff, Bool.not_not, ne_eq, Int.not_lt, Int.not_le, Decidable.not_not, beq_iff_eq, bne_iff_ne] at hg13
          refine wl (wl_skip hl rfl ⟨_, _, rfl, rfl, rfl⟩ ?_)
          clear hl a; intro a hl
          refine wl (wl_skip hl rfl ⟨_, _, rfl, rfl, rfl⟩ ?_)
          clear hl a; intro a hl
          refine wl (wl_skip hl rfl ⟨_, _, rfl, rfl, rfl⟩ ?_)
          clear hl a; intro a hl
          refine wl (wl_skip hl rfl ⟨_, _, rfl, rfl, rfl⟩ ?_)
          clear hl a; intro a hl
          refine wl (wl_skip hl rfl ⟨_, _, rfl, rfl, rfl⟩ ?_)
          clear hl a; intro a hl
          refine wl (wl_val hl rfl trivial (r_pickF hl rfl rfl) ?_)
          clear hl a; intro a hl
          refine w_nil ?_
          have hl2 := hl.add (t := 1) (hl.add (t := 4) (hl.add (t := 10) (hl.add (t := 11) (hl.add (t := 73) (hl.nil) rfl) rfl) rfl) rfl) rfl; clear hl; have hl := hl2; clear hl2
          refine then_normal ?_
          refine c_condF hl rfl ?_
          have hu2e : Sort.scanUp (fun x => egB x q.d[lo]!) q.d q.j q.i = u2 := by rw [← ha3]; exact up_stop (fun h9 => by first | omega | (have h8 := h9.2; simp only [(show egB q.d[u2]! q.d[lo]! = false by assumption)] at h8; cases h8))
          refine wp_exit ?_
          refine then_exit ?_
          refine then_exit ?_
          refine blk_exit ?_
          refine then_normal ?_
          refine c_seq ?_
          refine wp_block ?_
          obtain ⟨KS4, hKS4, hk⟩ := (hl.add (t := 1) (hl.add (t := 4) (hl.add (t := 10) (hl.nil) rfl) rfl) rfl).name
          obtain ⟨HS4, hHS4, hh2⟩ := hh.name (keeps_nil)
          refine c_loop (α := Nat) (fun v2 => v2) (fun v2 a w => (v2 ≤ q.j ∧ (u2 ≤ v2 + 2 ∧ lo ≤ v2) ∧ Sort.scanDown (fun x => !egB x q.d[lo]!) q.d u2 v2 = Sort.scanDown (fun x => !egB x q.d[lo]!) q.d u2 q.j) ∧ Sl 107 ([(11, .int .i64 (v2 : Int))] ++ KS4) a ∧ Has _ w0 ([] ++ HS4) w) q.j ⟨⟨Nat.le_refl _, ⟨by omega, by omega⟩, rfl⟩, hl.addE (t := 11) (hk) rfl (by first | exact congrArg (Value.int .i64) (by first | omega | (simp only; omega)) | rfl), hh2⟩ ?_
          clear hk hh2 hl hh a w
          intro v2 a w hI
          obtain ⟨⟨hd1, hd2, hd3⟩, hl, hh⟩ := hI
          subst hKS4; subst hHS4
          simp only [List.cons_append, List.nil_append, List.append_nil, List.append_assoc] at hl hh
          refine c_seq ?_
          refine c_seq ?_
          refine c_region ?_
          refine wl (wl_val hl rfl trivial (r_move hl rfl) ?_)
          clear hl a; intro a hl
          refine wl (wl_val hl rfl trivial (r_move hl rfl) ?_)
          clear hl a; intro a hl
          refine wl (wl_val hl rfl trivial (r_leq hl rfl rfl) ?_)
          clear hl a; intro a hl
          refine wl (wl_val hl rfl trivial (r_move hl rfl) ?_)
          clear hl a; intro a hl
          refine sl_split (t := 79) hl rfl ?_ ?_
          · intro hg15; clear hl; intro hl
            try simp only [decide_eq_true_eq, decide_eq_false_iff_not, Bool.not_eq_true', Bool.not_eq_false', Bool.not_eq_true, Bool.not_eq_false, Bool.and_eq_true, Bool.or_eq_true, Bool.and_eq_false_iff, Bool.or_eq_false_iff, Bool.not_not, ne_eq, Int.not_lt, Int.not_le, Decidable.not_not, beq_iff_eq, bne_iff_ne] at hg15
            refine wl (wl_val hl rfl ⟨_, _, rfl, rfl, rfl⟩ (r_field hl rfl fld179_0) ?_)
            clear hl a; intro a hl
            refine wl (w_load hl hh rfl ⟨_, _, rfl, rfl, rfl⟩ one144 rfl (by repeat (first | exact find_head | apply find_tail | apply find_skip)) (by first | rfl) ?_)
            clear hl a; intro a hl
            refine wl (wl_val hl rfl ⟨_, _, rfl, rfl, rfl⟩ (r_move hl rfl) ?_)
            clear hl a; intro a hl
            refine wl (wl_val hl rfl ⟨_, _, rfl, rfl, rfl⟩ (r_move hl rfl) ?_)
            clear hl a; intro a hl
            refine wl (w_call hl hh rfl ⟨_, _, rfl, rfl, rfl⟩ rfl cal62 rfl (less_spec (hE.to hq1) _ _ v2 lo (by omega) (by omega) (by omega) (by omega)) (by repeat (first | exact keeps_nil | apply keeps_cons (by repeat (first | exact find_head | apply find_tail | apply find_skip)) (by first  | rfl) | exact keeps_self | exact keeps_left | apply keeps_app | apply keeps_mv | apply keeps_skip)) trivial ?_)
            clear hl hh a w; intro vc Fc a w hR hl hh
            obtain ⟨rfl, rfl⟩ := hR
            try simp only [List.cons_append, List.nil_append, List.append_assoc, List.append_nil] at hh
            refine wl (wl_val hl rfl ⟨_, _, rfl, rfl, rfl⟩ (r_not hl rfl) ?_)
            clear hl a; intro a hl
            refine wl (wl_val hl rfl trivial (r_pickT hl rfl rfl) ?_)
            clear hl a; intro a hl
            refine w_nil ?_
            have hl2 := hl.add (t := 1) (hl.add (t := 4) (hl.add (t := 10) (hl.add (t := 11) (hl.add (t := 86) (hl.nil) rfl) rfl) rfl) rfl) rfl; clear hl; have hl := hl2; clear hl2
            refine then_normal ?_
            refine c_cond hl rfl ?_ ?_
            · intro hc4
              try simp only [decide_eq_true_eq, decide_eq_false_iff_not, Bool.not_eq_true', Bool.not_eq_false', Bool.not_eq_true, Bool.not_eq_false, Bool.and_eq_true, Bool.or_eq_true, Bool.and_eq_false_iff, Bool.or_eq_false_iff, Bool.not_not, ne_eq, Int.not_lt, Int.not_le, Decidable.not_not, beq_iff_eq, bne_iff_ne] at hc4
              refine wp_skip ?_
              refine then_normal ?_
              refine wp_block ?_
              refine c_region ?_
              refine wl (wl_val hl rfl trivial (r_move hl rfl) ?_)
              clear hl a; intro a hl
              first | refine wl (wl_val hl rfl trivial (r_sub hl rfl rfl (by simp only [Fits]; omega)) ?_) | refine wl (wl_val hl rfl trivial (r_subW hl rfl rfl) ?_)
              clear hl a; intro a hl
              refine wl (wl_val hl rfl trivial (r_assign hl rfl) ?_)
              clear hl a; intro a hl
              refine w_nil ?_
              have hl2 := hl.add (t := 1) (hl.add (t := 4) (hl.add (t := 10) (hl.add (t := 11) (hl.nil) rfl) rfl) rfl) rfl; clear hl; have hl := hl2; clear hl2
              refine blk_normal ?_
              refine then_normal ?_
              refine ⟨(v2 - 1), (by omega), ⟨by omega, ⟨by omega, by omega⟩, by rw [← hd3]; exact (dn_goN (by omega) (by omega) (by assumption)).symm⟩, hl.addE (t := 11) (hl.addE (t := 1) (hl.addE (t := 4) (hl.addE (t := 10) (hl.nil) rfl (by first | rfl | exact congrArg (Value.int .i64) (by first | omega | (simp only; omega)))) rfl (by first | rfl | exact congrArg (Value.int .i64) (by first | omega | (simp only; omega)))) rfl (by first | rfl | exact congrArg (Value.int .i64) (by first | omega | (simp only; omega)))) rfl (by first | rfl | exact congrArg (Value.int .i64) (by first | omega | (simp only; omega))), hh.keep (by repeat (first | exact keeps_nil | apply keeps_cons (by repeat (first | exact find_head | apply find_tail | apply find_skip)) (by first  | rfl) | exact keeps_self | exact keeps_left | apply keeps_app | apply keeps_mv | apply keeps_skip))⟩
            · intro hc4
              try simp only [decide_eq_true_eq, decide_eq_false_iff_not, Bool.not_eq_true', Bool.not_eq_false', Bool.not_eq_true, Bool.not_eq_false, Bool.and_eq_true, Bool.or_eq_true, Bool.and_eq_false_iff, Bool.or_eq_false_iff, Bool.not_not, ne_eq, Int.not_lt, Int.not_le, Decidable.not_not, beq_iff_eq, bne_iff_ne] at hc4
              have hv2e : Sort.scanDown (fun x => !egB x q.d[lo]!) q.d u2 q.j = v2 := by rw [← hd3]; exact dn_stop (fun h9 => by first | omega | (have h8 := h9.2; simp only [show egB q.d[v2]! q.d[lo]! = true by assumption] at h8; cases h8))
              refine wp_exit ?_
              refine then_exit ?_
              refine then_exit ?_
              refine blk_exit ?_
              refine then_normal ?_
              refine c_seq ?_
              refine c_seq ?_
              refine c_region ?_
              refine wl (wl_val hl rfl trivial (r_move hl rfl) ?_)
              clear hl a; intro a hl
              refine wl (wl_val hl rfl trivial (r_move hl rfl) ?_)
              clear hl a; intro a hl
              refine wl (wl_val hl rfl trivial (r_gtr hl rfl rfl) ?_)
              clear hl a; intro a hl
              refine w_nil ?_
              have hl2 := hl.add (t := 1) (hl.add (t := 4) (hl.add (t := 10) (hl.add (t := 11) (hl.add (t := 91) (hl.nil) rfl) rfl) rfl) rfl) rfl; clear hl; have hl := hl2; clear hl2
              refine then_normal ?_
              refine c_cond hl rfl ?_ ?_
              · intro hc5
                try simp only [decide_eq_true_eq, decide_eq_false_iff_not, Bool.not_eq_true', Bool.not_eq_false', Bool.not_eq_true, Bool.not_eq_false, Bool.and_eq_true, Bool.or_eq_true, Bool.and_eq_false_iff, Bool.or_eq_false_iff, Bool.not_not, ne_eq, Int.not_lt, Int.not_le, Decidable.not_not, beq_iff_eq, bne_iff_ne] at hc5
                have hpt := part_F hue hve (by omega) (hq3.symm.trans (pl_stop hu2e hv2e (by omega)))
                refine wp_exit ?_
                refine then_exit ?_
                refine blk_exit_ne rfl ?_
                refine then_exit ?_
                refine blk_exit ?_
                refine then_normal ?_
                refine c_seq ?_
                refine c_region ?_
                refine wl (wl_val hl rfl trivial (r_field hl rfl fld179_1) ?_)
                clear hl a; intro a hl
                refine wl (w_load hl hh rfl trivial one173 rfl (by repeat (first | exact find_head | apply find_tail | apply find_skip)) (by first | rfl) ?_)
                clear hl a; intro a hl
                refine wl (wl_val hl rfl trivial (r_move hl rfl) ?_)
                clear hl a; intro a hl
                refine wl (wl_val hl rfl trivial (r_move hl rfl) ?_)
                clear hl a; intro a hl
                refine wl (w_swap (v2) (lo) egc_len (by decide) hl hh rfl trivial rfl rfl (by repeat (first | exact find_head | apply find_tail | apply find_skip)) (hE.swz hq1) (by omega) (by omega) (by omega) (by omega) ?_)
                clear hl hh a w; intro a w hl hh
                refine w_nil ?_
                have hl2 := hl.add (t := 11) (hl.nil) rfl; clear hl; have hl := hl2; clear hl2
                refine then_normal ?_
                refine c_seq ?_
                refine c_region ?_
                refine wl (wl_val hl rfl trivial (r_move hl rfl) ?_)
                clear hl a; intro a hl
                refine wl (wl_val hl rfl trivial (r_assign hl rfl) ?_)
                clear hl a; intro a hl
                refine wl (wl_val hl rfl trivial (r_assign hl rfl) ?_)
                clear hl a; intro a hl
                refine w_nil ?_
                have hl2 := hl.add (t := 8) (hl.add (t := 9) (hl.nil) rfl) rfl; clear hl; have hl := hl2; clear hl2
                refine then_normal ?_
                refine wp_ret ?_
                refine f_ret2 (F' := [(b, C (fl egc (Sort.swp q.d v2 lo).toList ++ junk) 102), (Bs, C sL 46)]) hl hh rfl rfl rfl (by repeat (first | exact keeps_nil | apply keeps_cons (by repeat (first | exact find_head | apply find_tail | apply find_skip)) (by first  | rfl) | exact keeps_self | exact keeps_left | apply keeps_app | apply keeps_mv | apply keeps_skip)) ?_
                rw [hpt]
                exact ⟨rfl, rfl, by simp only; rw [swp_sz]; exact hq1, by simp only; omega, by simp only; omega⟩
              · intro hc5
                try simp only [decide_eq_true_eq, decide_eq_false_iff_not, Bool.not_eq_true', Bool.not_eq_false', Bool.not_eq_true, Bool.not_eq_false, Bool.and_eq_true, Bool.or_eq_true, Bool.and_eq_false_iff, Bool.or_eq_false_iff, Bool.not_not, ne_eq, Int.not_lt, Int.not_le, Decidable.not_not, beq_iff_eq, bne_iff_ne] at hc5
                refine wp_skip ?_
                refine then_normal ?_
                refine c_seq ?_
                refine c_region ?_
                refine wl (wl_val hl rfl trivial (r_field hl rfl fld179_1) ?_)
                clear hl a; intro a hl
                refine wl (w_load hl hh rfl trivial one173 rfl (by repeat (first | exact find_head | apply find_tail | apply find_skip)) (by first | rfl) ?_)
                clear hl a; intro a hl
                refine wl (wl_val hl rfl trivial (r_move hl rfl) ?_)
                clear hl a; intro a hl
                refine wl (wl_val hl rfl trivial (r_move hl rfl) ?_)
                clear hl a; intro a hl
                refine wl (w_swap (u2) (v2) egc_len (by decide) hl hh rfl trivial rfl rfl (by repeat (first | exact find_head | apply find_tail | apply find_skip)) (hE.swz hq1) (by omega) (by omega) (by omega) (by omega) ?_)
                clear hl hh a w; intro a w hl hh
                refine w_nil ?_
                have hl2 := hl.add (t := 1) (hl.add (t := 4) (hl.add (t := 10) (hl.add (t := 11) (hl.nil) rfl) rfl) rfl) rfl; clear hl; have hl := hl2; clear hl2
                refine then_normal ?_
                refine c_seq ?_
                refine c_region ?_
                refine wl (wl_val hl rfl trivial (r_move hl rfl) ?_)
                clear hl a; intro a hl
                first | refine wl (wl_val hl rfl trivial (r_add hl rfl rfl (by simp only [Fits]; omega)) ?_) | refine wl (wl_val hl rfl trivial (r_addW hl rfl rfl) ?_)
                clear hl a; intro a hl
                refine wl (wl_val hl rfl trivial (r_assign hl rfl) ?_)
                clear hl a; intro a hl
                refine w_nil ?_
                have hl2 := hl.add (t := 1) (hl.add (t := 4) (hl.add (t := 10) (hl.add (t := 11) (hl.nil) rfl) rfl) rfl) rfl; clear hl; have hl := hl2; clear hl2
                refine then_normal ?_
                refine c_region ?_
                refine wl (wl_val hl rfl trivial (r_move hl rfl) ?_)
                clear hl a; intro a hl
                first | refine wl (wl_val hl rfl trivial (r_sub hl rfl rfl (by simp only [Fits]; omega)) ?_) | refine wl (wl_val hl rfl trivial (r_subW hl rfl rfl) ?_)
                clear hl a; intro a hl
                refine wl (wl_val hl rfl trivial (r_assign hl rfl) ?_)
                clear hl a; intro a hl
                refine w_nil ?_
                have hl2 := hl.add (t := 1) (hl.add (t := 4) (hl.add (t := 10) (hl.add (t := 11) (hl.nil) rfl) rfl) rfl) rfl; clear hl; have hl := hl2; clear hl2
                refine blk_normal ?_
                refine then_normal ?_
                refine ⟨⟨Sort.swp q.d u2 v2, u2 + 1, v2 - 1⟩, (by simp only; omega), ⟨by simp only; rw [swp_sz]; exact hq1, ⟨by simp only; omega, by simp only; omega, by simp only; omega⟩, by simp only; rw [← hq3]; exact (pl_go hu2e hv2e (by omega) (by omega) (by omega) (by omega)).symm⟩, hl.addE (t := 10) (hl.addE (t := 11) (hl.addE (t := 1) (hl.addE (t := 4) (hl.nil) rfl (by first | rfl | exact congrArg (Value.int .i64) (by first | omega | (simp only; omega)))) rfl (by first | rfl | exact congrArg (Value.int .i64) (by first | omega | (simp only; omega)))) rfl (by first | rfl | exact congrArg (Value.int .i64) (by first | omega | (simp only; omega)))) rfl (by first | rfl | exact congrArg (Value.int .i64) (by first | omega | (simp only; omega))), hh.keep (by repeat (first | exact keeps_nil | apply keeps_cons (by repeat (first | exact find_head | apply find_tail | apply find_skip)) (by first  | rfl) | exact keeps_self | exact keeps_left | apply keeps_app | apply keeps_mv | apply keeps_skip))⟩
          · intro hg15; clear hl; intro hl
            try simp only [decide_eq_true_eq, decide_eq_false_iff_not, Bool.not_eq_true', Bool.not_eq_false', Bool.not_eq_true, Bool.not_eq_false, Bool.and_eq_true, Bool.or_eq_true, Bool.and_eq_false_iff, Bool.or_eq_false_iff, Bool.not_not, ne_eq, Int.not_lt, Int.not_le, Decidable.not_not, beq_iff_eq, bne_iff_ne] at hg15
            refine wl (wl_skip hl rfl ⟨_, _, rfl, rfl, rfl⟩ ?_)
            clear hl a; intro a hl
            refine wl (wl_skip hl rfl ⟨_, _, rfl, rfl, rfl⟩ ?_)
            clear hl a; intro a hl
            refine wl (wl_skip hl rfl ⟨_, _, rfl, rfl, rfl⟩ ?_)
            clear hl a; intro a hl
            refine wl (wl_skip hl rfl ⟨_, _, rfl, rfl, rfl⟩ ?_)
            clear hl a; intro a hl
            refine wl (wl_skip hl rfl ⟨_, _, rfl, rfl, rfl⟩ ?_)
            clear hl a; intro a hl
            refine wl (wl_skip hl rfl ⟨_, _, rfl, rfl, rfl⟩ ?_)
            clear hl a; intro a hl
            refine wl (wl_val hl rfl trivial (r_pickF hl rfl rfl) ?_)
            clear hl a; intro a hl
            refine w_nil ?_
            have hl2 := hl.add (t := 1) (hl.add (t := 4) (hl.add (t := 10) (hl.add (t := 11) (hl.add (t := 86) (hl.nil) rfl) rfl) rfl) rfl) rfl; clear hl; have hl := hl2; clear hl2
            refine then_normal ?_
            refine c_condF hl rfl ?_
            have hv2e : Sort.scanDown (fun x => !egB x q.d[lo]!) q.d u2 q.j = v2 := by rw [← hd3]; exact dn_stop (fun h9 => by first | omega | (have h8 := h9.2; simp only [show egB q.d[v2]! q.d[lo]! = true by assumption] at h8; cases h8))
            refine wp_exit ?_
            refine then_exit ?_
            refine then_exit ?_
            refine blk_exit ?_
            refine then_normal ?_
            refine c_seq ?_
            refine c_seq ?_
            refine c_region ?_
            refine wl (wl_val hl rfl trivial (r_move hl rfl) ?_)
            clear hl a; intro a hl
            refine wl (wl_val hl rfl trivial (r_move hl rfl) ?_)
            clear hl a; intro a hl
            refine wl (wl_val hl rfl trivial (r_gtr hl rfl rfl) ?_)
            clear hl a; intro a hl
            refine w_nil ?_
            have hl2 := hl.add (t := 1) (hl.add (t := 4) (hl.add (t := 10) (hl.add (t := 11) (hl.add (t := 91) (hl.nil) rfl) rfl) rfl) rfl) rfl; clear hl; have hl := hl2; clear hl2
            refine then_normal ?_
            refine c_cond hl rfl ?_ ?_
            · intro hc5
              try simp only [decide_eq_true_eq, decide_eq_false_iff_not, Bool.not_eq_true', Bool.not_eq_false', Bool.not_eq_true, Bool.not_eq_false, Bool.and_eq_true, Bool.or_eq_true, Bool.and_eq_false_iff, Bool.or_eq_false_iff, Bool.not_not, ne_eq, Int.not_lt, Int.not_le, Decidable.not_not, beq_iff_eq, bne_iff_ne] at hc5
              have hpt := part_F hue hve (by omega) (hq3.symm.trans (pl_stop hu2e hv2e (by omega)))
              refine wp_exit ?_
              refine then_exit ?_
              refine blk_exit_ne rfl ?_
              refine then_exit ?_
              refine blk_exit ?_
              refine then_normal ?_
              refine c_seq ?_
              refine c_region ?_
              refine wl (wl_val hl rfl trivial (r_field hl rfl fld179_1) ?_)
              clear hl a; intro a hl
              refine wl (w_load hl hh rfl trivial one173 rfl (by repeat (first | exact find_head | apply find_tail | apply find_skip)) (by first | rfl) ?_)
              clear hl a; intro a hl
              refine wl (wl_val hl rfl trivial (r_move hl rfl) ?_)
              clear hl a; intro a hl
              refine wl (wl_val hl rfl trivial (r_move hl rfl) ?_)
              clear hl a; intro a hl
              refine wl (w_swap (v2) (lo) egc_len (by decide) hl hh rfl trivial rfl rfl (by repeat (first | exact find_head | apply find_tail | apply find_skip)) (hE.swz hq1) (by omega) (by omega) (by omega) (by omega) ?_)
              clear hl hh a w; intro a w hl hh
              refine w_nil ?_
              have hl2 := hl.add (t := 11) (hl.nil) rfl; clear hl; have hl := hl2; clear hl2
              refine then_normal ?_
              refine c_seq ?_
              refine c_region ?_
              refine wl (wl_val hl rfl trivial (r_move hl rfl) ?_)
              clear hl a; intro a hl
              refine wl (wl_val hl rfl trivial (r_assign hl rfl) ?_)
              clear hl a; intro a hl
              refine wl (wl_val hl rfl trivial (r_assign hl rfl) ?_)
              clear hl a; intro a hl
              refine w_nil ?_
              have hl2 := hl.add (t := 8) (hl.add (t := 9) (hl.nil) rfl) rfl; clear hl; have hl := hl2; clear hl2
              refine then_normal ?_
              refine wp_ret ?_
              refine f_ret2 (F' := [(b, C (fl egc (Sort.swp q.d v2 lo).toList ++ junk) 102), (Bs, C sL 46)]) hl hh rfl rfl rfl (by repeat (first | exact keeps_nil | apply keeps_cons (by repeat (first | exact find_head | apply find_tail | apply find_skip)) (by first  | rfl) | exact keeps_self | exact keeps_left | apply keeps_app | apply keeps_mv | apply keeps_skip)) ?_
              rw [hpt]
              exact ⟨rfl, rfl, by simp only; rw [swp_sz]; exact hq1, by simp only; omega, by simp only; omega⟩
            · intro hc5
              try simp only [decide_eq_true_eq, decide_eq_false_iff_not, Bool.not_eq_true', Bool.not_eq_false', Bool.not_eq_true, Bool.not_eq_false, Bool.and_eq_true, Bool.or_eq_true, Bool.and_eq_false_iff, Bool.or_eq_false_iff, Bool.not_not, ne_eq, Int.not_lt, Int.not_le, Decidable.not_not, beq_iff_eq, bne_iff_ne] at hc5
              refine wp_skip ?_
              refine then_normal ?_
              refine c_seq ?_
              refine c_region ?_
              refine wl (wl_val hl rfl trivial (r_field hl rfl fld179_1) ?_)
              clear hl a; intro a hl
              refine wl (w_load hl hh rfl trivial one173 rfl (by repeat (first | exact find_head | apply find_tail | apply find_skip)) (by first | rfl) ?_)
              clear hl a; intro a hl
              refine wl (wl_val hl rfl trivial (r_move hl rfl) ?_)
              clear hl a; intro a hl
              refine wl (wl_val hl rfl trivial (r_move hl rfl) ?_)
              clear hl a; intro a hl
              refine wl (w_swap (u2) (v2) egc_len (by decide) hl hh rfl trivial rfl rfl (by repeat (first | exact find_head | apply find_tail | apply find_skip)) (hE.swz hq1) (by omega) (by omega) (by omega) (by omega) ?_)
              clear hl hh a w; intro a w hl hh
              refine w_nil ?_
              have hl2 := hl.add (t := 1) (hl.add (t := 4) (hl.add (t := 10) (hl.add (t := 11) (hl.nil) rfl) rfl) rfl) rfl; clear hl; have hl := hl2; clear hl2
              refine then_normal ?_
              refine c_seq ?_
              refine c_region ?_
              refine wl (wl_val hl rfl trivial (r_move hl rfl) ?_)
              clear hl a; intro a hl
              first | refine wl (wl_val hl rfl trivial (r_add hl rfl rfl (by simp only [Fits]; omega)) ?_) | refine wl (wl_val hl rfl trivial (r_addW hl rfl rfl) ?_)
              clear hl a; intro a hl
              refine wl (wl_val hl rfl trivial (r_assign hl rfl) ?_)
              clear hl a; intro a hl
              refine w_nil ?_
              have hl2 := hl.add (t := 1) (hl.add (t := 4) (hl.add (t := 10) (hl.add (t := 11) (hl.nil) rfl) rfl) rfl) rfl; clear hl; have hl := hl2; clear hl2
              refine then_normal ?_
              refine c_region ?_
              refine wl (wl_val hl rfl trivial (r_move hl rfl) ?_)
              clear hl a; intro a hl
              first | refine wl (wl_val hl rfl trivial (r_sub hl rfl rfl (by simp only [Fits]; omega)) ?_) | refine wl (wl_val hl rfl trivial (r_subW hl rfl rfl) ?_)
              clear hl a; intro a hl
              refine wl (wl_val hl rfl trivial (r_assign hl rfl) ?_)
              clear hl a; intro a hl
              refine w_nil ?_
              have hl2 := hl.add (t := 1) (hl.add (t := 4) (hl.add (t := 10) (hl.add (t := 11) (hl.nil) rfl) rfl) rfl) rfl; clear hl; have hl := hl2; clear hl2
              refine blk_normal ?_
              refine then_normal ?_
              refine ⟨⟨Sort.swp q.d u2 v2, u2 + 1, v2 - 1⟩, (by simp only; omega), ⟨by simp only; rw [swp_sz]; exact hq1, ⟨by simp only; omega, by simp only; omega, by simp only; omega⟩, by simp only; rw [← hq3]; exact (pl_go hu2e hv2e (by omega) (by omega) (by omega) (by omega)).symm⟩, hl.addE (t := 10) (hl.addE (t := 11) (hl.addE (t := 1) (hl.addE (t := 4) (hl.nil) rfl (by first | rfl | exact congrArg (Value.int .i64) (by first | omega | (simp only; omega)))) rfl (by first | rfl | exact congrArg (Value.int .i64) (by first | omega | (simp only; omega)))) rfl (by first | rfl | exact congrArg (Value.int .i64) (by first | omega | (simp only; omega)))) rfl (by first | rfl | exact congrArg (Value.int .i64) (by first | omega | (simp only; omega))), hh.keep (by repeat (first | exact keeps_nil | apply keeps_cons (by repeat (first | exact find_head | apply find_tail | apply find_skip)) (by first  | rfl) | exact keeps_self | exact keeps_left | apply keeps_app | apply keeps_mv | apply keeps_skip))⟩
end Go.Proofs.Qxb6500911aGreatDoor

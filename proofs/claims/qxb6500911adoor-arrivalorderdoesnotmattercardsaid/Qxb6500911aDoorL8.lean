import Derived.Test.Qxb6500911aDoorA21
namespace Go.Proofs.Qxb6500911aDoor
open Go.Eng
set_option linter.unusedVariables false
set_option linter.unusedSimpArgs false
theorem cal11 : callable Tryd.prog 11 = true := by kernel_rfl
theorem cal12 : callable Tryd.prog 12 = true := by kernel_rfl
theorem fldT28_0 : fieldTOk Tryd.prog 28 0 0 24 = true := by kernel_rfl
theorem one24 : oneOk Tryd.prog 24 = true := by kernel_rfl
theorem cal28 : callable Tryd.prog 28 = true := by kernel_rfl
theorem agg32 : aggOk Tryd.prog 32 4 = true := by kernel_rfl
theorem zero32 : zeroOk Tryd.prog 32 (.agg #[(.int .u8 0), (.int .i64 0), (.int .i64 0), (.int .i64 0)]) := by unfold zeroOk; kernel_rfl
theorem cal13 : callable Tryd.prog 13 = true := by kernel_rfl
theorem cal29 : callable Tryd.prog 29 = true := by kernel_rfl
attribute [local irreducible] sysL

/-! ## refusals change nothing -/
theorem acqN_ref {tb : Tab} {t r : Nat} {u : Int} (h0 : (acqN tb t r u).2 ≠ 0) (h1 : (acqN tb t r u).2 ≠ 1) : (acqN tb t r u).1 = tb := by
  unfold acqN at h0 h1 ⊢
  split
  · rfl
  · rename_i c1
    rw [if_neg c1] at h0 h1
    split
    · rfl
    · rename_i c2
      rw [if_neg c2] at h0 h1
      split
      · rfl
      · rename_i c3
        rw [if_neg c3] at h0 h1
        split
        · rfl
        · rename_i c4
          rw [if_neg c4] at h0 h1
          split
          · rename_i c5; rw [if_pos c5] at h0; exact absurd rfl h0
          · rename_i c5; rw [if_neg c5] at h1; exact absurd rfl h1
theorem setC_self (g : Gs) : setC g g.tb g.ep = g := rfl
theorem step_ref {B Q : Int} {g : Gs} {o : DO} (hG : GI B Q g) (hQ : Q ≤ 1000000000000) (h0 : (stepG g o).2.1 ≠ 0) (h1 : (stepG g o).2.1 ≠ 1) : (stepG g o).1 = g ∧ (stepG g o).2.2 = 0#16 := by
  unfold stepG at h0 h1 ⊢
  by_cases k0 : o.k = 0
  · rw [if_pos k0] at h0 h1 ⊢
    simp only at h0 h1 ⊢
    refine ⟨?_, trivial⟩
    unfold acqG at h0 h1 ⊢
    split
    · rename_i c
      rw [if_pos c] at h0 h1
      simp only at h0 h1 ⊢
      rw [if_neg h1, acqN_ref h0 h1]; rfl
    · rfl
  · rw [if_neg k0] at h0 h1 ⊢
    by_cases k1 : o.k = 1
    · rw [if_pos k1] at h0 h1 ⊢
      simp only at h0 h1 ⊢
      unfold relG at h0 h1 ⊢
      split
      · rename_i c1
        rw [if_pos c1] at h0
        split
        · rename_i c2
          rw [if_pos c2] at h0
          split
          · rename_i c3; rw [if_pos c3] at h0; exact absurd rfl h0
          · exact ⟨rfl, rfl⟩
        · exact ⟨rfl, rfl⟩
      · exact ⟨rfl, rfl⟩
    · rw [if_neg k1] at h0 h1 ⊢
      by_cases k2 : o.k = 2
      · rw [if_pos k2] at h0 h1 ⊢
        simp only at h0 h1 ⊢
        unfold canG at h0 h1 ⊢
        split
        · rename_i c1
          rw [if_pos c1] at h0
          split
          · rename_i c3; rw [if_pos c3] at h0; exact absurd rfl h0
          · exact ⟨rfl, rfl⟩
        · exact ⟨rfl, rfl⟩
      · rw [if_neg k2] at h0 h1 ⊢
        by_cases k3 : o.k = 3
        · rw [if_pos k3] at h0 h1 ⊢
          simp only at h0 h1 ⊢
          unfold abG at h0 h1 ⊢
          split
          · rename_i c1
            rw [if_pos c1] at h0; exact absurd rfl h0
          · exact ⟨rfl, rfl⟩
        · rw [if_neg k3] at h0 h1 ⊢
          by_cases k4 : o.k = 4
          · rw [if_pos k4] at h0 h1 ⊢
            simp only at h0 h1 ⊢
            refine ⟨?_, trivial⟩
            unfold delG at h0 ⊢
            split
            · rfl
            · rename_i x l hx
              rw [hx] at h0
              simp only at h0
              obtain ⟨_, u, hu, hxu, hdec, _⟩ := hG.pop hQ hx (foldB_lt o.a)
              unfold hdlG at h0
              rw [hdec] at h0
              exact absurd rfl h0
          · rw [if_neg k4]; exact ⟨rfl, rfl⟩
theorem ref_w {cd : Int} {wk : BitVec 16} {g g2 : Gs} (h : cd ≠ 0 → cd ≠ 1 → g2 = g ∧ wk = 0#16) (h0 : ¬ cd = 0) (h1 : ¬ cd = 1) : mi wk = 0 := by rw [(h h0 h1).2]; rfl


set_option maxHeartbeats 8000000 in
theorem law8 (sb : Nat) (c : List Value) (T : TypeId) (fr : Nat × Nat) (p : Option Addr) (n cap : Nat) (ops : List DO) (hn : n = ops.length) (hlen : n ≤ 9223372036854775807) (h : Ops sb c p cap ops) (tT : TypeId) (tf : Nat × Nat) : SpK Tryd.prog 8 #[.slice p n cap] (fun w => OpsIn sb c T fr ops w ∧ w.heap[0]? = some (.cells ⟨tabL⟩ tT tf)) [] (fun v F' => v = .bool true ∧ F' = []) := by
  refine f_enter (args := [.slice p n cap]) Tryd.func8 rfl Tryd.ntmps8 rfl ?_
  intro w0 w a hpre hl hh
  simp only [slotsFrom, Nat.reduceAdd] at hl
  refine c_seq ?_
  refine c_region ?_
  refine wl (wl_val hl rfl trivial (r_assign hl rfl) ?_)
  clear hl a; intro a hl
  refine w_nil ?_
  have hl2 := hl.add (t := 0) (hl.nil) rfl; clear hl; have hl := hl2; clear hl2
  refine then_normal ?_
  refine c_seq ?_
  refine c_seq ?_
  refine c_region ?_
  refine wl (wl_val hl rfl trivial (r_move hl rfl) ?_)
  clear hl a; intro a hl
  refine wl (w_call hl hh rfl trivial rfl cal11 rfl (small_spec p n cap hlen) (by repeat (first | exact keeps_nil | apply keeps_cons (by repeat (first | exact find_head | apply find_tail | apply find_skip)) (by first  | rfl) | exact keeps_self | exact keeps_left | apply keeps_app | apply keeps_mv | apply keeps_skip)) trivial ?_)
  clear hl hh a w; intro vc Fc a w hR hl hh
  obtain ⟨rfl, rfl⟩ := hR
  try simp only [List.cons_append, List.nil_append, List.append_assoc, List.append_nil] at hh
  refine wl (wl_val hl rfl trivial (r_not hl rfl) ?_)
  clear hl a; intro a hl
  refine w_nil ?_
  have hl2 := hl.add (t := 0) (hl.add (t := 11) (hl.nil) rfl) rfl; clear hl; have hl := hl2; clear hl2
  refine then_normal ?_
  refine c_cond hl rfl ?_ ?_
  · intro hc0
    try simp only [decide_eq_true_eq, decide_eq_false_iff_not, Bool.not_eq_true', Bool.not_eq_false', Bool.not_eq_true, Bool.not_eq_false, Bool.and_eq_true, Bool.or_eq_true, Bool.and_eq_false_iff, Bool.or_eq_false_iff, Bool.not_not, ne_eq, Int.not_lt, Int.not_le, Decidable.not_not, beq_iff_eq, bne_iff_ne] at hc0
    refine c_seq ?_
    refine c_region ?_
    refine wl (wl_val hl rfl trivial (r_assign hl rfl) ?_)
    clear hl a; intro a hl
    refine w_nil ?_
    have hl2 := hl.add (t := 2) (hl.nil) rfl; clear hl; have hl := hl2; clear hl2
    refine then_normal ?_
    refine wp_ret ?_
    refine then_ret ?_
    refine f_ret1 (F' := []) hl hh rfl rfl (by repeat (first | exact keeps_nil | apply keeps_cons (by repeat (first | exact find_head | apply find_tail | apply find_skip)) (by first  | rfl) | exact keeps_self | exact keeps_left | apply keeps_app | apply keeps_mv | apply keeps_skip)) ?_
    exact ⟨rfl, rfl⟩
  · intro hc0
    try simp only [decide_eq_true_eq, decide_eq_false_iff_not, Bool.not_eq_true', Bool.not_eq_false', Bool.not_eq_true, Bool.not_eq_false, Bool.and_eq_true, Bool.or_eq_true, Bool.and_eq_false_iff, Bool.or_eq_false_iff, Bool.not_not, ne_eq, Int.not_lt, Int.not_le, Decidable.not_not, beq_iff_eq, bne_iff_ne] at hc0
    have hn6 : n ≤ 65536 := by simpa using hc0
    refine wp_skip ?_
    refine then_normal ?_
    refine c_seq ?_
    refine c_region ?_
    refine wl (w_call hl hh rfl trivial rfl cal12 rfl (fresh_spec) (by repeat (first | exact keeps_nil | apply keeps_cons (by repeat (first | exact find_head | apply find_tail | apply find_skip)) (by first  | rfl) | exact keeps_self | exact keeps_left | apply keeps_app | apply keeps_mv | apply keeps_skip)) trivial ?_)
    clear hl hh a w; intro vc Fc a w hR hl hh
    obtain ⟨bg, bm, bt, rfl, hF0⟩ := hR
    try simp only [List.cons_append, List.nil_append, List.append_assoc, List.append_nil] at hh
    subst hF0
    refine wl (wl_val hl rfl trivial (r_fieldV hl rfl fldT28_0 one24 rfl) ?_)
    clear hl a; intro a hl
    refine wl (wl_val hl rfl trivial (r_assign hl rfl) ?_)
    clear hl a; intro a hl
    refine w_nil ?_
    have hl2 := hl.add (t := 0) (hl.add (t := 3) (hl.nil) rfl) rfl; clear hl; have hl := hl2; clear hl2
    refine then_normal ?_
    refine c_seq ?_
    refine c_region ?_
    refine wl (wl_val hl rfl trivial (r_move hl rfl) ?_)
    clear hl a; intro a hl
    refine wl (w_call hl hh rfl trivial rfl cal28 rfl (snap_spec (sys00 bm bt) bg 0 0 ⟨by omega, by omega⟩ GI00) (by repeat (first | exact keeps_nil | apply keeps_cons (by repeat (first | exact find_head | apply find_tail | apply find_skip)) (by first  | rfl) | exact keeps_self | exact keeps_left | apply keeps_app | apply keeps_mv | apply keeps_skip)) (memK (E := sysL bg (M00 bm bt)) hh (by repeat (first | exact keeps_nil | apply keeps_cons (by repeat (first | exact find_head | apply find_tail | apply find_skip)) (by first  | rfl) | exact keeps_self | exact keeps_left | apply keeps_app | apply keeps_mv | apply keeps_skip))) ?_)
    clear hl hh a w; intro vc Fc a w hR hl hh
    obtain ⟨ev0, bv0, Ee0, Eb0, rfl, hSn, rfl⟩ := hR
    try simp only [List.cons_append, List.nil_append, List.append_assoc, List.append_nil] at hh
    refine wl (w_alloc hl hh rfl trivial zero75 rfl ?_)
    clear hl hh a w; intro k4 a w hl hh
    refine wl (w_storeA hl hh trivial agg75 rfl rfl (by repeat (first | exact find_head | apply find_tail | apply find_skip)) (by exact snC_len _ _ _) (by first | exact Nat.le_of_eq (arrL_length _ _).symm | (rw [snC_len]; exact Nat.le_refl _)) (by first | exact snC_one hSn | exact snC_one hSn2) (by exact setL_whole (by first | rw [snC_len, arrL_length] | rw [snC_len, snC_len])) ?_)
    clear hh w; intro w hh
    refine w_nil ?_
    have hl2 := hl.add (t := 0) (hl.add (t := 3) (hl.add (t := 4) (hl.nil) rfl) rfl) rfl; clear hl; have hl := hl2; clear hl2
    refine then_normal ?_
    refine c_seq ?_
    refine c_seq ?_
    refine c_region ?_
    refine wl (wl_val hl rfl trivial (r_move hl rfl) ?_)
    clear hl a; intro a hl
    refine wl (wl_val hl rfl trivial (r_lenS hl rfl slc22) ?_)
    clear hl a; intro a hl
    refine wl (wl_val hl rfl trivial (r_move hl rfl) ?_)
    clear hl a; intro a hl
    refine w_nil ?_
    have hl2 := hl.add (t := 3) (hl.add (t := 4) (hl.add (t := 16) (hl.add (t := 17) (hl.add (t := 18) (hl.nil) rfl) rfl) rfl) rfl) rfl; clear hl; have hl := hl2; clear hl2
    refine then_normal ?_
    refine wp_block ?_
    obtain ⟨KS0, hKS0, hk⟩ := (hl.add (t := 3) (hl.add (t := 4) (hl.add (t := 16) (hl.add (t := 17) (hl.nil) rfl) rfl) rfl) rfl).name
    obtain ⟨HS0, hHS0, hh2⟩ := hh.nameT (A := [(k4, C (snC g00 ev0 bv0) 75)]) (U := (sysL bg (M00 bm bt) ++ (fam Ee0 4 ++ fam Eb0 16))) (keeps_cons (b := k4) (o' := C (snC g00 ev0 bv0) 75) (by repeat (first | exact find_head | apply find_tail | apply find_skip)) (by first | rfl) ((by repeat (first | exact keeps_nil | exact keeps_self | exact keeps_left | apply keeps_app | apply keeps_mv | apply keeps_skip))))
    refine c_loop (α := LZ) (fun z => ops.length - z.i) (fun z a w => (z.i ≤ ops.length ∧ SysF z.g z.M ∧ GI (40 * z.i) (400 * z.i) z.g ∧ SnR z.g z.ev z.bv z.Ee z.Eb) ∧ Sl 46 ([(18, .int .i64 (z.i : Int))] ++ KS0) a ∧ Has _ w0 ([(k4, C (snC z.g z.ev z.bv) 75)] ++ (HS0 ++ (sysL bg z.M ++ (fam z.Ee 4 ++ fam z.Eb 16)))) w) ⟨g00, M00 bm bt, ev0, bv0, Ee0, Eb0, 0⟩ ⟨⟨Nat.zero_le _, sys00 bm bt, by simpa using GI00, hSn⟩, hl.addE (t := 18) (hk) rfl (by first | rfl), hh2⟩ ?_
    clear hk hh2 hl hh a w hSn
    intro z a w hI
    obtain ⟨⟨hzi, hS, hG, hSn⟩, hl, hh⟩ := hI
    subst hKS0; subst hHS0
    simp only [List.cons_append, List.nil_append, List.append_nil, List.append_assoc] at hl hh
    refine c_seq ?_
    refine c_region ?_
    refine wl (wl_val hl rfl trivial (r_lss hl rfl rfl) ?_)
    clear hl a; intro a hl
    refine w_nil ?_
    have hl2 := hl.add (t := 3) (hl.add (t := 4) (hl.add (t := 16) (hl.add (t := 17) (hl.add (t := 18) (hl.add (t := 19) (hl.nil) rfl) rfl) rfl) rfl) rfl) rfl; clear hl; have hl := hl2; clear hl2
    refine then_normal ?_
    refine c_seq ?_
    refine c_cond hl rfl ?_ ?_
    · intro hc1
      try simp only [decide_eq_true_eq, decide_eq_false_iff_not, Bool.not_eq_true', Bool.not_eq_false', Bool.not_eq_true, Bool.not_eq_false, Bool.and_eq_true, Bool.or_eq_true, Bool.and_eq_false_iff, Bool.or_eq_false_iff, Bool.not_not, ne_eq, Int.not_lt, Int.not_le, Decidable.not_not, beq_iff_eq, bne_iff_ne] at hc1
      obtain ⟨so, hso, hat⟩ := h.at_ (by omega)
      subst hso
      obtain ⟨o, hoi⟩ : ∃ o, ops[z.i]? = some o := ⟨_, List.getElem?_eq_getElem (by omega)⟩
      have hopv := hat _ o hoi
      have hok := h.ok o (List.mem_of_getElem? hoi)
      have hin := hpre.1 (by omega)
      have hoa := hok.a; have hob := hok.b; have hoc := hok.c; have hokk := hok.k
      have hzn : z.i < n := by omega
      refine wp_skip ?_
      refine then_normal ?_
      refine c_seq ?_
      refine wp_block ?_
      refine c_seq ?_
      refine c_region ?_
      refine wl (wl_val hl rfl trivial (r_indexS hl rfl rfl slc22 (by omega) (by omega) (by first | (simp only [Int.reduceToNat]; rfl) | exact toNat_add1 _ | exact toNat_add2 _ _ | exact toNat_emod _ _ | exact Int.toNat_natCast _ | rfl)) ?_)
      clear hl a; intro a hl
      first | refine wl (w_loadA hl hh rfl trivial agg32 rfl (by repeat (first | exact find_head | apply find_tail | apply find_skip)) (by first | rfl | (simp only [List.getElem?_cons_zero, List.getElem?_cons_succ, Value.cells, List.take_zero, List.take_succ_cons, List.take_nil, List.drop_zero, List.drop_succ_cons, List.drop_nil, List.length_cons, List.length_nil, List.cons_append, List.nil_append, List.append_nil, Nat.zero_add, Nat.add_zero, Nat.reduceAdd, Nat.reduceBEq, Nat.reduceEqDiff, Nat.ble, BEq.rfl, Bool.and_true, Bool.and_self, cond_true, beq_self_eq_true]; rfl)) (by first | rfl | (simp; done)) ?_) | refine wl (w_loadRA hl hh rfl trivial agg32 rfl hin (by simp) hopv rfl ?_)
      clear hl a; intro a hl
      refine wl (w_alloc hl hh rfl trivial zero32 rfl ?_)
      clear hl hh a w; intro k6 a w hl hh
      refine wl (w_storeA hl hh trivial agg32 rfl rfl (by repeat (first | exact find_head | apply find_tail | apply find_skip)) (by first | rfl | (simp; done) | rfl) (by first | (simp; done) | (simp; omega)) (by first | rfl | (simp; done) | rfl) (by first | (simp only [setL, List.getElem?_cons_zero, List.getElem?_cons_succ, Value.cells, List.take_zero, List.take_succ_cons, List.take_nil, List.drop_zero, List.drop_succ_cons, List.drop_nil, List.length_cons, List.length_nil, List.cons_append, List.nil_append, List.append_nil, Nat.zero_add, Nat.add_zero, Nat.reduceAdd, Nat.reduceBEq, Nat.reduceEqDiff, Nat.ble, BEq.rfl, Bool.and_true, Bool.and_self, cond_true, beq_self_eq_true]; rfl)) ?_)
      clear hh w; intro w hh
      refine w_nil ?_
      have hl2 := hl.add (t := 3) (hl.add (t := 4) (hl.add (t := 6) (hl.add (t := 16) (hl.add (t := 17) (hl.add (t := 18) (hl.nil) rfl) rfl) rfl) rfl) rfl) rfl; clear hl; have hl := hl2; clear hl2
      refine then_normal ?_
      refine c_seq ?_
      refine c_region ?_
      refine wl (wl_val hl rfl trivial (r_move hl rfl) ?_)
      clear hl a; intro a hl
      first | refine wl (w_loadA hl hh rfl trivial agg32 rfl (by repeat (first | exact find_head | apply find_tail | apply find_skip)) (by first | rfl | (simp only [List.getElem?_cons_zero, List.getElem?_cons_succ, Value.cells, List.take_zero, List.take_succ_cons, List.take_nil, List.drop_zero, List.drop_succ_cons, List.drop_nil, List.length_cons, List.length_nil, List.cons_append, List.nil_append, List.append_nil, Nat.zero_add, Nat.add_zero, Nat.reduceAdd, Nat.reduceBEq, Nat.reduceEqDiff, Nat.ble, BEq.rfl, Bool.and_true, Bool.and_self, cond_true, beq_self_eq_true]; rfl)) (by first | rfl | (simp; done)) ?_) | refine wl (w_loadRA hl hh rfl trivial agg32 rfl hin (by simp) hopv rfl ?_)
      clear hl a; intro a hl
      refine wl (w_call hl hh rfl trivial rfl cal13 rfl (step_spec hS bg tT tf (40 * z.i) (400 * z.i) ⟨by omega, by omega⟩ (by omega) (by omega) hG o.k o.a o.b o.c hoa) (by repeat (first | exact keeps_nil | apply keeps_cons (by repeat (first | exact find_head | apply find_tail | apply find_skip)) (by first  | rfl) | exact keeps_self | exact keeps_left | apply keeps_app | apply keeps_mv | apply keeps_skip)) (pt_law hh hpre.2 (by repeat (first | exact keeps_nil | apply keeps_cons (by repeat (first | exact find_head | apply find_tail | apply find_skip)) (by first  | rfl) | exact keeps_self | exact keeps_left | apply keeps_app | apply keeps_mv | apply keeps_skip))) ?_)
      clear hl hh a w; intro vc Fc a w hR hl hh
      obtain ⟨rfl, M2, hF2, hS2, hG2, hbm2, hbt2⟩ := hR
      try simp only [List.cons_append, List.nil_append, List.append_assoc, List.append_nil] at hh
      subst hF2
      obtain ⟨g2, hg2⟩ : ∃ z_, z_ = (stepG z.g ⟨o.k, o.a, o.b, o.c⟩).1 := ⟨_, rfl⟩
      obtain ⟨cd, hcd⟩ : ∃ z_, z_ = (stepG z.g ⟨o.k, o.a, o.b, o.c⟩).2.1 := ⟨_, rfl⟩
      obtain ⟨wk, hwk⟩ : ∃ z_, z_ = (stepG z.g ⟨o.k, o.a, o.b, o.c⟩).2.2 := ⟨_, rfl⟩
      rw [← hg2] at hS2 hG2
      rw [← hcd, ← hwk] at hl
      have hG3 : GI (40 * ((z.i + 1 : Nat) : Int)) (400 * ((z.i + 1 : Nat) : Int)) g2 := by
        rw [show 40 * ((z.i + 1 : Nat) : Int) = 40 * (z.i : Int) + 40 by omega, show 400 * ((z.i + 1 : Nat) : Int) = 400 * (z.i : Int) + 400 by omega]; exact hG2
      refine wl (w_alloc hl hh rfl trivial zero37 rfl ?_)
      clear hl hh a w; intro k7 a w hl hh
      refine wl (w_storeA hl hh trivial agg37 rfl rfl (by repeat (first | exact find_head | apply find_tail | apply find_skip)) (by first | rfl | (simp; done) | rfl) (by first | (simp; done) | (simp; omega)) (by first | rfl | (simp; done) | rfl) (by first | (simp only [setL, List.getElem?_cons_zero, List.getElem?_cons_succ, Value.cells, List.take_zero, List.take_succ_cons, List.take_nil, List.drop_zero, List.drop_succ_cons, List.drop_nil, List.length_cons, List.length_nil, List.cons_append, List.nil_append, List.append_nil, Nat.zero_add, Nat.add_zero, Nat.reduceAdd, Nat.reduceBEq, Nat.reduceEqDiff, Nat.ble, BEq.rfl, Bool.and_true, Bool.and_self, cond_true, beq_self_eq_true]; rfl)) ?_)
      clear hh w; intro w hh
      refine w_nil ?_
      have hl2 := hl.add (t := 3) (hl.add (t := 4) (hl.add (t := 7) (hl.add (t := 16) (hl.add (t := 17) (hl.add (t := 18) (hl.nil) rfl) rfl) rfl) rfl) rfl) rfl; clear hl; have hl := hl2; clear hl2
      have hrf : cd ≠ 0 → cd ≠ 1 → g2 = z.g ∧ wk = 0#16 := by rw [hcd, hg2, hwk]; exact step_ref hG (by omega)
      refine then_normal ?_
      refine c_seq ?_
      refine c_region ?_
      refine wl (wl_val hl rfl trivial (r_move hl rfl) ?_)
      clear hl a; intro a hl
      refine wl (w_call hl hh rfl trivial rfl cal28 rfl (snap_spec hS2 bg (40 * ((z.i + 1 : Nat) : Int)) (400 * ((z.i + 1 : Nat) : Int)) ⟨by omega, by omega⟩ hG3) (by repeat (first | exact keeps_nil | apply keeps_cons (by repeat (first | exact find_head | apply find_tail | apply find_skip)) (by first  | rfl) | exact keeps_self | exact keeps_left | apply keeps_app | apply keeps_mv | apply keeps_skip)) (memK (E := sysL bg M2) hh (by repeat (first | exact keeps_nil | apply keeps_cons (by repeat (first | exact find_head | apply find_tail | apply find_skip)) (by first  | rfl) | exact keeps_self | exact keeps_left | apply keeps_app | apply keeps_mv | apply keeps_skip))) ?_)
      clear hl hh a w; intro vc Fc a w hR hl hh
      obtain ⟨ev2, bv2, Ee2, Eb2, rfl, hSn2, rfl⟩ := hR
      try simp only [List.cons_append, List.nil_append, List.append_assoc, List.append_nil] at hh
      refine wl (w_alloc hl hh rfl trivial zero75 rfl ?_)
      clear hl hh a w; intro k8 a w hl hh
      refine wl (w_storeA hl hh trivial agg75 rfl rfl (by repeat (first | exact find_head | apply find_tail | apply find_skip)) (by exact snC_len _ _ _) (by first | exact Nat.le_of_eq (arrL_length _ _).symm | (rw [snC_len]; exact Nat.le_refl _)) (by first | exact snC_one hSn | exact snC_one hSn2) (by exact setL_whole (by first | rw [snC_len, arrL_length] | rw [snC_len, snC_len])) ?_)
      clear hh w; intro w hh
      refine w_nil ?_
      have hl2 := hl.add (t := 3) (hl.add (t := 4) (hl.add (t := 7) (hl.add (t := 8) (hl.add (t := 16) (hl.add (t := 17) (hl.add (t := 18) (hl.nil) rfl) rfl) rfl) rfl) rfl) rfl) rfl; clear hl; have hl := hl2; clear hl2
      refine then_normal ?_
      refine c_seq ?_
      refine c_seq ?_
      refine c_region ?_
      refine wl (wl_val hl rfl trivial (r_field hl rfl fld37_0) ?_)
      clear hl a; intro a hl
      refine wl (w_load hl hh rfl trivial one33 rfl (by repeat (first | exact find_head | apply find_tail | apply find_skip)) (by first | rfl) ?_)
      clear hl a; intro a hl
      refine wl (wl_val hl rfl trivial (r_neq hl rfl rfl) ?_)
      clear hl a; intro a hl
      refine wl (wl_val hl rfl trivial (r_move hl rfl) ?_)
      clear hl a; intro a hl
      refine sl_split (t := 30) hl rfl ?_ ?_
      · intro hg1; clear hl; intro hl
        try simp only [decide_eq_true_eq, decide_eq_false_iff_not, Bool.not_eq_true', Bool.not_eq_false', Bool.not_eq_true, Bool.not_eq_false, Bool.and_eq_true, Bool.or_eq_true, Bool.and_eq_false_iff, Bool.or_eq_false_iff, Bool.not_not, ne_eq, Int.not_lt, Int.not_le, Decidable.not_not, beq_iff_eq, bne_iff_ne] at hg1
        refine wl (wl_val hl rfl ⟨_, _, rfl, rfl, rfl⟩ (r_field hl rfl fld37_0) ?_)
        clear hl a; intro a hl
        refine wl (w_load hl hh rfl ⟨_, _, rfl, rfl, rfl⟩ one33 rfl (by repeat (first | exact find_head | apply find_tail | apply find_skip)) (by first | rfl) ?_)
        clear hl a; intro a hl
        refine wl (wl_val hl rfl ⟨_, _, rfl, rfl, rfl⟩ (r_neq hl rfl rfl) ?_)
        clear hl a; intro a hl
        refine wl (wl_val hl rfl trivial (r_pickT hl rfl rfl) ?_)
        clear hl a; intro a hl
        refine wl (wl_val hl rfl trivial (r_move hl rfl) ?_)
        clear hl a; intro a hl
        refine sl_split (t := 35) hl rfl ?_ ?_
        · intro hg2; clear hl; intro hl
          try simp only [decide_eq_true_eq, decide_eq_false_iff_not, Bool.not_eq_true', Bool.not_eq_false', Bool.not_eq_true, Bool.not_eq_false, Bool.and_eq_true, Bool.or_eq_true, Bool.and_eq_false_iff, Bool.or_eq_false_iff, Bool.not_not, ne_eq, Int.not_lt, Int.not_le, Decidable.not_not, beq_iff_eq, bne_iff_ne] at hg2
          refine wl (wl_val hl rfl ⟨_, _, rfl, rfl, rfl⟩ (r_field hl rfl fld37_1) ?_)
          clear hl a; intro a hl
          refine wl (w_load hl hh rfl ⟨_, _, rfl, rfl, rfl⟩ one35 rfl (by repeat (first | exact find_head | apply find_tail | apply find_skip)) (by first | rfl) ?_)
          clear hl a; intro a hl
          refine wl (wl_val hl rfl ⟨_, _, rfl, rfl, rfl⟩ (r_neq hl rfl rfl) ?_)
          clear hl a; intro a hl
          refine wl (wl_val hl rfl ⟨_, _, rfl, rfl, rfl⟩ (r_move hl rfl) ?_)
          clear hl a; intro a hl
          refine sl_split (t := 39) hl rfl ?_ ?_
          · intro hg3; clear hl; intro hl
            try simp only [decide_eq_true_eq, decide_eq_false_iff_not, Bool.not_eq_true', Bool.not_eq_false', Bool.not_eq_true, Bool.not_eq_false, Bool.and_eq_true, Bool.or_eq_true, Bool.and_eq_false_iff, Bool.or_eq_false_iff, Bool.not_not, ne_eq, Int.not_lt, Int.not_le, Decidable.not_not, beq_iff_eq, bne_iff_ne] at hg3
            exfalso; first | contradiction | exact absurd (ref_w hrf (by assumption) (by assumption)) (by assumption) | omega
          · intro hg3; clear hl; intro hl
            try simp only [decide_eq_true_eq, decide_eq_false_iff_not, Bool.not_eq_true', Bool.not_eq_false', Bool.not_eq_true, Bool.not_eq_false, Bool.and_eq_true, Bool.or_eq_true, Bool.and_eq_false_iff, Bool.or_eq_false_iff, Bool.not_not, ne_eq, Int.not_lt, Int.not_le, Decidable.not_not, beq_iff_eq, bne_iff_ne] at hg3
            refine wl (w_call hl hh rfl ⟨_, _, rfl, rfl, rfl⟩ rfl cal29 rfl (eqState_spec (g := z.g) (B := 40 * z.i) (Q := 400 * z.i) ⟨by omega, by omega⟩ hG k8 k4 ev2 bv2 z.ev z.bv Ee2 Eb2 z.Ee z.Eb ((hrf (by assumption) (by assumption)).1 ▸ hSn2) hSn) (by repeat (first | exact keeps_nil | apply keeps_cons (by repeat (first | exact find_head | apply find_tail | apply find_skip)) (by first  | rfl) | exact keeps_self | exact keeps_left | apply keeps_app | apply keeps_mv | apply keeps_skip)) ⟨(hrf (by assumption) (by assumption)).1 ▸ (memK (E := snL k8 g2 ev2 bv2 Ee2 Eb2) hh (by repeat (first | exact keeps_nil | apply keeps_cons (by repeat (first | exact find_head | apply find_tail | apply find_skip)) (by first  | rfl) | exact keeps_self | exact keeps_left | apply keeps_app | apply keeps_mv | apply keeps_skip))), memK (E := snL k4 z.g z.ev z.bv z.Ee z.Eb) hh (by repeat (first | exact keeps_nil | apply keeps_cons (by repeat (first | exact find_head | apply find_tail | apply find_skip)) (by first  | rfl) | exact keeps_self | exact keeps_left | apply keeps_app | apply keeps_mv | apply keeps_skip))⟩ ?_)
            clear hl hh a w; intro vc Fc a w hR hl hh
            obtain ⟨rfl, rfl⟩ := hR
            try simp only [List.cons_append, List.nil_append, List.append_assoc, List.append_nil] at hh
            refine wl (wl_val hl rfl ⟨_, _, rfl, rfl, rfl⟩ (r_not hl rfl) ?_)
            clear hl a; intro a hl
            refine wl (wl_val hl rfl ⟨_, _, rfl, rfl, rfl⟩ (r_pickF hl rfl rfl) ?_)
            clear hl a; intro a hl
            refine wl (wl_val hl rfl trivial (r_pickT hl rfl rfl) ?_)
            clear hl a; intro a hl
            refine w_nil ?_
            have hl2 := hl.add (t := 3) (hl.add (t := 4) (hl.add (t := 8) (hl.add (t := 16) (hl.add (t := 17) (hl.add (t := 18) (hl.add (t := 43) (hl.nil) rfl) rfl) rfl) rfl) rfl) rfl) rfl; clear hl; have hl := hl2; clear hl2
            refine then_normal ?_
            refine c_condF hl rfl ?_
            refine wp_skip ?_
            refine then_normal ?_
            refine c_region ?_
            first | refine wl (w_loadA hl hh rfl trivial agg75 rfl (by repeat (first | exact find_head | apply find_tail | apply find_skip)) (by exact snC_whole _ _ _) (by exact snC_len _ _ _) ?_) | refine wl (w_loadRA hl hh rfl trivial agg75 rfl hin (by simp) hopv rfl ?_)
            clear hl a; intro a hl
            refine wl (w_storeA hl hh trivial agg75 rfl rfl (by repeat (first | exact find_head | apply find_tail | apply find_skip)) (by exact snC_len _ _ _) (by first | exact Nat.le_of_eq (arrL_length _ _).symm | (rw [snC_len]; exact Nat.le_refl _)) (by first | exact snC_one hSn | exact snC_one hSn2) (by exact setL_whole (by first | rw [snC_len, arrL_length] | rw [snC_len, snC_len])) ?_)
            clear hh w; intro w hh
            refine w_nil ?_
            have hl2 := hl.add (t := 3) (hl.add (t := 4) (hl.add (t := 16) (hl.add (t := 17) (hl.add (t := 18) (hl.nil) rfl) rfl) rfl) rfl) rfl; clear hl; have hl := hl2; clear hl2
            refine blk_normal ?_
            refine then_normal ?_
            refine c_region ?_
            first | refine wl (wl_val hl rfl trivial (r_add hl rfl rfl (by simp only [Fits]; omega)) ?_) | refine wl (wl_val hl rfl trivial (r_addW hl rfl rfl) ?_)
            clear hl a; intro a hl
            refine wl (wl_val hl rfl trivial (r_move hl rfl) ?_)
            clear hl a; intro a hl
            refine w_nil ?_
            have hl2 := hl.add (t := 3) (hl.add (t := 4) (hl.add (t := 16) (hl.add (t := 17) (hl.add (t := 18) (hl.nil) rfl) rfl) rfl) rfl) rfl; clear hl; have hl := hl2; clear hl2
            refine then_normal ?_
            refine ⟨⟨g2, M2, ev2, bv2, Ee2, Eb2, z.i + 1⟩, (by simp only; omega), ⟨by simp only; omega, hS2, hG3, hSn2⟩, hl.addE (t := 18) (hl.addE (t := 3) (hl.addE (t := 4) (hl.addE (t := 16) (hl.addE (t := 17) (hl.nil) rfl (by first | rfl | (congr 1; omega))) rfl (by first | rfl | (congr 1; omega))) rfl (by first | rfl | (congr 1; omega))) rfl (by first | rfl | (congr 1; omega))) rfl (by first | rfl | (congr 1; omega)), hh.keep (by repeat (first | exact keeps_nil | apply keeps_cons (by repeat (first | exact find_head | apply find_tail | apply find_skip)) (by first  | rfl) | exact keeps_self | exact keeps_left | apply keeps_app | apply keeps_mv | apply keeps_skip))⟩
        · intro hg2; clear hl; intro hl
          try simp only [decide_eq_true_eq, decide_eq_false_iff_not, Bool.not_eq_true', Bool.not_eq_false', Bool.not_eq_true, Bool.not_eq_false, Bool.and_eq_true, Bool.or_eq_true, Bool.and_eq_false_iff, Bool.or_eq_false_iff, Bool.not_not, ne_eq, Int.not_lt, Int.not_le, Decidable.not_not, beq_iff_eq, bne_iff_ne] at hg2
          refine wl (wl_skip hl rfl ⟨_, _, rfl, rfl, rfl⟩ ?_)
          clear hl a; intro a hl
          refine wl (wl_skip hl rfl ⟨_, _, rfl, rfl, rfl⟩ ?_)
          clear hl a; intro a hl
          refine wl (wl_skip hl rfl ⟨_, _, rfl, rfl, rfl⟩ ?_)
          clear hl a; intro a hl
          refine wl (wl_skip hl rfl ⟨_, _, rfl, rfl, rfl⟩ ?_)
          clear hl a; intro a hl
          refine wl (wl_skipU hl rfl ⟨_, _, rfl, rfl, rfl⟩ ?_)
          clear hl a; intro a hl
          refine wl (wl_skipU hl rfl ⟨_, _, rfl, rfl, rfl⟩ ?_)
          clear hl a; intro a hl
          refine wl (wl_skip hl rfl ⟨_, _, rfl, rfl, rfl⟩ ?_)
          clear hl a; intro a hl
          refine wl (wl_val hl rfl trivial (r_pickF hl rfl rfl) ?_)
          clear hl a; intro a hl
          refine w_nil ?_
          have hl2 := hl.add (t := 3) (hl.add (t := 4) (hl.add (t := 8) (hl.add (t := 16) (hl.add (t := 17) (hl.add (t := 18) (hl.add (t := 43) (hl.nil) rfl) rfl) rfl) rfl) rfl) rfl) rfl; clear hl; have hl := hl2; clear hl2
          refine then_normal ?_
          refine c_condF hl rfl ?_
          refine wp_skip ?_
          refine then_normal ?_
          refine c_region ?_
          first | refine wl (w_loadA hl hh rfl trivial agg75 rfl (by repeat (first | exact find_head | apply find_tail | apply find_skip)) (by exact snC_whole _ _ _) (by exact snC_len _ _ _) ?_) | refine wl (w_loadRA hl hh rfl trivial agg75 rfl hin (by simp) hopv rfl ?_)
          clear hl a; intro a hl
          refine wl (w_storeA hl hh trivial agg75 rfl rfl (by repeat (first | exact find_head | apply find_tail | apply find_skip)) (by exact snC_len _ _ _) (by first | exact Nat.le_of_eq (arrL_length _ _).symm | (rw [snC_len]; exact Nat.le_refl _)) (by first | exact snC_one hSn | exact snC_one hSn2) (by exact setL_whole (by first | rw [snC_len, arrL_length] | rw [snC_len, snC_len])) ?_)
          clear hh w; intro w hh
          refine w_nil ?_
          have hl2 := hl.add (t := 3) (hl.add (t := 4) (hl.add (t := 16) (hl.add (t := 17) (hl.add (t := 18) (hl.nil) rfl) rfl) rfl) rfl) rfl; clear hl; have hl := hl2; clear hl2
          refine blk_normal ?_
          refine then_normal ?_
          refine c_region ?_
          first | refine wl (wl_val hl rfl trivial (r_add hl rfl rfl (by simp only [Fits]; omega)) ?_) | refine wl (wl_val hl rfl trivial (r_addW hl rfl rfl) ?_)
          clear hl a; intro a hl
          refine wl (wl_val hl rfl trivial (r_move hl rfl) ?_)
          clear hl a; intro a hl
          refine w_nil ?_
          have hl2 := hl.add (t := 3) (hl.add (t := 4) (hl.add (t := 16) (hl.add (t := 17) (hl.add (t := 18) (hl.nil) rfl) rfl) rfl) rfl) rfl; clear hl; have hl := hl2; clear hl2
          refine then_normal ?_
          refine ⟨⟨g2, M2, ev2, bv2, Ee2, Eb2, z.i + 1⟩, (by simp only; omega), ⟨by simp only; omega, hS2, hG3, hSn2⟩, hl.addE (t := 18) (hl.addE (t := 3) (hl.addE (t := 4) (hl.addE (t := 16) (hl.addE (t := 17) (hl.nil) rfl (by first | rfl | (congr 1; omega))) rfl (by first | rfl | (congr 1; omega))) rfl (by first | rfl | (congr 1; omega))) rfl (by first | rfl | (congr 1; omega))) rfl (by first | rfl | (congr 1; omega)), hh.keep (by repeat (first | exact keeps_nil | apply keeps_cons (by repeat (first | exact find_head | apply find_tail | apply find_skip)) (by first  | rfl) | exact keeps_self | exact keeps_left | apply keeps_app | apply keeps_mv | apply keeps_skip))⟩
      · intro hg1; clear hl; intro hl
        try simp only [decide_eq_true_eq, decide_eq_false_iff_not, Bool.not_eq_true', Bool.not_eq_false', Bool.not_eq_true, Bool.not_eq_false, Bool.and_eq_true, Bool.or_eq_true, Bool.and_eq_false_iff, Bool.or_eq_false_iff, Bool.not_not, ne_eq, Int.not_lt, Int.not_le, Decidable.not_not, beq_iff_eq, bne_iff_ne] at hg1
        refine wl (wl_skip hl rfl ⟨_, _, rfl, rfl, rfl⟩ ?_)
        clear hl a; intro a hl
        refine wl (wl_skip hl rfl ⟨_, _, rfl, rfl, rfl⟩ ?_)
        clear hl a; intro a hl
        refine wl (wl_skip hl rfl ⟨_, _, rfl, rfl, rfl⟩ ?_)
        clear hl a; intro a hl
        refine wl (wl_val hl rfl trivial (r_pickF hl rfl rfl) ?_)
        clear hl a; intro a hl
        refine wl (wl_val hl rfl trivial (r_move hl rfl) ?_)
        clear hl a; intro a hl
        refine wl (wl_skip hl rfl ⟨_, _, rfl, rfl, rfl⟩ ?_)
        clear hl a; intro a hl
        refine wl (wl_skip hl rfl ⟨_, _, rfl, rfl, rfl⟩ ?_)
        clear hl a; intro a hl
        refine wl (wl_skip hl rfl ⟨_, _, rfl, rfl, rfl⟩ ?_)
        clear hl a; intro a hl
        refine wl (wl_skip hl rfl ⟨_, _, rfl, rfl, rfl⟩ ?_)
        clear hl a; intro a hl
        refine wl (wl_skipU hl rfl ⟨_, _, rfl, rfl, rfl⟩ ?_)
        clear hl a; intro a hl
        refine wl (wl_skipU hl rfl ⟨_, _, rfl, rfl, rfl⟩ ?_)
        clear hl a; intro a hl
        refine wl (wl_skip hl rfl ⟨_, _, rfl, rfl, rfl⟩ ?_)
        clear hl a; intro a hl
        refine wl (wl_val hl rfl trivial (r_pickF hl rfl rfl) ?_)
        clear hl a; intro a hl
        refine w_nil ?_
        have hl2 := hl.add (t := 3) (hl.add (t := 4) (hl.add (t := 8) (hl.add (t := 16) (hl.add (t := 17) (hl.add (t := 18) (hl.add (t := 43) (hl.nil) rfl) rfl) rfl) rfl) rfl) rfl) rfl; clear hl; have hl := hl2; clear hl2
        refine then_normal ?_
        refine c_condF hl rfl ?_
        refine wp_skip ?_
        refine then_normal ?_
        refine c_region ?_
        first | refine wl (w_loadA hl hh rfl trivial agg75 rfl (by repeat (first | exact find_head | apply find_tail | apply find_skip)) (by exact snC_whole _ _ _) (by exact snC_len _ _ _) ?_) | refine wl (w_loadRA hl hh rfl trivial agg75 rfl hin (by simp) hopv rfl ?_)
        clear hl a; intro a hl
        refine wl (w_storeA hl hh trivial agg75 rfl rfl (by repeat (first | exact find_head | apply find_tail | apply find_skip)) (by exact snC_len _ _ _) (by first | exact Nat.le_of_eq (arrL_length _ _).symm | (rw [snC_len]; exact Nat.le_refl _)) (by first | exact snC_one hSn | exact snC_one hSn2) (by exact setL_whole (by first | rw [snC_len, arrL_length] | rw [snC_len, snC_len])) ?_)
        clear hh w; intro w hh
        refine w_nil ?_
        have hl2 := hl.add (t := 3) (hl.add (t := 4) (hl.add (t := 16) (hl.add (t := 17) (hl.add (t := 18) (hl.nil) rfl) rfl) rfl) rfl) rfl; clear hl; have hl := hl2; clear hl2
        refine blk_normal ?_
        refine then_normal ?_
        refine c_region ?_
        first | refine wl (wl_val hl rfl trivial (r_add hl rfl rfl (by simp only [Fits]; omega)) ?_) | refine wl (wl_val hl rfl trivial (r_addW hl rfl rfl) ?_)
        clear hl a; intro a hl
        refine wl (wl_val hl rfl trivial (r_move hl rfl) ?_)
        clear hl a; intro a hl
        refine w_nil ?_
        have hl2 := hl.add (t := 3) (hl.add (t := 4) (hl.add (t := 16) (hl.add (t := 17) (hl.add (t := 18) (hl.nil) rfl) rfl) rfl) rfl) rfl; clear hl; have hl := hl2; clear hl2
        refine then_normal ?_
        refine ⟨⟨g2, M2, ev2, bv2, Ee2, Eb2, z.i + 1⟩, (by simp only; omega), ⟨by simp only; omega, hS2, hG3, hSn2⟩, hl.addE (t := 18) (hl.addE (t := 3) (hl.addE (t := 4) (hl.addE (t := 16) (hl.addE (t := 17) (hl.nil) rfl (by first | rfl | (congr 1; omega))) rfl (by first | rfl | (congr 1; omega))) rfl (by first | rfl | (congr 1; omega))) rfl (by first | rfl | (congr 1; omega))) rfl (by first | rfl | (congr 1; omega)), hh.keep (by repeat (first | exact keeps_nil | apply keeps_cons (by repeat (first | exact find_head | apply find_tail | apply find_skip)) (by first  | rfl) | exact keeps_self | exact keeps_left | apply keeps_app | apply keeps_mv | apply keeps_skip))⟩
    · intro hc1
      try simp only [decide_eq_true_eq, decide_eq_false_iff_not, Bool.not_eq_true', Bool.not_eq_false', Bool.not_eq_true, Bool.not_eq_false, Bool.and_eq_true, Bool.or_eq_true, Bool.and_eq_false_iff, Bool.or_eq_false_iff, Bool.not_not, ne_eq, Int.not_lt, Int.not_le, Decidable.not_not, beq_iff_eq, bne_iff_ne] at hc1
      refine wp_exit ?_
      refine then_exit ?_
      refine then_exit ?_
      refine blk_exit ?_
      refine then_normal ?_
      refine c_seq ?_
      refine c_region ?_
      refine wl (wl_val hl rfl trivial (r_assign hl rfl) ?_)
      clear hl a; intro a hl
      refine w_nil ?_
      have hl2 := hl.add (t := 2) (hl.nil) rfl; clear hl; have hl := hl2; clear hl2
      refine then_normal ?_
      refine wp_ret ?_
      refine f_ret1 (F' := []) hl hh rfl rfl (by repeat (first | exact keeps_nil | apply keeps_cons (by repeat (first | exact find_head | apply find_tail | apply find_skip)) (by first  | rfl) | exact keeps_self | exact keeps_left | apply keeps_app | apply keeps_mv | apply keeps_skip)) ?_
      exact ⟨rfl, rfl⟩
end Go.Proofs.Qxb6500911aDoor

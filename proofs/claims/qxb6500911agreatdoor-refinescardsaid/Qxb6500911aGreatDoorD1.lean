import Derived.Test.Qxb6500911aGreatDoorD0
namespace Go.Proofs.Qxb6500911aGreatDoor
open Go.Eng
set_option linter.unusedVariables false
set_option linter.unusedSimpArgs false
theorem zero142 : zeroOk Tryz.prog 142 (.agg #[(.int .i64 0), (.int .i64 0), (.int .u64 0)]) := by unfold zeroOk; kernel_rfl
theorem bld142 : buildOk Tryz.prog 142 [(0, 1), (1, 1), (2, 1)] = true := by kernel_rfl
theorem conc44 : concT Tryz.prog 44 = true := by kernel_rfl
theorem cal61 : callable Tryz.prog 61 = true := by kernel_rfl
theorem agg142 : aggOk Tryz.prog 142 3 = true := by kernel_rfl
theorem fld142_0 : fieldOk Tryz.prog 142 0 0 = true := by kernel_rfl
theorem fld142_1 : fieldOk Tryz.prog 142 1 1 = true := by kernel_rfl
theorem fld142_2 : fieldOk Tryz.prog 142 2 2 = true := by kernel_rfl
open Go.Eng (mget mput mfind KeyOk MO mget_mput mput_mput IT)

set_option maxHeartbeats 16000000 in
theorem shardD_spec {g : Gs} {got : Nat → List Ms} {M : Dm} {B Q : Int} {L : Nat} (hR0 : MR Q L g got M) (bd : Nat) (tT : TypeId) (tf : Nat × Nat) (hL : L ≤ 100000000) (hq : BQ B Q) (hG : GI B Q g) (cc : Nat) (hc : cc < 4) : SpK Tryz.prog 35 #[.pointer (some ⟨bd, 0, none⟩), .int .i64 (cc : Int)] (fun w => Mem (mdL bd M) w ∧ w.heap[0]? = some (.cells ⟨tabL⟩ tT tf)) [] (fun v F' => ∃ ev, v = .agg ⟨arrL 17 (shV (flK g.flr cc) ev)⟩ ∧ Row ev (edN (wsK g.ws cc) 16).length (fl egc (edN (wsK g.ws cc) 16)) 4 102 F') := by
  refine f_enter (args := [.pointer (some ⟨bd, 0, none⟩), .int .i64 (cc : Int)]) Tryz.func35 rfl Tryz.ntmps35 rfl ?_
  intro w0 w a hpre hl hh
  have hq1 := hq.q
  have hD := hR0.md
  have hmD := hpre.1 _ _ (List.mem_cons_self ..)
  have hmE : Mem (M.Ed cc) w0 := fun b o m => hpre.1 b o (.tail _ (List.mem_append_left _ (mem_fam hc m)))
  obtain ⟨ls, hlsv⟩ : ∃ x9, x9 = got cc := ⟨_, rfl⟩
  have hRg := hD.gt cc hc
  have hms := hR0.go.ms cc hc
  have hll := hR0.ln cc hc
  rw [← hlsv] at hRg hms hll
  obtain ⟨pg, cg, hpg⟩ := row_val hRg
  simp only [slotsFrom, Nat.reduceAdd] at hl
  refine c_seq ?_
  refine c_region ?_
  refine wl (w_alloc hl hh rfl trivial zero46 rfl ?_)
  clear hl hh a w; intro k4 a w hl hh
  refine w_nil ?_
  have hl2 := hl.add (t := 0) (hl.add (t := 1) (hl.add (t := 4) (hl.nil) rfl) rfl) rfl; clear hl; have hl := hl2; clear hl2
  refine then_normal ?_
  refine c_seq ?_
  refine c_region ?_
  refine wl (w_alloc hl hh rfl trivial zero46 rfl ?_)
  clear hl hh a w; intro k5 a w hl hh
  refine w_nil ?_
  have hl2 := hl.add (t := 0) (hl.add (t := 1) (hl.add (t := 4) (hl.add (t := 5) (hl.nil) rfl) rfl) rfl) rfl; clear hl; have hl := hl2; clear hl2
  rw [m46] at hh
  refine then_normal ?_
  refine c_seq ?_
  refine c_seq ?_
  refine c_region ?_
  refine wl (wl_val hl rfl trivial (r_move hl rfl) ?_)
  clear hl a; intro a hl
  refine wl (wl_val hl rfl trivial (r_move hl rfl) ?_)
  clear hl a; intro a hl
  refine wl (wl_val hl rfl trivial (r_nilCheck hl rfl) ?_)
  clear hl a; intro a hl
  refine wl (wl_val hl rfl trivial (r_field hl rfl fld65_3) ?_)
  clear hl a; intro a hl
  refine wl (wl_val hl rfl trivial (r_indexA hl rfl rfl arr63 (by omega) (by omega) (by first | (simp only [Int.reduceToNat]; rfl) | exact toNat_add1 _ | exact toNat_add2 _ _ | exact toNat_emod _ _ | exact Int.toNat_natCast _ | rfl)) ?_)
  clear hl a; intro a hl
  first | refine wl (w_load hl hh rfl trivial one48 rfl (by repeat (first | exact find_head | apply find_tail | apply find_skip)) (by first | exact sh_fl huw | exact sh_ed | exact tk_at hkx | rfl | rfl) ?_) | refine wl (w_loadR hl hh rfl trivial one48 rfl hmD (by simp) (md_got hc) ?_)
  clear hl a; intro a hl
  rw [hpg] at hl
  refine wl (wl_val hl rfl trivial (r_lenS hl rfl slc48) ?_)
  clear hl a; intro a hl
  refine wl (wl_val hl rfl trivial (r_move hl rfl) ?_)
  clear hl a; intro a hl
  refine w_nil ?_
  have hl2 := hl.add (t := 0) (hl.add (t := 1) (hl.add (t := 4) (hl.add (t := 5) (hl.add (t := 22) (hl.add (t := 23) (hl.add (t := 24) (hl.nil) rfl) rfl) rfl) rfl) rfl) rfl) rfl; clear hl; have hl := hl2; clear hl2
  refine then_normal ?_
  refine wp_block ?_
  obtain ⟨KS0, hKS0, hk⟩ := (hl.add (t := 0) (hl.add (t := 1) (hl.add (t := 4) (hl.add (t := 5) (hl.add (t := 22) (hl.add (t := 23) (hl.nil) rfl) rfl) rfl) rfl) rfl) rfl).name
  obtain ⟨HS0, hHS0, hh2⟩ := hh.name (keeps_cons (b := k5) (o' := C (arrL 17 (shV (floF (ls.take 0)) (.slice none 0 0))) 46) (by repeat (first | exact find_head | apply find_tail | apply find_skip)) (by first | rfl | rfl) (keeps_nil))
  refine c_loop (α := Nat) (fun i => ls.length - i) (fun i a w => (i ≤ ls.length) ∧ Sl 139 ([(24, .int .i64 (i : Int))] ++ KS0) a ∧ Has _ w0 ([(k5, C (arrL 17 (shV (floF (ls.take i)) (.slice none 0 0))) 46)] ++ HS0) w) 0 ⟨(Nat.zero_le _), hl.addE (t := 24) (hk) rfl (by first | rfl), hh2⟩ ?_
  clear hk hh2 hl hh a w
  intro i a w hI
  obtain ⟨hi, hl, hh⟩ := hI
  subst hKS0; subst hHS0
  simp only [List.cons_append, List.nil_append, List.append_nil, List.append_assoc] at hl hh
  refine c_seq ?_
  refine c_region ?_
  refine wl (wl_val hl rfl trivial (r_lss hl rfl rfl) ?_)
  clear hl a; intro a hl
  refine w_nil ?_
  have hl2 := hl.add (t := 0) (hl.add (t := 1) (hl.add (t := 4) (hl.add (t := 5) (hl.add (t := 22) (hl.add (t := 23) (hl.add (t := 24) (hl.add (t := 25) (hl.nil) rfl) rfl) rfl) rfl) rfl) rfl) rfl) rfl; clear hl; have hl := hl2; clear hl2
  refine then_normal ?_
  refine c_seq ?_
  refine c_cond hl rfl ?_ ?_
  · intro hc0
    try simp only [decide_eq_true_eq, decide_eq_false_iff_not, Bool.not_eq_true', Bool.not_eq_false', Bool.not_eq_true, Bool.not_eq_false, Bool.and_eq_true, Bool.or_eq_true, Bool.and_eq_false_iff, Bool.or_eq_false_iff, Bool.not_not, ne_eq, Int.not_lt, Int.not_le, Decidable.not_not, beq_iff_eq, bne_iff_ne] at hc0
    obtain ⟨m0, hm0⟩ : ∃ x9, ls[i]? = some x9 := ⟨_, List.getElem?_eq_getElem (by omega)⟩
    obtain ⟨fr, u, hfr, hu, huc, hmu⟩ := hms m0 (List.mem_of_getElem? hm0)
    subst hmu
    obtain ⟨kb, cb, jb, hvb, hmb, hrd⟩ := row_getM hRg hmE hm0
    rw [hpg] at hvb
    injection hvb with hv1 hv2 hv3
    subst hv1
    rw [msc_up] at hrd
    have huw := hu.w; have hue := hu.e; have hus := mi_rng u.s
    refine wp_skip ?_
    refine then_normal ?_
    refine c_seq ?_
    refine wp_block ?_
    refine c_seq ?_
    refine c_region ?_
    refine wl (wl_val hl rfl trivial (r_indexS hl rfl rfl slc48 (by omega) (by omega) (by first | (simp only [Int.reduceToNat]; rfl) | exact toNat_add1 _ | exact toNat_add2 _ _ | exact toNat_emod _ _ | exact Int.toNat_natCast _ | rfl)) ?_)
    clear hl a; intro a hl
    first | refine wl (w_loadA hl hh rfl trivial agg77 rfl (by repeat (first | exact find_head | apply find_tail | apply find_skip)) (by first | rfl | (simp only [List.getElem?_cons_zero, List.getElem?_cons_succ, Value.cells, List.take_zero, List.take_succ_cons, List.take_nil, List.drop_zero, List.drop_succ_cons, List.drop_nil, List.length_cons, List.length_nil, List.cons_append, List.nil_append, List.append_nil, Nat.zero_add, Nat.add_zero, Nat.reduceAdd, Nat.reduceBEq, Nat.reduceEqDiff, Nat.ble, BEq.rfl, Bool.and_true, Bool.and_self, cond_true, beq_self_eq_true]; rfl)) (by first | rfl | (simp; done)) ?_) | refine wl (w_loadRA hl hh rfl trivial agg77 rfl hmb (by simp) hrd rfl ?_)
    clear hl a; intro a hl
    refine wl (w_alloc hl hh rfl trivial zero77 rfl ?_)
    clear hl hh a w; intro k7 a w hl hh
    refine wl (w_storeA hl hh trivial agg77 rfl rfl (by repeat (first | exact find_head | apply find_tail | apply find_skip)) (by first | rfl | (simp; done) | rfl) (by first | (simp; done) | (simp; omega) | (rw [arrL_length]; omega)) (by first | rfl | (simp; done) | rfl) (by first | exact sh_sfl huw | exact sh_sed | (simp only [setL, List.getElem?_cons_zero, List.getElem?_cons_succ, Value.cells, List.take_zero, List.take_succ_cons, List.take_nil, List.drop_zero, List.drop_succ_cons, List.drop_nil, List.length_cons, List.length_nil, List.cons_append, List.nil_append, List.append_nil, Nat.zero_add, Nat.add_zero, Nat.reduceAdd, Nat.reduceBEq, Nat.reduceEqDiff, Nat.ble, BEq.rfl, Bool.and_true, Bool.and_self, cond_true, beq_self_eq_true]; rfl)) ?_)
    clear hh w; intro w hh
    refine w_nil ?_
    have hl2 := hl.add (t := 0) (hl.add (t := 1) (hl.add (t := 4) (hl.add (t := 5) (hl.add (t := 7) (hl.add (t := 22) (hl.add (t := 23) (hl.add (t := 24) (hl.nil) rfl) rfl) rfl) rfl) rfl) rfl) rfl) rfl; clear hl; have hl := hl2; clear hl2
    refine then_normal ?_
    refine c_seq ?_
    refine c_region ?_
    refine wl (wl_val hl rfl trivial (r_field hl rfl fld77_2) ?_)
    clear hl a; intro a hl
    first | refine wl (w_load hl hh rfl trivial one74 rfl (by repeat (first | exact find_head | apply find_tail | apply find_skip)) (by first | exact sh_fl huw | exact sh_ed | exact tk_at hkx | rfl | rfl) ?_) | refine wl (w_loadR hl hh rfl trivial one74 rfl hmD (by simp) (md_got hc) ?_)
    clear hl a; intro a hl
    refine wl (wl_val hl rfl trivial (r_eql hl rfl rfl) ?_)
    clear hl a; intro a hl
    refine w_nil ?_
    have hl2 := hl.add (t := 0) (hl.add (t := 1) (hl.add (t := 4) (hl.add (t := 5) (hl.add (t := 7) (hl.add (t := 22) (hl.add (t := 23) (hl.add (t := 24) (hl.add (t := 30) (hl.nil) rfl) rfl) rfl) rfl) rfl) rfl) rfl) rfl) rfl; clear hl; have hl := hl2; clear hl2
    refine then_normal ?_
    refine c_cond hl rfl ?_ ?_
    · intro hc1
      try simp only [decide_eq_true_eq, decide_eq_false_iff_not, Bool.not_eq_true', Bool.not_eq_false', Bool.not_eq_true, Bool.not_eq_false, Bool.and_eq_true, Bool.or_eq_true, Bool.and_eq_false_iff, Bool.or_eq_false_iff, Bool.not_not, ne_eq, Int.not_lt, Int.not_le, Decidable.not_not, beq_iff_eq, bne_iff_ne] at hc1
      refine c_draw [(k7, C [.int .i64 (fr : Int), .int .i64 ((u.w % 4 : Nat) : Int), .int .u32 u.k, .int .u64 (u.w : Int), .int .u64 u.e, .int .u64 (mi u.s), .int .u64 0] 77), (k5, C (arrL 17 (shV (floF (ls.take i)) (.slice none 0 0))) 46)] [15, 16] mixed hh ?_
      clear hh w; intro w hh
      have hM : Mem [(k7, C [.int .i64 (fr : Int), .int .i64 ((u.w % 4 : Nat) : Int), .int .u32 u.k, .int .u64 (u.w : Int), .int .u64 u.e, .int .u64 (mi u.s), .int .u64 0] 77), (k5, C (arrL 17 (shV (floF (ls.take i)) (.slice none 0 0))) 46)] w := (by (repeat (first | exact Mem.nil | refine Mem.consR hh (by assumption) (by simp) ?_ | refine Mem.cons hh.mem (by (repeat (first | exact find_head | apply find_tail | apply find_skip)); done) ?_ | fail)); done)
      refine d_take (i := 0) hl rfl (by kernel_rfl) (by kernel_rfl) (by kernel_rfl) (by kernel_rfl) (by kernel_rfl) rfl trivial (fun _ _ _ h => h) hM (fun w hC => r_field hl rfl fld77_3) rfl ?_
      clear hl a; intro a hl
      refine d_take (i := 1) hl rfl (by kernel_rfl) (by kernel_rfl) (by kernel_rfl) (by kernel_rfl) (by kernel_rfl) rfl trivial (fun _ _ _ h => h) hM (fun w hC => r_indexA hl rfl rfl arr75 (by omega) (by omega) (by first | (simp only [Int.reduceToNat]; rfl) | exact toNat_add1 _ | exact toNat_add2 _ _ | exact toNat_emod _ _ | exact Int.toNat_natCast _ | rfl)) rfl ?_
      clear hl a; intro a hl
      refine d_take (i := 2) hl rfl (by kernel_rfl) (by kernel_rfl) (by kernel_rfl) (by kernel_rfl) (by kernel_rfl) rfl trivial (fun _ _ _ h => h) hM (fun w hC => r_loadC hl rfl one41 hC (by repeat (first | exact find_head | apply find_tail | apply find_skip)) (by first | exact sh_fl huw | exact sh_ed | exact tk_at hkx | rfl | rfl)) rfl ?_
      clear hl a; intro a hl
      refine d_take (i := 3) hl rfl (by kernel_rfl) (by kernel_rfl) (by kernel_rfl) (by kernel_rfl) (by kernel_rfl) rfl trivial (fun _ _ _ h => h) hM (fun w hC => r_field hl rfl fld77_3) rfl ?_
      clear hl a; intro a hl
      refine d_take (i := 4) hl rfl (by kernel_rfl) (by kernel_rfl) (by kernel_rfl) (by kernel_rfl) (by kernel_rfl) rfl trivial (fun _ _ _ h => h) hM (fun w hC => r_indexA hl rfl rfl arr75 (by omega) (by omega) (by first | (simp only [Int.reduceToNat]; rfl) | exact toNat_add1 _ | exact toNat_add2 _ _ | exact toNat_emod _ _ | exact Int.toNat_natCast _ | rfl)) rfl ?_
      clear hl a; intro a hl
      refine d_take (i := 5) hl rfl (by kernel_rfl) (by kernel_rfl) (by kernel_rfl) (by kernel_rfl) (by kernel_rfl) rfl trivial (fun _ _ _ h => h) hM (fun w hC => r_loadC hl rfl one41 hC (by repeat (first | exact find_head | apply find_tail | apply find_skip)) (by first | exact sh_fl huw | exact sh_ed | exact tk_at hkx | rfl | rfl)) rfl ?_
      clear hl a; intro a hl
      refine d_take (i := 6) hl rfl (by kernel_rfl) (by kernel_rfl) (by kernel_rfl) (by kernel_rfl) (by kernel_rfl) rfl trivial (fun _ _ _ h => h) hM (fun w hC => r_field hl rfl fld46_0) rfl ?_
      clear hl a; intro a hl
      refine d_take (i := 7) hl rfl (by kernel_rfl) (by kernel_rfl) (by kernel_rfl) (by kernel_rfl) (by kernel_rfl) rfl trivial (fun _ _ _ h => h) hM (fun w hC => r_indexA hl rfl rfl arr43 (by omega) (by omega) (by first | (simp only [Int.reduceToNat]; rfl) | exact toNat_add1 _ | exact toNat_add2 _ _ | exact toNat_emod _ _ | exact Int.toNat_natCast _ | rfl)) rfl ?_
      clear hl a; intro a hl
      refine d_take (i := 8) hl rfl (by kernel_rfl) (by kernel_rfl) (by kernel_rfl) (by kernel_rfl) (by kernel_rfl) rfl trivial (fun _ _ _ h => h) hM (fun w hC => r_loadC hl rfl one42 hC (by repeat (first | exact find_head | apply find_tail | apply find_skip)) (by first | exact sh_fl huw | exact sh_ed | exact tk_at hkx | rfl | rfl)) rfl ?_
      clear hl a; intro a hl
      refine d_take (i := 9) hl rfl (by kernel_rfl) (by kernel_rfl) (by kernel_rfl) (by kernel_rfl) (by kernel_rfl) rfl trivial (fun _ _ _ h => h) hM (fun w hC => r_field hl rfl fld77_3) rfl ?_
      clear hl a; intro a hl
      refine d_take (i := 10) hl rfl (by kernel_rfl) (by kernel_rfl) (by kernel_rfl) (by kernel_rfl) (by kernel_rfl) rfl trivial (fun _ _ _ h => h) hM (fun w hC => r_indexA hl rfl rfl arr75 (by omega) (by omega) (by first | (simp only [Int.reduceToNat]; rfl) | exact toNat_add1 _ | exact toNat_add2 _ _ | exact toNat_emod _ _ | exact Int.toNat_natCast _ | rfl)) rfl ?_
      clear hl a; intro a hl
      refine d_take (i := 11) hl rfl (by kernel_rfl) (by kernel_rfl) (by kernel_rfl) (by kernel_rfl) (by kernel_rfl) rfl trivial (fun _ _ _ h => h) hM (fun w hC => r_loadC hl rfl one41 hC (by repeat (first | exact find_head | apply find_tail | apply find_skip)) (by first | exact sh_fl huw | exact sh_ed | exact tk_at hkx | rfl | rfl)) rfl ?_
      clear hl a; intro a hl
      first | refine d_take (i := 12) hl rfl (by kernel_rfl) (by kernel_rfl) (by kernel_rfl) (by kernel_rfl) (by kernel_rfl) rfl trivial (fun _ _ _ h => h) hM (fun w hC => r_add hl rfl rfl (by simp only [Fits]; omega)) rfl ?_ | refine d_take (i := 12) hl rfl (by kernel_rfl) (by kernel_rfl) (by kernel_rfl) (by kernel_rfl) (by kernel_rfl) rfl trivial (fun _ _ _ h => h) hM (fun w hC => r_addM wm_u64 hl rfl rfl) rfl ?_
      clear hl a; intro a hl
      refine d_take (i := 13) hl rfl (by kernel_rfl) (by kernel_rfl) (by kernel_rfl) (by kernel_rfl) (by kernel_rfl) rfl trivial (fun _ _ _ h => h) hM (fun w hC => r_maxI hl rfl rfl) rfl ?_
      clear hl a; intro a hl
      refine d_take (i := 14) hl rfl (by kernel_rfl) (by kernel_rfl) (by kernel_rfl) (by kernel_rfl) (by kernel_rfl) rfl trivial (fun _ _ _ h => h) hM (fun w hC => r_field hl rfl fld46_0) rfl ?_
      clear hl a; intro a hl
      refine d_takeL (i := 15) hl rfl (by kernel_rfl) (by kernel_rfl) (by kernel_rfl) (by kernel_rfl) (by kernel_rfl) rfl trivial (fun _ _ _ h => h) (fun w => r_indexA hl rfl rfl arr43 (by omega) (by omega) (by first | (simp only [Int.reduceToNat]; rfl) | exact toNat_add1 _ | exact toNat_add2 _ _ | exact toNat_emod _ _ | exact Int.toNat_natCast _ | rfl)) rfl ?_
      clear hl a; intro a hl
      refine d_one (i := 16) (by kernel_rfl) rfl ?_
      try clear hM
      refine id (w_store hl hh trivial one42 rfl rfl (by repeat (first | exact find_head | apply find_tail | apply find_skip)) (by first | (simp; done) | (simp; omega) | (rw [arrL_length]; omega)) (by first | rfl | assumption | (apply Row.one; assumption)) (by first | exact sh_sfl huw | exact sh_sed | (simp only [setL, List.getElem?_cons_zero, List.getElem?_cons_succ, Value.cells, List.take_zero, List.take_succ_cons, List.take_nil, List.drop_zero, List.drop_succ_cons, List.drop_nil, List.length_cons, List.length_nil, List.cons_append, List.nil_append, List.append_nil, Nat.zero_add, Nat.add_zero, Nat.reduceAdd, Nat.reduceBEq, Nat.reduceEqDiff, Nat.ble, BEq.rfl, Bool.and_true, Bool.and_self, cond_true, beq_self_eq_true]; rfl)) ?_)
      clear hh w; intro w hh
      refine d_step (fun h => absurd h (by decide)) ?_
      refine d_done (by kernel_rfl) ?_
      try clear hM
      have hl2 := hl.add (t := 0) (hl.add (t := 1) (hl.add (t := 4) (hl.add (t := 5) (hl.add (t := 22) (hl.add (t := 23) (hl.add (t := 24) (hl.nil) rfl) rfl) rfl) rfl) rfl) rfl) rfl; clear hl; have hl := hl2; clear hl2
      rw [floT hm0 (by assumption)] at hh
      refine blk_normal ?_
      refine then_normal ?_
      refine c_region ?_
      first | refine wl (wl_val hl rfl trivial (r_add hl rfl rfl (by simp only [Fits]; omega)) ?_) | refine wl (wl_val hl rfl trivial (r_addW hl rfl rfl) ?_)
      clear hl a; intro a hl
      refine wl (wl_val hl rfl trivial (r_move hl rfl) ?_)
      clear hl a; intro a hl
      refine w_nil ?_
      have hl2 := hl.add (t := 0) (hl.add (t := 1) (hl.add (t := 4) (hl.add (t := 5) (hl.add (t := 22) (hl.add (t := 23) (hl.add (t := 24) (hl.nil) rfl) rfl) rfl) rfl) rfl) rfl) rfl; clear hl; have hl := hl2; clear hl2
      refine then_normal ?_
      refine ⟨(i + 1), (by omega), (by omega), hl.addE (t := 24) (hl.addE (t := 0) (hl.addE (t := 1) (hl.addE (t := 4) (hl.addE (t := 5) (hl.addE (t := 22) (hl.addE (t := 23) (hl.nil) rfl (by first | rfl | (congr 1; omega))) rfl (by first | rfl | (congr 1; omega))) rfl (by first | rfl | (congr 1; omega))) rfl (by first | rfl | (congr 1; omega))) rfl (by first | rfl | (congr 1; omega))) rfl (by first | rfl | (congr 1; omega))) rfl (by first | rfl | (congr 1; omega)), hh.keep (by repeat (first | exact keeps_nil | apply keeps_cons (by repeat (first | exact find_head | apply find_tail | apply find_skip)) (by first  | rfl) | exact keeps_self | exact keeps_left | apply keeps_app | apply keeps_mv | apply keeps_skip))⟩
    · intro hc1
      try simp only [decide_eq_true_eq, decide_eq_false_iff_not, Bool.not_eq_true', Bool.not_eq_false', Bool.not_eq_true, Bool.not_eq_false, Bool.and_eq_true, Bool.or_eq_true, Bool.and_eq_false_iff, Bool.or_eq_false_iff, Bool.not_not, ne_eq, Int.not_lt, Int.not_le, Decidable.not_not, beq_iff_eq, bne_iff_ne] at hc1
      rw [floN hm0 (by assumption)] at hh
      refine wp_skip ?_
      refine blk_normal ?_
      refine then_normal ?_
      refine c_region ?_
      first | refine wl (wl_val hl rfl trivial (r_add hl rfl rfl (by simp only [Fits]; omega)) ?_) | refine wl (wl_val hl rfl trivial (r_addW hl rfl rfl) ?_)
      clear hl a; intro a hl
      refine wl (wl_val hl rfl trivial (r_move hl rfl) ?_)
      clear hl a; intro a hl
      refine w_nil ?_
      have hl2 := hl.add (t := 0) (hl.add (t := 1) (hl.add (t := 4) (hl.add (t := 5) (hl.add (t := 22) (hl.add (t := 23) (hl.add (t := 24) (hl.nil) rfl) rfl) rfl) rfl) rfl) rfl) rfl; clear hl; have hl := hl2; clear hl2
      refine then_normal ?_
      refine ⟨(i + 1), (by omega), (by omega), hl.addE (t := 24) (hl.addE (t := 0) (hl.addE (t := 1) (hl.addE (t := 4) (hl.addE (t := 5) (hl.addE (t := 22) (hl.addE (t := 23) (hl.nil) rfl (by first | rfl | (congr 1; omega))) rfl (by first | rfl | (congr 1; omega))) rfl (by first | rfl | (congr 1; omega))) rfl (by first | rfl | (congr 1; omega))) rfl (by first | rfl | (congr 1; omega))) rfl (by first | rfl | (congr 1; omega))) rfl (by first | rfl | (congr 1; omega)), hh.keep (by repeat (first | exact keeps_nil | apply keeps_cons (by repeat (first | exact find_head | apply find_tail | apply find_skip)) (by first  | rfl) | exact keeps_self | exact keeps_left | apply keeps_app | apply keeps_mv | apply keeps_skip))⟩
  · intro hc0
    try simp only [decide_eq_true_eq, decide_eq_false_iff_not, Bool.not_eq_true', Bool.not_eq_false', Bool.not_eq_true, Bool.not_eq_false, Bool.and_eq_true, Bool.or_eq_true, Bool.and_eq_false_iff, Bool.or_eq_false_iff, Bool.not_not, ne_eq, Int.not_lt, Int.not_le, Decidable.not_not, beq_iff_eq, bne_iff_ne] at hc0
    have hi9 : ls.length ≤ i := by omega
    rw [List.take_of_length_le hi9] at hh
    refine wp_exit ?_
    refine then_exit ?_
    refine then_exit ?_
    refine blk_exit ?_
    refine then_normal ?_
    refine c_seq ?_
    refine c_region ?_
    refine wl (w_makeMap k142 hl hh rfl trivial ?_)
    clear hl hh a w; intro k48 a w hl hh
    refine wl (wl_val hl rfl trivial (r_assign hl rfl) ?_)
    clear hl a; intro a hl
    refine w_nil ?_
    have hl2 := hl.add (t := 0) (hl.add (t := 1) (hl.add (t := 4) (hl.add (t := 5) (hl.add (t := 8) (hl.nil) rfl) rfl) rfl) rfl) rfl; clear hl; have hl := hl2; clear hl2
    refine then_normal ?_
    refine c_seq ?_
    refine c_seq ?_
    refine c_region ?_
    refine wl (wl_val hl rfl trivial (r_move hl rfl) ?_)
    clear hl a; intro a hl
    refine wl (wl_val hl rfl trivial (r_move hl rfl) ?_)
    clear hl a; intro a hl
    refine wl (wl_val hl rfl trivial (r_nilCheck hl rfl) ?_)
    clear hl a; intro a hl
    refine wl (wl_val hl rfl trivial (r_field hl rfl fld65_3) ?_)
    clear hl a; intro a hl
    refine wl (wl_val hl rfl trivial (r_indexA hl rfl rfl arr63 (by omega) (by omega) (by first | (simp only [Int.reduceToNat]; rfl) | exact toNat_add1 _ | exact toNat_add2 _ _ | exact toNat_emod _ _ | exact Int.toNat_natCast _ | rfl)) ?_)
    clear hl a; intro a hl
    first | refine wl (w_load hl hh rfl trivial one48 rfl (by repeat (first | exact find_head | apply find_tail | apply find_skip)) (by first | exact sh_fl huw | exact sh_ed | exact tk_at hkx | rfl | rfl) ?_) | refine wl (w_loadR hl hh rfl trivial one48 rfl hmD (by simp) (md_got hc) ?_)
    clear hl a; intro a hl
    rw [hpg] at hl
    refine wl (wl_val hl rfl trivial (r_lenS hl rfl slc48) ?_)
    clear hl a; intro a hl
    refine wl (wl_val hl rfl trivial (r_move hl rfl) ?_)
    clear hl a; intro a hl
    refine w_nil ?_
    have hl2 := hl.add (t := 4) (hl.add (t := 5) (hl.add (t := 8) (hl.add (t := 54) (hl.add (t := 55) (hl.add (t := 56) (hl.nil) rfl) rfl) rfl) rfl) rfl) rfl; clear hl; have hl := hl2; clear hl2
    refine then_normal ?_
    refine wp_block ?_
    obtain ⟨KS1, hKS1, hk⟩ := (hl.add (t := 4) (hl.add (t := 5) (hl.add (t := 8) (hl.add (t := 54) (hl.add (t := 55) (hl.nil) rfl) rfl) rfl) rfl) rfl).name
    obtain ⟨HS1, hHS1, hh2⟩ := hh.name (keeps_cons (b := k48) (o' := MO k142 []) (by repeat (first | exact find_head | apply find_tail | apply find_skip)) (by first | rfl) (keeps_nil))
    refine c_loop (α := Y5) (fun y => ls.length - y.i) (fun y a w => (y.i ≤ ls.length ∧ NI (floF ls) (ls.take y.i) y.l ∧ y.l.length ≤ 16 * y.i) ∧ Sl 139 ([(56, .int .i64 (y.i : Int))] ++ KS1) a ∧ Has _ w0 ([(k48, MO k142 y.l)] ++ HS1) w) ⟨[], 0⟩ ⟨⟨Nat.zero_le _, NI.nil _, Nat.le_refl _⟩, hl.addE (t := 56) (hk) rfl (by first | rfl), hh2⟩ ?_
    clear hk hh2 hl hh a w
    intro y a w hI
    obtain ⟨⟨hyi, hN, hyl⟩, hl, hh⟩ := hI
    subst hKS1; subst hHS1
    simp only [List.cons_append, List.nil_append, List.append_nil, List.append_assoc] at hl hh
    refine c_seq ?_
    refine c_region ?_
    refine wl (wl_val hl rfl trivial (r_lss hl rfl rfl) ?_)
    clear hl a; intro a hl
    refine w_nil ?_
    have hl2 := hl.add (t := 4) (hl.add (t := 5) (hl.add (t := 8) (hl.add (t := 54) (hl.add (t := 55) (hl.add (t := 56) (hl.add (t := 57) (hl.nil) rfl) rfl) rfl) rfl) rfl) rfl) rfl; clear hl; have hl := hl2; clear hl2
    refine then_normal ?_
    refine c_seq ?_
    refine c_cond hl rfl ?_ ?_
    · intro hc2
      try simp only [decide_eq_true_eq, decide_eq_false_iff_not, Bool.not_eq_true', Bool.not_eq_false', Bool.not_eq_true, Bool.not_eq_false, Bool.and_eq_true, Bool.or_eq_true, Bool.and_eq_false_iff, Bool.or_eq_false_iff, Bool.not_not, ne_eq, Int.not_lt, Int.not_le, Decidable.not_not, beq_iff_eq, bne_iff_ne] at hc2
      obtain ⟨m0, hm0⟩ : ∃ x9, ls[y.i]? = some x9 := ⟨_, List.getElem?_eq_getElem (by omega)⟩
      obtain ⟨fr, u, hfr, hu, huc, hmu⟩ := hms m0 (List.mem_of_getElem? hm0)
      subst hmu
      obtain ⟨kb, cb, jb, hvb, hmb, hrd⟩ := row_getM hRg hmE hm0
      rw [hpg] at hvb
      injection hvb with hv1 hv2 hv3
      subst hv1
      rw [msc_up] at hrd
      have huw := hu.w; have hue := hu.e; have hus := mi_rng u.s
      have hfb := floF_bd (by omega) hms u.w
      refine wp_skip ?_
      refine then_normal ?_
      refine c_seq ?_
      refine wp_block ?_
      refine c_seq ?_
      refine c_region ?_
      refine wl (wl_val hl rfl trivial (r_indexS hl rfl rfl slc48 (by omega) (by omega) (by first | (simp only [Int.reduceToNat]; rfl) | exact toNat_add1 _ | exact toNat_add2 _ _ | exact toNat_emod _ _ | exact Int.toNat_natCast _ | rfl)) ?_)
      clear hl a; intro a hl
      first | refine wl (w_loadA hl hh rfl trivial agg77 rfl (by repeat (first | exact find_head | apply find_tail | apply find_skip)) (by first | rfl | (simp only [List.getElem?_cons_zero, List.getElem?_cons_succ, Value.cells, List.take_zero, List.take_succ_cons, List.take_nil, List.drop_zero, List.drop_succ_cons, List.drop_nil, List.length_cons, List.length_nil, List.cons_append, List.nil_append, List.append_nil, Nat.zero_add, Nat.add_zero, Nat.reduceAdd, Nat.reduceBEq, Nat.reduceEqDiff, Nat.ble, BEq.rfl, Bool.and_true, Bool.and_self, cond_true, beq_self_eq_true]; rfl)) (by first | rfl | (simp; done)) ?_) | refine wl (w_loadRA hl hh rfl trivial agg77 rfl hmb (by simp) hrd rfl ?_)
      clear hl a; intro a hl
      refine wl (w_alloc hl hh rfl trivial zero77 rfl ?_)
      clear hl hh a w; intro k10 a w hl hh
      refine wl (w_storeA hl hh trivial agg77 rfl rfl (by repeat (first | exact find_head | apply find_tail | apply find_skip)) (by first | rfl | (simp; done) | rfl) (by first | (simp; done) | (simp; omega) | (rw [arrL_length]; omega)) (by first | rfl | (simp; done) | rfl) (by first | exact sh_sfl huw | exact sh_sed | (simp only [setL, List.getElem?_cons_zero, List.getElem?_cons_succ, Value.cells, List.take_zero, List.take_succ_cons, List.take_nil, List.drop_zero, List.drop_succ_cons, List.drop_nil, List.length_cons, List.length_nil, List.cons_append, List.nil_append, List.append_nil, Nat.zero_add, Nat.add_zero, Nat.reduceAdd, Nat.reduceBEq, Nat.reduceEqDiff, Nat.ble, BEq.rfl, Bool.and_true, Bool.and_self, cond_true, beq_self_eq_true]; rfl)) ?_)
      clear hh w; intro w hh
      refine w_nil ?_
      have hl2 := hl.add (t := 4) (hl.add (t := 5) (hl.add (t := 8) (hl.add (t := 10) (hl.add (t := 54) (hl.add (t := 55) (hl.add (t := 56) (hl.nil) rfl) rfl) rfl) rfl) rfl) rfl) rfl; clear hl; have hl := hl2; clear hl2
      refine then_normal ?_
      refine c_seq ?_
      refine c_draw [(k10, C [.int .i64 (fr : Int), .int .i64 ((u.w % 4 : Nat) : Int), .int .u32 u.k, .int .u64 (u.w : Int), .int .u64 u.e, .int .u64 (mi u.s), .int .u64 0] 77)] [8] mixed hh ?_
      clear hh w; intro w hh
      have hM : Mem [(k10, C [.int .i64 (fr : Int), .int .i64 ((u.w % 4 : Nat) : Int), .int .u32 u.k, .int .u64 (u.w : Int), .int .u64 u.e, .int .u64 (mi u.s), .int .u64 0] 77)] w := (by (repeat (first | exact Mem.nil | refine Mem.consR hh (by assumption) (by simp) ?_ | refine Mem.cons hh.mem (by (repeat (first | exact find_head | apply find_tail | apply find_skip)); done) ?_ | fail)); done)
      refine d_take (i := 0) hl rfl (by kernel_rfl) (by kernel_rfl) (by kernel_rfl) (by kernel_rfl) (by kernel_rfl) rfl trivial (fun _ _ _ h => h) hM (fun w hC => r_field hl rfl fld77_3) rfl ?_
      clear hl a; intro a hl
      refine d_take (i := 1) hl rfl (by kernel_rfl) (by kernel_rfl) (by kernel_rfl) (by kernel_rfl) (by kernel_rfl) rfl trivial (fun _ _ _ h => h) hM (fun w hC => r_indexA hl rfl rfl arr75 (by omega) (by omega) (by first | (simp only [Int.reduceToNat]; rfl) | exact toNat_add1 _ | exact toNat_add2 _ _ | exact toNat_emod _ _ | exact Int.toNat_natCast _ | rfl)) rfl ?_
      clear hl a; intro a hl
      refine d_take (i := 2) hl rfl (by kernel_rfl) (by kernel_rfl) (by kernel_rfl) (by kernel_rfl) (by kernel_rfl) rfl trivial (fun _ _ _ h => h) hM (fun w hC => r_loadC hl rfl one41 hC (by repeat (first | exact find_head | apply find_tail | apply find_skip)) (by first | exact sh_fl huw | exact sh_ed | exact tk_at hkx | rfl | rfl)) rfl ?_
      clear hl a; intro a hl
      first | refine d_take (i := 3) hl rfl (by kernel_rfl) (by kernel_rfl) (by kernel_rfl) (by kernel_rfl) (by kernel_rfl) rfl trivial (fun _ _ _ h => h) hM (fun w hC => r_conv hl rfl Tryz.underlying41 Tryz.underlying57 (by simp only [Fits]; omega)) rfl ?_ | refine d_take (i := 3) hl rfl (by kernel_rfl) (by kernel_rfl) (by kernel_rfl) (by kernel_rfl) (by kernel_rfl) rfl trivial (fun _ _ _ h => h) hM (fun w hC => r_convW hl rfl Tryz.underlying41 Tryz.underlying57) rfl ?_
      clear hl a; intro a hl
      refine d_take (i := 4) hl rfl (by kernel_rfl) (by kernel_rfl) (by kernel_rfl) (by kernel_rfl) (by kernel_rfl) rfl trivial (fun _ _ _ h => h) hM (fun w hC => r_field hl rfl fld77_3) rfl ?_
      clear hl a; intro a hl
      refine d_take (i := 5) hl rfl (by kernel_rfl) (by kernel_rfl) (by kernel_rfl) (by kernel_rfl) (by kernel_rfl) rfl trivial (fun _ _ _ h => h) hM (fun w hC => r_indexA hl rfl rfl arr75 (by omega) (by omega) (by first | (simp only [Int.reduceToNat]; rfl) | exact toNat_add1 _ | exact toNat_add2 _ _ | exact toNat_emod _ _ | exact Int.toNat_natCast _ | rfl)) rfl ?_
      clear hl a; intro a hl
      refine d_take (i := 6) hl rfl (by kernel_rfl) (by kernel_rfl) (by kernel_rfl) (by kernel_rfl) (by kernel_rfl) rfl trivial (fun _ _ _ h => h) hM (fun w hC => r_loadC hl rfl one41 hC (by repeat (first | exact find_head | apply find_tail | apply find_skip)) (by first | exact sh_fl huw | exact sh_ed | exact tk_at hkx | rfl | rfl)) rfl ?_
      clear hl a; intro a hl
      refine d_take (i := 7) hl rfl (by kernel_rfl) (by kernel_rfl) (by kernel_rfl) (by kernel_rfl) (by kernel_rfl) rfl trivial (fun _ _ _ h => h) hM (fun w hC => r_assign hl rfl) rfl ?_
      clear hl a; intro a hl
      refine d_takeL (i := 8) hl rfl (by kernel_rfl) (by kernel_rfl) (by kernel_rfl) (by kernel_rfl) (by kernel_rfl) rfl trivial (fun _ _ _ h => h) (fun w => r_assign hl rfl) rfl ?_
      clear hl a; intro a hl
      refine d_done (by kernel_rfl) ?_
      try clear hM
      have hl2 := hl.add (t := 4) (hl.add (t := 5) (hl.add (t := 8) (hl.add (t := 10) (hl.add (t := 11) (hl.add (t := 12) (hl.add (t := 54) (hl.add (t := 55) (hl.add (t := 56) (hl.nil) rfl) rfl) rfl) rfl) rfl) rfl) rfl) rfl) rfl; clear hl; have hl := hl2; clear hl2
      refine then_normal ?_
      refine c_seq ?_
      refine c_seq ?_
      refine c_region ?_
      refine wl (wl_val hl rfl trivial (r_field hl rfl fld77_2) ?_)
      clear hl a; intro a hl
      first | refine wl (w_load hl hh rfl trivial one74 rfl (by repeat (first | exact find_head | apply find_tail | apply find_skip)) (by first | exact sh_fl huw | exact sh_ed | exact tk_at hkx | rfl | rfl) ?_) | refine wl (w_loadR hl hh rfl trivial one74 rfl hmD (by simp) (md_got hc) ?_)
      clear hl a; intro a hl
      refine wl (wl_val hl rfl trivial (r_eql hl rfl rfl) ?_)
      clear hl a; intro a hl
      refine wl (wl_val hl rfl trivial (r_move hl rfl) ?_)
      clear hl a; intro a hl
      refine sl_split (t := 70) hl rfl ?_ ?_
      · intro hg1; clear hl; intro hl
        try simp only [decide_eq_true_eq, decide_eq_false_iff_not, Bool.not_eq_true', Bool.not_eq_false', Bool.not_eq_true, Bool.not_eq_false, Bool.and_eq_true, Bool.or_eq_true, Bool.and_eq_false_iff, Bool.or_eq_false_iff, Bool.not_not, ne_eq, Int.not_lt, Int.not_le, Decidable.not_not, beq_iff_eq, bne_iff_ne] at hg1
        refine wl (wl_skip hl rfl ⟨_, _, rfl, rfl, rfl⟩ ?_)
        clear hl a; intro a hl
        refine wl (wl_skip hl rfl ⟨_, _, rfl, rfl, rfl⟩ ?_)
        clear hl a; intro a hl
        refine wl (wl_skip hl rfl ⟨_, _, rfl, rfl, rfl⟩ ?_)
        clear hl a; intro a hl
        refine wl (wl_skip hl rfl ⟨_, _, rfl, rfl, rfl⟩ ?_)
        clear hl a; intro a hl
        refine wl (wl_skip hl rfl ⟨_, _, rfl, rfl, rfl⟩ ?_)
        clear hl a; intro a hl
        refine wl (wl_skip hl rfl ⟨_, _, rfl, rfl, rfl⟩ ?_)
        clear hl a; intro a hl
        refine wl (wl_val hl rfl trivial (r_pickT hl rfl rfl) ?_)
        clear hl a; intro a hl
        refine w_nil ?_
        have hl2 := hl.add (t := 4) (hl.add (t := 5) (hl.add (t := 8) (hl.add (t := 10) (hl.add (t := 11) (hl.add (t := 12) (hl.add (t := 54) (hl.add (t := 55) (hl.add (t := 56) (hl.add (t := 77) (hl.nil) rfl) rfl) rfl) rfl) rfl) rfl) rfl) rfl) rfl) rfl; clear hl; have hl := hl2; clear hl2
        refine then_normal ?_
        refine c_condT hl rfl ?_
        have hN2 : NI (floF ls) (ls.take (y.i + 1)) y.l := by rw [take_snoc hm0]; exact hN.skip hu (by first | exact .inl (by assumption) | exact .inr (by assumption))
        obtain ⟨lE, hlE⟩ : ∃ x9, x9 = y.l := ⟨_, rfl⟩
        rw [← hlE] at hN2 hh
        have hlE2 : lE.length ≤ 16 * (y.i + 1) := by rw [hlE]; omega
        refine wp_exit ?_
        refine then_exit ?_
        refine blk_exit ?_
        refine then_normal ?_
        refine c_region ?_
        first | refine wl (wl_val hl rfl trivial (r_add hl rfl rfl (by simp only [Fits]; omega)) ?_) | refine wl (wl_val hl rfl trivial (r_addW hl rfl rfl) ?_)
        clear hl a; intro a hl
        refine wl (wl_val hl rfl trivial (r_move hl rfl) ?_)
        clear hl a; intro a hl
        refine w_nil ?_
        have hl2 := hl.add (t := 4) (hl.add (t := 5) (hl.add (t := 8) (hl.add (t := 54) (hl.add (t := 55) (hl.add (t := 56) (hl.nil) rfl) rfl) rfl) rfl) rfl) rfl; clear hl; have hl := hl2; clear hl2
        refine then_normal ?_
        refine ⟨⟨lE, y.i + 1⟩, (by simp only; omega), ⟨by simp only; omega, hN2, hlE2⟩, hl.addE (t := 56) (hl.addE (t := 4) (hl.addE (t := 5) (hl.addE (t := 8) (hl.addE (t := 54) (hl.addE (t := 55) (hl.nil) rfl (by first | rfl | exact congrArg (Value.int .i64) (by first | omega | (simp only; omega)))) rfl (by first | rfl | exact congrArg (Value.int .i64) (by first | omega | (simp only; omega)))) rfl (by first | rfl | exact congrArg (Value.int .i64) (by first | omega | (simp only; omega)))) rfl (by first | rfl | exact congrArg (Value.int .i64) (by first | omega | (simp only; omega)))) rfl (by first | rfl | exact congrArg (Value.int .i64) (by first | omega | (simp only; omega)))) rfl (by first | rfl | exact congrArg (Value.int .i64) (by first | omega | (simp only; omega))), hh.keep (by repeat (first | exact keeps_nil | apply keeps_cons (by repeat (first | exact find_head | apply find_tail | apply find_skip)) (by first  | rfl) | exact keeps_self | exact keeps_left | apply keeps_app | apply keeps_mv | apply keeps_skip))⟩
      · intro hg1; clear hl; intro hl
        try simp only [decide_eq_true_eq, decide_eq_false_iff_not, Bool.not_eq_true', Bool.not_eq_false', Bool.not_eq_true, Bool.not_eq_false, Bool.and_eq_true, Bool.or_eq_true, Bool.and_eq_false_iff, Bool.or_eq_false_iff, Bool.not_not, ne_eq, Int.not_lt, Int.not_le, Decidable.not_not, beq_iff_eq, bne_iff_ne] at hg1
        refine wl (wl_val hl rfl ⟨_, _, rfl, rfl, rfl⟩ (r_move hl rfl) ?_)
        clear hl a; intro a hl
        refine wl (wl_val hl rfl ⟨_, _, rfl, rfl, rfl⟩ (r_move hl rfl) ?_)
        clear hl a; intro a hl
        refine wl (wl_val hl rfl ⟨_, _, rfl, rfl, rfl⟩ (r_field hl rfl fld46_0) ?_)
        clear hl a; intro a hl
        refine wl (wl_val hl rfl ⟨_, _, rfl, rfl, rfl⟩ (r_indexA hl rfl rfl arr43 (by omega) (by omega) (by first | (simp only [Int.reduceToNat]; rfl) | exact toNat_add1 _ | exact toNat_add2 _ _ | exact toNat_emod _ _ | exact Int.toNat_natCast _ | rfl)) ?_)
        clear hl a; intro a hl
        first | refine wl (w_load hl hh rfl ⟨_, _, rfl, rfl, rfl⟩ one42 rfl (by repeat (first | exact find_head | apply find_tail | apply find_skip)) (by first | exact sh_fl huw | exact sh_ed | exact tk_at hkx | rfl | rfl) ?_) | refine wl (w_loadR hl hh rfl ⟨_, _, rfl, rfl, rfl⟩ one42 rfl hmD (by simp) (md_got hc) ?_)
        clear hl a; intro a hl
        refine wl (wl_val hl rfl ⟨_, _, rfl, rfl, rfl⟩ (r_lss hl rfl rfl) ?_)
        clear hl a; intro a hl
        refine wl (wl_val hl rfl trivial (r_pickF hl rfl rfl) ?_)
        clear hl a; intro a hl
        refine w_nil ?_
        have hl2 := hl.add (t := 4) (hl.add (t := 5) (hl.add (t := 8) (hl.add (t := 10) (hl.add (t := 11) (hl.add (t := 12) (hl.add (t := 54) (hl.add (t := 55) (hl.add (t := 56) (hl.add (t := 77) (hl.nil) rfl) rfl) rfl) rfl) rfl) rfl) rfl) rfl) rfl) rfl; clear hl; have hl := hl2; clear hl2
        refine then_normal ?_
        refine c_cond hl rfl ?_ ?_
        · intro hc3
          try simp only [decide_eq_true_eq, decide_eq_false_iff_not, Bool.not_eq_true', Bool.not_eq_false', Bool.not_eq_true, Bool.not_eq_false, Bool.and_eq_true, Bool.or_eq_true, Bool.and_eq_false_iff, Bool.or_eq_false_iff, Bool.not_not, ne_eq, Int.not_lt, Int.not_le, Decidable.not_not, beq_iff_eq, bne_iff_ne] at hc3
          have hN2 : NI (floF ls) (ls.take (y.i + 1)) y.l := by rw [take_snoc hm0]; exact hN.skip hu (by first | exact .inl (by assumption) | exact .inr (by assumption))
          obtain ⟨lE, hlE⟩ : ∃ x9, x9 = y.l := ⟨_, rfl⟩
          rw [← hlE] at hN2 hh
          have hlE2 : lE.length ≤ 16 * (y.i + 1) := by rw [hlE]; omega
          refine wp_exit ?_
          refine then_exit ?_
          refine blk_exit ?_
          refine then_normal ?_
          refine c_region ?_
          first | refine wl (wl_val hl rfl trivial (r_add hl rfl rfl (by simp only [Fits]; omega)) ?_) | refine wl (wl_val hl rfl trivial (r_addW hl rfl rfl) ?_)
          clear hl a; intro a hl
          refine wl (wl_val hl rfl trivial (r_move hl rfl) ?_)
          clear hl a; intro a hl
          refine w_nil ?_
          have hl2 := hl.add (t := 4) (hl.add (t := 5) (hl.add (t := 8) (hl.add (t := 54) (hl.add (t := 55) (hl.add (t := 56) (hl.nil) rfl) rfl) rfl) rfl) rfl) rfl; clear hl; have hl := hl2; clear hl2
          refine then_normal ?_
          refine ⟨⟨lE, y.i + 1⟩, (by simp only; omega), ⟨by simp only; omega, hN2, hlE2⟩, hl.addE (t := 56) (hl.addE (t := 4) (hl.addE (t := 5) (hl.addE (t := 8) (hl.addE (t := 54) (hl.addE (t := 55) (hl.nil) rfl (by first | rfl | exact congrArg (Value.int .i64) (by first | omega | (simp only; omega)))) rfl (by first | rfl | exact congrArg (Value.int .i64) (by first | omega | (simp only; omega)))) rfl (by first | rfl | exact congrArg (Value.int .i64) (by first | omega | (simp only; omega)))) rfl (by first | rfl | exact congrArg (Value.int .i64) (by first | omega | (simp only; omega)))) rfl (by first | rfl | exact congrArg (Value.int .i64) (by first | omega | (simp only; omega)))) rfl (by first | rfl | exact congrArg (Value.int .i64) (by first | omega | (simp only; omega))), hh.keep (by repeat (first | exact keeps_nil | apply keeps_cons (by repeat (first | exact find_head | apply find_tail | apply find_skip)) (by first  | rfl) | exact keeps_self | exact keeps_left | apply keeps_app | apply keeps_mv | apply keeps_skip))⟩
        · intro hc3
          try simp only [decide_eq_true_eq, decide_eq_false_iff_not, Bool.not_eq_true', Bool.not_eq_false', Bool.not_eq_true, Bool.not_eq_false, Bool.and_eq_true, Bool.or_eq_true, Bool.and_eq_false_iff, Bool.or_eq_false_iff, Bool.not_not, ne_eq, Int.not_lt, Int.not_le, Decidable.not_not, beq_iff_eq, bne_iff_ne] at hc3
          obtain ⟨sg, hsg⟩ : ∃ sg : Int, (u.k = 1 ∧ sg = 1) ∨ (u.k = 2 ∧ sg = -1) := by rcases hu.k with ⟨h9, _⟩ | ⟨h9 | h9, _⟩; exact absurd h9 (by assumption); exact ⟨1, .inl ⟨h9, rfl⟩⟩; exact ⟨-1, .inr ⟨h9, rfl⟩⟩
          have hfu : floF ls u.w ≤ u.e := by omega
          refine wp_skip ?_
          refine then_normal ?_
          refine c_seq ?_
          refine c_region ?_
          refine wl (wl_val hl rfl trivial (r_field hl rfl fld77_3) ?_)
          clear hl a; intro a hl
          refine wl (wl_val hl rfl trivial (r_indexA hl rfl rfl arr75 (by omega) (by omega) (by first | (simp only [Int.reduceToNat]; rfl) | exact toNat_add1 _ | exact toNat_add2 _ _ | exact toNat_emod _ _ | exact Int.toNat_natCast _ | rfl)) ?_)
          clear hl a; intro a hl
          first | refine wl (w_load hl hh rfl trivial one41 rfl (by repeat (first | exact find_head | apply find_tail | apply find_skip)) (by first | exact sh_fl huw | exact sh_ed | exact tk_at hkx | rfl | rfl) ?_) | refine wl (w_loadR hl hh rfl trivial one41 rfl hmD (by simp) (md_got hc) ?_)
          clear hl a; intro a hl
          first | refine wl (wl_val hl rfl trivial (r_conv hl rfl Tryz.underlying41 Tryz.underlying37 (by simp only [Fits]; omega)) ?_) | refine wl (wl_val hl rfl trivial (r_convM wm_u16 hl rfl Tryz.underlying41 Tryz.underlying37) ?_)
          clear hl a; intro a hl
          refine wl (w_call hl hh rfl trivial rfl cal60 rfl (tasks_spec u.s tT tf) (by repeat (first | exact keeps_nil | apply keeps_cons (by repeat (first | exact find_head | apply find_tail | apply find_skip)) (by first  | rfl) | exact keeps_self | exact keeps_left | apply keeps_app | apply keeps_mv | apply keeps_skip)) (heap_keep hh hpre.2) ?_)
          clear hl hh a w; intro vc Fc a w hR hl hh
          try simp only [List.cons_append, List.nil_append, List.append_assoc, List.append_nil] at hh
          have hRt := hR
          clear hR
          generalize Fc = Et at hh hRt
          obtain ⟨p8, c8, hp8⟩ := row_val hRt
          subst hp8
          have ht16 := tasks_len u.s
          refine wl (wl_val hl rfl trivial (r_lenS hl rfl slc114) ?_)
          clear hl a; intro a hl
          refine wl (wl_val hl rfl trivial (r_move hl rfl) ?_)
          clear hl a; intro a hl
          refine w_nil ?_
          have hl2 := hl.add (t := 4) (hl.add (t := 5) (hl.add (t := 8) (hl.add (t := 10) (hl.add (t := 11) (hl.add (t := 12) (hl.add (t := 54) (hl.add (t := 55) (hl.add (t := 56) (hl.add (t := 82) (hl.add (t := 83) (hl.add (t := 84) (hl.nil) rfl) rfl) rfl) rfl) rfl) rfl) rfl) rfl) rfl) rfl) rfl) rfl; clear hl; have hl := hl2; clear hl2
          refine then_normal ?_
          refine wp_block ?_
          obtain ⟨KS2, hKS2, hk⟩ := (hl.add (t := 4) (hl.add (t := 5) (hl.add (t := 8) (hl.add (t := 10) (hl.add (t := 11) (hl.add (t := 12) (hl.add (t := 54) (hl.add (t := 55) (hl.add (t := 56) (hl.add (t := 82) (hl.add (t := 83) (hl.nil) rfl) rfl) rfl) rfl) rfl) rfl) rfl) rfl) rfl) rfl) rfl).name
          obtain ⟨HS2, hHS2, hh2⟩ := hh.name (keeps_cons (b := k48) (o' := MO k142 y.l) (by repeat (first | exact find_head | apply find_tail | apply find_skip)) (by first | rfl) (keeps_nil))
          refine c_loop (α := Y5) (fun q => (tasksB u.s).length - q.i) (fun q a w => (q.i ≤ (tasksB u.s).length ∧ NJ (floF ls) (ls.take y.i) u ((tasksB u.s).take q.i) sg q.l ∧ q.l.length ≤ 16 * y.i + q.i) ∧ Sl 139 ([(84, .int .i64 (q.i : Int))] ++ KS2) a ∧ Has _ w0 ([(k48, MO k142 q.l)] ++ HS2) w) ⟨y.l, 0⟩ ⟨⟨Nat.zero_le _, hN.into u sg, hyl⟩, hl.addE (t := 84) (hk) rfl (by first | rfl), hh2⟩ ?_
          clear hk hh2 hl hh a w
          intro q a w hI
          obtain ⟨⟨hqi, hJ, hql⟩, hl, hh⟩ := hI
          subst hKS2; subst hHS2
          simp only [List.cons_append, List.nil_append, List.append_nil, List.append_assoc] at hl hh
          refine c_seq ?_
          refine c_region ?_
          refine wl (wl_val hl rfl trivial (r_lss hl rfl rfl) ?_)
          clear hl a; intro a hl
          refine w_nil ?_
          have hl2 := hl.add (t := 4) (hl.add (t := 5) (hl.add (t := 8) (hl.add (t := 10) (hl.add (t := 11) (hl.add (t := 12) (hl.add (t := 54) (hl.add (t := 55) (hl.add (t := 56) (hl.add (t := 82) (hl.add (t := 83) (hl.add (t := 84) (hl.add (t := 85) (hl.nil) rfl) rfl) rfl) rfl) rfl) rfl) rfl) rfl) rfl) rfl) rfl) rfl) rfl; clear hl; have hl := hl2; clear hl2
          refine then_normal ?_
          refine c_seq ?_
          refine c_cond hl rfl ?_ ?_
          · intro hc4
            try simp only [decide_eq_true_eq, decide_eq_false_iff_not, Bool.not_eq_true', Bool.not_eq_false', Bool.not_eq_true, Bool.not_eq_false, Bool.and_eq_true, Bool.or_eq_true, Bool.and_eq_false_iff, Bool.or_eq_false_iff, Bool.not_not, ne_eq, Int.not_lt, Int.not_le, Decidable.not_not, beq_iff_eq, bne_iff_ne] at hc4
            obtain ⟨hk9, hkx⟩ : ∃ x9, (tasksB u.s)[q.i]? = some x9 := ⟨_, List.getElem?_eq_getElem (by omega)⟩
            have hkl := tasks_l16 (List.mem_of_getElem? hkx)
            obtain ⟨kt, jt, hpt, hjt, hct, hEt⟩ := row_pos hRt (by omega)
            subst hpt
            subst hEt
            obtain ⟨hz0, hJ2⟩ := hJ.step huw hkl ⟨by omega, by omega⟩ (nd_take (tasks_nd u.s) hkx)
            rw [← tk_snoc hkx] at hJ2
            have hzb := npI_bd (f := floF ls) (hms.take y.i) u.w u.e hk9
            rw [← hz0, List.length_take] at hzb
            refine wp_skip ?_
            refine then_normal ?_
            refine c_seq ?_
            refine wp_block ?_
            refine c_seq ?_
            refine c_region ?_
            refine wl (wl_val hl rfl trivial (r_indexS hl rfl rfl slc114 (by omega) (by omega) (by first | (simp only [Int.reduceToNat]; rfl) | exact toNat_add1 _ | exact toNat_add2 _ _ | exact toNat_emod _ _ | exact Int.toNat_natCast _ | rfl)) ?_)
            clear hl a; intro a hl
            first | refine wl (w_load hl hh rfl trivial one57 rfl (by repeat (first | exact find_head | apply find_tail | apply find_skip)) (by first | exact sh_fl huw | exact sh_ed | exact tk_at hkx | rfl | rfl) ?_) | refine wl (w_loadR hl hh rfl trivial one57 rfl hmD (by simp) (md_got hc) ?_)
            clear hl a; intro a hl
            refine wl (wl_val hl rfl trivial (r_assign hl rfl) ?_)
            clear hl a; intro a hl
            refine w_nil ?_
            have hl2 := hl.add (t := 4) (hl.add (t := 5) (hl.add (t := 8) (hl.add (t := 10) (hl.add (t := 11) (hl.add (t := 12) (hl.add (t := 14) (hl.add (t := 54) (hl.add (t := 55) (hl.add (t := 56) (hl.add (t := 82) (hl.add (t := 83) (hl.add (t := 84) (hl.nil) rfl) rfl) rfl) rfl) rfl) rfl) rfl) rfl) rfl) rfl) rfl) rfl) rfl; clear hl; have hl := hl2; clear hl2
            refine then_normal ?_
            refine c_seq ?_
            refine c_region ?_
            refine wl (wl_val hl rfl trivial (r_field hl rfl fld77_2) ?_)
            clear hl a; intro a hl
            first | refine wl (w_load hl hh rfl trivial one74 rfl (by repeat (first | exact find_head | apply find_tail | apply find_skip)) (by first | exact sh_fl huw | exact sh_ed | exact tk_at hkx | rfl | rfl) ?_) | refine wl (w_loadR hl hh rfl trivial one74 rfl hmD (by simp) (md_got hc) ?_)
            clear hl a; intro a hl
            refine wl (wl_val hl rfl trivial (r_eql hl rfl rfl) ?_)
            clear hl a; intro a hl
            refine w_nil ?_
            have hl2 := hl.add (t := 4) (hl.add (t := 5) (hl.add (t := 8) (hl.add (t := 10) (hl.add (t := 11) (hl.add (t := 12) (hl.add (t := 14) (hl.add (t := 54) (hl.add (t := 55) (hl.add (t := 56) (hl.add (t := 82) (hl.add (t := 83) (hl.add (t := 84) (hl.add (t := 90) (hl.nil) rfl) rfl) rfl) rfl) rfl) rfl) rfl) rfl) rfl) rfl) rfl) rfl) rfl) rfl; clear hl; have hl := hl2; clear hl2
            refine then_normal ?_
            refine c_cond hl rfl ?_ ?_
            · intro hc5
              try simp only [decide_eq_true_eq, decide_eq_false_iff_not, Bool.not_eq_true', Bool.not_eq_false', Bool.not_eq_true, Bool.not_eq_false, Bool.and_eq_true, Bool.or_eq_true, Bool.and_eq_false_iff, Bool.or_eq_false_iff, Bool.not_not, ne_eq, Int.not_lt, Int.not_le, Decidable.not_not, beq_iff_eq, bne_iff_ne] at hc5
              have hs1 : sg = 1 := by omega
              refine c_draw [] [9] mixed hh ?_
              clear hh w; intro w hh
              have hM : Mem [] w := Mem.nil
              refine d_take (i := 0) hl rfl (by kernel_rfl) (by kernel_rfl) (by kernel_rfl) (by kernel_rfl) (by kernel_rfl) rfl trivial (fun _ _ _ h => h) hM (fun w hC => r_move hl rfl) rfl ?_
              clear hl a; intro a hl
              refine d_take (i := 1) hl rfl (by kernel_rfl) (by kernel_rfl) (by kernel_rfl) (by kernel_rfl) (by kernel_rfl) rfl trivial (fun _ _ _ h => h) hM (fun w hC => r_move hl rfl) rfl ?_
              clear hl a; intro a hl
              refine d_take (i := 2) hl rfl (by kernel_rfl) (by kernel_rfl) (by kernel_rfl) (by kernel_rfl) (by kernel_rfl) rfl trivial (fun _ _ _ h => h) hM (fun w hC => r_move hl rfl) rfl ?_
              clear hl a; intro a hl
              refine d_take (i := 3) hl rfl (by kernel_rfl) (by kernel_rfl) (by kernel_rfl) (by kernel_rfl) (by kernel_rfl) rfl trivial (fun _ _ _ h => h) hM (fun w hC => r_move hl rfl) rfl ?_
              clear hl a; intro a hl
              refine d_take (i := 4) hl rfl (by kernel_rfl) (by kernel_rfl) (by kernel_rfl) (by kernel_rfl) (by kernel_rfl) rfl trivial (fun _ _ _ h => h) hM (fun w hC => r_build hl rfl zero142 bld142 (by simp only [fillL, setL, List.getElem?_cons_zero, List.getElem?_cons_succ, Value.cells, List.take_zero, List.take_succ_cons, List.take_nil, List.drop_zero, List.drop_succ_cons, List.drop_nil, List.length_cons, List.length_nil, List.cons_append, List.nil_append, List.append_nil, Nat.zero_add, Nat.add_zero, Nat.reduceAdd, Nat.reduceBEq, Nat.reduceEqDiff, Nat.ble, BEq.rfl, Bool.and_true, Bool.and_self, cond_true, beq_self_eq_true]; rfl)) rfl ?_
              clear hl a; intro a hl
              rw [ek_eq huw hkl ⟨by omega, by omega⟩] at hl
              refine d_two (i := 5) (j := 7) (by kernel_rfl) rfl rfl ?_ ?_
              ·
                try clear hM
                refine id (w_lookup key142 Tryz.underlying139 zero3 hl hh rfl trivial rfl rfl (by repeat (first | exact find_head | apply find_tail | apply find_skip)) ?_)
                clear hl a; intro a hl
                rw [hJ.mz.look] at hl
                try rw [mget_same] at hl
                have hM : Mem [] w := Mem.nil
                refine d_step (fun _ => hM) ?_
                first | refine d_take (i := 6) hl rfl (by kernel_rfl) (by kernel_rfl) (by kernel_rfl) (by kernel_rfl) (by kernel_rfl) rfl trivial (fun _ _ _ h => h) hM (fun w hC => r_add hl rfl rfl (by simp only [Fits]; omega)) rfl ?_ | refine d_take (i := 6) hl rfl (by kernel_rfl) (by kernel_rfl) (by kernel_rfl) (by kernel_rfl) (by kernel_rfl) rfl trivial (fun _ _ _ h => h) hM (fun w hC => r_addW hl rfl rfl) rfl ?_
                clear hl a; intro a hl
                refine d_one (i := 7) (by kernel_rfl) rfl ?_
                try clear hM
                refine id (w_mapEntry key142 Tryz.underlying139 zero3 hl hh rfl trivial rfl rfl (by repeat (first | exact find_head | apply find_tail | apply find_skip)) ?_)
                clear hl hh a w; intro i98 hi98 a w hl hh
                have hM : Mem [] w := Mem.nil
                refine d_step (fun _ => hM) ?_
                refine d_take (i := 8) hl rfl (by kernel_rfl) (by kernel_rfl) (by kernel_rfl) (by kernel_rfl) (by kernel_rfl) rfl trivial (fun _ _ _ h => h) hM (fun w hC => r_extract hl rfl (by simp only [List.getElem?_toArray, List.getElem?_cons_zero, List.getElem?_cons_succ]; rfl)) rfl ?_
                clear hl a; intro a hl
                refine d_one (i := 9) (by kernel_rfl) rfl ?_
                try clear hM
                refine id (w_entryStore hi98 hl hh trivial rfl rfl rfl (by repeat (first | exact find_head | apply find_tail | apply find_skip)) ?_)
                clear hh w; intro w hh; rw [mput_mput] at hh
                refine d_step (fun h => absurd h (by decide)) ?_
                refine d_done (by kernel_rfl) ?_
                try clear hM
                have hl2 := hl.add (t := 4) (hl.add (t := 5) (hl.add (t := 8) (hl.add (t := 10) (hl.add (t := 11) (hl.add (t := 12) (hl.add (t := 54) (hl.add (t := 55) (hl.add (t := 56) (hl.add (t := 82) (hl.add (t := 83) (hl.add (t := 84) (hl.nil) rfl) rfl) rfl) rfl) rfl) rfl) rfl) rfl) rfl) rfl) rfl) rfl; clear hl; have hl := hl2; clear hl2
                obtain ⟨lQ, hlQ⟩ : ∃ x9, x9 = mput q.l (ek u.w hk9 u.e) (.int .i64 (zV q.l (ek u.w hk9 u.e) + 1)) := ⟨_, rfl⟩
                rw [← hlQ] at hh
                have hJ3 : NJ (floF ls) (ls.take y.i) u ((tasksB u.s).take (q.i + 1)) sg lQ := by rw [hlQ, show zV q.l (ek u.w hk9 u.e) + 1 = zV q.l (ek u.w hk9 u.e) + sg by omega]; exact hJ2
                have hlQ2 : lQ.length ≤ 16 * y.i + (q.i + 1) := by rw [hlQ]; have := mput_len q.l (ek u.w hk9 u.e) (.int .i64 (zV q.l (ek u.w hk9 u.e) + 1)); omega
                refine blk_normal ?_
                refine then_normal ?_
                refine c_region ?_
                first | refine wl (wl_val hl rfl trivial (r_add hl rfl rfl (by simp only [Fits]; omega)) ?_) | refine wl (wl_val hl rfl trivial (r_addW hl rfl rfl) ?_)
                clear hl a; intro a hl
                refine wl (wl_val hl rfl trivial (r_move hl rfl) ?_)
                clear hl a; intro a hl
                refine w_nil ?_
                have hl2 := hl.add (t := 4) (hl.add (t := 5) (hl.add (t := 8) (hl.add (t := 10) (hl.add (t := 11) (hl.add (t := 12) (hl.add (t := 54) (hl.add (t := 55) (hl.add (t := 56) (hl.add (t := 82) (hl.add (t := 83) (hl.add (t := 84) (hl.nil) rfl) rfl) rfl) rfl) rfl) rfl) rfl) rfl) rfl) rfl) rfl) rfl; clear hl; have hl := hl2; clear hl2
                refine then_normal ?_
                refine ⟨⟨lQ, q.i + 1⟩, (by simp only; omega), ⟨by simp only; omega, hJ3, hlQ2⟩, hl.addE (t := 84) (hl.addE (t := 4) (hl.addE (t := 5) (hl.addE (t := 8) (hl.addE (t := 10) (hl.addE (t := 11) (hl.addE (t := 12) (hl.addE (t := 54) (hl.addE (t := 55) (hl.addE (t := 56) (hl.addE (t := 82) (hl.addE (t := 83) (hl.nil) rfl (by first | rfl | exact congrArg (Value.int .i64) (by first | omega | (simp only; omega)))) rfl (by first | rfl | exact congrArg (Value.int .i64) (by first | omega | (simp only; omega)))) rfl (by first | rfl | exact congrArg (Value.int .i64) (by first | omega | (simp only; omega)))) rfl (by first | rfl | exact congrArg (Value.int .i64) (by first | omega | (simp only; omega)))) rfl (by first | rfl | exact congrArg (Value.int .i64) (by first | omega | (simp only; omega)))) rfl (by first | rfl | exact congrArg (Value.int .i64) (by first | omega | (simp only; omega)))) rfl (by first | rfl | exact congrArg (Value.int .i64) (by first | omega | (simp only; omega)))) rfl (by first | rfl | exact congrArg (Value.int .i64) (by first | omega | (simp only; omega)))) rfl (by first | rfl | exact congrArg (Value.int .i64) (by first | omega | (simp only; omega)))) rfl (by first | rfl | exact congrArg (Value.int .i64) (by first | omega | (simp only; omega)))) rfl (by first | rfl | exact congrArg (Value.int .i64) (by first | omega | (simp only; omega)))) rfl (by first | rfl | exact congrArg (Value.int .i64) (by first | omega | (simp only; omega))), hh.keep (by repeat (first | exact keeps_nil | apply keeps_cons (by repeat (first | exact find_head | apply find_tail | apply find_skip)) (by first  | rfl) | exact keeps_self | exact keeps_left | apply keeps_app | apply keeps_mv | apply keeps_skip))⟩
              ·
                try clear hM
                refine id (w_mapEntry key142 Tryz.underlying139 zero3 hl hh rfl trivial rfl rfl (by repeat (first | exact find_head | apply find_tail | apply find_skip)) ?_)
                clear hl hh a w; intro i98 hi98 a w hl hh
                have hM : Mem [] w := Mem.nil
                refine d_step (fun _ => hM) ?_
                refine d_take (i := 8) hl rfl (by kernel_rfl) (by kernel_rfl) (by kernel_rfl) (by kernel_rfl) (by kernel_rfl) rfl trivial (fun _ _ _ h => h) hM (fun w hC => r_extract hl rfl (by simp only [List.getElem?_toArray, List.getElem?_cons_zero, List.getElem?_cons_succ]; rfl)) rfl ?_
                clear hl a; intro a hl
                refine d_one (i := 5) (by kernel_rfl) rfl ?_
                try clear hM
                refine id (w_lookup key142 Tryz.underlying139 zero3 hl hh rfl trivial rfl rfl (by repeat (first | exact find_head | apply find_tail | apply find_skip)) ?_)
                clear hl a; intro a hl
                rw [hJ.mz.look] at hl
                try rw [mget_same] at hl
                have hM : Mem [] w := Mem.nil
                refine d_step (fun _ => hM) ?_
                first | refine d_take (i := 6) hl rfl (by kernel_rfl) (by kernel_rfl) (by kernel_rfl) (by kernel_rfl) (by kernel_rfl) rfl trivial (fun _ _ _ h => h) hM (fun w hC => r_add hl rfl rfl (by simp only [Fits]; omega)) rfl ?_ | refine d_take (i := 6) hl rfl (by kernel_rfl) (by kernel_rfl) (by kernel_rfl) (by kernel_rfl) (by kernel_rfl) rfl trivial (fun _ _ _ h => h) hM (fun w hC => r_addW hl rfl rfl) rfl ?_
                clear hl a; intro a hl
                refine d_one (i := 9) (by kernel_rfl) rfl ?_
                try clear hM
                refine id (w_entryStore hi98 hl hh trivial rfl rfl rfl (by repeat (first | exact find_head | apply find_tail | apply find_skip)) ?_)
                clear hh w; intro w hh; rw [mput_mput] at hh
                refine d_step (fun h => absurd h (by decide)) ?_
                refine d_done (by kernel_rfl) ?_
                try clear hM
                have hl2 := hl.add (t := 4) (hl.add (t := 5) (hl.add (t := 8) (hl.add (t := 10) (hl.add (t := 11) (hl.add (t := 12) (hl.add (t := 54) (hl.add (t := 55) (hl.add (t := 56) (hl.add (t := 82) (hl.add (t := 83) (hl.add (t := 84) (hl.nil) rfl) rfl) rfl) rfl) rfl) rfl) rfl) rfl) rfl) rfl) rfl) rfl; clear hl; have hl := hl2; clear hl2
                obtain ⟨lQ, hlQ⟩ : ∃ x9, x9 = mput q.l (ek u.w hk9 u.e) (.int .i64 (zV q.l (ek u.w hk9 u.e) + 1)) := ⟨_, rfl⟩
                rw [← hlQ] at hh
                have hJ3 : NJ (floF ls) (ls.take y.i) u ((tasksB u.s).take (q.i + 1)) sg lQ := by rw [hlQ, show zV q.l (ek u.w hk9 u.e) + 1 = zV q.l (ek u.w hk9 u.e) + sg by omega]; exact hJ2
                have hlQ2 : lQ.length ≤ 16 * y.i + (q.i + 1) := by rw [hlQ]; have := mput_len q.l (ek u.w hk9 u.e) (.int .i64 (zV q.l (ek u.w hk9 u.e) + 1)); omega
                refine blk_normal ?_
                refine then_normal ?_
                refine c_region ?_
                first | refine wl (wl_val hl rfl trivial (r_add hl rfl rfl (by simp only [Fits]; omega)) ?_) | refine wl (wl_val hl rfl trivial (r_addW hl rfl rfl) ?_)
                clear hl a; intro a hl
                refine wl (wl_val hl rfl trivial (r_move hl rfl) ?_)
                clear hl a; intro a hl
                refine w_nil ?_
                have hl2 := hl.add (t := 4) (hl.add (t := 5) (hl.add (t := 8) (hl.add (t := 10) (hl.add (t := 11) (hl.add (t := 12) (hl.add (t := 54) (hl.add (t := 55) (hl.add (t := 56) (hl.add (t := 82) (hl.add (t := 83) (hl.add (t := 84) (hl.nil) rfl) rfl) rfl) rfl) rfl) rfl) rfl) rfl) rfl) rfl) rfl) rfl; clear hl; have hl := hl2; clear hl2
                refine then_normal ?_
                refine ⟨⟨lQ, q.i + 1⟩, (by simp only; omega), ⟨by simp only; omega, hJ3, hlQ2⟩, hl.addE (t := 84) (hl.addE (t := 4) (hl.addE (t := 5) (hl.addE (t := 8) (hl.addE (t := 10) (hl.addE (t := 11) (hl.addE (t := 12) (hl.addE (t := 54) (hl.addE (t := 55) (hl.addE (t := 56) (hl.addE (t := 82) (hl.addE (t := 83) (hl.nil) rfl (by first | rfl | exact congrArg (Value.int .i64) (by first | omega | (simp only; omega)))) rfl (by first | rfl | exact congrArg (Value.int .i64) (by first | omega | (simp only; omega)))) rfl (by first | rfl | exact congrArg (Value.int .i64) (by first | omega | (simp only; omega)))) rfl (by first | rfl | exact congrArg (Value.int .i64) (by first | omega | (simp only; omega)))) rfl (by first | rfl | exact congrArg (Value.int .i64) (by first | omega | (simp only; omega)))) rfl (by first | rfl | exact congrArg (Value.int .i64) (by first | omega | (simp only; omega)))) rfl (by first | rfl | exact congrArg (Value.int .i64) (by first | omega | (simp only; omega)))) rfl (by first | rfl | exact congrArg (Value.int .i64) (by first | omega | (simp only; omega)))) rfl (by first | rfl | exact congrArg (Value.int .i64) (by first | omega | (simp only; omega)))) rfl (by first | rfl | exact congrArg (Value.int .i64) (by first | omega | (simp only; omega)))) rfl (by first | rfl | exact congrArg (Value.int .i64) (by first | omega | (simp only; omega)))) rfl (by first | rfl | exact congrArg (Value.int .i64) (by first | omega | (simp only; omega))), hh.keep (by repeat (first | exact keeps_nil | apply keeps_cons (by repeat (first | exact find_head | apply find_tail | apply find_skip)) (by first  | rfl) | exact keeps_self | exact keeps_left | apply keeps_app | apply keeps_mv | apply keeps_skip))⟩
            · intro hc5
              try simp only [decide_eq_true_eq, decide_eq_false_iff_not, Bool.not_eq_true', Bool.not_eq_false', Bool.not_eq_true, Bool.not_eq_false, Bool.and_eq_true, Bool.or_eq_true, Bool.and_eq_false_iff, Bool.or_eq_false_iff, Bool.not_not, ne_eq, Int.not_lt, Int.not_le, Decidable.not_not, beq_iff_eq, bne_iff_ne] at hc5
              have hs1 : sg = -1 := by omega
              refine c_draw [] [9] mixed hh ?_
              clear hh w; intro w hh
              have hM : Mem [] w := Mem.nil
              refine d_take (i := 0) hl rfl (by kernel_rfl) (by kernel_rfl) (by kernel_rfl) (by kernel_rfl) (by kernel_rfl) rfl trivial (fun _ _ _ h => h) hM (fun w hC => r_move hl rfl) rfl ?_
              clear hl a; intro a hl
              refine d_take (i := 1) hl rfl (by kernel_rfl) (by kernel_rfl) (by kernel_rfl) (by kernel_rfl) (by kernel_rfl) rfl trivial (fun _ _ _ h => h) hM (fun w hC => r_move hl rfl) rfl ?_
              clear hl a; intro a hl
              refine d_take (i := 2) hl rfl (by kernel_rfl) (by kernel_rfl) (by kernel_rfl) (by kernel_rfl) (by kernel_rfl) rfl trivial (fun _ _ _ h => h) hM (fun w hC => r_move hl rfl) rfl ?_
              clear hl a; intro a hl
              refine d_take (i := 3) hl rfl (by kernel_rfl) (by kernel_rfl) (by kernel_rfl) (by kernel_rfl) (by kernel_rfl) rfl trivial (fun _ _ _ h => h) hM (fun w hC => r_move hl rfl) rfl ?_
              clear hl a; intro a hl
              refine d_take (i := 4) hl rfl (by kernel_rfl) (by kernel_rfl) (by kernel_rfl) (by kernel_rfl) (by kernel_rfl) rfl trivial (fun _ _ _ h => h) hM (fun w hC => r_build hl rfl zero142 bld142 (by simp only [fillL, setL, List.getElem?_cons_zero, List.getElem?_cons_succ, Value.cells, List.take_zero, List.take_succ_cons, List.take_nil, List.drop_zero, List.drop_succ_cons, List.drop_nil, List.length_cons, List.length_nil, List.cons_append, List.nil_append, List.append_nil, Nat.zero_add, Nat.add_zero, Nat.reduceAdd, Nat.reduceBEq, Nat.reduceEqDiff, Nat.ble, BEq.rfl, Bool.and_true, Bool.and_self, cond_true, beq_self_eq_true]; rfl)) rfl ?_
              clear hl a; intro a hl
              rw [ek_eq huw hkl ⟨by omega, by omega⟩] at hl
              refine d_two (i := 5) (j := 7) (by kernel_rfl) rfl rfl ?_ ?_
              ·
                try clear hM
                refine id (w_lookup key142 Tryz.underlying139 zero3 hl hh rfl trivial rfl rfl (by repeat (first | exact find_head | apply find_tail | apply find_skip)) ?_)
                clear hl a; intro a hl
                rw [hJ.mz.look] at hl
                try rw [mget_same] at hl
                have hM : Mem [] w := Mem.nil
                refine d_step (fun _ => hM) ?_
                first | refine d_take (i := 6) hl rfl (by kernel_rfl) (by kernel_rfl) (by kernel_rfl) (by kernel_rfl) (by kernel_rfl) rfl trivial (fun _ _ _ h => h) hM (fun w hC => r_sub hl rfl rfl (by simp only [Fits]; omega)) rfl ?_ | refine d_take (i := 6) hl rfl (by kernel_rfl) (by kernel_rfl) (by kernel_rfl) (by kernel_rfl) (by kernel_rfl) rfl trivial (fun _ _ _ h => h) hM (fun w hC => r_subW hl rfl rfl) rfl ?_
                clear hl a; intro a hl
                refine d_one (i := 7) (by kernel_rfl) rfl ?_
                try clear hM
                refine id (w_mapEntry key142 Tryz.underlying139 zero3 hl hh rfl trivial rfl rfl (by repeat (first | exact find_head | apply find_tail | apply find_skip)) ?_)
                clear hl hh a w; intro i107 hi107 a w hl hh
                have hM : Mem [] w := Mem.nil
                refine d_step (fun _ => hM) ?_
                refine d_take (i := 8) hl rfl (by kernel_rfl) (by kernel_rfl) (by kernel_rfl) (by kernel_rfl) (by kernel_rfl) rfl trivial (fun _ _ _ h => h) hM (fun w hC => r_extract hl rfl (by simp only [List.getElem?_toArray, List.getElem?_cons_zero, List.getElem?_cons_succ]; rfl)) rfl ?_
                clear hl a; intro a hl
                refine d_one (i := 9) (by kernel_rfl) rfl ?_
                try clear hM
                refine id (w_entryStore hi107 hl hh trivial rfl rfl rfl (by repeat (first | exact find_head | apply find_tail | apply find_skip)) ?_)
                clear hh w; intro w hh; rw [mput_mput] at hh
                refine d_step (fun h => absurd h (by decide)) ?_
                refine d_done (by kernel_rfl) ?_
                try clear hM
                have hl2 := hl.add (t := 4) (hl.add (t := 5) (hl.add (t := 8) (hl.add (t := 10) (hl.add (t := 11) (hl.add (t := 12) (hl.add (t := 54) (hl.add (t := 55) (hl.add (t := 56) (hl.add (t := 82) (hl.add (t := 83) (hl.add (t := 84) (hl.nil) rfl) rfl) rfl) rfl) rfl) rfl) rfl) rfl) rfl) rfl) rfl) rfl; clear hl; have hl := hl2; clear hl2
                obtain ⟨lQ, hlQ⟩ : ∃ x9, x9 = mput q.l (ek u.w hk9 u.e) (.int .i64 (zV q.l (ek u.w hk9 u.e) - 1)) := ⟨_, rfl⟩
                rw [← hlQ] at hh
                have hJ3 : NJ (floF ls) (ls.take y.i) u ((tasksB u.s).take (q.i + 1)) sg lQ := by rw [hlQ, show zV q.l (ek u.w hk9 u.e) - 1 = zV q.l (ek u.w hk9 u.e) + sg by omega]; exact hJ2
                have hlQ2 : lQ.length ≤ 16 * y.i + (q.i + 1) := by rw [hlQ]; have := mput_len q.l (ek u.w hk9 u.e) (.int .i64 (zV q.l (ek u.w hk9 u.e) - 1)); omega
                refine blk_normal ?_
                refine then_normal ?_
                refine c_region ?_
                first | refine wl (wl_val hl rfl trivial (r_add hl rfl rfl (by simp only [Fits]; omega)) ?_) | refine wl (wl_val hl rfl trivial (r_addW hl rfl rfl) ?_)
                clear hl a; intro a hl
                refine wl (wl_val hl rfl trivial (r_move hl rfl) ?_)
                clear hl a; intro a hl
                refine w_nil ?_
                have hl2 := hl.add (t := 4) (hl.add (t := 5) (hl.add (t := 8) (hl.add (t := 10) (hl.add (t := 11) (hl.add (t := 12) (hl.add (t := 54) (hl.add (t := 55) (hl.add (t := 56) (hl.add (t := 82) (hl.add (t := 83) (hl.add (t := 84) (hl.nil) rfl) rfl) rfl) rfl) rfl) rfl) rfl) rfl) rfl) rfl) rfl) rfl; clear hl; have hl := hl2; clear hl2
                refine then_normal ?_
                refine ⟨⟨lQ, q.i + 1⟩, (by simp only; omega), ⟨by simp only; omega, hJ3, hlQ2⟩, hl.addE (t := 84) (hl.addE (t := 4) (hl.addE (t := 5) (hl.addE (t := 8) (hl.addE (t := 10) (hl.addE (t := 11) (hl.addE (t := 12) (hl.addE (t := 54) (hl.addE (t := 55) (hl.addE (t := 56) (hl.addE (t := 82) (hl.addE (t := 83) (hl.nil) rfl (by first | rfl | exact congrArg (Value.int .i64) (by first | omega | (simp only; omega)))) rfl (by first | rfl | exact congrArg (Value.int .i64) (by first | omega | (simp only; omega)))) rfl (by first | rfl | exact congrArg (Value.int .i64) (by first | omega | (simp only; omega)))) rfl (by first | rfl | exact congrArg (Value.int .i64) (by first | omega | (simp only; omega)))) rfl (by first | rfl | exact congrArg (Value.int .i64) (by first | omega | (simp only; omega)))) rfl (by first | rfl | exact congrArg (Value.int .i64) (by first | omega | (simp only; omega)))) rfl (by first | rfl | exact congrArg (Value.int .i64) (by first | omega | (simp only; omega)))) rfl (by first | rfl | exact congrArg (Value.int .i64) (by first | omega | (simp only; omega)))) rfl (by first | rfl | exact congrArg (Value.int .i64) (by first | omega | (simp only; omega)))) rfl (by first | rfl | exact congrArg (Value.int .i64) (by first | omega | (simp only; omega)))) rfl (by first | rfl | exact congrArg (Value.int .i64) (by first | omega | (simp only; omega)))) rfl (by first | rfl | exact congrArg (Value.int .i64) (by first | omega | (simp only; omega))), hh.keep (by repeat (first | exact keeps_nil | apply keeps_cons (by repeat (first | exact find_head | apply find_tail | apply find_skip)) (by first  | rfl) | exact keeps_self | exact keeps_left | apply keeps_app | apply keeps_mv | apply keeps_skip))⟩
              ·
                try clear hM
                refine id (w_mapEntry key142 Tryz.underlying139 zero3 hl hh rfl trivial rfl rfl (by repeat (first | exact find_head | apply find_tail | apply find_skip)) ?_)
                clear hl hh a w; intro i107 hi107 a w hl hh
                have hM : Mem [] w := Mem.nil
                refine d_step (fun _ => hM) ?_
                refine d_take (i := 8) hl rfl (by kernel_rfl) (by kernel_rfl) (by kernel_rfl) (by kernel_rfl) (by kernel_rfl) rfl trivial (fun _ _ _ h => h) hM (fun w hC => r_extract hl rfl (by simp only [List.getElem?_toArray, List.getElem?_cons_zero, List.getElem?_cons_succ]; rfl)) rfl ?_
                clear hl a; intro a hl
                refine d_one (i := 5) (by kernel_rfl) rfl ?_
                try clear hM
                refine id (w_lookup key142 Tryz.underlying139 zero3 hl hh rfl trivial rfl rfl (by repeat (first | exact find_head | apply find_tail | apply find_skip)) ?_)
                clear hl a; intro a hl
                rw [hJ.mz.look] at hl
                try rw [mget_same] at hl
                have hM : Mem [] w := Mem.nil
                refine d_step (fun _ => hM) ?_
                first | refine d_take (i := 6) hl rfl (by kernel_rfl) (by kernel_rfl) (by kernel_rfl) (by kernel_rfl) (by kernel_rfl) rfl trivial (fun _ _ _ h => h) hM (fun w hC => r_sub hl rfl rfl (by simp only [Fits]; omega)) rfl ?_ | refine d_take (i := 6) hl rfl (by kernel_rfl) (by kernel_rfl) (by kernel_rfl) (by kernel_rfl) (by kernel_rfl) rfl trivial (fun _ _ _ h => h) hM (fun w hC => r_subW hl rfl rfl) rfl ?_
                clear hl a; intro a hl
                refine d_one (i := 9) (by kernel_rfl) rfl ?_
                try clear hM
                refine id (w_entryStore hi107 hl hh trivial rfl rfl rfl (by repeat (first | exact find_head | apply find_tail | apply find_skip)) ?_)
                clear hh w; intro w hh; rw [mput_mput] at hh
                refine d_step (fun h => absurd h (by decide)) ?_
                refine d_done (by kernel_rfl) ?_
                try clear hM
                have hl2 := hl.add (t := 4) (hl.add (t := 5) (hl.add (t := 8) (hl.add (t := 10) (hl.add (t := 11) (hl.add (t := 12) (hl.add (t := 54) (hl.add (t := 55) (hl.add (t := 56) (hl.add (t := 82) (hl.add (t := 83) (hl.add (t := 84) (hl.nil) rfl) rfl) rfl) rfl) rfl) rfl) rfl) rfl) rfl) rfl) rfl) rfl; clear hl; have hl := hl2; clear hl2
                obtain ⟨lQ, hlQ⟩ : ∃ x9, x9 = mput q.l (ek u.w hk9 u.e) (.int .i64 (zV q.l (ek u.w hk9 u.e) - 1)) := ⟨_, rfl⟩
                rw [← hlQ] at hh
                have hJ3 : NJ (floF ls) (ls.take y.i) u ((tasksB u.s).take (q.i + 1)) sg lQ := by rw [hlQ, show zV q.l (ek u.w hk9 u.e) - 1 = zV q.l (ek u.w hk9 u.e) + sg by omega]; exact hJ2
                have hlQ2 : lQ.length ≤ 16 * y.i + (q.i + 1) := by rw [hlQ]; have := mput_len q.l (ek u.w hk9 u.e) (.int .i64 (zV q.l (ek u.w hk9 u.e) - 1)); omega
                refine blk_normal ?_
                refine then_normal ?_
                refine c_region ?_
                first | refine wl (wl_val hl rfl trivial (r_add hl rfl rfl (by simp only [Fits]; omega)) ?_) | refine wl (wl_val hl rfl trivial (r_addW hl rfl rfl) ?_)
                clear hl a; intro a hl
                refine wl (wl_val hl rfl trivial (r_move hl rfl) ?_)
                clear hl a; intro a hl
                refine w_nil ?_
                have hl2 := hl.add (t := 4) (hl.add (t := 5) (hl.add (t := 8) (hl.add (t := 10) (hl.add (t := 11) (hl.add (t := 12) (hl.add (t := 54) (hl.add (t := 55) (hl.add (t := 56) (hl.add (t := 82) (hl.add (t := 83) (hl.add (t := 84) (hl.nil) rfl) rfl) rfl) rfl) rfl) rfl) rfl) rfl) rfl) rfl) rfl) rfl; clear hl; have hl := hl2; clear hl2
                refine then_normal ?_
                refine ⟨⟨lQ, q.i + 1⟩, (by simp only; omega), ⟨by simp only; omega, hJ3, hlQ2⟩, hl.addE (t := 84) (hl.addE (t := 4) (hl.addE (t := 5) (hl.addE (t := 8) (hl.addE (t := 10) (hl.addE (t := 11) (hl.addE (t := 12) (hl.addE (t := 54) (hl.addE (t := 55) (hl.addE (t := 56) (hl.addE (t := 82) (hl.addE (t := 83) (hl.nil) rfl (by first | rfl | exact congrArg (Value.int .i64) (by first | omega | (simp only; omega)))) rfl (by first | rfl | exact congrArg (Value.int .i64) (by first | omega | (simp only; omega)))) rfl (by first | rfl | exact congrArg (Value.int .i64) (by first | omega | (simp only; omega)))) rfl (by first | rfl | exact congrArg (Value.int .i64) (by first | omega | (simp only; omega)))) rfl (by first | rfl | exact congrArg (Value.int .i64) (by first | omega | (simp only; omega)))) rfl (by first | rfl | exact congrArg (Value.int .i64) (by first | omega | (simp only; omega)))) rfl (by first | rfl | exact congrArg (Value.int .i64) (by first | omega | (simp only; omega)))) rfl (by first | rfl | exact congrArg (Value.int .i64) (by first | omega | (simp only; omega)))) rfl (by first | rfl | exact congrArg (Value.int .i64) (by first | omega | (simp only; omega)))) rfl (by first | rfl | exact congrArg (Value.int .i64) (by first | omega | (simp only; omega)))) rfl (by first | rfl | exact congrArg (Value.int .i64) (by first | omega | (simp only; omega)))) rfl (by first | rfl | exact congrArg (Value.int .i64) (by first | omega | (simp only; omega))), hh.keep (by repeat (first | exact keeps_nil | apply keeps_cons (by repeat (first | exact find_head | apply find_tail | apply find_skip)) (by first  | rfl) | exact keeps_self | exact keeps_left | apply keeps_app | apply keeps_mv | apply keeps_skip))⟩
          · intro hc4
            try simp only [decide_eq_true_eq, decide_eq_false_iff_not, Bool.not_eq_true', Bool.not_eq_false', Bool.not_eq_true, Bool.not_eq_false, Bool.and_eq_true, Bool.or_eq_true, Bool.and_eq_false_iff, Bool.or_eq_false_iff, Bool.not_not, ne_eq, Int.not_lt, Int.not_le, Decidable.not_not, beq_iff_eq, bne_iff_ne] at hc4
            have hq9 : (tasksB u.s).length ≤ q.i := by omega
            rw [List.take_of_length_le hq9] at hJ
            have hN2 : NI (floF ls) (ls.take (y.i + 1)) q.l := by rw [take_snoc hm0]; exact hJ.out hu hfu hsg
            obtain ⟨lE, hlE⟩ : ∃ x9, x9 = q.l := ⟨_, rfl⟩
            rw [← hlE] at hN2 hh
            have hlE2 : lE.length ≤ 16 * (y.i + 1) := by rw [hlE]; omega
            refine wp_exit ?_
            refine then_exit ?_
            refine then_exit ?_
            refine blk_exit ?_
            refine blk_normal ?_
            refine then_normal ?_
            refine c_region ?_
            first | refine wl (wl_val hl rfl trivial (r_add hl rfl rfl (by simp only [Fits]; omega)) ?_) | refine wl (wl_val hl rfl trivial (r_addW hl rfl rfl) ?_)
            clear hl a; intro a hl
            refine wl (wl_val hl rfl trivial (r_move hl rfl) ?_)
            clear hl a; intro a hl
            refine w_nil ?_
            have hl2 := hl.add (t := 4) (hl.add (t := 5) (hl.add (t := 8) (hl.add (t := 54) (hl.add (t := 55) (hl.add (t := 56) (hl.nil) rfl) rfl) rfl) rfl) rfl) rfl; clear hl; have hl := hl2; clear hl2
            refine then_normal ?_
            refine ⟨⟨lE, y.i + 1⟩, (by simp only; omega), ⟨by simp only; omega, hN2, hlE2⟩, hl.addE (t := 56) (hl.addE (t := 4) (hl.addE (t := 5) (hl.addE (t := 8) (hl.addE (t := 54) (hl.addE (t := 55) (hl.nil) rfl (by first | rfl | exact congrArg (Value.int .i64) (by first | omega | (simp only; omega)))) rfl (by first | rfl | exact congrArg (Value.int .i64) (by first | omega | (simp only; omega)))) rfl (by first | rfl | exact congrArg (Value.int .i64) (by first | omega | (simp only; omega)))) rfl (by first | rfl | exact congrArg (Value.int .i64) (by first | omega | (simp only; omega)))) rfl (by first | rfl | exact congrArg (Value.int .i64) (by first | omega | (simp only; omega)))) rfl (by first | rfl | exact congrArg (Value.int .i64) (by first | omega | (simp only; omega))), hh.keep (by repeat (first | exact keeps_nil | apply keeps_cons (by repeat (first | exact find_head | apply find_tail | apply find_skip)) (by first  | rfl) | exact keeps_self | exact keeps_left | apply keeps_app | apply keeps_mv | apply keeps_skip))⟩
    · intro hc2
      try simp only [decide_eq_true_eq, decide_eq_false_iff_not, Bool.not_eq_true', Bool.not_eq_false', Bool.not_eq_true, Bool.not_eq_false, Bool.and_eq_true, Bool.or_eq_true, Bool.and_eq_false_iff, Bool.or_eq_false_iff, Bool.not_not, ne_eq, Int.not_lt, Int.not_le, Decidable.not_not, beq_iff_eq, bne_iff_ne] at hc2
      have hy9 : ls.length ≤ y.i := by omega
      rw [List.take_of_length_le hy9] at hN
      refine wp_exit ?_
      refine then_exit ?_
      refine then_exit ?_
      refine blk_exit ?_
      refine then_normal ?_
      refine c_seq ?_
      refine c_seq ?_
      refine c_region ?_
      refine wl (wl_val hl rfl trivial (r_move hl rfl) ?_)
      clear hl a; intro a hl
      refine wl (w_range Tryz.underlying139 hl hh rfl trivial rfl (by repeat (first | exact find_head | apply find_tail | apply find_skip)) ?_)
      clear hl hh a w; intro k112 a w hl hh
      refine w_nil ?_
      have hl2 := hl.add (t := 4) (hl.add (t := 5) (hl.add (t := 112) (hl.nil) rfl) rfl) rfl; clear hl; have hl := hl2; clear hl2
      refine then_normal ?_
      refine wp_block ?_
      obtain ⟨KS3, hKS3, hk⟩ := (hl.add (t := 4) (hl.add (t := 5) (hl.add (t := 112) (hl.nil) rfl) rfl) rfl).name
      obtain ⟨HS3, hHS3, hh2⟩ := hh.nameT (A := [(k5, C (arrL 17 (shV (floF ls) (.slice none 0 0))) 46), (k112, IT k48 y.l.length [])]) (U := []) (keeps_cons (b := k5) (o' := C (arrL 17 (shV (floF ls) (.slice none 0 0))) 46) (by repeat (first | exact find_head | apply find_tail | apply find_skip)) (by first | rfl) (keeps_cons (b := k112) (o' := IT k48 y.l.length []) (by repeat (first | exact find_head | apply find_tail | apply find_skip)) (by first | rfl) ((by repeat (first | exact keeps_nil | exact keeps_self | exact keeps_left | apply keeps_app | apply keeps_mv | apply keeps_skip)))))
      refine c_loop (α := R5) (fun r => y.l.length - r.seen.length) (fun r a w => (SnE y.l r.seen r.es ∧ Row r.v r.es.length (fl egc r.es) 4 102 r.E) ∧ Sl 139 ([] ++ KS3) a ∧ Has _ w0 ([(k5, C (arrL 17 (shV (floF ls) r.v)) 46), (k112, IT k48 y.l.length r.seen)] ++ (HS3 ++ r.E)) w) ⟨[], [], .slice none 0 0, []⟩ ⟨⟨SnE.start _, Row.nil _ _⟩, hk, hh2⟩ ?_
      clear hk hh2 hl hh a w
      intro r a w hI
      obtain ⟨⟨hS, hRr⟩, hl, hh⟩ := hI
      subst hKS3; subst hHS3
      simp only [List.cons_append, List.nil_append, List.append_nil, List.append_assoc] at hl hh
      refine c_seq ?_
      refine c_region ?_
      refine wl (w_next hl hh rfl trivial rfl (by repeat (first | exact find_head | apply find_tail | apply find_skip)) (by repeat (first | exact find_head | apply find_tail | apply find_skip)) ?_ ?_)
      ·
        intro hall; clear hl a; intro a hl
        refine wl (wl_val hl rfl trivial (r_extract hl rfl (by simp only [List.getElem?_toArray, List.getElem?_cons_zero, List.getElem?_cons_succ]; rfl)) ?_)
        clear hl a; intro a hl
        refine w_nil ?_
        have hl2 := hl.add (t := 4) (hl.add (t := 5) (hl.add (t := 112) (hl.add (t := 114) (hl.nil) rfl) rfl) rfl) rfl; clear hl; have hl := hl2; clear hl2
        refine then_normal ?_
        refine c_seq ?_
        refine c_condF hl rfl ?_
        refine wp_exit ?_
        refine then_exit ?_
        refine then_exit ?_
        refine blk_exit ?_
        refine then_normal ?_
        refine c_seq ?_
        refine c_region ?_
        refine wl (wl_val hl rfl trivial (r_field hl rfl fld46_1) ?_)
        clear hl a; intro a hl
        first | refine wl (w_load hl hh rfl trivial one44 rfl (by repeat (first | exact find_head | apply find_tail | apply find_skip)) (by first | exact sh_fl huw | exact sh_ed | exact tk_at hkx | rfl | rfl) ?_) | refine wl (w_loadR hl hh rfl trivial one44 rfl hmD (by simp) (md_got hc) ?_)
        clear hl a; intro a hl
        refine wl (wl_val hl rfl trivial (r_makeInterface hl rfl conc44) ?_)
        clear hl a; intro a hl
        refine wl (wl_val hl rfl trivial (r_makeFunc hl rfl) ?_)
        clear hl a; intro a hl
        refine wl (w_call hl hh rfl trivial rfl cal61 rfl (sort_spec r.es (by have := hS.len; have := hS.slen; omega) r.v r.E hRr k5 (arrL 17 (shV (floF ls) r.v)) sh_ed) (by repeat (first | exact keeps_nil | apply keeps_cons (by repeat (first | exact find_head | apply find_tail | apply find_skip)) (by first  | rfl) | exact keeps_self | exact keeps_left | apply keeps_app | apply keeps_mv | apply keeps_skip)) trivial ?_)
        clear hl hh a w; intro vc Fc a w hR hl hh
        obtain ⟨rfl, es', E', hp9, hso, hRs, hF9⟩ := hR
        try simp only [List.cons_append, List.nil_append, List.append_assoc, List.append_nil] at hh
        subst hF9
        try simp only [List.append_assoc, List.cons_append, List.nil_append] at hh
        refine w_nil ?_
        have hl2 := hl.add (t := 4) (hl.add (t := 5) (hl.nil) rfl) rfl; clear hl; have hl := hl2; clear hl2
        refine then_normal ?_
        refine c_seq ?_
        refine c_region ?_
        first | refine wl (w_loadA hl hh rfl trivial agg46 rfl (by repeat (first | exact find_head | apply find_tail | apply find_skip)) (by exact sh_whole _) (by exact arrL_length _ _) ?_) | refine wl (w_loadRA hl hh rfl trivial agg46 rfl hmb (by simp) hrd rfl ?_)
        clear hl a; intro a hl
        refine wl (w_storeA hl hh trivial agg46 rfl rfl (by repeat (first | exact find_head | apply find_tail | apply find_skip)) (by exact arrL_length _ _) (by first | exact Nat.le_of_eq (arrL_length _ _).symm | (rw [arrL_length]; exact Nat.le_refl _)) (by exact arrL_all (fun j => ite_one hRs.one rfl)) (by exact setL_whole (by rw [arrL_length, arrL_length])) ?_)
        clear hh w; intro w hh
        refine w_nil ?_
        have hl2 := hl.add (t := 4) (hl.nil) rfl; clear hl; have hl := hl2; clear hl2
        refine then_normal ?_
        refine wp_ret ?_
        refine f_retC (F' := E') hl hh rfl rfl agg46 (by repeat (first | exact find_head | apply find_tail | apply find_skip)) (by first | rfl | exact arrL_length _ _ | (simp; done)) (by repeat (first | exact keeps_nil | apply keeps_cons (by repeat (first | exact find_head | apply find_tail | apply find_skip)) (by first  | rfl) | exact keeps_self | exact keeps_left | apply keeps_app | apply keeps_mv | apply keeps_skip)) ?_
        have hfin := shard_fin hG (by omega) hR0.go hc (by rw [← hlsv]; exact hN) hS hall hp9 hso
        refine ⟨r.v, congrArg (fun x => Value.agg ⟨x⟩) (by rw [hlsv]; exact shV_flK hR0.go hc _), ?_⟩
        rw [← hfin]
        exact hRs
      ·
        intro j113 p113 hjn113 hn113; clear hl hh a w; intro a w hl hh
        have hsl1 := hS.len
        have hsl2 := hS.slen
        refine wl (wl_val hl rfl trivial (r_extract hl rfl (by simp only [List.getElem?_toArray, List.getElem?_cons_zero, List.getElem?_cons_succ]; rfl)) ?_)
        clear hl a; intro a hl
        refine w_nil ?_
        have hl2 := hl.add (t := 4) (hl.add (t := 5) (hl.add (t := 112) (hl.add (t := 114) (hl.nil) rfl) rfl) rfl) rfl; clear hl; have hl := hl2; clear hl2
        refine then_normal ?_
        refine c_seq ?_
        refine c_condT hl rfl ?_
        refine wp_skip ?_
        refine then_normal ?_
        refine wp_block ?_
        refine c_seq ?_
        refine c_region ?_
        refine wl (w_entry hjn113 hl hh rfl trivial rfl (by repeat (first | exact find_head | apply find_tail | apply find_skip)) (by repeat (first | exact find_head | apply find_tail | apply find_skip)) ?_)
        clear hl a; intro a hl
        refine wl (wl_val hl rfl trivial (r_extract hl rfl (by simp only [List.getElem?_toArray, List.getElem?_cons_zero, List.getElem?_cons_succ]; rfl)) ?_)
        clear hl a; intro a hl
        refine wl (wl_val hl rfl trivial (r_extract hl rfl (by simp only [List.getElem?_toArray, List.getElem?_cons_zero, List.getElem?_cons_succ]; rfl)) ?_)
        clear hl a; intro a hl
        rw [hN.mz.sh p113 (List.mem_of_getElem? hjn113)] at hl
        refine wl (w_alloc hl hh rfl trivial zero142 rfl ?_)
        clear hl hh a w; intro k15 a w hl hh
        refine wl (w_storeA hl hh trivial agg142 rfl rfl (by repeat (first | exact find_head | apply find_tail | apply find_skip)) (by first | rfl | (simp; done) | rfl) (by first | (simp; done) | (simp; omega) | (rw [arrL_length]; omega)) (by first | rfl | (simp; done) | rfl) (by first | exact sh_sfl huw | exact sh_sed | (simp only [setL, List.getElem?_cons_zero, List.getElem?_cons_succ, Value.cells, List.take_zero, List.take_succ_cons, List.take_nil, List.drop_zero, List.drop_succ_cons, List.drop_nil, List.length_cons, List.length_nil, List.cons_append, List.nil_append, List.append_nil, Nat.zero_add, Nat.add_zero, Nat.reduceAdd, Nat.reduceBEq, Nat.reduceEqDiff, Nat.ble, BEq.rfl, Bool.and_true, Bool.and_self, cond_true, beq_self_eq_true]; rfl)) ?_)
        clear hh w; intro w hh
        refine wl (wl_val hl rfl trivial (r_assign hl rfl) ?_)
        clear hl a; intro a hl
        refine w_nil ?_
        have hl2 := hl.add (t := 4) (hl.add (t := 5) (hl.add (t := 15) (hl.add (t := 16) (hl.add (t := 112) (hl.nil) rfl) rfl) rfl) rfl) rfl; clear hl; have hl := hl2; clear hl2
        refine then_normal ?_
        refine c_seq ?_
        refine c_region ?_
        refine wl (wl_val hl rfl trivial (r_move hl rfl) ?_)
        clear hl a; intro a hl
        refine wl (wl_val hl rfl trivial (r_neq hl rfl rfl) ?_)
        clear hl a; intro a hl
        refine w_nil ?_
        have hl2 := hl.add (t := 4) (hl.add (t := 5) (hl.add (t := 15) (hl.add (t := 16) (hl.add (t := 112) (hl.add (t := 119) (hl.nil) rfl) rfl) rfl) rfl) rfl) rfl; clear hl; have hl := hl2; clear hl2
        refine then_normal ?_
        refine c_cond hl rfl ?_ ?_
        · intro hc7
          try simp only [decide_eq_true_eq, decide_eq_false_iff_not, Bool.not_eq_true', Bool.not_eq_false', Bool.not_eq_true, Bool.not_eq_false, Bool.and_eq_true, Bool.or_eq_true, Bool.and_eq_false_iff, Bool.or_eq_false_iff, Bool.not_not, ne_eq, Int.not_lt, Int.not_le, Decidable.not_not, beq_iff_eq, bne_iff_ne] at hc7
          refine c_region ?_
          refine wl (wl_val hl rfl trivial (r_field hl rfl fld46_1) ?_)
          clear hl a; intro a hl
          first | refine wl (w_load hl hh rfl trivial one44 rfl (by repeat (first | exact find_head | apply find_tail | apply find_skip)) (by first | exact sh_fl huw | exact sh_ed | exact tk_at hkx | rfl | rfl) ?_) | refine wl (w_loadR hl hh rfl trivial one44 rfl hmD (by simp) (md_got hc) ?_)
          clear hl a; intro a hl
          refine wl (wl_val hl rfl trivial (r_field hl rfl fld142_0) ?_)
          clear hl a; intro a hl
          first | refine wl (w_load hl hh rfl trivial one57 rfl (by repeat (first | exact find_head | apply find_tail | apply find_skip)) (by first | exact sh_fl huw | exact sh_ed | exact tk_at hkx | rfl | rfl) ?_) | refine wl (w_loadR hl hh rfl trivial one57 rfl hmD (by simp) (md_got hc) ?_)
          clear hl a; intro a hl
          refine wl (wl_val hl rfl trivial (r_field hl rfl fld142_1) ?_)
          clear hl a; intro a hl
          first | refine wl (w_load hl hh rfl trivial one57 rfl (by repeat (first | exact find_head | apply find_tail | apply find_skip)) (by first | exact sh_fl huw | exact sh_ed | exact tk_at hkx | rfl | rfl) ?_) | refine wl (w_loadR hl hh rfl trivial one57 rfl hmD (by simp) (md_got hc) ?_)
          clear hl a; intro a hl
          refine wl (wl_val hl rfl trivial (r_field hl rfl fld142_2) ?_)
          clear hl a; intro a hl
          first | refine wl (w_load hl hh rfl trivial one42 rfl (by repeat (first | exact find_head | apply find_tail | apply find_skip)) (by first | exact sh_fl huw | exact sh_ed | exact tk_at hkx | rfl | rfl) ?_) | refine wl (w_loadR hl hh rfl trivial one42 rfl hmD (by simp) (md_got hc) ?_)
          clear hl a; intro a hl
          refine wl (wl_val hl rfl trivial (r_move hl rfl) ?_)
          clear hl a; intro a hl
          refine wl (wl_val hl rfl trivial (r_build hl rfl zero102 bld102 (by simp only [fillL, setL, List.getElem?_cons_zero, List.getElem?_cons_succ, Value.cells, List.take_zero, List.take_succ_cons, List.take_nil, List.drop_zero, List.drop_succ_cons, List.drop_nil, List.length_cons, List.length_nil, List.cons_append, List.nil_append, List.append_nil, Nat.zero_add, Nat.add_zero, Nat.reduceAdd, Nat.reduceBEq, Nat.reduceEqDiff, Nat.ble, BEq.rfl, Bool.and_true, Bool.and_self, cond_true, beq_self_eq_true]; rfl)) ?_)
          clear hl a; intro a hl
          refine wl (w_buildSlice hl hh rfl trivial app44 zero102 rfl rfl rfl rfl rfl (by simp only [fillL, arrPl, List.range_succ, List.range_zero, List.map_cons, List.map_nil, List.map_append, List.nil_append, List.replicate_succ, List.replicate_zero, List.flatten_cons, List.flatten_nil, Nat.zero_mul, Nat.mul_one, Nat.one_mul, Nat.reduceMul, setL, List.getElem?_cons_zero, List.getElem?_cons_succ, Value.cells, List.take_zero, List.take_succ_cons, List.take_nil, List.drop_zero, List.drop_succ_cons, List.drop_nil, List.length_cons, List.length_nil, List.cons_append, List.nil_append, List.append_nil, Nat.zero_add, Nat.add_zero, Nat.reduceAdd, Nat.reduceBEq, Nat.reduceEqDiff, Nat.ble, BEq.rfl, Bool.and_true, Bool.and_self, cond_true, beq_self_eq_true]; rfl) ?_)
          clear hl hh a w; intro k130 a w hl hh
          refine wl (w_append (news := (egc (egOf p113))) hl hh rfl trivial app44 rfl rfl rfl hRr (by repeat (first | exact keeps_nil | apply keeps_cons (by repeat (first | exact find_head | apply find_tail | apply find_skip)) (by first  | rfl) | exact keeps_self | exact keeps_left | apply keeps_app | apply keeps_mv | apply keeps_skip)) (hh.mem _ _ (Find.mem (by repeat (first | exact find_head | apply find_tail | apply find_skip)))) rfl rfl rfl (by have := hS.len; have := hS.slen; omega) (by omega) (by omega) (by decide) ?_)
          clear hl hh a w; intro rv2 E2 a w hR2 hl hh
          have hh3 := hh.comm; clear hh; have hh := hh3; clear hh3
          try simp only [List.cons_append, List.nil_append, List.append_assoc, List.append_nil] at hh
          refine wl (wl_val hl rfl trivial (r_field hl rfl fld46_1) ?_)
          clear hl a; intro a hl
          refine wl (w_store hl hh trivial one44 rfl rfl (by repeat (first | exact find_head | apply find_tail | apply find_skip)) (by first | (simp; done) | (simp; omega) | (rw [arrL_length]; omega)) (by first | rfl | assumption | (apply Row.one; assumption)) (by first | exact sh_sfl huw | exact sh_sed | (simp only [setL, List.getElem?_cons_zero, List.getElem?_cons_succ, Value.cells, List.take_zero, List.take_succ_cons, List.take_nil, List.drop_zero, List.drop_succ_cons, List.drop_nil, List.length_cons, List.length_nil, List.cons_append, List.nil_append, List.append_nil, Nat.zero_add, Nat.add_zero, Nat.reduceAdd, Nat.reduceBEq, Nat.reduceEqDiff, Nat.ble, BEq.rfl, Bool.and_true, Bool.and_self, cond_true, beq_self_eq_true]; rfl)) ?_)
          clear hh w; intro w hh
          refine w_nil ?_
          have hl2 := hl.add (t := 4) (hl.add (t := 5) (hl.add (t := 112) (hl.nil) rfl) rfl) rfl; clear hl; have hl := hl2; clear hl2
          obtain ⟨esE, hesE⟩ : ∃ x9, x9 = r.es ++ [egOf p113] := ⟨_, rfl⟩
          obtain ⟨vE, hvE⟩ : ∃ x9, x9 = rv2 := ⟨_, rfl⟩
          obtain ⟨EE, hEE⟩ : ∃ x9, x9 = E2 := ⟨_, rfl⟩
          have hRE : Row vE esE.length (fl egc esE) 4 102 EE := by rw [hesE, hvE, hEE]; exact eg_row hR2
          have hSE : SnE y.l (r.seen ++ [j113]) esE := by rw [hesE]; exact hS.take hN.mz hjn113 hn113 (by assumption)
          rw [← hvE, ← hEE] at hh
          refine blk_normal ?_
          refine then_normal ?_
          refine ⟨⟨r.seen ++ [j113], esE, vE, EE⟩, (by have := hSE.slen; rw [List.length_append] at this; simp only [List.length_append, List.length_cons, List.length_nil] at this ⊢; omega), ⟨hSE, hRE⟩, hl.addE (t := 4) (hl.addE (t := 5) (hl.addE (t := 112) (hl.nil) rfl (by first | rfl | (congr 1; omega))) rfl (by first | rfl | (congr 1; omega))) rfl (by first | rfl | (congr 1; omega)), hh.keep (by repeat (first | exact keeps_nil | apply keeps_cons (by repeat (first | exact find_head | apply find_tail | apply find_skip)) (by first  | rfl) | exact keeps_self | exact keeps_left | apply keeps_app | apply keeps_mv | apply keeps_skip))⟩
        · intro hc7
          try simp only [decide_eq_true_eq, decide_eq_false_iff_not, Bool.not_eq_true', Bool.not_eq_false', Bool.not_eq_true, Bool.not_eq_false, Bool.and_eq_true, Bool.or_eq_true, Bool.and_eq_false_iff, Bool.or_eq_false_iff, Bool.not_not, ne_eq, Int.not_lt, Int.not_le, Decidable.not_not, beq_iff_eq, bne_iff_ne] at hc7
          obtain ⟨esE, hesE⟩ : ∃ x9, x9 = r.es := ⟨_, rfl⟩
          obtain ⟨vE, hvE⟩ : ∃ x9, x9 = r.v := ⟨_, rfl⟩
          obtain ⟨EE, hEE⟩ : ∃ x9, x9 = r.E := ⟨_, rfl⟩
          have hRE : Row vE esE.length (fl egc esE) 4 102 EE := by rw [hesE, hvE, hEE]; exact hRr
          have hSE : SnE y.l (r.seen ++ [j113]) esE := by rw [hesE]; exact hS.skip hjn113 hn113 (by omega)
          rw [← hvE, ← hEE] at hh
          refine wp_skip ?_
          refine blk_normal ?_
          refine then_normal ?_
          refine ⟨⟨r.seen ++ [j113], esE, vE, EE⟩, (by have := hSE.slen; rw [List.length_append] at this; simp only [List.length_append, List.length_cons, List.length_nil] at this ⊢; omega), ⟨hSE, hRE⟩, hl.addE (t := 4) (hl.addE (t := 5) (hl.addE (t := 112) (hl.nil) rfl (by first | rfl | (congr 1; omega))) rfl (by first | rfl | (congr 1; omega))) rfl (by first | rfl | (congr 1; omega)), hh.keep (by repeat (first | exact keeps_nil | apply keeps_cons (by repeat (first | exact find_head | apply find_tail | apply find_skip)) (by first  | rfl) | exact keeps_self | exact keeps_left | apply keeps_app | apply keeps_mv | apply keeps_skip))⟩
end Go.Proofs.Qxb6500911aGreatDoor

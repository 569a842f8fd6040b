import Derived.Test.Qxb6500907aR30
namespace Go.Proofs.Qxb6500907a
open Go.Eng
set_option linter.unusedVariables false
set_option linter.unusedSimpArgs false
theorem cal25 : callable Try.prog 25 = true := by kernel_rfl
theorem agg114 : aggOk Try.prog 114 256 = true := by kernel_rfl
attribute [local irreducible] tabX

set_option maxHeartbeats 4000000 in
theorem cloneM (kn : Nat) (N : Nw) (P : Pl) (Z : List (Nat × Obj)) (hZ : NetM kn N P Z) (hP : POk P) : SpK Try.prog 46 #[.pointer (some ⟨kn, 0, none⟩)] (Mem Z) [] (fun v F' => ∃ kn' N' f, v = .pointer (some ⟨kn', 0, none⟩) ∧ NwR N' P ∧ (∀ d, d < 16 → RowA (N'.av d) (P.al d) (f d)) ∧ F' = OwnM kn' N' f) := by
  refine f_enter (args := [.pointer (some ⟨kn, 0, none⟩)]) Try.func46 rfl Try.ntmps46 rfl ?_
  intro w0 w a hpre hl hh
  have hm0 := hpre _ _ hZ.blk
  unfold Nw.cells at hm0
  have hN := hZ.nr
  simp only [slotsFrom, Nat.reduceAdd] at hl
  refine c_seq ?_
  refine c_region ?_
  refine wl (wl_val hl rfl trivial (r_assign hl rfl) ?_)
  clear hl a; intro a hl
  refine w_nil ?_
  have hl2 := hl.add (t := 0) (hl.nil) rfl; clear hl; have hl := hl2; clear hl2
  refine then_normal ?_
  refine c_seq ?_
  refine c_region ?_
  refine wl (w_call hl hh rfl trivial rfl cal25 rfl (newM) (by repeat (first | exact keeps_nil | apply keeps_cons (by repeat (first | exact find_head | apply find_tail)) (by first  | rfl) | exact keeps_self | exact keeps_left | exact keeps_right | exact keeps_swap | apply keeps_mv)) trivial ?_)
  clear hl hh a w; intro vc Fc a w hR hl hh
  obtain ⟨kn2, mb2, rfl, rfl⟩ := hR
  try simp only [List.cons_append, List.nil_append] at hh
  rw [mpB_tab ⟨mb2, nilV, fun _ => [], fun _ => 0, noB, noB⟩] at hh
  refine wl (wl_val hl rfl trivial (r_assign hl rfl) ?_)
  clear hl a; intro a hl
  refine w_nil ?_
  have hl2 := hl.add (t := 0) (hl.add (t := 3) (hl.nil) rfl) rfl; clear hl; have hl := hl2; clear hl2
  refine then_normal ?_
  refine c_seq ?_
  refine c_seq ?_
  refine c_region ?_
  refine wl (wl_val hl rfl trivial (r_move hl rfl) ?_)
  clear hl a; intro a hl
  refine w_nil ?_
  have hl2 := hl.add (t := 0) (hl.add (t := 3) (hl.add (t := 8) (hl.nil) rfl) rfl) rfl; clear hl; have hl := hl2; clear hl2
  refine then_normal ?_
  refine wp_block ?_
  obtain ⟨KS0, hKS0, hk⟩ := (hl.add (t := 0) (hl.add (t := 3) (hl.nil) rfl) rfl).name
  obtain ⟨HS0, hHS0, hh2⟩ := hh.nameT (A := [(kn2, C (arrL 544 (nmC (mvF (Cp0 mb2).N.mb) (Cp0 mb2).N.av noB noB)) 116)]) (U := tabX (nwB (Cp0 mb2).N (Cp0 mb2).f)) (keeps_cons (b := kn2) (o' := C (arrL 544 (nmC (mvF (Cp0 mb2).N.mb) (Cp0 mb2).N.av noB noB)) 116) (by repeat (first | exact find_head | apply find_tail)) (by first | rfl) ((by repeat (first | exact keeps_nil | exact keeps_self | exact keeps_swap | apply keeps_mv))))
  refine c_loop (α := CpS) (fun s => 16 - s.i) (fun s a w => (KI P mb2 s) ∧ Sl 59 ([(8, .int .i64 (s.i : Int))] ++ KS0) a ∧ Has _ w0 ([(kn2, C (arrL 544 (nmC (mvF s.N.mb) s.N.av noB noB)) 116)] ++ (HS0 ++ tabX (nwB s.N s.f))) w) (Cp0 mb2) ⟨KI.zero P mb2, hl.addE (t := 8) (hk) rfl (by first | rfl), hh2⟩ ?_
  clear hk hh2 hl hh a w
  intro s a w hI
  obtain ⟨hI, hl, hh⟩ := hI
  subst hKS0; subst hHS0
  simp only [List.cons_append, List.nil_append, List.append_nil] at hl hh
  have hi := hI.hi
  refine c_seq ?_
  refine c_region ?_
  refine wl (wl_val hl rfl trivial (r_lss hl rfl rfl) ?_)
  clear hl a; intro a hl
  refine w_nil ?_
  have hl2 := hl.add (t := 0) (hl.add (t := 3) (hl.add (t := 8) (hl.add (t := 9) (hl.nil) rfl) rfl) rfl) rfl; clear hl; have hl := hl2; clear hl2
  refine then_normal ?_
  refine c_seq ?_
  refine c_cond hl rfl ?_ ?_
  · intro hc0
    try simp only [decide_eq_true_eq, decide_eq_false_iff_not, Bool.not_eq_true', Bool.not_eq_false', Bool.not_eq_true, Bool.not_eq_false, Bool.and_eq_true, Bool.or_eq_true, Bool.and_eq_false_iff, Bool.or_eq_false_iff, Bool.not_not, ne_eq, Int.not_lt, Int.not_le, Decidable.not_not, beq_iff_eq, bne_iff_ne] at hc0
    have hi9 : s.i < 16 := by omega
    have hkn := (hN.dr s.i hi9).keys (hP.srt s.i hi9) (hP.rr s.i hi9)
    obtain ⟨Ea, hRa, hEa⟩ := hZ.acl s.i hi9
    have hlen9 := hP.len s.i hi9
    replace hh := has_pullA (A := [_]) hi9 hh
    rw [dev_here hI] at hh
    simp only [List.cons_append, List.nil_append] at hh
    refine wp_skip ?_
    refine then_normal ?_
    refine c_seq ?_
    refine wp_block ?_
    refine c_seq ?_
    refine c_region ?_
    refine wl (wl_val hl rfl trivial (r_move hl rfl) ?_)
    clear hl a; intro a hl
    refine wl (wl_val hl rfl trivial (r_assign hl rfl) ?_)
    clear hl a; intro a hl
    refine w_nil ?_
    have hl2 := hl.add (t := 0) (hl.add (t := 3) (hl.add (t := 4) (hl.add (t := 8) (hl.nil) rfl) rfl) rfl) rfl; clear hl; have hl := hl2; clear hl2
    refine then_normal ?_
    refine c_seq ?_
    refine c_seq ?_
    refine c_region ?_
    refine wl (wl_val hl rfl trivial (r_move hl rfl) ?_)
    clear hl a; intro a hl
    refine wl (wl_val hl rfl trivial (r_move hl rfl) ?_)
    clear hl a; intro a hl
    refine wl (wl_val hl rfl trivial (r_nilCheck hl rfl) ?_)
    clear hl a; intro a hl
    refine wl (wl_val hl rfl trivial (r_field hl rfl fld116_0) ?_)
    clear hl a; intro a hl
    refine wl (wl_val hl rfl trivial (r_indexA hl rfl rfl arr111 (by omega) (by omega) (by first | (simp only [Int.reduceToNat]; rfl) | exact toNat_add1 _ | exact toNat_add2 _ _ | exact toNat_emod _ _ | exact Int.toNat_natCast _ | rfl)) ?_)
    clear hl a; intro a hl
    first | refine wl (w_load hl hh rfl trivial one110 rfl (by repeat (first | exact find_head | apply find_tail)) (by exact nm_mb (by omega)) ?_) | refine wl (w_loadR hl hh rfl trivial one110 rfl hm0 (by simp) (nm_mb hi9) ?_)
    clear hl a; intro a hl
    refine wl (w_rangeD Try.underlying110 hl hh rfl trivial rfl (heap_keep hh (hpre _ _ (hZ.map s.i hi9))) ?_)
    clear hl hh a w; intro k17 a w hl hh
    refine w_nil ?_
    have hl2 := hl.add (t := 0) (hl.add (t := 3) (hl.add (t := 4) (hl.add (t := 8) (hl.add (t := 17) (hl.nil) rfl) rfl) rfl) rfl) rfl; clear hl; have hl := hl2; clear hl2
    refine then_normal ?_
    refine wp_block ?_
    obtain ⟨KS1, hKS1, hk⟩ := (hl.add (t := 0) (hl.add (t := 3) (hl.add (t := 4) (hl.add (t := 8) (hl.add (t := 17) (hl.nil) rfl) rfl) rfl) rfl) rfl).name
    obtain ⟨HS1, hHS1, hh2⟩ := hh.name (keeps_cons (b := k17) (o' := IT (N.mb s.i) (N.nb s.i) []) (by repeat (first | exact find_head | apply find_tail)) (by first | rfl) (keeps_cons (b := (s.N.mb s.i)) (o' := MD pkV [] 0) (by repeat (first | exact find_head | apply find_tail)) (by first | rfl) (keeps_nil)))
    refine c_loop (α := List (ME PK) × List (ME PK)) (fun z => (N.rs s.i).length - z.1.length) (fun z a w => (CpI (N.rs s.i) z.1 z.2) ∧ Sl 59 ([] ++ KS1) a ∧ Has _ w0 ([(k17, IT (N.mb s.i) (N.nb s.i) (z.1.map ME.bo)), ((s.N.mb s.i), MD pkV z.2 z.2.length)] ++ HS1) w) ([], []) ⟨CpI.nil _, hk, hh2⟩ ?_
    clear hk hh2 hl hh a w
    intro z a w hI
    obtain ⟨hC, hl, hh⟩ := hI
    subst hKS1; subst hHS1
    simp only [List.cons_append, List.nil_append, List.append_nil] at hl hh
    refine c_seq ?_
    refine c_region ?_
    refine wl (w_nextD (hN.dr s.i hi9).lt hl hh rfl trivial rfl (by repeat (first | exact find_head | apply find_tail)) (heap_keep hh (hpre _ _ (hZ.map s.i hi9))) ?_ ?_)
    ·
      intro hall; clear hl a; intro a hl
      have hDz := hC.done (hN.dr s.i hi9) hall
      refine wl (wl_val hl rfl trivial (r_extract hl rfl (by simp only [List.getElem?_toArray, List.getElem?_cons_zero, List.getElem?_cons_succ]; rfl)) ?_)
      clear hl a; intro a hl
      refine w_nil ?_
      have hl2 := hl.add (t := 0) (hl.add (t := 3) (hl.add (t := 4) (hl.add (t := 8) (hl.add (t := 17) (hl.add (t := 19) (hl.nil) rfl) rfl) rfl) rfl) rfl) rfl; clear hl; have hl := hl2; clear hl2
      refine then_normal ?_
      refine c_seq ?_
      refine c_condF hl rfl ?_
      refine wp_exit ?_
      refine then_exit ?_
      refine then_exit ?_
      refine blk_exit ?_
      refine then_normal ?_
      refine c_draw [(kn, C (arrL 544 (nmC (mvF N.mb) N.av N.ifc N.lk)) 116)] [11, 12] mixed hh ?_
      clear hh w; intro w hh
      have hM : Mem [(kn, C (arrL 544 (nmC (mvF N.mb) N.av N.ifc N.lk)) 116)] w := (by (repeat (first | exact Mem.nil | refine Mem.consR hh (by assumption) (by simp) ?_ | refine Mem.cons hh.mem (by (repeat (first | exact find_head | apply find_tail)); done) ?_ | fail)); done)
      refine d_take (i := 0) hl rfl (by kernel_rfl) (by kernel_rfl) (by kernel_rfl) (by kernel_rfl) (by kernel_rfl) rfl trivial (fun _ _ _ h => h) hM (fun w hC => r_move hl rfl) rfl ?_
      clear hl a; intro a hl
      refine d_take (i := 1) hl rfl (by kernel_rfl) (by kernel_rfl) (by kernel_rfl) (by kernel_rfl) (by kernel_rfl) rfl trivial (fun _ _ _ h => h) hM (fun w hC => r_move hl rfl) rfl ?_
      clear hl a; intro a hl
      refine d_take (i := 2) hl rfl (by kernel_rfl) (by kernel_rfl) (by kernel_rfl) (by kernel_rfl) (by kernel_rfl) rfl trivial (fun _ _ _ h => h) hM (fun w hC => r_move hl rfl) rfl ?_
      clear hl a; intro a hl
      refine d_take (i := 3) hl rfl (by kernel_rfl) (by kernel_rfl) (by kernel_rfl) (by kernel_rfl) (by kernel_rfl) rfl trivial (fun _ _ _ h => h) hM (fun w hC => r_move hl rfl) rfl ?_
      clear hl a; intro a hl
      refine d_take (i := 4) hl rfl (by kernel_rfl) (by kernel_rfl) (by kernel_rfl) (by kernel_rfl) (by kernel_rfl) rfl trivial (fun _ _ _ h => h) hM (fun w hC => r_nilCheck hl rfl) rfl ?_
      clear hl a; intro a hl
      refine d_take (i := 5) hl rfl (by kernel_rfl) (by kernel_rfl) (by kernel_rfl) (by kernel_rfl) (by kernel_rfl) rfl trivial (fun _ _ _ h => h) hM (fun w hC => r_field hl rfl fld116_1) rfl ?_
      clear hl a; intro a hl
      refine d_take (i := 6) hl rfl (by kernel_rfl) (by kernel_rfl) (by kernel_rfl) (by kernel_rfl) (by kernel_rfl) rfl trivial (fun _ _ _ h => h) hM (fun w hC => r_indexA hl rfl rfl arr112 (by omega) (by omega) (by first | (simp only [Int.reduceToNat]; rfl) | exact toNat_add1 _ | exact toNat_add2 _ _ | exact toNat_emod _ _ | exact Int.toNat_natCast _ | rfl)) rfl ?_
      clear hl a; intro a hl
      refine d_take (i := 7) hl rfl (by kernel_rfl) (by kernel_rfl) (by kernel_rfl) (by kernel_rfl) (by kernel_rfl) rfl trivial (fun _ _ _ h => h) hM (fun w hC => r_loadC hl rfl one26 hC (by repeat (first | exact find_head | apply find_tail)) (by exact nm_av (by omega))) rfl ?_
      clear hl a; intro a hl
      refine d_take (i := 9) hl rfl (by kernel_rfl) (by kernel_rfl) (by kernel_rfl) (by kernel_rfl) (by kernel_rfl) rfl trivial (fun _ _ _ h => h) hM (fun w hC => r_nilCheck hl rfl) rfl ?_
      clear hl a; intro a hl
      refine d_take (i := 10) hl rfl (by kernel_rfl) (by kernel_rfl) (by kernel_rfl) (by kernel_rfl) (by kernel_rfl) rfl trivial (fun _ _ _ h => h) hM (fun w hC => r_field hl rfl fld116_1) rfl ?_
      clear hl a; intro a hl
      refine d_one (i := 8) (by kernel_rfl) rfl ?_
      try clear hM
      refine id (w_appendV hl hh rfl trivial app26 rfl rfl rfl (Row.nil _ _) keeps_nil (VwZ.of hRa) (fun b o m => heap_keep hh (hpre b o (hEa _ m))) (fl_all rl_one _) (by omega) (by omega) (by decide) ?_)
      clear hl hh a w; intro lv1 E1 a w hR1 hl hh
      have hh3 := hh.comm; clear hh; have hh := hh3; clear hh3
      simp only [List.cons_append, List.nil_append] at hh
      have hM : Mem [(kn, C (arrL 544 (nmC (mvF N.mb) N.av N.ifc N.lk)) 116)] w := (by (repeat (first | exact Mem.nil | refine Mem.consR hh (by assumption) (by simp) ?_ | refine Mem.cons hh.mem (by (repeat (first | exact find_head | apply find_tail)); done) ?_ | fail)); done)
      refine d_step (fun _ => hM) ?_
      refine d_takeL (i := 11) hl rfl (by kernel_rfl) (by kernel_rfl) (by kernel_rfl) (by kernel_rfl) (by kernel_rfl) rfl trivial (fun _ _ _ h => h) (fun w => r_indexA hl rfl rfl arr112 (by omega) (by omega) (by first | (simp only [Int.reduceToNat]; rfl) | exact toNat_add1 _ | exact toNat_add2 _ _ | exact toNat_emod _ _ | exact Int.toNat_natCast _ | rfl)) rfl ?_
      clear hl a; intro a hl
      refine d_one (i := 12) (by kernel_rfl) rfl ?_
      try clear hM
      refine id (w_store hl hh trivial one26 rfl rfl (by repeat (first | exact find_head | apply find_tail)) (by rw [arrL_length]; omega) (by first | rfl | assumption | (apply Row.one; assumption)) (by exact nm_sav (by omega)) ?_)
      clear hh w; intro w hh
      refine d_step (fun h => absurd h (by decide)) ?_
      refine d_done (by kernel_rfl) ?_
      try clear hM
      have hl2 := hl.add (t := 0) (hl.add (t := 3) (hl.add (t := 8) (hl.nil) rfl) rfl) rfl; clear hl; have hl := hl2; clear hl2
      refine blk_normal ?_
      refine then_normal ?_
      refine c_region ?_
      first | refine wl (wl_val hl rfl trivial (r_add hl rfl rfl (by simp only [Fits]; omega)) ?_) | refine wl (wl_val hl rfl trivial (r_addW hl rfl rfl) ?_)
      clear hl a; intro a hl
      refine wl (wl_val hl rfl trivial (r_move hl rfl) ?_)
      clear hl a; intro a hl
      refine w_nil ?_
      have hl2 := hl.add (t := 0) (hl.add (t := 3) (hl.add (t := 8) (hl.nil) rfl) rfl) rfl; clear hl; have hl := hl2; clear hl2
      refine then_normal ?_
      refine ⟨CpN s z.2 lv1 E1, (by show 16 - (s.i + 1) < 16 - s.i; omega), hI.next hi9 hDz (by simpa [RowA] using hR1), hl.addE (t := 8) (hl.addE (t := 0) (hl.addE (t := 3) (hl.nil) rfl (by first | rfl | rfl)) rfl (by first | rfl | rfl)) rfl (by first | rfl | rfl), (by have e9 : nwB (CpN s z.2 lv1 E1).N (CpN s z.2 lv1 E1).f = upd (nwB s.N s.f) s.i ((s.N.mb s.i, MD pkV z.2 z.2.length) :: E1) := nwB_upd s.N s.f s.i z.2 z.2.length _ _ _ E1; have h9 := own_put (x := (kn2, C (arrL 544 (nmC (mvF s.N.mb) (upd s.N.av s.i lv1) noB noB)) 116)) (y := (s.N.mb s.i, MD pkV z.2 z.2.length)) (g := nwB s.N s.f) (E := E1) hi9 hh (keeps_cons (by repeat (first | exact find_head | apply find_tail)) rfl (keeps_cons (by repeat (first | exact find_head | apply find_tail)) rfl (by repeat (first | exact keeps_self | apply keeps_mv)))); rw [← e9] at h9; exact h9)⟩
    ·
      intro p18 hjn18 hn18; clear hl hh a w; intro a w hl hh
      refine wl (wl_val hl rfl trivial (r_extract hl rfl (by simp only [List.getElem?_toArray, List.getElem?_cons_zero, List.getElem?_cons_succ]; rfl)) ?_)
      clear hl a; intro a hl
      refine w_nil ?_
      have hl2 := hl.add (t := 0) (hl.add (t := 3) (hl.add (t := 4) (hl.add (t := 8) (hl.add (t := 17) (hl.add (t := 19) (hl.nil) rfl) rfl) rfl) rfl) rfl) rfl; clear hl; have hl := hl2; clear hl2
      refine then_normal ?_
      refine c_seq ?_
      refine c_condT hl rfl ?_
      refine wp_skip ?_
      refine then_normal ?_
      refine wp_block ?_
      refine c_seq ?_
      refine c_region ?_
      refine wl (w_entryD hjn18 (hN.dr s.i hi9).nd hl hh rfl trivial rfl (by repeat (first | exact find_head | apply find_tail)) (heap_keep hh (hpre _ _ (hZ.map s.i hi9))) ?_)
      clear hl a; intro a hl
      refine wl (wl_val hl rfl trivial (r_extract hl rfl (by simp only [List.getElem?_toArray, List.getElem?_cons_zero, List.getElem?_cons_succ]; rfl)) ?_)
      clear hl a; intro a hl
      refine wl (wl_val hl rfl trivial (r_extract hl rfl (by simp only [List.getElem?_toArray, List.getElem?_cons_zero, List.getElem?_cons_succ]; rfl)) ?_)
      clear hl a; intro a hl
      refine wl (w_alloc hl hh rfl trivial zero51 rfl ?_)
      clear hl hh a w; intro k5 a w hl hh
      refine wl (w_storeA hl hh trivial agg51 rfl rfl (by repeat (first | exact find_head | apply find_tail)) (by first | rfl | (simp; done) | exact arrL_length _ _) (by first | (simp; done) | (simp; omega)) (by first | rfl | (simp; done) | exact bools_one _) (by first | (simp only [setL, List.getElem?_cons_zero, List.getElem?_cons_succ, Value.cells, List.take_zero, List.take_succ_cons, List.take_nil, List.drop_zero, List.drop_succ_cons, List.drop_nil, List.length_cons, List.length_nil, List.cons_append, List.nil_append, List.append_nil, Nat.zero_add, Nat.add_zero, Nat.reduceAdd, Nat.reduceBEq, Nat.reduceEqDiff, Nat.ble, BEq.rfl, Bool.and_true, Bool.and_self, cond_true, beq_self_eq_true]; rfl)) ?_)
      clear hh w; intro w hh
      refine wl (wl_val hl rfl trivial (r_assign hl rfl) ?_)
      clear hl a; intro a hl
      refine w_nil ?_
      have hl2 := hl.add (t := 0) (hl.add (t := 3) (hl.add (t := 4) (hl.add (t := 5) (hl.add (t := 6) (hl.add (t := 8) (hl.add (t := 17) (hl.nil) rfl) rfl) rfl) rfl) rfl) rfl) rfl; clear hl; have hl := hl2; clear hl2
      refine then_normal ?_
      refine c_draw [(kn2, C (arrL 544 (nmC (mvF s.N.mb) s.N.av noB noB)) 116), (k5, C (pkc p18.ky) 51)] [8] mixed hh ?_
      clear hh w; intro w hh
      have hM : Mem [(kn2, C (arrL 544 (nmC (mvF s.N.mb) s.N.av noB noB)) 116), (k5, C (pkc p18.ky) 51)] w := (by (repeat (first | exact Mem.nil | refine Mem.consR hh (by assumption) (by simp) ?_ | refine Mem.cons hh.mem (by (repeat (first | exact find_head | apply find_tail)); done) ?_ | fail)); done)
      refine d_take (i := 0) hl rfl (by kernel_rfl) (by kernel_rfl) (by kernel_rfl) (by kernel_rfl) (by kernel_rfl) rfl trivial (fun _ _ _ h => h) hM (fun w hC => r_move hl rfl) rfl ?_
      clear hl a; intro a hl
      refine d_take (i := 1) hl rfl (by kernel_rfl) (by kernel_rfl) (by kernel_rfl) (by kernel_rfl) (by kernel_rfl) rfl trivial (fun _ _ _ h => h) hM (fun w hC => r_move hl rfl) rfl ?_
      clear hl a; intro a hl
      refine d_take (i := 2) hl rfl (by kernel_rfl) (by kernel_rfl) (by kernel_rfl) (by kernel_rfl) (by kernel_rfl) rfl trivial (fun _ _ _ h => h) hM (fun w hC => r_nilCheck hl rfl) rfl ?_
      clear hl a; intro a hl
      refine d_take (i := 3) hl rfl (by kernel_rfl) (by kernel_rfl) (by kernel_rfl) (by kernel_rfl) (by kernel_rfl) rfl trivial (fun _ _ _ h => h) hM (fun w hC => r_field hl rfl fld116_0) rfl ?_
      clear hl a; intro a hl
      refine d_take (i := 4) hl rfl (by kernel_rfl) (by kernel_rfl) (by kernel_rfl) (by kernel_rfl) (by kernel_rfl) rfl trivial (fun _ _ _ h => h) hM (fun w hC => r_indexA hl rfl rfl arr111 (by omega) (by omega) (by first | (simp only [Int.reduceToNat]; rfl) | exact toNat_add1 _ | exact toNat_add2 _ _ | exact toNat_emod _ _ | exact Int.toNat_natCast _ | rfl)) rfl ?_
      clear hl a; intro a hl
      refine d_take (i := 5) hl rfl (by kernel_rfl) (by kernel_rfl) (by kernel_rfl) (by kernel_rfl) (by kernel_rfl) rfl trivial (fun _ _ _ h => h) hM (fun w hC => r_loadC hl rfl one110 hC (by repeat (first | exact find_head | apply find_tail)) (by exact nm_mb (by omega))) rfl ?_
      clear hl a; intro a hl
      refine d_take (i := 6) hl rfl (by kernel_rfl) (by kernel_rfl) (by kernel_rfl) (by kernel_rfl) (by kernel_rfl) rfl trivial (fun _ _ _ h => h) hM (fun w hC => r_loadCA hl rfl agg51 hC (by repeat (first | exact find_head | apply find_tail)) (by first | exact arrL_length _ _ | (simp only [List.getElem?_cons_zero, List.getElem?_cons_succ, Value.cells, List.take_zero, List.take_succ_cons, List.take_nil, List.drop_zero, List.drop_succ_cons, List.drop_nil, List.length_cons, List.length_nil, List.cons_append, List.nil_append, List.append_nil, Nat.zero_add, Nat.add_zero, Nat.reduceAdd, Nat.reduceBEq, Nat.reduceEqDiff, Nat.ble, BEq.rfl, Bool.and_true, Bool.and_self, cond_true, beq_self_eq_true]; rfl)) (by first | rfl | (simp; done))) rfl ?_
      clear hl a; intro a hl
      refine d_take (i := 7) hl rfl (by kernel_rfl) (by kernel_rfl) (by kernel_rfl) (by kernel_rfl) (by kernel_rfl) rfl trivial (fun _ _ _ h => h) hM (fun w hC => r_move hl rfl) rfl ?_
      clear hl a; intro a hl
      refine d_one (i := 8) (by kernel_rfl) rfl ?_
      try clear hM
      refine id (w_mapUpdD (ak := p18.ky) keyPK Try.underlying110 hl hh trivial rfl rfl rfl (by repeat (first | exact find_head | apply find_tail)) (hC.fresh hkn hjn18 hn18) ?_)
      clear hh w; intro w hh
      refine d_step (fun h => absurd h (by decide)) ?_
      refine d_done (by kernel_rfl) ?_
      try clear hM
      have hl2 := hl.add (t := 0) (hl.add (t := 3) (hl.add (t := 4) (hl.add (t := 8) (hl.add (t := 17) (hl.nil) rfl) rfl) rfl) rfl) rfl; clear hl; have hl := hl2; clear hl2
      refine blk_normal ?_
      refine then_normal ?_
      refine ⟨(z.1 ++ [p18], z.2 ++ [⟨p18.ky, p18.vl, z.2.length⟩]), (by have := hC.lt hjn18 hn18; simp only [List.length_append, List.length_singleton]; omega), hC.step hjn18 hn18, hl.addE (t := 0) (hl.addE (t := 3) (hl.addE (t := 4) (hl.addE (t := 8) (hl.addE (t := 17) (hl.nil) rfl (by first | rfl | (congr 1; omega))) rfl (by first | rfl | (congr 1; omega))) rfl (by first | rfl | (congr 1; omega))) rfl (by first | rfl | (congr 1; omega))) rfl (by first | rfl | (congr 1; omega)), hh.keep (by repeat (first | exact keeps_nil | apply keeps_cons (by repeat (first | exact find_head | apply find_tail)) (by first  | (rw [List.map_append]; rfl) | (rw [List.length_append]; rfl) | rfl) | exact keeps_self | exact keeps_left | exact keeps_right | exact keeps_swap | apply keeps_mv))⟩
  · intro hc0
    try simp only [decide_eq_true_eq, decide_eq_false_iff_not, Bool.not_eq_true', Bool.not_eq_false', Bool.not_eq_true, Bool.not_eq_false, Bool.and_eq_true, Bool.or_eq_true, Bool.and_eq_false_iff, Bool.or_eq_false_iff, Bool.not_not, ne_eq, Int.not_lt, Int.not_le, Decidable.not_not, beq_iff_eq, bne_iff_ne] at hc0
    refine wp_exit ?_
    refine then_exit ?_
    refine then_exit ?_
    refine blk_exit ?_
    refine then_normal ?_
    refine c_seq ?_
    refine c_region ?_
    refine wl (wl_val hl rfl trivial (r_move hl rfl) ?_)
    clear hl a; intro a hl
    refine wl (wl_val hl rfl trivial (r_move hl rfl) ?_)
    clear hl a; intro a hl
    refine wl (wl_val hl rfl trivial (r_nilCheck hl rfl) ?_)
    clear hl a; intro a hl
    refine wl (wl_val hl rfl trivial (r_field hl rfl fld116_2) ?_)
    clear hl a; intro a hl
    first | refine wl (w_loadA hl hh rfl trivial agg114 rfl (by repeat (first | exact find_head | apply find_tail)) (by exact nm_ifb) (by rfl) ?_) | refine wl (w_loadRA hl hh rfl trivial agg114 rfl hm0 (by simp) nm_ifb (arrL_length _ _) ?_) | refine wl (w_loadRA hl hh rfl trivial agg114 rfl hm0 (by simp) nm_lkb (arrL_length _ _) ?_)
    clear hl a; intro a hl
    refine wl (wl_val hl rfl trivial (r_nilCheck hl rfl) ?_)
    clear hl a; intro a hl
    refine wl (wl_val hl rfl trivial (r_field hl rfl fld116_2) ?_)
    clear hl a; intro a hl
    refine wl (w_storeA hl hh trivial agg114 rfl rfl (by repeat (first | exact find_head | apply find_tail)) (by first | rfl | (simp; done) | exact arrL_length _ _) (by rw [arrL_length]; omega) (by first | rfl | (simp; done) | exact bools_one _) (by exact nm_sifb) ?_)
    clear hh w; intro w hh
    refine w_nil ?_
    have hl2 := hl.add (t := 0) (hl.add (t := 3) (hl.nil) rfl) rfl; clear hl; have hl := hl2; clear hl2
    refine then_normal ?_
    refine c_seq ?_
    refine c_region ?_
    refine wl (wl_val hl rfl trivial (r_move hl rfl) ?_)
    clear hl a; intro a hl
    refine wl (wl_val hl rfl trivial (r_move hl rfl) ?_)
    clear hl a; intro a hl
    refine wl (wl_val hl rfl trivial (r_nilCheck hl rfl) ?_)
    clear hl a; intro a hl
    refine wl (wl_val hl rfl trivial (r_field hl rfl fld116_3) ?_)
    clear hl a; intro a hl
    first | refine wl (w_loadA hl hh rfl trivial agg114 rfl (by repeat (first | exact find_head | apply find_tail)) (by exact nm_lkb) (by rfl) ?_) | refine wl (w_loadRA hl hh rfl trivial agg114 rfl hm0 (by simp) nm_ifb (arrL_length _ _) ?_) | refine wl (w_loadRA hl hh rfl trivial agg114 rfl hm0 (by simp) nm_lkb (arrL_length _ _) ?_)
    clear hl a; intro a hl
    refine wl (wl_val hl rfl trivial (r_nilCheck hl rfl) ?_)
    clear hl a; intro a hl
    refine wl (wl_val hl rfl trivial (r_field hl rfl fld116_3) ?_)
    clear hl a; intro a hl
    refine wl (w_storeA hl hh trivial agg114 rfl rfl (by repeat (first | exact find_head | apply find_tail)) (by first | rfl | (simp; done) | exact arrL_length _ _) (by rw [arrL_length]; omega) (by first | rfl | (simp; done) | exact bools_one _) (by exact nm_slkb) ?_)
    clear hh w; intro w hh
    refine w_nil ?_
    have hl2 := hl.add (t := 3) (hl.nil) rfl; clear hl; have hl := hl2; clear hl2
    refine then_normal ?_
    refine c_seq ?_
    refine c_region ?_
    refine wl (wl_val hl rfl trivial (r_move hl rfl) ?_)
    clear hl a; intro a hl
    refine wl (wl_val hl rfl trivial (r_assign hl rfl) ?_)
    clear hl a; intro a hl
    refine w_nil ?_
    have hl2 := hl.add (t := 2) (hl.nil) rfl; clear hl; have hl := hl2; clear hl2
    refine then_normal ?_
    refine wp_ret ?_
    refine f_ret1 (F' := OwnM kn2 { s.N with ifc := N.ifc, lk := N.lk } s.f) hl hh rfl rfl (by repeat (first | exact keeps_nil | apply keeps_cons (by repeat (first | exact find_head | apply find_tail)) (by first  | rfl) | exact keeps_self | exact keeps_left | exact keeps_right | exact keeps_swap | apply keeps_mv)) ?_
    exact ⟨kn2, { s.N with ifc := N.ifc, lk := N.lk }, s.f, rfl, ⟨fun d hd => (hI.dn d (by omega)).1, hN.ib, hN.lb, hN.l8⟩, fun d hd => (hI.dn d (by omega)).2, rfl⟩
end Go.Proofs.Qxb6500907a

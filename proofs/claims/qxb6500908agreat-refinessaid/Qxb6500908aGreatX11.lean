import Derived.Test.Qxb6500908aGreatX10
namespace Go.Proofs.Qxb6500908aGreat
open Go.Eng
set_option linter.unusedVariables false
set_option linter.unusedSimpArgs false
theorem cal10 : callable Tryz.prog 10 = true := by kernel_rfl
theorem cal7 : callable Tryz.prog 7 = true := by kernel_rfl
theorem zero55 : zeroOk Tryz.prog 55 (.agg #[(.pointer none), (.pointer none), (.pointer none), (.pointer none), (.pointer none), (.pointer none), (.pointer none), (.pointer none), (.pointer none), (.pointer none), (.pointer none), (.pointer none), (.pointer none), (.pointer none), (.pointer none), (.pointer none), (.pointer none), (.pointer none), (.slice none 0 0), (.slice none 0 0), (.bool false)]) := by unfold zeroOk; kernel_rfl
theorem bld55 : buildOk Tryz.prog 55 [(0, 1), (1, 1), (2, 16), (18, 1), (19, 1), (20, 1)] = true := by kernel_rfl
theorem cal8 : callable Tryz.prog 8 = true := by kernel_rfl
theorem zero45 : zeroOk Tryz.prog 45 (.agg #[(.int .u8 0), (.int .i64 0), (.int .i64 0), (.slice none 0 0), (.int .u8 0), (.int .u8 0), (.int .u32 0), (.int .u32 0), (.bool false), (.int .u32 0), (.int .u32 0), (.string ⟨#[]⟩), (.int .u8 0), (.int .u8 0), (.int .u8 0), (.int .u8 0), (.int .u8 0), (.int .u8 0)]) := by unfold zeroOk; kernel_rfl
theorem cal11 : callable Tryz.prog 11 = true := by kernel_rfl
theorem cal12 : callable Tryz.prog 12 = true := by kernel_rfl
attribute [local irreducible] NtV.k StV.c LdV.c StV.E GtV.c GtV.t orB sh1 WoV.c wst postP

set_option maxHeartbeats 16000000 in
theorem play_spec {lb : Nat} (A : LawT lb) (Z : List (Nat × Obj)) (p0 : Option Addr) (n cap : Nat) (ops : List OpX) (hS : Scr Z p0 n cap ops) (hsn : n ≤ 65536) (hsm : ∀ y, y ∈ ops → y.1.tx.length ≤ 65536) : Sp Tryz.prog 5 #[.slice p0 n cap, .bool A.hn, Lw A.T lb] (A.F0 ++ Z) (fun v F' => v = .bool true ∧ ∃ (F2 : List (Nat × Obj)) (wb : Nat) (W' : WoV) (G : List (Nat × Obj)), F' = F2 ++ WoV.F wb W' (Z ++ G)) := by
  refine f_enter (args := [.slice p0 n cap, .bool A.hn, .iface A.T (.pointer (some ⟨lb, 0, none⟩))]) Tryz.func5 rfl Tryz.ntmps5 rfl ?_
  intro w0 w a hpre hl hh
  generalize hDD : List.map Prod.fst (A.F0 ++ Z) = D at hh ⊢
  simp only [slotsFrom, Nat.reduceAdd] at hl
  refine c_seq ?_
  refine c_region ?_
  refine wl (wl_val hl rfl trivial (r_assign hl rfl) ?_)
  clear hl a; intro a hl
  refine w_nil ?_
  have hl2 := hl.add (t := 0) (hl.add (t := 1) (hl.add (t := 2) (hl.nil) rfl) rfl) rfl; clear hl; have hl := hl2; clear hl2
  refine then_normal ?_
  refine c_seq ?_
  refine c_region ?_
  refine wl (w_call hl hh rfl trivial rfl cal7 rfl (lnew_spec Z) (by repeat (first | exact keeps_nil | apply keeps_cons (by repeat (first | exact find_head | apply find_tail | apply find_skip)) (by first  | rfl) | exact keeps_self | exact keeps_left | apply keeps_app | apply keeps_mv | apply keeps_skip)) trivial ?_)
  clear hl hh a w; intro vc Fc a w hR hl hh
  obtain ⟨lb0, l0, hl0, hl1, rfl, rfl⟩ := hR
  try simp only [List.cons_append, List.nil_append, List.append_assoc, List.append_nil] at hh
  simp only [LdV.F, List.cons_append] at hh
  refine wl (wl_val hl rfl trivial (r_move hl rfl) ?_)
  clear hl a; intro a hl
  refine wl (wl_val hl rfl trivial (r_build hl rfl zero55 bld55 (by simp only [fillL, setL, List.getElem?_cons_zero, List.getElem?_cons_succ, Value.cells, List.take_zero, List.take_succ_cons, List.take_nil, List.drop_zero, List.drop_succ_cons, List.drop_nil, List.length_cons, List.length_nil, List.cons_append, List.nil_append, List.append_nil, Nat.zero_add, Nat.add_zero, Nat.reduceAdd, Nat.reduceBEq, Nat.reduceEqDiff, Nat.ble, BEq.rfl, Bool.and_true, Bool.and_self, cond_true, beq_self_eq_true]; rfl)) ?_)
  clear hl a; intro a hl
  refine wl (w_box hl hh rfl trivial rfl rfl ?_)
  clear hl hh a w; intro k15 a w hl hh
  refine wl (wl_val hl rfl trivial (r_assign hl rfl) ?_)
  clear hl a; intro a hl
  refine w_nil ?_
  have hl2 := hl.add (t := 0) (hl.add (t := 2) (hl.add (t := 7) (hl.nil) rfl) rfl) rfl; clear hl; have hl := hl2; clear hl2
  refine then_normal ?_
  refine c_seq ?_
  refine c_seq ?_
  refine c_region ?_
  refine wl (wl_val hl rfl trivial (r_move hl rfl) ?_)
  clear hl a; intro a hl
  refine w_nil ?_
  have hl2 := hl.add (t := 0) (hl.add (t := 2) (hl.add (t := 7) (hl.add (t := 16) (hl.nil) rfl) rfl) rfl) rfl; clear hl; have hl := hl2; clear hl2
  refine then_normal ?_
  refine wp_block ?_
  obtain ⟨KS0, hKS0, hk⟩ := (hl.add (t := 0) (hl.add (t := 2) (hl.add (t := 7) (hl.nil) rfl) rfl) rfl).name
  obtain ⟨HS0, hHS0, hh2⟩ := hh.nameT (A := [(k15, C (wi lb0 A.hn []) 55)]) (U := ([] : List (Nat × Obj))) (keeps_cons (b := k15) (o' := C (wi lb0 A.hn []) 55) (by repeat (first | exact find_head | apply find_tail | apply find_skip)) (by first | rfl) (keeps_nil))
  refine c_loop (α := List (Nat × DeV)) (fun s => 16 - s.length) (fun s a w => (DnI s) ∧ Sl 91 ([(16, .int .i64 (s.length : Int))] ++ KS0) a ∧ Has _ w0 ([(k15, C (wi lb0 A.hn s) 55)] ++ (HS0 ++ (DsF s))) w) [] ⟨⟨Nat.zero_le _, fun y hy => (by cases hy), rfl⟩, hl.addE (t := 16) (hk) rfl (by first | rfl), hh2⟩ ?_
  clear hk hh2 hl hh a w
  intro s a w hI
  obtain ⟨hs, hl, hh⟩ := hI
  subst hKS0; subst hHS0
  simp only [List.cons_append, List.nil_append, List.append_nil, List.append_assoc] at hl hh
  have hsl := hs.l
  refine c_seq ?_
  refine c_region ?_
  refine wl (wl_val hl rfl trivial (r_lss hl rfl rfl) ?_)
  clear hl a; intro a hl
  refine w_nil ?_
  have hl2 := hl.add (t := 0) (hl.add (t := 2) (hl.add (t := 7) (hl.add (t := 16) (hl.add (t := 17) (hl.nil) rfl) rfl) rfl) rfl) rfl; clear hl; have hl := hl2; clear hl2
  refine then_normal ?_
  refine c_seq ?_
  refine c_cond hl rfl ?_ ?_
  · intro hc0
    try simp only [decide_eq_true_eq, decide_eq_false_iff_not, Bool.not_eq_true', Bool.not_eq_false', Bool.not_eq_true, Bool.not_eq_false, Bool.and_eq_true, Bool.or_eq_true, Bool.and_eq_false_iff, Bool.or_eq_false_iff, Bool.not_not, ne_eq, Int.not_lt, Int.not_le, Decidable.not_not, beq_iff_eq, bne_iff_ne] at hc0
    refine wp_skip ?_
    refine then_normal ?_
    refine c_seq ?_
    refine wp_block ?_
    refine c_seq ?_
    refine c_region ?_
    refine wl (wl_val hl rfl trivial (r_move hl rfl) ?_)
    clear hl a; intro a hl
    refine wl (wl_val hl rfl trivial (r_assign hl rfl) ?_)
    clear hl a; intro a hl
    refine w_nil ?_
    have hl2 := hl.add (t := 0) (hl.add (t := 2) (hl.add (t := 7) (hl.add (t := 8) (hl.add (t := 16) (hl.nil) rfl) rfl) rfl) rfl) rfl; clear hl; have hl := hl2; clear hl2
    refine then_normal ?_
    refine c_draw [] [10, 11] mixed hh ?_
    clear hh w; intro w hh
    have hM : Mem [] w := Mem.nil
    refine d_take (i := 0) hl rfl (by kernel_rfl) (by kernel_rfl) (by kernel_rfl) (by kernel_rfl) (by kernel_rfl) rfl trivial (fun _ _ _ h => h) hM (fun w hC => r_move hl rfl) rfl ?_
    clear hl a; intro a hl
    refine d_take (i := 1) hl rfl (by kernel_rfl) (by kernel_rfl) (by kernel_rfl) (by kernel_rfl) (by kernel_rfl) rfl trivial (fun _ _ _ h => h) hM (fun w hC => r_move hl rfl) rfl ?_
    clear hl a; intro a hl
    refine d_take (i := 2) hl rfl (by kernel_rfl) (by kernel_rfl) (by kernel_rfl) (by kernel_rfl) (by kernel_rfl) rfl trivial (fun _ _ _ h => h) hM (fun w hC => r_move hl rfl) rfl ?_
    clear hl a; intro a hl
    first | refine d_take (i := 3) hl rfl (by kernel_rfl) (by kernel_rfl) (by kernel_rfl) (by kernel_rfl) (by kernel_rfl) rfl trivial (fun _ _ _ h => h) hM (fun w hC => r_conv hl rfl Tryz.underlying3 Tryz.underlying5 (by simp only [Fits]; omega)) rfl ?_ | refine d_take (i := 3) hl rfl (by kernel_rfl) (by kernel_rfl) (by kernel_rfl) (by kernel_rfl) (by kernel_rfl) rfl trivial (fun _ _ _ h => h) hM (fun w hC => r_convW hl rfl Tryz.underlying3 Tryz.underlying5) rfl ?_
    clear hl a; intro a hl
    refine d_take (i := 4) hl rfl (by kernel_rfl) (by kernel_rfl) (by kernel_rfl) (by kernel_rfl) (by kernel_rfl) rfl trivial (fun _ _ _ h => h) hM (fun w hC => r_build (cs := nt0.k) hl rfl zero66 bld66 (by rw [← nk0]; rfl)) rfl ?_
    clear hl a; intro a hl
    rw [ntk_eq (nt0_ok Z)] at hl
    refine d_take (i := 5) hl rfl (by kernel_rfl) (by kernel_rfl) (by kernel_rfl) (by kernel_rfl) (by kernel_rfl) rfl trivial (fun _ _ _ h => h) hM (fun w hC => r_move hl rfl) rfl ?_
    clear hl a; intro a hl
    refine d_take (i := 8) hl rfl (by kernel_rfl) (by kernel_rfl) (by kernel_rfl) (by kernel_rfl) (by kernel_rfl) rfl trivial (fun _ _ _ h => h) hM (fun w hC => r_nilCheck hl rfl) rfl ?_
    clear hl a; intro a hl
    refine d_take (i := 9) hl rfl (by kernel_rfl) (by kernel_rfl) (by kernel_rfl) (by kernel_rfl) (by kernel_rfl) rfl trivial (fun _ _ _ h => h) hM (fun w hC => r_field hl rfl fld55_2) rfl ?_
    clear hl a; intro a hl
    refine d_one (i := 6) (by kernel_rfl) rfl ?_
    try clear hM
    refine id (w_call hl hh rfl trivial rfl cal9 rfl (slice_spec Z nt0 (nt0_ok Z) s.length (by omega)) (by repeat (first | exact keeps_nil | apply keeps_cons (by repeat (first | exact find_head | apply find_tail | apply find_skip)) (by first  | rfl) | exact keeps_self | exact keeps_left | apply keeps_app | apply keeps_mv | apply keeps_skip)) (memK hh (by repeat (first | exact keeps_nil | apply keeps_cons (by repeat (first | exact find_head | apply find_tail | apply find_skip)) (by first  | rfl) | exact keeps_self | exact keeps_left | apply keeps_app | apply keeps_mv | apply keeps_skip))) ?_)
    clear hl hh a w; intro vc Fc a w hR hl hh
    obtain ⟨rfl, rfl⟩ := hR
    try simp only [List.cons_append, List.nil_append, List.append_assoc, List.append_nil] at hh
    have hM : Mem [] w := Mem.nil
    refine d_step (fun _ => hM) ?_
    refine d_one (i := 7) (by kernel_rfl) rfl ?_
    try clear hM
    refine id (w_call hl hh rfl trivial rfl cal8 rfl (dnew_spec (s.length : Int) (slP nt0.pl s.length) (by omega)) (by repeat (first | exact keeps_nil | apply keeps_cons (by repeat (first | exact find_head | apply find_tail | apply find_skip)) (by first  | rfl) | exact keeps_self | exact keeps_left | apply keeps_app | apply keeps_mv | apply keeps_skip)) trivial ?_)
    clear hl hh a w; intro vc Fc a w hR hl hh
    obtain ⟨db, d, hdo, hdp, rfl, rfl⟩ := hR
    try simp only [List.cons_append, List.nil_append, List.append_assoc, List.append_nil] at hh
    simp only [DeV.F, List.cons_append, List.nil_append] at hh
    have hM : Mem [] w := Mem.nil
    refine d_step (fun _ => hM) ?_
    refine d_takeL (i := 10) hl rfl (by kernel_rfl) (by kernel_rfl) (by kernel_rfl) (by kernel_rfl) (by kernel_rfl) rfl trivial (fun _ _ _ h => h) (fun w => r_indexA hl rfl rfl arr52 (by omega) (by omega) (by first | (simp only [Int.reduceToNat]; rfl) | exact toNat_add1 _ | exact toNat_add2 _ _ | exact toNat_emod _ _ | exact Int.toNat_natCast _ | rfl)) rfl ?_
    clear hl a; intro a hl
    refine d_one (i := 11) (by kernel_rfl) rfl ?_
    try clear hM
    refine id (w_store hl hh trivial one51 rfl rfl (by repeat (first | exact find_head | apply find_tail | apply find_skip)) (by first | (simp; done) | (simp; omega) | (rw [wi_len (by omega)]; omega) | (rw [wi_len (by omega)]; simp; done)) (by first | rfl | assumption | (apply Row.one; assumption)) (by first | exact wi_set (by omega) _ d | (simp only [setL, List.getElem?_cons_zero, List.getElem?_cons_succ, Value.cells, List.take_zero, List.take_succ_cons, List.take_nil, List.drop_zero, List.drop_succ_cons, List.drop_nil, List.length_cons, List.length_nil, List.cons_append, List.nil_append, List.append_nil, Nat.zero_add, Nat.add_zero, Nat.reduceAdd, Nat.reduceBEq, Nat.reduceEqDiff, Nat.ble, BEq.rfl, Bool.and_true, Bool.and_self, cond_true, beq_self_eq_true]; rfl)) ?_)
    clear hh w; intro w hh
    refine d_step (fun h => absurd h (by decide)) ?_
    refine d_done (by kernel_rfl) ?_
    try clear hM
    have hl2 := hl.add (t := 0) (hl.add (t := 2) (hl.add (t := 7) (hl.add (t := 16) (hl.nil) rfl) rfl) rfl) rfl; clear hl; have hl := hl2; clear hl2
    refine blk_normal ?_
    refine then_normal ?_
    refine c_region ?_
    first | refine wl (wl_val hl rfl trivial (r_add hl rfl rfl (by simp only [Fits]; omega)) ?_) | refine wl (wl_val hl rfl trivial (r_addW hl rfl rfl) ?_)
    clear hl a; intro a hl
    refine wl (wl_val hl rfl trivial (r_move hl rfl) ?_)
    clear hl a; intro a hl
    refine w_nil ?_
    have hl2 := hl.add (t := 0) (hl.add (t := 2) (hl.add (t := 7) (hl.add (t := 16) (hl.nil) rfl) rfl) rfl) rfl; clear hl; have hl := hl2; clear hl2
    refine then_normal ?_
    refine ⟨s ++ [(db, d)], (by simp only [List.length_append, List.length_singleton]; omega), hs.next (by omega) hdo hdp, hl.addE (t := 16) (hl.addE (t := 0) (hl.addE (t := 2) (hl.addE (t := 7) (hl.nil) rfl (by first | rfl | (rw [List.length_append, List.length_singleton]; exact congrArg (Value.int .i64) (by omega)) | (congr 1; rw [List.length_append, List.length_singleton]; omega))) rfl (by first | rfl | (rw [List.length_append, List.length_singleton]; exact congrArg (Value.int .i64) (by omega)) | (congr 1; rw [List.length_append, List.length_singleton]; omega))) rfl (by first | rfl | (rw [List.length_append, List.length_singleton]; exact congrArg (Value.int .i64) (by omega)) | (congr 1; rw [List.length_append, List.length_singleton]; omega))) rfl (by first | rfl | (rw [List.length_append, List.length_singleton]; exact congrArg (Value.int .i64) (by omega)) | (congr 1; rw [List.length_append, List.length_singleton]; omega)), (by rw [dsF_snoc]; exact hh.keep (by repeat (first | exact keeps_nil | apply keeps_cons (by repeat (first | exact find_head | apply find_tail | apply find_skip)) (by first  | rfl) | exact keeps_self | exact keeps_left | apply keeps_app | apply keeps_mv | apply keeps_skip)))⟩
  · intro hc0
    try simp only [decide_eq_true_eq, decide_eq_false_iff_not, Bool.not_eq_true', Bool.not_eq_false', Bool.not_eq_true, Bool.not_eq_false, Bool.and_eq_true, Bool.or_eq_true, Bool.and_eq_false_iff, Bool.or_eq_false_iff, Bool.not_not, ne_eq, Int.not_lt, Int.not_le, Decidable.not_not, beq_iff_eq, bne_iff_ne] at hc0
    have hs16 : s.length = 16 := by omega
    rw [wi_full (l0 := l0) hs16] at hh
    refine wp_exit ?_
    refine then_exit ?_
    refine then_exit ?_
    refine blk_exit ?_
    refine then_normal ?_
    refine c_seq ?_
    refine c_region ?_
    refine wl (wl_val hl rfl trivial (r_move hl rfl) ?_)
    clear hl a; intro a hl
    refine wl (wl_val hl rfl trivial (r_move hl rfl) ?_)
    clear hl a; intro a hl
    refine wl (w_callP hl hh rfl trivial rfl A.dbind rfl (A.bind k15 Z) (by repeat (first | exact keeps_nil | apply keeps_cons (by repeat (first | exact find_head | apply find_tail | apply find_skip)) (by first  | rfl) | exact keeps_self | exact keeps_left | apply keeps_app | apply keeps_mv | apply keeps_skip)) trivial ?_)
    clear hl hh a w; intro vc Fc a w hR hl hh
    obtain ⟨rfl, hmx⟩ := hR
    try simp only [List.cons_append, List.nil_append, List.append_assoc, List.append_nil] at hh
    generalize Fc = Fx at hh hmx
    try simp only [List.append_assoc, List.cons_append, List.nil_append] at hh
    have hW0 := w0_ok (Z := Z) (lb0 := lb0) hl0 (hn := A.hn) hs hs16
    have hp0' := w0_pl (lb0 := lb0) hl1 (hn := A.hn) hs hs16
    have hJ0 : (A.Q k15).J (WoV.pl (⟨lb0, l0, none, s, [], none, 0, [], [], none, 0, [], A.hn⟩ : WoV) [] []) (A.x0 k15) := by rw [hp0']; exact A.start k15
    have hn0 : WI 1 (WoV.pl (⟨lb0, l0, none, s, [], none, 0, [], [], none, 0, [], A.hn⟩ : WoV) [] []) := by rw [hp0']; exact w0_wi A.hn
    obtain ⟨x3, hbr, hJ3⟩ := (A.Q k15).boot hn0 hJ0 rfl
    have hn3 := hn0.boot rfl
    have hbt := boot_spec (wb := k15) (A.L k15) Z (⟨lb0, l0, none, s, [], none, 0, [], [], none, 0, [], A.hn⟩ : WoV) hW0 rfl (show l0.d.ep < 4294967295 by have h9 : l0.d.ep ≤ _ := hn0.ep; omega) (A.x0 k15) x3 Fx hmx hbr
    simp only [WoV.F, WoV.GF, List.nil_append] at hbt
    rw [← A.hT k15] at hl
    refine w_nil ?_
    have hl2 := hl.add (t := 0) (hl.add (t := 2) (hl.add (t := 7) (hl.nil) rfl) rfl) rfl; clear hl; have hl := hl2; clear hl2
    refine then_normal ?_
    refine c_seq ?_
    refine c_seq ?_
    refine c_region ?_
    refine wl (wl_val hl rfl trivial (r_move hl rfl) ?_)
    clear hl a; intro a hl
    refine wl (wl_val hl rfl trivial (r_move hl rfl) ?_)
    clear hl a; intro a hl
    refine wl (w_call hl hh rfl trivial rfl cal10 rfl (hbt) (by repeat (first | exact keeps_nil | apply keeps_cons (by repeat (first | exact find_head | apply find_tail | apply find_skip)) (by first  | rfl) | exact keeps_self | exact keeps_left | apply keeps_app | apply keeps_mv | apply keeps_skip)) trivial ?_)
    clear hl hh a w; intro vc Fc a w hR hl hh
    rcases hR with ⟨rfl, W2, F2, hok2, hpl2, hm2, rfl⟩
    ·
      try simp only [List.cons_append, List.nil_append, List.append_nil] at hh
      try simp only [List.append_assoc, List.cons_append, List.nil_append] at hh
      refine wl (wl_val hl rfl trivial (r_not hl rfl) ?_)
      clear hl a; intro a hl
      refine w_nil ?_
      have hl2 := hl.add (t := 0) (hl.add (t := 2) (hl.add (t := 7) (hl.add (t := 37) (hl.nil) rfl) rfl) rfl) rfl; clear hl; have hl := hl2; clear hl2
      refine then_normal ?_
      refine c_condF hl rfl ?_
      refine wp_skip ?_
      refine then_normal ?_
      refine c_seq ?_
      refine c_seq ?_
      refine c_region ?_
      refine wl (wl_val hl rfl trivial (r_move hl rfl) ?_)
      clear hl a; intro a hl
      refine wl (wl_val hl rfl trivial (r_lenS hl rfl slc22) ?_)
      clear hl a; intro a hl
      refine wl (wl_val hl rfl trivial (r_move hl rfl) ?_)
      clear hl a; intro a hl
      refine w_nil ?_
      have hl2 := hl.add (t := 2) (hl.add (t := 7) (hl.add (t := 38) (hl.add (t := 39) (hl.add (t := 40) (hl.nil) rfl) rfl) rfl) rfl) rfl; clear hl; have hl := hl2; clear hl2
      refine then_normal ?_
      refine wp_block ?_
      obtain ⟨KS1, hKS1, hk⟩ := (hl.add (t := 2) (hl.add (t := 7) (hl.add (t := 38) (hl.add (t := 39) (hl.nil) rfl) rfl) rfl) rfl).name
      obtain ⟨HS1, hHS1, hh2⟩ := hh.nameT (A := []) (U := (F2 ++ ((k15, C (WoV.c W2) 55) :: (W2.tE ++ (W2.gE ++ (DsF W2.ds ++ WoV.GF W2 Z)))))) ((by repeat (first | exact keeps_nil | apply keeps_cons (by repeat (first | exact find_head | apply find_tail | apply find_skip)) (by first  | rfl) | exact keeps_self | exact keeps_left | apply keeps_app | apply keeps_mv | apply keeps_skip)))
      refine c_loop (α := P2 (A.L k15)) (fun y => n - y.j) (fun y a w => (P3I (A.Q k15) Z n y) ∧ Sl 91 ([(40, .int .i64 (y.j : Int))] ++ KS1) a ∧ Has _ w0 ([] ++ (HS1 ++ (y.F ++ ((k15, C (WoV.c y.W) 55) :: (y.W.tE ++ (y.W.gE ++ (DsF y.W.ds ++ WoV.GF y.W y.Zp))))))) w) ⟨0, W2, Z, F2, x3⟩ ⟨⟨Nat.zero_le _, hok2, (by rw [hpl2]; exact hJ3), (by rw [hpl2]; exact hn3), ⟨[], by simp⟩, hm2⟩, hl.addE (t := 40) (hk) rfl (by first | rfl), hh2⟩ ?_
      clear hk hh2 hl hh a w
      intro y a w hI
      obtain ⟨hy9, hl, hh⟩ := hI
      subst hKS1; subst hHS1
      simp only [List.cons_append, List.nil_append, List.append_nil, List.append_assoc] at hl hh
      obtain ⟨j, W2, Zp, F2, x2⟩ := y
      obtain ⟨hj, hok2, hJ2, hn2, ⟨G2, hz2⟩, hm2⟩ := hy9
      simp only at hj hok2 hJ2 hn2 hz2 hm2 hl hh
      subst hz2
      refine c_seq ?_
      refine c_region ?_
      refine wl (wl_val hl rfl trivial (r_lss hl rfl rfl) ?_)
      clear hl a; intro a hl
      refine w_nil ?_
      have hl2 := hl.add (t := 2) (hl.add (t := 7) (hl.add (t := 38) (hl.add (t := 39) (hl.add (t := 40) (hl.add (t := 41) (hl.nil) rfl) rfl) rfl) rfl) rfl) rfl; clear hl; have hl := hl2; clear hl2
      refine then_normal ?_
      refine c_seq ?_
      refine c_cond hl rfl ?_ ?_
      · intro hc2
        try simp only [decide_eq_true_eq, decide_eq_false_iff_not, Bool.not_eq_true', Bool.not_eq_false', Bool.not_eq_true, Bool.not_eq_false, Bool.and_eq_true, Bool.or_eq_true, Bool.and_eq_false_iff, Bool.or_eq_false_iff, Bool.not_not, ne_eq, Int.not_lt, Int.not_le, Decidable.not_not, beq_iff_eq, bne_iff_ne] at hc2
        obtain ⟨y9, hy⟩ : ∃ y, ops[j]? = some y := ⟨_, List.getElem?_eq_getElem (by rw [hS.l]; omega)⟩
        obtain ⟨o, p, cap9⟩ := y9
        obtain ⟨sb, so, c9, T9, fr9, hp0, hmz, hat⟩ := hS.at' (by omega)
        have hoo : OpOk (Z ++ G2) o p cap9 := OpOk.app ((hS.ok _ (List.mem_of_getElem? hy)).ok (hsm _ (List.mem_of_getElem? hy)))
        have hok9 := hoo.k
        have hmem1 : (sb, Obj.cells ⟨c9⟩ T9 fr9) ∈ WoV.GF W2 (Z ++ G2) := gf_mem (List.mem_append_left _ hmz)
        have hd1 : (c9.drop (so + j * 18)).take 18 = [.int .u8 o.k, .int .i64 o.A, .int .i64 o.B, .slice p o.tx.length cap9, .int .u8 o.m.k, .int .u8 o.m.d, .int .u32 o.m.e, .int .u32 o.m.b, .bool o.m.y, .int .u32 o.m.r, .int .u32 o.m.s, .string o.m.t, .int .u8 o.v.k, .int .u8 o.v.a, .int .u8 o.v.b, .int .u8 o.v.w, .int .u8 o.v.da, .int .u8 o.v.dl] := hat _ _ hy
        rw [hp0] at hl
        refine wp_skip ?_
        refine then_normal ?_
        refine c_seq ?_
        refine wp_block ?_
        refine c_seq ?_
        refine c_region ?_
        refine wl (wl_val hl rfl trivial (r_indexS hl rfl rfl slc22 (by omega) (by omega) (by first | (simp only [Int.reduceToNat]; rfl) | exact toNat_add1 _ | exact toNat_add2 _ _ | exact toNat_emod _ _ | exact Int.toNat_natCast _ | rfl)) ?_)
        clear hl a; intro a hl
        first | refine wl (w_loadA hl hh rfl trivial agg45 rfl (by repeat (first | exact find_head | apply find_tail | apply find_skip)) (by rfl) (by rfl) ?_) | refine wl (wl_val hl rfl trivial (r_loadA hl rfl agg45 (hh.mem _ _ (by repeat (first | exact hmem1 | exact List.mem_append_left _ hmem1 | apply List.mem_cons_of_mem | apply List.mem_append_right))) hd1 rfl) ?_)
        clear hl a; intro a hl
        refine wl (w_alloc hl hh rfl trivial zero45 rfl ?_)
        clear hl hh a w; intro k10 a w hl hh
        refine wl (w_storeA hl hh trivial agg45 rfl rfl (by repeat (first | exact find_head | apply find_tail | apply find_skip)) (by rfl) (by exact Nat.le_refl 18) (by rfl) (by exact setL_all rfl) ?_)
        clear hh w; intro w hh
        refine w_nil ?_
        have hl2 := hl.add (t := 2) (hl.add (t := 7) (hl.add (t := 10) (hl.add (t := 38) (hl.add (t := 39) (hl.add (t := 40) (hl.nil) rfl) rfl) rfl) rfl) rfl) rfl; clear hl; have hl := hl2; clear hl2
        refine then_normal ?_
        refine c_seq ?_
        refine c_seq ?_
        rcases gcase W2 with hgn | ⟨gb, g, hgs⟩
        ·
          have hcg : (WoV.c W2)[0 + 1]? = some (.pointer none) := by rw [wc_g, hgn]; rfl
          obtain ⟨x3, hbr, hJ3⟩ := (A.Q k15).boot hn2 hJ2 (show W2.g.map _ = none by rw [hgn]; rfl)
          have hbt := boot_spec (wb := k15) (A.L k15) (Z ++ G2) W2 hok2 hgn (by have h9 : W2.l.d.ep ≤ _ := hn2.ep; omega) x2 x3 F2 hm2 hbr
          simp only [WoV.F] at hbt
          refine c_region ?_
          refine wl (wl_val hl rfl trivial (r_move hl rfl) ?_)
          clear hl a; intro a hl
          refine wl (wl_val hl rfl trivial (r_nilCheck hl rfl) ?_)
          clear hl a; intro a hl
          refine wl (wl_val hl rfl trivial (r_field hl rfl fld55_1) ?_)
          clear hl a; intro a hl
          refine wl (w_load hl hh rfl trivial one50 rfl (by repeat (first | exact find_head | apply find_tail | apply find_skip)) (by first | exact hcg | rfl) ?_)
          clear hl a; intro a hl
          refine wl (wl_val hl rfl trivial (r_eql_pointer hl rfl rfl ptr50) ?_)
          clear hl a; intro a hl
          refine wl (wl_val hl rfl trivial (r_move hl rfl) ?_)
          clear hl a; intro a hl
          refine wl (wl_val hl rfl ⟨_, _, rfl, rfl, rfl⟩ (r_field hl rfl fld45_0) ?_)
          clear hl a; intro a hl
          refine wl (w_load hl hh rfl ⟨_, _, rfl, rfl, rfl⟩ one33 rfl (by repeat (first | exact find_head | apply find_tail | apply find_skip)) (by first | exact hcg | rfl) ?_)
          clear hl a; intro a hl
          refine wl (w_call hl hh rfl ⟨_, _, rfl, rfl, rfl⟩ rfl cal11 rfl (wants_spec o.k (by omega)) (by repeat (first | exact keeps_nil | apply keeps_cons (by repeat (first | exact find_head | apply find_tail | apply find_skip)) (by first  | rfl) | exact keeps_self | exact keeps_left | apply keeps_app | apply keeps_mv | apply keeps_skip)) trivial ?_)
          clear hl hh a w; intro vc Fc a w hR hl hh
          obtain ⟨rfl, rfl⟩ := hR
          try simp only [List.cons_append, List.nil_append, List.append_assoc, List.append_nil] at hh
          refine wl (wl_val hl rfl trivial (r_pickT hl rfl rfl) ?_)
          clear hl a; intro a hl
          refine w_nil ?_
          have hl2 := hl.add (t := 2) (hl.add (t := 7) (hl.add (t := 10) (hl.add (t := 38) (hl.add (t := 39) (hl.add (t := 40) (hl.add (t := 53) (hl.nil) rfl) rfl) rfl) rfl) rfl) rfl) rfl; clear hl; have hl := hl2; clear hl2
          refine then_normal ?_
          refine c_cond hl rfl ?_ ?_
          · intro hc3
            try simp only [decide_eq_true_eq, decide_eq_false_iff_not, Bool.not_eq_true', Bool.not_eq_false', Bool.not_eq_true, Bool.not_eq_false, Bool.and_eq_true, Bool.or_eq_true, Bool.and_eq_false_iff, Bool.or_eq_false_iff, Bool.not_not, ne_eq, Int.not_lt, Int.not_le, Decidable.not_not, beq_iff_eq, bne_iff_ne] at hc3
            have hw9 : wantG o.k := by simpa using hc3
            refine c_seq ?_
            refine c_seq ?_
            refine c_region ?_
            refine wl (wl_val hl rfl trivial (r_move hl rfl) ?_)
            clear hl a; intro a hl
            refine wl (wl_val hl rfl trivial (r_move hl rfl) ?_)
            clear hl a; intro a hl
            refine wl (w_call hl hh rfl trivial rfl cal10 rfl (hbt) (by repeat (first | exact keeps_nil | apply keeps_cons (by repeat (first | exact find_head | apply find_tail | apply find_skip)) (by first  | rfl) | exact keeps_self | exact keeps_left | apply keeps_app | apply keeps_mv | apply keeps_skip)) trivial ?_)
            clear hl hh a w; intro vc Fc a w hR hl hh
            rcases hR with ⟨rfl, W2, F2, hok2, hpl2, hm2, rfl⟩
            ·
              try simp only [List.cons_append, List.nil_append, List.append_nil] at hh
              try simp only [List.append_assoc, List.cons_append, List.nil_append] at hh
              have hJ2 : (A.Q k15).J (W2.pl [] []) x3 := by rw [hpl2]; exact hJ3
              have hn2 : WI (2 + 161 * j + 1) (W2.pl [] []) := by rw [hpl2]; exact hn2.boot (show _ = none by show Option.map _ _ = none; rw [hgn]; rfl)
              refine wl (wl_val hl rfl trivial (r_not hl rfl) ?_)
              clear hl a; intro a hl
              refine w_nil ?_
              have hl2 := hl.add (t := 2) (hl.add (t := 7) (hl.add (t := 10) (hl.add (t := 38) (hl.add (t := 39) (hl.add (t := 40) (hl.add (t := 57) (hl.nil) rfl) rfl) rfl) rfl) rfl) rfl) rfl; clear hl; have hl := hl2; clear hl2
              refine then_normal ?_
              refine c_condF hl rfl ?_
              refine wp_skip ?_
              refine then_normal ?_
              refine c_seq ?_
              rcases gcase W2 with hgn | ⟨gb, g, hgs⟩
              ·
                have hcg : (WoV.c W2)[0 + 1]? = some (.pointer none) := by rw [wc_g, hgn]; rfl
                refine c_region ?_
                refine wl (wl_val hl rfl trivial (r_move hl rfl) ?_)
                clear hl a; intro a hl
                refine wl (wl_val hl rfl trivial (r_nilCheck hl rfl) ?_)
                clear hl a; intro a hl
                refine wl (wl_val hl rfl trivial (r_field hl rfl fld55_1) ?_)
                clear hl a; intro a hl
                refine wl (w_load hl hh rfl trivial one50 rfl (by repeat (first | exact find_head | apply find_tail | apply find_skip)) (by first | exact hcg | rfl) ?_)
                clear hl a; intro a hl
                refine wl (wl_val hl rfl trivial (r_eql_pointer hl rfl rfl ptr50) ?_)
                clear hl a; intro a hl
                refine w_nil ?_
                have hl2 := hl.add (t := 2) (hl.add (t := 7) (hl.add (t := 10) (hl.add (t := 38) (hl.add (t := 39) (hl.add (t := 40) (hl.add (t := 62) (hl.nil) rfl) rfl) rfl) rfl) rfl) rfl) rfl; clear hl; have hl := hl2; clear hl2
                refine then_normal ?_
                refine c_condT hl rfl ?_
                refine wp_exit ?_
                refine then_exit ?_
                refine blk_exit ?_
                refine then_normal ?_
                refine c_region ?_
                first | refine wl (wl_val hl rfl trivial (r_add hl rfl rfl (by simp only [Fits]; omega)) ?_) | refine wl (wl_val hl rfl trivial (r_addW hl rfl rfl) ?_)
                clear hl a; intro a hl
                refine wl (wl_val hl rfl trivial (r_move hl rfl) ?_)
                clear hl a; intro a hl
                refine w_nil ?_
                have hl2 := hl.add (t := 2) (hl.add (t := 7) (hl.add (t := 38) (hl.add (t := 39) (hl.add (t := 40) (hl.nil) rfl) rfl) rfl) rfl) rfl; clear hl; have hl := hl2; clear hl2
                refine then_normal ?_
                refine ⟨⟨j + 1, W2, Z ++ G2, F2, x3⟩, (by simp only; omega), ⟨by simp only; omega, hok2, hJ2, (by simp only; exact hn2.mono (by omega)), ⟨G2, rfl⟩, hm2⟩, hl.addE (t := 40) (hl.addE (t := 2) (hl.addE (t := 7) (hl.addE (t := 38) (hl.addE (t := 39) (hl.nil) rfl (by first | rfl | exact congrArg (Value.int .i64) (show (j : Int) + 1 = ((j + 1 : Nat) : Int) by omega) | (rw [hp0]; done) | (rw [← hp0]; done))) rfl (by first | rfl | exact congrArg (Value.int .i64) (show (j : Int) + 1 = ((j + 1 : Nat) : Int) by omega) | (rw [hp0]; done) | (rw [← hp0]; done))) rfl (by first | rfl | exact congrArg (Value.int .i64) (show (j : Int) + 1 = ((j + 1 : Nat) : Int) by omega) | (rw [hp0]; done) | (rw [← hp0]; done))) rfl (by first | rfl | exact congrArg (Value.int .i64) (show (j : Int) + 1 = ((j + 1 : Nat) : Int) by omega) | (rw [hp0]; done) | (rw [← hp0]; done))) rfl (by first | rfl | exact congrArg (Value.int .i64) (show (j : Int) + 1 = ((j + 1 : Nat) : Int) by omega) | (rw [hp0]; done) | (rw [← hp0]; done)), hh.keep (by repeat (first | exact keeps_nil | apply keeps_cons (by repeat (first | exact find_head | apply find_tail | apply find_skip)) (by first  | rfl) | exact keeps_self | exact keeps_left | apply keeps_app | apply keeps_mv | apply keeps_skip))⟩
              ·
                have hcg : (WoV.c W2)[0 + 1]? = some (.pointer (some ⟨gb, 0, none⟩)) := by rw [wc_g, hgs]; rfl
                have hst9 := stepW (wb := k15) (A.L k15) (A.Q k15) (Z ++ G2) W2 hok2 (2 + 161 * j + 1) (by omega) x3 F2 hm2 hJ2 hn2 o p cap9 hoo (fun _ => ⟨gb, g, hgs⟩)
                simp only [WoV.F, opC] at hst9
                refine c_region ?_
                refine wl (wl_val hl rfl trivial (r_move hl rfl) ?_)
                clear hl a; intro a hl
                refine wl (wl_val hl rfl trivial (r_nilCheck hl rfl) ?_)
                clear hl a; intro a hl
                refine wl (wl_val hl rfl trivial (r_field hl rfl fld55_1) ?_)
                clear hl a; intro a hl
                refine wl (w_load hl hh rfl trivial one50 rfl (by repeat (first | exact find_head | apply find_tail | apply find_skip)) (by first | exact hcg | rfl) ?_)
                clear hl a; intro a hl
                refine wl (wl_val hl rfl trivial (r_eql_pointer hl rfl rfl ptr50) ?_)
                clear hl a; intro a hl
                refine w_nil ?_
                have hl2 := hl.add (t := 2) (hl.add (t := 7) (hl.add (t := 10) (hl.add (t := 38) (hl.add (t := 39) (hl.add (t := 40) (hl.add (t := 62) (hl.nil) rfl) rfl) rfl) rfl) rfl) rfl) rfl; clear hl; have hl := hl2; clear hl2
                refine then_normal ?_
                refine c_condF hl rfl ?_
                refine wp_skip ?_
                refine then_normal ?_
                refine c_seq ?_
                refine c_region ?_
                refine wl (wl_val hl rfl trivial (r_move hl rfl) ?_)
                clear hl a; intro a hl
                first | refine wl (w_loadA hl hh rfl trivial agg45 rfl (by repeat (first | exact find_head | apply find_tail | apply find_skip)) (by rfl) (by rfl) ?_) | refine wl (wl_val hl rfl trivial (r_loadA hl rfl agg45 (hh.mem _ _ (by repeat (first | exact hmem1 | exact List.mem_append_left _ hmem1 | apply List.mem_cons_of_mem | apply List.mem_append_right))) hd1 rfl) ?_)
                clear hl a; intro a hl
                refine wl (wl_val hl rfl trivial (r_move hl rfl) ?_)
                clear hl a; intro a hl
                refine wl (w_call hl hh rfl trivial rfl cal12 rfl (hst9) (by repeat (first | exact keeps_nil | apply keeps_cons (by repeat (first | exact find_head | apply find_tail | apply find_skip)) (by first  | rfl) | exact keeps_self | exact keeps_left | apply keeps_app | apply keeps_mv | apply keeps_skip)) trivial ?_)
                clear hl hh a w; intro vc Fc a w hR hl hh
                rcases hR with ⟨rfl, W3, G3, F3, x4, hok3, hK3, hn3, hm3, rfl⟩
                ·
                  try simp only [List.cons_append, List.nil_append, List.append_nil] at hh
                  try simp only [List.append_assoc, List.cons_append, List.nil_append] at hh
                  obtain ⟨x5, har, hJ5⟩ := (A.Q k15).after hn3 hK3 rfl rfl
                  have hn4 := hn3
                  rw [List.append_assoc] at hok3 hm3
                  have haf := (A.L k15).after W3 (Z ++ (G2 ++ G3)) x4 x5 F3 hok3 hm3 har
                  simp only [WoV.F, List.append_assoc] at haf
                  refine wl (wl_val hl rfl trivial (r_not hl rfl) ?_)
                  clear hl a; intro a hl
                  refine wl (wl_val hl rfl trivial (r_move hl rfl) ?_)
                  clear hl a; intro a hl
                  refine wl (wl_val hl rfl ⟨_, _, rfl, rfl, rfl⟩ (r_move hl rfl) ?_)
                  clear hl a; intro a hl
                  refine wl (w_callP hl hh rfl ⟨_, _, rfl, rfl, rfl⟩ rfl (A.L k15).dafter rfl (haf) (by repeat (first | exact keeps_nil | apply keeps_cons (by repeat (first | exact find_head | apply find_tail | apply find_skip)) (by first  | rfl) | exact keeps_self | exact keeps_left | apply keeps_app | apply keeps_mv | apply keeps_skip)) trivial ?_)
                  clear hl hh a w; intro vc Fc a w hR hl hh
                  rcases hR with ⟨rfl, F4, hm4, rfl⟩
                  ·
                    try simp only [List.cons_append, List.nil_append, List.append_nil] at hh
                    try simp only [List.append_assoc, List.cons_append, List.nil_append] at hh
                    refine wl (wl_val hl rfl ⟨_, _, rfl, rfl, rfl⟩ (r_not hl rfl) ?_)
                    clear hl a; intro a hl
                    refine wl (wl_val hl rfl trivial (r_pickF hl rfl rfl) ?_)
                    clear hl a; intro a hl
                    refine w_nil ?_
                    have hl2 := hl.add (t := 2) (hl.add (t := 7) (hl.add (t := 38) (hl.add (t := 39) (hl.add (t := 40) (hl.add (t := 72) (hl.nil) rfl) rfl) rfl) rfl) rfl) rfl; clear hl; have hl := hl2; clear hl2
                    refine then_normal ?_
                    refine c_condF hl rfl ?_
                    refine wp_skip ?_
                    refine blk_normal ?_
                    refine then_normal ?_
                    refine c_region ?_
                    first | refine wl (wl_val hl rfl trivial (r_add hl rfl rfl (by simp only [Fits]; omega)) ?_) | refine wl (wl_val hl rfl trivial (r_addW hl rfl rfl) ?_)
                    clear hl a; intro a hl
                    refine wl (wl_val hl rfl trivial (r_move hl rfl) ?_)
                    clear hl a; intro a hl
                    refine w_nil ?_
                    have hl2 := hl.add (t := 2) (hl.add (t := 7) (hl.add (t := 38) (hl.add (t := 39) (hl.add (t := 40) (hl.nil) rfl) rfl) rfl) rfl) rfl; clear hl; have hl := hl2; clear hl2
                    refine then_normal ?_
                    refine ⟨⟨j + 1, W3, Z ++ (G2 ++ G3), F4, x5⟩, (by simp only; omega), ⟨by simp only; omega, hok3, hJ5, (by simp only; exact hn4.mono (by omega)), ⟨G2 ++ G3, rfl⟩, hm4⟩, hl.addE (t := 40) (hl.addE (t := 2) (hl.addE (t := 7) (hl.addE (t := 38) (hl.addE (t := 39) (hl.nil) rfl (by first | rfl | exact congrArg (Value.int .i64) (show (j : Int) + 1 = ((j + 1 : Nat) : Int) by omega) | (rw [hp0]; done) | (rw [← hp0]; done))) rfl (by first | rfl | exact congrArg (Value.int .i64) (show (j : Int) + 1 = ((j + 1 : Nat) : Int) by omega) | (rw [hp0]; done) | (rw [← hp0]; done))) rfl (by first | rfl | exact congrArg (Value.int .i64) (show (j : Int) + 1 = ((j + 1 : Nat) : Int) by omega) | (rw [hp0]; done) | (rw [← hp0]; done))) rfl (by first | rfl | exact congrArg (Value.int .i64) (show (j : Int) + 1 = ((j + 1 : Nat) : Int) by omega) | (rw [hp0]; done) | (rw [← hp0]; done))) rfl (by first | rfl | exact congrArg (Value.int .i64) (show (j : Int) + 1 = ((j + 1 : Nat) : Int) by omega) | (rw [hp0]; done) | (rw [← hp0]; done)), hh.keep (by repeat (first | exact keeps_nil | apply keeps_cons (by repeat (first | exact find_head | apply find_tail | apply find_skip)) (by first  | rfl) | exact keeps_self | exact keeps_left | apply keeps_app | apply keeps_mv | apply keeps_skip))⟩
          · intro hc3
            try simp only [decide_eq_true_eq, decide_eq_false_iff_not, Bool.not_eq_true', Bool.not_eq_false', Bool.not_eq_true, Bool.not_eq_false, Bool.and_eq_true, Bool.or_eq_true, Bool.and_eq_false_iff, Bool.or_eq_false_iff, Bool.not_not, ne_eq, Int.not_lt, Int.not_le, Decidable.not_not, beq_iff_eq, bne_iff_ne] at hc3
            first
            | (have hq9 := hgs)
            | (have hw9 : ¬ wantG o.k := by simpa using hc3
               replace hn2 := hn2.mono (show 2 + 161 * j ≤ (2 + 161 * j + 1) by omega)
               have hst9 := stepW (wb := k15) (A.L k15) (A.Q k15) (Z ++ G2) W2 hok2 (2 + 161 * j + 1) (by omega) x2 F2 hm2 hJ2 hn2 o p cap9 hoo (fun h => absurd h hw9)
               simp only [WoV.F, opC] at hst9)
            refine wp_skip ?_
            refine then_normal ?_
            refine c_seq ?_
            refine c_region ?_
            refine wl (wl_val hl rfl trivial (r_move hl rfl) ?_)
            clear hl a; intro a hl
            first | refine wl (w_loadA hl hh rfl trivial agg45 rfl (by repeat (first | exact find_head | apply find_tail | apply find_skip)) (by rfl) (by rfl) ?_) | refine wl (wl_val hl rfl trivial (r_loadA hl rfl agg45 (hh.mem _ _ (by repeat (first | exact hmem1 | exact List.mem_append_left _ hmem1 | apply List.mem_cons_of_mem | apply List.mem_append_right))) hd1 rfl) ?_)
            clear hl a; intro a hl
            refine wl (wl_val hl rfl trivial (r_move hl rfl) ?_)
            clear hl a; intro a hl
            refine wl (w_call hl hh rfl trivial rfl cal12 rfl (hst9) (by repeat (first | exact keeps_nil | apply keeps_cons (by repeat (first | exact find_head | apply find_tail | apply find_skip)) (by first  | rfl) | exact keeps_self | exact keeps_left | apply keeps_app | apply keeps_mv | apply keeps_skip)) trivial ?_)
            clear hl hh a w; intro vc Fc a w hR hl hh
            rcases hR with ⟨rfl, W3, G3, F3, x4, hok3, hK3, hn3, hm3, rfl⟩
            ·
              try simp only [List.cons_append, List.nil_append, List.append_nil] at hh
              try simp only [List.append_assoc, List.cons_append, List.nil_append] at hh
              obtain ⟨x5, har, hJ5⟩ := (A.Q k15).after hn3 hK3 rfl rfl
              have hn4 := hn3
              rw [List.append_assoc] at hok3 hm3
              have haf := (A.L k15).after W3 (Z ++ (G2 ++ G3)) x4 x5 F3 hok3 hm3 har
              simp only [WoV.F, List.append_assoc] at haf
              refine wl (wl_val hl rfl trivial (r_not hl rfl) ?_)
              clear hl a; intro a hl
              refine wl (wl_val hl rfl trivial (r_move hl rfl) ?_)
              clear hl a; intro a hl
              refine wl (wl_val hl rfl ⟨_, _, rfl, rfl, rfl⟩ (r_move hl rfl) ?_)
              clear hl a; intro a hl
              refine wl (w_callP hl hh rfl ⟨_, _, rfl, rfl, rfl⟩ rfl (A.L k15).dafter rfl (haf) (by repeat (first | exact keeps_nil | apply keeps_cons (by repeat (first | exact find_head | apply find_tail | apply find_skip)) (by first  | rfl) | exact keeps_self | exact keeps_left | apply keeps_app | apply keeps_mv | apply keeps_skip)) trivial ?_)
              clear hl hh a w; intro vc Fc a w hR hl hh
              rcases hR with ⟨rfl, F4, hm4, rfl⟩
              ·
                try simp only [List.cons_append, List.nil_append, List.append_nil] at hh
                try simp only [List.append_assoc, List.cons_append, List.nil_append] at hh
                refine wl (wl_val hl rfl ⟨_, _, rfl, rfl, rfl⟩ (r_not hl rfl) ?_)
                clear hl a; intro a hl
                refine wl (wl_val hl rfl trivial (r_pickF hl rfl rfl) ?_)
                clear hl a; intro a hl
                refine w_nil ?_
                have hl2 := hl.add (t := 2) (hl.add (t := 7) (hl.add (t := 38) (hl.add (t := 39) (hl.add (t := 40) (hl.add (t := 72) (hl.nil) rfl) rfl) rfl) rfl) rfl) rfl; clear hl; have hl := hl2; clear hl2
                refine then_normal ?_
                refine c_condF hl rfl ?_
                refine wp_skip ?_
                refine blk_normal ?_
                refine then_normal ?_
                refine c_region ?_
                first | refine wl (wl_val hl rfl trivial (r_add hl rfl rfl (by simp only [Fits]; omega)) ?_) | refine wl (wl_val hl rfl trivial (r_addW hl rfl rfl) ?_)
                clear hl a; intro a hl
                refine wl (wl_val hl rfl trivial (r_move hl rfl) ?_)
                clear hl a; intro a hl
                refine w_nil ?_
                have hl2 := hl.add (t := 2) (hl.add (t := 7) (hl.add (t := 38) (hl.add (t := 39) (hl.add (t := 40) (hl.nil) rfl) rfl) rfl) rfl) rfl; clear hl; have hl := hl2; clear hl2
                refine then_normal ?_
                refine ⟨⟨j + 1, W3, Z ++ (G2 ++ G3), F4, x5⟩, (by simp only; omega), ⟨by simp only; omega, hok3, hJ5, (by simp only; exact hn4.mono (by omega)), ⟨G2 ++ G3, rfl⟩, hm4⟩, hl.addE (t := 40) (hl.addE (t := 2) (hl.addE (t := 7) (hl.addE (t := 38) (hl.addE (t := 39) (hl.nil) rfl (by first | rfl | exact congrArg (Value.int .i64) (show (j : Int) + 1 = ((j + 1 : Nat) : Int) by omega) | (rw [hp0]; done) | (rw [← hp0]; done))) rfl (by first | rfl | exact congrArg (Value.int .i64) (show (j : Int) + 1 = ((j + 1 : Nat) : Int) by omega) | (rw [hp0]; done) | (rw [← hp0]; done))) rfl (by first | rfl | exact congrArg (Value.int .i64) (show (j : Int) + 1 = ((j + 1 : Nat) : Int) by omega) | (rw [hp0]; done) | (rw [← hp0]; done))) rfl (by first | rfl | exact congrArg (Value.int .i64) (show (j : Int) + 1 = ((j + 1 : Nat) : Int) by omega) | (rw [hp0]; done) | (rw [← hp0]; done))) rfl (by first | rfl | exact congrArg (Value.int .i64) (show (j : Int) + 1 = ((j + 1 : Nat) : Int) by omega) | (rw [hp0]; done) | (rw [← hp0]; done)), hh.keep (by repeat (first | exact keeps_nil | apply keeps_cons (by repeat (first | exact find_head | apply find_tail | apply find_skip)) (by first  | rfl) | exact keeps_self | exact keeps_left | apply keeps_app | apply keeps_mv | apply keeps_skip))⟩
        ·
          have hcg : (WoV.c W2)[0 + 1]? = some (.pointer (some ⟨gb, 0, none⟩)) := by rw [wc_g, hgs]; rfl
          replace hn2 := hn2.mono (show 2 + 161 * j ≤ (2 + 161 * j + 1) by omega)
          have hst9 := stepW (wb := k15) (A.L k15) (A.Q k15) (Z ++ G2) W2 hok2 (2 + 161 * j + 1) (by omega) x2 F2 hm2 hJ2 hn2 o p cap9 hoo (fun _ => ⟨gb, g, hgs⟩)
          simp only [WoV.F, opC] at hst9
          refine c_region ?_
          refine wl (wl_val hl rfl trivial (r_move hl rfl) ?_)
          clear hl a; intro a hl
          refine wl (wl_val hl rfl trivial (r_nilCheck hl rfl) ?_)
          clear hl a; intro a hl
          refine wl (wl_val hl rfl trivial (r_field hl rfl fld55_1) ?_)
          clear hl a; intro a hl
          refine wl (w_load hl hh rfl trivial one50 rfl (by repeat (first | exact find_head | apply find_tail | apply find_skip)) (by first | exact hcg | rfl) ?_)
          clear hl a; intro a hl
          refine wl (wl_val hl rfl trivial (r_eql_pointer hl rfl rfl ptr50) ?_)
          clear hl a; intro a hl
          refine wl (wl_val hl rfl trivial (r_move hl rfl) ?_)
          clear hl a; intro a hl
          refine wl (wl_skip hl rfl ⟨_, _, rfl, rfl, rfl⟩ ?_)
          clear hl a; intro a hl
          refine wl (wl_skip hl rfl ⟨_, _, rfl, rfl, rfl⟩ ?_)
          clear hl a; intro a hl
          refine wl (wl_skip hl rfl ⟨_, _, rfl, rfl, rfl⟩ ?_)
          clear hl a; intro a hl
          refine wl (wl_val hl rfl trivial (r_pickF hl rfl rfl) ?_)
          clear hl a; intro a hl
          refine w_nil ?_
          have hl2 := hl.add (t := 2) (hl.add (t := 7) (hl.add (t := 10) (hl.add (t := 38) (hl.add (t := 39) (hl.add (t := 40) (hl.add (t := 53) (hl.nil) rfl) rfl) rfl) rfl) rfl) rfl) rfl; clear hl; have hl := hl2; clear hl2
          refine then_normal ?_
          refine c_condF hl rfl ?_
          first
          | (have hq9 := hgs)
          | (have hw9 : ¬ wantG o.k := by simpa using hc3
             replace hn2 := hn2.mono (show 2 + 161 * j ≤ (2 + 161 * j + 1) by omega)
             have hst9 := stepW (wb := k15) (A.L k15) (A.Q k15) (Z ++ G2) W2 hok2 (2 + 161 * j + 1) (by omega) x2 F2 hm2 hJ2 hn2 o p cap9 hoo (fun h => absurd h hw9)
             simp only [WoV.F, opC] at hst9)
          refine wp_skip ?_
          refine then_normal ?_
          refine c_seq ?_
          refine c_region ?_
          refine wl (wl_val hl rfl trivial (r_move hl rfl) ?_)
          clear hl a; intro a hl
          first | refine wl (w_loadA hl hh rfl trivial agg45 rfl (by repeat (first | exact find_head | apply find_tail | apply find_skip)) (by rfl) (by rfl) ?_) | refine wl (wl_val hl rfl trivial (r_loadA hl rfl agg45 (hh.mem _ _ (by repeat (first | exact hmem1 | exact List.mem_append_left _ hmem1 | apply List.mem_cons_of_mem | apply List.mem_append_right))) hd1 rfl) ?_)
          clear hl a; intro a hl
          refine wl (wl_val hl rfl trivial (r_move hl rfl) ?_)
          clear hl a; intro a hl
          refine wl (w_call hl hh rfl trivial rfl cal12 rfl (hst9) (by repeat (first | exact keeps_nil | apply keeps_cons (by repeat (first | exact find_head | apply find_tail | apply find_skip)) (by first  | rfl) | exact keeps_self | exact keeps_left | apply keeps_app | apply keeps_mv | apply keeps_skip)) trivial ?_)
          clear hl hh a w; intro vc Fc a w hR hl hh
          rcases hR with ⟨rfl, W3, G3, F3, x4, hok3, hK3, hn3, hm3, rfl⟩
          ·
            try simp only [List.cons_append, List.nil_append, List.append_nil] at hh
            try simp only [List.append_assoc, List.cons_append, List.nil_append] at hh
            obtain ⟨x5, har, hJ5⟩ := (A.Q k15).after hn3 hK3 rfl rfl
            have hn4 := hn3
            rw [List.append_assoc] at hok3 hm3
            have haf := (A.L k15).after W3 (Z ++ (G2 ++ G3)) x4 x5 F3 hok3 hm3 har
            simp only [WoV.F, List.append_assoc] at haf
            refine wl (wl_val hl rfl trivial (r_not hl rfl) ?_)
            clear hl a; intro a hl
            refine wl (wl_val hl rfl trivial (r_move hl rfl) ?_)
            clear hl a; intro a hl
            refine wl (wl_val hl rfl ⟨_, _, rfl, rfl, rfl⟩ (r_move hl rfl) ?_)
            clear hl a; intro a hl
            refine wl (w_callP hl hh rfl ⟨_, _, rfl, rfl, rfl⟩ rfl (A.L k15).dafter rfl (haf) (by repeat (first | exact keeps_nil | apply keeps_cons (by repeat (first | exact find_head | apply find_tail | apply find_skip)) (by first  | rfl) | exact keeps_self | exact keeps_left | apply keeps_app | apply keeps_mv | apply keeps_skip)) trivial ?_)
            clear hl hh a w; intro vc Fc a w hR hl hh
            rcases hR with ⟨rfl, F4, hm4, rfl⟩
            ·
              try simp only [List.cons_append, List.nil_append, List.append_nil] at hh
              try simp only [List.append_assoc, List.cons_append, List.nil_append] at hh
              refine wl (wl_val hl rfl ⟨_, _, rfl, rfl, rfl⟩ (r_not hl rfl) ?_)
              clear hl a; intro a hl
              refine wl (wl_val hl rfl trivial (r_pickF hl rfl rfl) ?_)
              clear hl a; intro a hl
              refine w_nil ?_
              have hl2 := hl.add (t := 2) (hl.add (t := 7) (hl.add (t := 38) (hl.add (t := 39) (hl.add (t := 40) (hl.add (t := 72) (hl.nil) rfl) rfl) rfl) rfl) rfl) rfl; clear hl; have hl := hl2; clear hl2
              refine then_normal ?_
              refine c_condF hl rfl ?_
              refine wp_skip ?_
              refine blk_normal ?_
              refine then_normal ?_
              refine c_region ?_
              first | refine wl (wl_val hl rfl trivial (r_add hl rfl rfl (by simp only [Fits]; omega)) ?_) | refine wl (wl_val hl rfl trivial (r_addW hl rfl rfl) ?_)
              clear hl a; intro a hl
              refine wl (wl_val hl rfl trivial (r_move hl rfl) ?_)
              clear hl a; intro a hl
              refine w_nil ?_
              have hl2 := hl.add (t := 2) (hl.add (t := 7) (hl.add (t := 38) (hl.add (t := 39) (hl.add (t := 40) (hl.nil) rfl) rfl) rfl) rfl) rfl; clear hl; have hl := hl2; clear hl2
              refine then_normal ?_
              refine ⟨⟨j + 1, W3, Z ++ (G2 ++ G3), F4, x5⟩, (by simp only; omega), ⟨by simp only; omega, hok3, hJ5, (by simp only; exact hn4.mono (by omega)), ⟨G2 ++ G3, rfl⟩, hm4⟩, hl.addE (t := 40) (hl.addE (t := 2) (hl.addE (t := 7) (hl.addE (t := 38) (hl.addE (t := 39) (hl.nil) rfl (by first | rfl | exact congrArg (Value.int .i64) (show (j : Int) + 1 = ((j + 1 : Nat) : Int) by omega) | (rw [hp0]; done) | (rw [← hp0]; done))) rfl (by first | rfl | exact congrArg (Value.int .i64) (show (j : Int) + 1 = ((j + 1 : Nat) : Int) by omega) | (rw [hp0]; done) | (rw [← hp0]; done))) rfl (by first | rfl | exact congrArg (Value.int .i64) (show (j : Int) + 1 = ((j + 1 : Nat) : Int) by omega) | (rw [hp0]; done) | (rw [← hp0]; done))) rfl (by first | rfl | exact congrArg (Value.int .i64) (show (j : Int) + 1 = ((j + 1 : Nat) : Int) by omega) | (rw [hp0]; done) | (rw [← hp0]; done))) rfl (by first | rfl | exact congrArg (Value.int .i64) (show (j : Int) + 1 = ((j + 1 : Nat) : Int) by omega) | (rw [hp0]; done) | (rw [← hp0]; done)), hh.keep (by repeat (first | exact keeps_nil | apply keeps_cons (by repeat (first | exact find_head | apply find_tail | apply find_skip)) (by first  | rfl) | exact keeps_self | exact keeps_left | apply keeps_app | apply keeps_mv | apply keeps_skip))⟩
      · intro hc2
        try simp only [decide_eq_true_eq, decide_eq_false_iff_not, Bool.not_eq_true', Bool.not_eq_false', Bool.not_eq_true, Bool.not_eq_false, Bool.and_eq_true, Bool.or_eq_true, Bool.and_eq_false_iff, Bool.or_eq_false_iff, Bool.not_not, ne_eq, Int.not_lt, Int.not_le, Decidable.not_not, beq_iff_eq, bne_iff_ne] at hc2
        have hje : j = n := by omega
        refine wp_exit ?_
        refine then_exit ?_
        refine then_exit ?_
        refine blk_exit ?_
        refine then_normal ?_
        refine c_seq ?_
        refine c_seq ?_
        refine c_region ?_
        refine wl (wl_val hl rfl trivial (r_assign hl rfl) ?_)
        clear hl a; intro a hl
        refine w_nil ?_
        have hl2 := hl.add (t := 2) (hl.add (t := 7) (hl.add (t := 11) (hl.nil) rfl) rfl) rfl; clear hl; have hl := hl2; clear hl2
        refine then_normal ?_
        refine wp_block ?_
        obtain ⟨KS2, hKS2, hk⟩ := (hl.add (t := 2) (hl.add (t := 7) (hl.nil) rfl) rfl).name
        obtain ⟨HS2, hHS2, hh2⟩ := hh.nameT (A := []) (U := (F2 ++ ((k15, C (WoV.c W2) 55) :: (W2.tE ++ (W2.gE ++ (DsF W2.ds ++ WoV.GF W2 (Z ++ G2))))))) ((by repeat (first | exact keeps_nil | apply keeps_cons (by repeat (first | exact find_head | apply find_tail | apply find_skip)) (by first  | rfl) | exact keeps_self | exact keeps_left | apply keeps_app | apply keeps_mv | apply keeps_skip)))
        refine c_loop (α := P2 (A.L k15)) (fun y => 3 - y.j) (fun y a w => (P4I (A.Q k15) Z (2 + 161 * n + 1) y) ∧ Sl 91 ([(11, .int .i64 (y.j : Int))] ++ KS2) a ∧ Has _ w0 ([] ++ (HS2 ++ (y.F ++ ((k15, C (WoV.c y.W) 55) :: (y.W.tE ++ (y.W.gE ++ (DsF y.W.ds ++ WoV.GF y.W y.Zp))))))) w) ⟨0, W2, Z ++ G2, F2, x2⟩ ⟨⟨Nat.zero_le _, hok2, hJ2, (by simp only; exact hn2.mono (by omega)), ⟨G2, rfl⟩, hm2, fun _ => .inl rfl⟩, hl.addE (t := 11) (hk) rfl (by first | rfl), hh2⟩ ?_
        clear hk hh2 hl hh a w
        intro y a w hI
        obtain ⟨hy9, hl, hh⟩ := hI
        subst hKS2; subst hHS2
        simp only [List.cons_append, List.nil_append, List.append_nil, List.append_assoc] at hl hh
        obtain ⟨j, W2, Zp, F2, x2⟩ := y
        obtain ⟨hj, hok2, hJ2, hn2, ⟨G2, hz2⟩, hm2, ht2⟩ := hy9
        simp only at hj hok2 hJ2 hn2 hz2 hm2 ht2 hl hh
        subst hz2
        refine c_seq ?_
        refine c_seq ?_
        rcases gcase W2 with hgn | ⟨gb, g, hgs⟩
        ·
          have hcg : (WoV.c W2)[0 + 1]? = some (.pointer none) := by rw [wc_g, hgn]; rfl
          have hj9 : j ≤ 1 := by rcases ht2 hgn with h | h <;> omega
          obtain ⟨x3, hbr, hJ3⟩ := (A.Q k15).boot hn2 hJ2 (show W2.g.map _ = none by rw [hgn]; rfl)
          have hbt := boot_spec (wb := k15) (A.L k15) (Z ++ G2) W2 hok2 hgn (by have h9 : W2.l.d.ep ≤ _ := hn2.ep; omega) x2 x3 F2 hm2 hbr
          simp only [WoV.F] at hbt
          refine c_region ?_
          refine wl (wl_val hl rfl trivial (r_move hl rfl) ?_)
          clear hl a; intro a hl
          refine wl (wl_val hl rfl trivial (r_nilCheck hl rfl) ?_)
          clear hl a; intro a hl
          refine wl (wl_val hl rfl trivial (r_field hl rfl fld55_1) ?_)
          clear hl a; intro a hl
          refine wl (w_load hl hh rfl trivial one50 rfl (by repeat (first | exact find_head | apply find_tail | apply find_skip)) (by first | exact hcg | rfl) ?_)
          clear hl a; intro a hl
          refine wl (wl_val hl rfl trivial (r_eql_pointer hl rfl rfl ptr50) ?_)
          clear hl a; intro a hl
          refine w_nil ?_
          have hl2 := hl.add (t := 2) (hl.add (t := 7) (hl.add (t := 11) (hl.add (t := 78) (hl.nil) rfl) rfl) rfl) rfl; clear hl; have hl := hl2; clear hl2
          refine then_normal ?_
          refine c_condT hl rfl ?_
          refine wp_skip ?_
          refine then_normal ?_
          refine c_seq ?_
          refine wp_block ?_
          refine c_seq ?_
          refine c_region ?_
          refine wl (wl_val hl rfl trivial (r_move hl rfl) ?_)
          clear hl a; intro a hl
          refine wl (wl_val hl rfl trivial (r_eql hl rfl rfl) ?_)
          clear hl a; intro a hl
          rw [decide_eq_false (show ¬ ((j : Int) = 3) by omega)] at hl
          refine wl (wl_val hl rfl trivial (r_move hl rfl) ?_)
          clear hl a; intro a hl
          refine wl (wl_val hl rfl ⟨_, _, rfl, rfl, rfl⟩ (r_move hl rfl) ?_)
          clear hl a; intro a hl
          refine wl (wl_val hl rfl ⟨_, _, rfl, rfl, rfl⟩ (r_move hl rfl) ?_)
          clear hl a; intro a hl
          refine wl (w_call hl hh rfl ⟨_, _, rfl, rfl, rfl⟩ rfl cal10 rfl (hbt) (by repeat (first | exact keeps_nil | apply keeps_cons (by repeat (first | exact find_head | apply find_tail | apply find_skip)) (by first  | rfl) | exact keeps_self | exact keeps_left | apply keeps_app | apply keeps_mv | apply keeps_skip)) trivial ?_)
          clear hl hh a w; intro vc Fc a w hR hl hh
          rcases hR with ⟨rfl, W4, F4, hok4, hpl4, hm4, rfl⟩
          ·
            try simp only [List.cons_append, List.nil_append, List.append_nil] at hh
            try simp only [List.append_assoc, List.cons_append, List.nil_append] at hh
            have hJ4 : (A.Q k15).J (W4.pl [] []) x3 := by rw [hpl4]; exact hJ3
            have hn4 : WI (2 + 161 * n + 1 + j + 1) (W4.pl [] []) := by rw [hpl4]; exact hn2.boot (show _ = none by show Option.map _ _ = none; rw [hgn]; rfl)
            have ht4 : W4.g = none → j + 1 = 0 ∨ (j + 1 = 1 ∧ W4.l.pl.fu ≤ 0) := fun h9 => by
              have h8 := boot_t hgn hpl4 h9
              rcases ht2 hgn with h7 | h7
              · exact .inr ⟨by omega, by omega⟩
              · omega
            refine wl (wl_val hl rfl ⟨_, _, rfl, rfl, rfl⟩ (r_not hl rfl) ?_)
            clear hl a; intro a hl
            refine wl (wl_val hl rfl trivial (r_pickF hl rfl rfl) ?_)
            clear hl a; intro a hl
            refine w_nil ?_
            have hl2 := hl.add (t := 2) (hl.add (t := 7) (hl.add (t := 11) (hl.add (t := 88) (hl.nil) rfl) rfl) rfl) rfl; clear hl; have hl := hl2; clear hl2
            refine then_normal ?_
            refine c_condF hl rfl ?_
            refine wp_skip ?_
            refine blk_normal ?_
            refine then_normal ?_
            refine c_region ?_
            refine wl (wl_val hl rfl trivial (r_move hl rfl) ?_)
            clear hl a; intro a hl
            first | refine wl (wl_val hl rfl trivial (r_add hl rfl rfl (by simp only [Fits]; omega)) ?_) | refine wl (wl_val hl rfl trivial (r_addW hl rfl rfl) ?_)
            clear hl a; intro a hl
            refine wl (wl_val hl rfl trivial (r_assign hl rfl) ?_)
            clear hl a; intro a hl
            refine w_nil ?_
            have hl2 := hl.add (t := 2) (hl.add (t := 7) (hl.add (t := 11) (hl.nil) rfl) rfl) rfl; clear hl; have hl := hl2; clear hl2
            refine then_normal ?_
            refine ⟨⟨j + 1, W4, Z ++ G2, F4, x3⟩, (show 3 - (j + 1) < 3 - j by omega), ⟨show j + 1 ≤ 2 by omega, hok4, hJ4, (show WI (2 + 161 * n + 1 + (j + 1)) _ from hn4.mono (by omega)), ⟨G2, rfl⟩, hm4, ht4⟩, hl.addE (t := 11) (hl.addE (t := 2) (hl.addE (t := 7) (hl.nil) rfl (by first | rfl | exact congrArg (Value.int .i64) (show (j : Int) + 1 = ((j + 1 : Nat) : Int) by omega))) rfl (by first | rfl | exact congrArg (Value.int .i64) (show (j : Int) + 1 = ((j + 1 : Nat) : Int) by omega))) rfl (by first | rfl | exact congrArg (Value.int .i64) (show (j : Int) + 1 = ((j + 1 : Nat) : Int) by omega)), hh.keep (by repeat (first | exact keeps_nil | apply keeps_cons (by repeat (first | exact find_head | apply find_tail | apply find_skip)) (by first  | rfl) | exact keeps_self | exact keeps_left | apply keeps_app | apply keeps_mv | apply keeps_skip))⟩
        ·
          have hcg : (WoV.c W2)[0 + 1]? = some (.pointer (some ⟨gb, 0, none⟩)) := by rw [wc_g, hgs]; rfl
          have hfn := A.fin k15 W2 (Z ++ G2) x2 F2 (2 + 161 * n + 1 + j) hok2 hJ2 hn2 (by omega) ⟨gb, g, hgs⟩ hm2
          simp only [WoV.F, List.append_assoc] at hfn
          refine c_region ?_
          refine wl (wl_val hl rfl trivial (r_move hl rfl) ?_)
          clear hl a; intro a hl
          refine wl (wl_val hl rfl trivial (r_nilCheck hl rfl) ?_)
          clear hl a; intro a hl
          refine wl (wl_val hl rfl trivial (r_field hl rfl fld55_1) ?_)
          clear hl a; intro a hl
          refine wl (w_load hl hh rfl trivial one50 rfl (by repeat (first | exact find_head | apply find_tail | apply find_skip)) (by first | exact hcg | rfl) ?_)
          clear hl a; intro a hl
          refine wl (wl_val hl rfl trivial (r_eql_pointer hl rfl rfl ptr50) ?_)
          clear hl a; intro a hl
          refine w_nil ?_
          have hl2 := hl.add (t := 2) (hl.add (t := 7) (hl.add (t := 11) (hl.add (t := 78) (hl.nil) rfl) rfl) rfl) rfl; clear hl; have hl := hl2; clear hl2
          refine then_normal ?_
          refine c_condF hl rfl ?_
          refine wp_exit ?_
          refine then_exit ?_
          refine then_exit ?_
          refine blk_exit ?_
          refine then_normal ?_
          refine c_seq ?_
          refine c_region ?_
          refine wl (wl_val hl rfl trivial (r_move hl rfl) ?_)
          clear hl a; intro a hl
          refine wl (w_callP hl hh rfl trivial rfl (A.dfin k15) rfl (hfn) (by repeat (first | exact keeps_nil | apply keeps_cons (by repeat (first | exact find_head | apply find_tail | apply find_skip)) (by first  | rfl) | exact keeps_self | exact keeps_left | apply keeps_app | apply keeps_mv | apply keeps_skip)) trivial ?_)
          clear hl hh a w; intro vc Fc a w hR hl hh
          obtain ⟨rfl, F5, W5, G5, rfl⟩ := hR
          try simp only [List.cons_append, List.nil_append, List.append_assoc, List.append_nil] at hh
          try simp only [List.append_assoc, List.cons_append, List.nil_append] at hh
          refine wl (wl_val hl rfl trivial (r_assign hl rfl) ?_)
          clear hl a; intro a hl
          refine w_nil ?_
          have hl2 := hl.add (t := 6) (hl.nil) rfl; clear hl; have hl := hl2; clear hl2
          refine then_normal ?_
          refine wp_ret ?_
          refine f_ret1 (F' := F5 ++ ((k15, C (WoV.c W5) 55) :: (W5.tE ++ (W5.gE ++ (DsF W5.ds ++ WoV.GF W5 (Z ++ (G2 ++ G5))))))) hl hh rfl rfl (by repeat (first | exact keeps_nil | apply keeps_cons (by repeat (first | exact find_head | apply find_tail | apply find_skip)) (by first  | rfl) | exact keeps_self | exact keeps_left | apply keeps_app | apply keeps_mv | apply keeps_skip)) ?_
          exact ⟨rfl, F5, k15, W5, G2 ++ G5, rfl⟩
end Go.Proofs.Qxb6500908aGreat

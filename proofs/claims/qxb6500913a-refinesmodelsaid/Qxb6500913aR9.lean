import Derived.Test.Qxb6500913aR8
import Derived.Test.Qxb6500913aStr
namespace Go.Proofs.Qxb6500913a
open Go.Eng
set_option linter.unusedVariables false
set_option linter.unusedSimpArgs false
theorem cal15 : callable Try.prog 15 = true := by kernel_rfl
theorem cal18 : callable Try.prog 18 = true := by kernel_rfl
theorem cal19 : callable Try.prog 19 = true := by kernel_rfl
theorem cal20 : callable Try.prog 20 = true := by kernel_rfl
theorem shp47 : shapeT Try.prog 8 47 = some [.int .i64, .int .i64, .int .i64, .int .i64, .int .i64] := by kernel_rfl
theorem eqf47 : eqOk Try.prog 8 47 = true := by kernel_rfl
theorem cal22 : callable Try.prog 22 = true := by kernel_rfl
theorem cal23 : callable Try.prog 23 = true := by kernel_rfl
attribute [local irreducible] encL MFB mblk

set_option maxHeartbeats 4000000 in
theorem law3 (sb : Nat) (c : List Value) (T : TypeId) (fr : Nat × Nat) (p : Option Addr) (n cap : Nat) (ops : List MOp) (hn : n = ops.length) (hlen : n ≤ 9223372036854775807) (h : Ops sb c p cap ops) : SpK Try.prog 3 #[.slice p n cap] (OpsIn sb c T fr ops) [] (fun v F' => v = .bool true ∧ F' = []) := by
  refine f_enter (args := [.slice p n cap]) Try.func3 rfl Try.ntmps3 rfl ?_
  intro w0 w a hpre hl hh
  obtain ⟨g, sv, hgl, hboot, hstart⟩ := start_boot sb c T fr p n cap ops hn h
  simp only [slotsFrom, Nat.reduceAdd] at hl
  refine c_seq ?_
  refine c_region ?_
  refine wl (wl_val hl rfl trivial (r_assign hl rfl) ?_)
  clear hl a; intro a hl
  refine w_nil ?_
  have hl2 := hl.add (t := 0) (hl.nil) rfl; clear hl; have hl := hl2; clear hl2
  refine then_normal ?_
  refine c_seq ?_
  refine c_seq ?_
  refine c_region ?_
  refine wl (wl_val hl rfl trivial (r_move hl rfl) ?_)
  clear hl a; intro a hl
  refine wl (w_call hl hh rfl trivial rfl cal12 rfl (small_spec p n cap hlen) (by repeat (first | exact keeps_nil | apply keeps_cons (by repeat (first | exact find_head | apply find_tail)) (by first  | rfl) | exact keeps_self | exact keeps_left | exact keeps_right | exact keeps_swap | apply keeps_mv)) trivial ?_)
  clear hl hh a w; intro vc Fc a w hR hl hh
  obtain ⟨rfl, rfl⟩ := hR
  try simp only [List.cons_append, List.nil_append] at hh
  refine wl (wl_val hl rfl trivial (r_not hl rfl) ?_)
  clear hl a; intro a hl
  refine w_nil ?_
  have hl2 := hl.add (t := 0) (hl.add (t := 18) (hl.nil) rfl) rfl; clear hl; have hl := hl2; clear hl2
  refine then_normal ?_
  refine c_cond hl rfl ?_ ?_
  · intro hc0
    try simp only [decide_eq_true_eq, decide_eq_false_iff_not, Bool.not_eq_true', Bool.not_eq_false', Bool.not_eq_true, Bool.not_eq_false, Bool.and_eq_true, Bool.or_eq_true, Bool.and_eq_false_iff, Bool.or_eq_false_iff, Bool.not_not, ne_eq, Int.not_lt, Int.not_le, Decidable.not_not, beq_iff_eq, bne_iff_ne] at hc0
    refine c_seq ?_
    refine c_region ?_
    refine wl (wl_val hl rfl trivial (r_assign hl rfl) ?_)
    clear hl a; intro a hl
    refine w_nil ?_
    have hl2 := hl.add (t := 2) (hl.nil) rfl; clear hl; have hl := hl2; clear hl2
    refine then_normal ?_
    refine wp_ret ?_
    refine then_ret ?_
    refine f_ret1 (F' := []) hl hh rfl rfl (by repeat (first | exact keeps_nil | apply keeps_cons (by repeat (first | exact find_head | apply find_tail)) (by first  | rfl) | exact keeps_self | exact keeps_left | exact keeps_right | exact keeps_swap | apply keeps_mv)) ?_
    exact ⟨rfl, rfl⟩
  · intro hc0
    try simp only [decide_eq_true_eq, decide_eq_false_iff_not, Bool.not_eq_true', Bool.not_eq_false', Bool.not_eq_true, Bool.not_eq_false, Bool.and_eq_true, Bool.or_eq_true, Bool.and_eq_false_iff, Bool.or_eq_false_iff, Bool.not_not, ne_eq, Int.not_lt, Int.not_le, Decidable.not_not, beq_iff_eq, bne_iff_ne] at hc0
    refine wp_skip ?_
    refine then_normal ?_
    refine c_seq ?_
    refine c_region ?_
    refine wl (wl_val hl rfl trivial (r_move hl rfl) ?_)
    clear hl a; intro a hl
    refine wl (w_call hl hh rfl trivial rfl cal13 rfl (hstart) (by repeat (first | exact keeps_nil | apply keeps_cons (by repeat (first | exact find_head | apply find_tail)) (by first  | rfl) | exact keeps_self | exact keeps_left | exact keeps_right | exact keeps_swap | apply keeps_mv)) (OpsIn.keep (fun b hb => hh.frm.block b hb (by simp)) hpre) ?_)
    clear hl hh a w; intro vc Fc a w hR hl hh
    obtain ⟨gb, b, p2, n2, cap2, steps, hn2, rfl, hO, hst, rfl⟩ := hR
    try simp only [List.cons_append, List.nil_append] at hh
    refine wl (wl_val hl rfl trivial (r_move hl rfl) ?_)
    clear hl a; intro a hl
    refine wl (wl_val hl rfl trivial (r_extract hl rfl (by simp only [List.getElem?_toArray, List.getElem?_cons_zero, List.getElem?_cons_succ]; rfl)) ?_)
    clear hl a; intro a hl
    refine wl (wl_val hl rfl trivial (r_extract hl rfl (by simp only [List.getElem?_toArray, List.getElem?_cons_zero, List.getElem?_cons_succ]; rfl)) ?_)
    clear hl a; intro a hl
    refine wl (wl_val hl rfl trivial (r_assign hl rfl) ?_)
    clear hl a; intro a hl
    refine wl (wl_val hl rfl trivial (r_assign hl rfl) ?_)
    clear hl a; intro a hl
    refine w_nil ?_
    have hl2 := hl.add (t := 0) (hl.add (t := 3) (hl.add (t := 4) (hl.nil) rfl) rfl) rfl; clear hl; have hl := hl2; clear hl2
    refine then_normal ?_
    refine c_seq ?_
    refine c_region ?_
    refine wl (wl_val hl rfl trivial (r_move hl rfl) ?_)
    clear hl a; intro a hl
    refine wl (w_call hl hh rfl trivial rfl cal14 rfl (hboot) (by repeat (first | exact keeps_nil | apply keeps_cons (by repeat (first | exact find_head | apply find_tail)) (by first  | rfl) | exact keeps_self | exact keeps_left | exact keeps_right | exact keeps_swap | apply keeps_mv)) (OpsIn.keep (fun b hb => hh.frm.block b hb (by simp)) hpre) ?_)
    clear hl hh a w; intro vc Fc a w hR hl hh
    obtain ⟨rfl, rfl⟩ := hR
    try simp only [List.cons_append, List.nil_append] at hh
    refine wl (wl_val hl rfl trivial (r_move hl rfl) ?_)
    clear hl a; intro a hl
    refine wl (wl_val hl rfl trivial (r_extract hl rfl (by simp only [List.getElem?_toArray, List.getElem?_cons_zero, List.getElem?_cons_succ]; rfl)) ?_)
    clear hl a; intro a hl
    refine wl (wl_val hl rfl trivial (r_extract hl rfl (by simp only [List.getElem?_toArray, List.getElem?_cons_zero, List.getElem?_cons_succ]; rfl)) ?_)
    clear hl a; intro a hl
    refine wl (wl_val hl rfl trivial (r_assign hl rfl) ?_)
    clear hl a; intro a hl
    refine wl (wl_val hl rfl trivial (r_assign hl rfl) ?_)
    clear hl a; intro a hl
    refine w_nil ?_
    have hl2 := hl.add (t := 3) (hl.add (t := 4) (hl.add (t := 5) (hl.nil) rfl) rfl) rfl; clear hl; have hl := hl2; clear hl2
    refine then_normal ?_
    refine c_seq ?_
    refine c_region ?_
    refine wl (wl_val hl rfl trivial (r_move hl rfl) ?_)
    clear hl a; intro a hl
    refine wl (w_call hl hh rfl trivial rfl cal15 rfl (newM_spec g) (by repeat (first | exact keeps_nil | apply keeps_cons (by repeat (first | exact find_head | apply find_tail)) (by first  | rfl) | exact keeps_self | exact keeps_left | exact keeps_right | exact keeps_swap | apply keeps_mv)) trivial ?_)
    clear hl hh a w; intro vc Fc a w hR hl hh
    obtain ⟨mb, wb, rb, zb, fb, qb, rfl, rfl⟩ := hR
    try simp only [List.cons_append, List.nil_append] at hh
    have hh5 := hh.keep (F' := (gb, C [.pointer (some ⟨b, 0, none⟩), .slice none 0 0] 41) :: (b, C (encL (initF (cutG g))) 87) :: [(mb, C [.map (some wb), .int .u64 (cutG g), .map (some rb), .map (some zb), .map (some fb), .map (some qb), .int .u32 2, .int .i64 0] 56), (wb, MO (kInt .u32) []), (rb, MO (kInt .u32) []), (zb, MO (kInt .u64) []), (fb, MO (kInt .u64) []), (qb, MO (kInt .i64) [])]) (by repeat (first | exact keeps_nil | apply keeps_cons (by repeat (first | exact find_head | apply find_tail)) (by first  | rfl) | exact keeps_self | exact keeps_left | exact keeps_right | exact keeps_swap | apply keeps_mv))
    clear hh; have hh := hh5; clear hh5
    rw [← MFB_init mb wb rb zb fb qb (cutG g)] at hh
    obtain ⟨hG0, hG1⟩ := cutG_in g
    generalize cutG g = G at hh hG0 hG1
    refine wl (wl_val hl rfl trivial (r_assign hl rfl) ?_)
    clear hl a; intro a hl
    refine w_nil ?_
    have hl2 := hl.add (t := 3) (hl.add (t := 4) (hl.add (t := 7) (hl.nil) rfl) rfl) rfl; clear hl; have hl := hl2; clear hl2
    refine then_normal ?_
    refine c_seq ?_
    refine c_seq ?_
    refine c_region ?_
    refine wl (wl_val hl rfl trivial (r_move hl rfl) ?_)
    clear hl a; intro a hl
    refine wl (wl_val hl rfl trivial (r_lenS hl rfl slc22) ?_)
    clear hl a; intro a hl
    refine wl (wl_val hl rfl trivial (r_move hl rfl) ?_)
    clear hl a; intro a hl
    refine w_nil ?_
    have hl2 := hl.add (t := 3) (hl.add (t := 7) (hl.add (t := 31) (hl.add (t := 32) (hl.add (t := 33) (hl.nil) rfl) rfl) rfl) rfl) rfl; clear hl; have hl := hl2; clear hl2
    refine then_normal ?_
    refine wp_block ?_
    obtain ⟨KS0, hKS0, hk⟩ := (hl.add (t := 3) (hl.add (t := 7) (hl.add (t := 31) (hl.add (t := 32) (hl.nil) rfl) rfl) rfl) rfl).name
    obtain ⟨HS0, hHS0, hh2⟩ := hh.nameT (A := [(gb, C [.pointer (some ⟨b, 0, none⟩), .slice none 0 0] 41), (b, C (encL (initF G)) 87)]) (U := MFB mb wb rb zb fb qb (initF G) [] [] [] [] []) (keeps_cons (b := gb) (o' := C [.pointer (some ⟨b, 0, none⟩), .slice none 0 0] 41) (by repeat (first | exact find_head | apply find_tail)) (by first | rfl) (keeps_cons (b := b) (o' := C (encL (initF G)) 87) (by repeat (first | exact find_head | apply find_tail)) (by first | rfl) ((by repeat (first | exact keeps_nil | exact keeps_self | exact keeps_swap | apply keeps_mv)))))
    refine c_loop (α := LS × RS) (fun s => n2 - s.1.i) (fun s a w => (LI n2 s.1 ∧ RM s.1.f s.1.fl s.2.W s.2.R s.2.Z s.2.Fd s.2.ws) ∧ Sl 96 ([(33, .int .i64 s.1.i)] ++ KS0) a ∧ Has _ w0 ([(gb, C [.pointer (some ⟨b, 0, none⟩), s.1.rv] 41), (b, C (encL s.1.f) 87)] ++ (HS0 ++ s.1.Er ++ MFB mb wb rb zb fb qb s.1.f s.2.W s.2.R s.2.Z s.2.Fd s.2.ws)) w) (⟨0, initF G, fun _ => [], [], .slice none 0 0, []⟩, ⟨[], [], [], [], []⟩) ⟨⟨LI.start G hG0 hG1, RM.start G hG0 hG1⟩, hl.addE (t := 33) (hk) rfl (by first | rfl), (by first | exact hh2 | (simp only [List.append_nil, List.nil_append]; exact hh2) | (simp only [List.append_nil, List.nil_append] at hh2 ⊢; exact hh2))⟩ ?_
    clear hk hh2 hl hh a w
    intro s a w hI
    obtain ⟨⟨hI, hM2⟩, hl, hh⟩ := hI
    subst hKS0; subst hHS0
    simp only [List.cons_append, List.nil_append, List.append_nil] at hl hh
    have hle9 := hI.le
    refine c_seq ?_
    refine c_region ?_
    refine wl (wl_val hl rfl trivial (r_lss hl rfl rfl) ?_)
    clear hl a; intro a hl
    refine w_nil ?_
    have hl2 := hl.add (t := 3) (hl.add (t := 7) (hl.add (t := 31) (hl.add (t := 32) (hl.add (t := 33) (hl.add (t := 34) (hl.nil) rfl) rfl) rfl) rfl) rfl) rfl; clear hl; have hl := hl2; clear hl2
    refine then_normal ?_
    refine c_seq ?_
    refine c_cond hl rfl ?_ ?_
    · intro hc1
      try simp only [decide_eq_true_eq, decide_eq_false_iff_not, Bool.not_eq_true', Bool.not_eq_false', Bool.not_eq_true, Bool.not_eq_false, Bool.and_eq_true, Bool.or_eq_true, Bool.and_eq_false_iff, Bool.or_eq_false_iff, Bool.not_not, ne_eq, Int.not_lt, Int.not_le, Decidable.not_not, beq_iff_eq, bne_iff_ne] at hc1
      have hi : s.1.i < n2 := by omega
      obtain ⟨so, rfl, hat⟩ := hO.at_ (by omega)
      obtain ⟨q, hq⟩ : ∃ q, steps[s.1.i]? = some q := ⟨_, List.getElem?_eq_getElem (by omega)⟩
      have hqv := hat s.1.i q hq
      have hqo := hO.ok q (List.mem_of_getElem? hq)
      have hm := hpre (by omega)
      obtain ⟨kd, x, A, B, E, D⟩ := q
      simp only [MOp.vals] at hqv
      refine wp_skip ?_
      refine then_normal ?_
      refine c_seq ?_
      refine wp_block ?_
      refine c_seq ?_
      refine c_region ?_
      refine wl (wl_val hl rfl trivial (r_indexS hl rfl rfl slc22 (by omega) (by omega) (by first | (simp only [Int.reduceToNat]; rfl) | exact toNat_add1 _ | exact toNat_add2 _ _ | exact toNat_emod _ _ | exact Int.toNat_natCast _ | rfl)) ?_)
      clear hl a; intro a hl
      first | refine wl (w_loadA hl hh rfl trivial agg36 rfl (by repeat (first | exact find_head | apply find_tail)) (by first | (simp only [List.getElem?_cons_zero, List.getElem?_cons_succ, Value.cells, List.take_zero, List.take_succ_cons, List.take_nil, List.drop_zero, List.drop_succ_cons, List.drop_nil, List.length_cons, List.length_nil, List.cons_append, List.nil_append, List.append_nil, Nat.zero_add, Nat.add_zero, Nat.reduceAdd, Nat.reduceBEq, Nat.reduceEqDiff, Nat.ble, BEq.rfl, Bool.and_true, Bool.and_self, cond_true, beq_self_eq_true]; rfl)) (by first | rfl | (simp; done)) ?_) | refine wl (w_loadRA hl hh rfl trivial agg36 rfl hm (by simp) hqv rfl ?_)
      clear hl a; intro a hl
      refine wl (w_alloc hl hh rfl trivial zero36 rfl ?_)
      clear hl hh a w; intro k9 a w hl hh
      refine wl (w_storeA hl hh trivial agg36 rfl rfl (by repeat (first | exact find_head | apply find_tail)) (by first | rfl | (simp; done)) (by first | (simp; done) | (simp; omega)) (by first | rfl | (simp; done)) (by first | (simp only [setL, List.getElem?_cons_zero, List.getElem?_cons_succ, Value.cells, List.take_zero, List.take_succ_cons, List.take_nil, List.drop_zero, List.drop_succ_cons, List.drop_nil, List.length_cons, List.length_nil, List.cons_append, List.nil_append, List.append_nil, Nat.zero_add, Nat.add_zero, Nat.reduceAdd, Nat.reduceBEq, Nat.reduceEqDiff, Nat.ble, BEq.rfl, Bool.and_true, Bool.and_self, cond_true, beq_self_eq_true]; rfl)) ?_)
      clear hh w; intro w hh
      refine w_nil ?_
      have hl2 := hl.add (t := 3) (hl.add (t := 7) (hl.add (t := 9) (hl.add (t := 31) (hl.add (t := 32) (hl.add (t := 33) (hl.nil) rfl) rfl) rfl) rfl) rfl) rfl; clear hl; have hl := hl2; clear hl2
      refine then_normal ?_
      refine c_seq ?_
      refine c_draw [(gb, C [.pointer (some ⟨b, 0, none⟩), s.1.rv] 41), (k9, C [.int .u8 kd, .int .u32 x, .int .u64 A, .int .u64 B, .int .u64 E, .int .u64 D] 36)] [7] mixed hh ?_
      clear hh w; intro w hh
      have hM : Mem [(gb, C [.pointer (some ⟨b, 0, none⟩), s.1.rv] 41), (k9, C [.int .u8 kd, .int .u32 x, .int .u64 A, .int .u64 B, .int .u64 E, .int .u64 D] 36)] w := (by repeat (first | exact Mem.nil | refine Mem.cons hh.mem (by repeat (first | exact find_head | apply find_tail)) ?_ | refine Mem.consR hh (by assumption) (by simp) ?_))
      refine d_take (i := 0) hl rfl (by kernel_rfl) (by kernel_rfl) (by kernel_rfl) (by kernel_rfl) (by kernel_rfl) rfl trivial (fun _ _ _ h => h) hM (fun w hC => r_loadCA hl rfl agg36 hC (by repeat (first | exact find_head | apply find_tail)) (by first | (simp only [List.getElem?_cons_zero, List.getElem?_cons_succ, Value.cells, List.take_zero, List.take_succ_cons, List.take_nil, List.drop_zero, List.drop_succ_cons, List.drop_nil, List.length_cons, List.length_nil, List.cons_append, List.nil_append, List.append_nil, Nat.zero_add, Nat.add_zero, Nat.reduceAdd, Nat.reduceBEq, Nat.reduceEqDiff, Nat.ble, BEq.rfl, Bool.and_true, Bool.and_self, cond_true, beq_self_eq_true]; rfl)) (by first | rfl | (simp; done))) rfl ?_
      clear hl a; intro a hl
      refine d_take (i := 1) hl rfl (by kernel_rfl) (by kernel_rfl) (by kernel_rfl) (by kernel_rfl) (by kernel_rfl) rfl trivial (fun _ _ _ h => h) hM (fun w hC => r_move hl rfl) rfl ?_
      clear hl a; intro a hl
      refine d_take (i := 2) hl rfl (by kernel_rfl) (by kernel_rfl) (by kernel_rfl) (by kernel_rfl) (by kernel_rfl) rfl trivial (fun _ _ _ h => h) hM (fun w hC => r_nilCheck hl rfl) rfl ?_
      clear hl a; intro a hl
      refine d_take (i := 3) hl rfl (by kernel_rfl) (by kernel_rfl) (by kernel_rfl) (by kernel_rfl) (by kernel_rfl) rfl trivial (fun _ _ _ h => h) hM (fun w hC => r_field hl rfl fld41_1) rfl ?_
      clear hl a; intro a hl
      refine d_take (i := 4) hl rfl (by kernel_rfl) (by kernel_rfl) (by kernel_rfl) (by kernel_rfl) (by kernel_rfl) rfl trivial (fun _ _ _ h => h) hM (fun w hC => r_loadC hl rfl one39 hC (by repeat (first | exact find_head | apply find_tail)) (by first | rfl)) rfl ?_
      clear hl a; intro a hl
      refine d_two (i := 5) (j := 6) (by kernel_rfl) rfl rfl ?_ ?_
      ·
        try clear hM
        refine id (w_call hl hh rfl trivial rfl cal16 rfl (plain_spec s.1.rs s.1.rv s.1.Er hI.row (by have := hI.len; omega) ⟨kd, x, A, B, E, D⟩) (by repeat (first | exact keeps_nil | apply keeps_cons (by repeat (first | exact find_head | apply find_tail)) (by first  | rfl) | exact keeps_self | exact keeps_left | exact keeps_right | exact keeps_swap | apply keeps_mv)) trivial ?_)
        clear hl hh a w; intro vc Fc a w hR hl hh
        obtain ⟨rfl, rfl⟩ := hR
        try simp only [List.cons_append, List.nil_append] at hh
        replace hh := hh.comm; simp only [List.cons_append, List.nil_append, List.append_nil] at hh; have hok : (plainF s.1.rs ⟨kd, x, A, B, E, D⟩).ok := plainF_ok hqo hI.ok; generalize hp2 : plainF s.1.rs ⟨kd, x, A, B, E, D⟩ = o2 at hl hok; obtain ⟨kd2, x2, A2, B2, E2, D2⟩ := o2; simp only [MOp.vals] at hl
        have hM : Mem [(gb, C [.pointer (some ⟨b, 0, none⟩), s.1.rv] 41), (k9, C [.int .u8 kd, .int .u32 x, .int .u64 A, .int .u64 B, .int .u64 E, .int .u64 D] 36)] w := (by repeat (first | exact Mem.nil | refine Mem.cons hh.mem (by repeat (first | exact find_head | apply find_tail)) ?_ | refine Mem.consR hh (by assumption) (by simp) ?_))
        refine d_step (fun _ => hM) ?_
        refine d_one (i := 6) (by kernel_rfl) rfl ?_
        try clear hM
        refine id (w_alloc hl hh rfl trivial zero36 rfl ?_)
        clear hl hh a w; intro k10 a w hl hh
        have hM : Mem [(gb, C [.pointer (some ⟨b, 0, none⟩), s.1.rv] 41), (k9, C [.int .u8 kd, .int .u32 x, .int .u64 A, .int .u64 B, .int .u64 E, .int .u64 D] 36)] w := (by repeat (first | exact Mem.nil | refine Mem.cons hh.mem (by repeat (first | exact find_head | apply find_tail)) ?_ | refine Mem.consR hh (by assumption) (by simp) ?_))
        refine d_step (fun _ => hM) ?_
        refine d_one (i := 7) (by kernel_rfl) rfl ?_
        try clear hM
        refine id (w_storeA hl hh trivial agg36 rfl rfl (by repeat (first | exact find_head | apply find_tail)) (by first | rfl | (simp; done)) (by first | (simp; done) | (simp; omega)) (by first | rfl | (simp; done)) (by first | (simp only [setL, List.getElem?_cons_zero, List.getElem?_cons_succ, Value.cells, List.take_zero, List.take_succ_cons, List.take_nil, List.drop_zero, List.drop_succ_cons, List.drop_nil, List.length_cons, List.length_nil, List.cons_append, List.nil_append, List.append_nil, Nat.zero_add, Nat.add_zero, Nat.reduceAdd, Nat.reduceBEq, Nat.reduceEqDiff, Nat.ble, BEq.rfl, Bool.and_true, Bool.and_self, cond_true, beq_self_eq_true]; rfl)) ?_)
        clear hh w; intro w hh
        refine d_step (fun h => absurd h (by decide)) ?_
        refine d_done (by kernel_rfl) ?_
        try clear hM
        have hl2 := hl.add (t := 3) (hl.add (t := 7) (hl.add (t := 10) (hl.add (t := 31) (hl.add (t := 32) (hl.add (t := 33) (hl.nil) rfl) rfl) rfl) rfl) rfl) rfl; clear hl; have hl := hl2; clear hl2
        refine then_normal ?_
        refine c_seq ?_
        refine c_seq ?_
        refine c_draw [(k10, C [.int .u8 kd2, .int .u32 x2, .int .u64 A2, .int .u64 B2, .int .u64 E2, .int .u64 D2] 36)] [5, 6] mixed hh ?_
        clear hh w; intro w hh
        have hM : Mem [(k10, C [.int .u8 kd2, .int .u32 x2, .int .u64 A2, .int .u64 B2, .int .u64 E2, .int .u64 D2] 36)] w := (by repeat (first | exact Mem.nil | refine Mem.cons hh.mem (by repeat (first | exact find_head | apply find_tail)) ?_ | refine Mem.consR hh (by assumption) (by simp) ?_))
        refine d_take (i := 0) hl rfl (by kernel_rfl) (by kernel_rfl) (by kernel_rfl) (by kernel_rfl) (by kernel_rfl) rfl trivial (fun _ _ _ h => h) hM (fun w hC => r_move hl rfl) rfl ?_
        clear hl a; intro a hl
        refine d_take (i := 1) hl rfl (by kernel_rfl) (by kernel_rfl) (by kernel_rfl) (by kernel_rfl) (by kernel_rfl) rfl trivial (fun _ _ _ h => h) hM (fun w hC => r_loadCA hl rfl agg36 hC (by repeat (first | exact find_head | apply find_tail)) (by first | (simp only [List.getElem?_cons_zero, List.getElem?_cons_succ, Value.cells, List.take_zero, List.take_succ_cons, List.take_nil, List.drop_zero, List.drop_succ_cons, List.drop_nil, List.length_cons, List.length_nil, List.cons_append, List.nil_append, List.append_nil, Nat.zero_add, Nat.add_zero, Nat.reduceAdd, Nat.reduceBEq, Nat.reduceEqDiff, Nat.ble, BEq.rfl, Bool.and_true, Bool.and_self, cond_true, beq_self_eq_true]; rfl)) (by first | rfl | (simp; done))) rfl ?_
        clear hl a; intro a hl
        refine d_take (i := 3) hl rfl (by kernel_rfl) (by kernel_rfl) (by kernel_rfl) (by kernel_rfl) (by kernel_rfl) rfl trivial (fun _ _ _ h => h) hM (fun w hC => r_move hl rfl) rfl ?_
        clear hl a; intro a hl
        refine d_take (i := 4) hl rfl (by kernel_rfl) (by kernel_rfl) (by kernel_rfl) (by kernel_rfl) (by kernel_rfl) rfl trivial (fun _ _ _ h => h) hM (fun w hC => r_loadCA hl rfl agg36 hC (by repeat (first | exact find_head | apply find_tail)) (by first | (simp only [List.getElem?_cons_zero, List.getElem?_cons_succ, Value.cells, List.take_zero, List.take_succ_cons, List.take_nil, List.drop_zero, List.drop_succ_cons, List.drop_nil, List.length_cons, List.length_nil, List.cons_append, List.nil_append, List.append_nil, Nat.zero_add, Nat.add_zero, Nat.reduceAdd, Nat.reduceBEq, Nat.reduceEqDiff, Nat.ble, BEq.rfl, Bool.and_true, Bool.and_self, cond_true, beq_self_eq_true]; rfl)) (by first | rfl | (simp; done))) rfl ?_
        clear hl a; intro a hl
        refine d_one (i := 2) (by kernel_rfl) rfl ?_
        try clear hM
        refine id (w_call hl hh rfl trivial rfl cal17 rfl (gdo_spec gb b hI.inv (by omega) s.1.rs s.1.rv s.1.Er hI.row (by have := hI.len; omega) ⟨kd2, x2, A2, B2, E2, D2⟩ hok) (by repeat (first | exact keeps_nil | apply keeps_cons (by repeat (first | exact find_head | apply find_tail)) (by first  | rfl) | exact keeps_self | exact keeps_left | exact keeps_right | exact keeps_swap | apply keeps_mv)) trivial ?_)
        clear hl hh a w; intro vc Fc a w hR hl hh
        obtain ⟨rfl, rv2, E3, hR2, rfl⟩ := hR
        try simp only [List.cons_append, List.nil_append] at hh
        replace hh := has_rot2 hh; try simp only [List.cons_append, List.nil_append, List.append_nil, List.append_assoc] at hh
        have hM : Mem [(k10, C [.int .u8 kd2, .int .u32 x2, .int .u64 A2, .int .u64 B2, .int .u64 E2, .int .u64 D2] 36)] w := (by repeat (first | exact Mem.nil | refine Mem.cons hh.mem (by repeat (first | exact find_head | apply find_tail)) ?_ | refine Mem.consR hh (by assumption) (by simp) ?_))
        refine d_step (fun _ => hM) ?_
        refine d_one (i := 5) (by kernel_rfl) rfl ?_
        try clear hM
        refine id (w_call hl hh rfl trivial rfl cal18 rfl (step_spec hI.inv (by omega) hM2 ⟨kd2, x2, A2, B2, E2, D2⟩ hok) (by repeat (first | exact keeps_nil | apply keeps_cons (by repeat (first | exact find_head | apply find_tail)) (by first  | rfl) | exact keeps_self | exact keeps_left | exact keeps_right | exact keeps_swap | apply keeps_mv)) trivial ?_)
        clear hl hh a w; intro vc Fc a w hR hl hh
        obtain ⟨fl2, W2, R2, Z2, Fd2, ws2, hI2, hN2, rfl, rfl⟩ := hR
        try simp only [List.cons_append, List.nil_append] at hh
        replace hh := hh.comm; simp only [List.cons_append, List.nil_append, List.append_nil] at hh; have hts := doF_st s.1.f ⟨kd2, x2, A2, B2, E2, D2⟩; obtain ⟨hft0, hft1⟩ := doF_fits hI.inv ⟨kd2, x2, A2, B2, E2, D2⟩; generalize hr : (doF s.1.f ⟨kd2, x2, A2, B2, E2, D2⟩).ans = r at hl hts hft0 hft1; obtain ⟨t, pp, u, u1⟩ := r; simp only [Ans.l] at hl; simp only at hts hft0 hft1; simp only [Fits] at hft0 hft1
        refine d_step (fun h => absurd h (by decide)) ?_
        refine d_takeL (i := 6) hl rfl (by kernel_rfl) (by kernel_rfl) (by kernel_rfl) (by kernel_rfl) (by kernel_rfl) rfl trivial (fun _ _ _ h => h) (fun w => r_neqA hl rfl rfl eqf44 shp44 (by simp only [unlitL, unlit]; rfl) (by simp only [unlitL, unlit]; rfl) (by first | exact ⟨trivial⟩ | (refine ⟨?_⟩; simp [LitsOk, litOk, Fits]; done) | (refine ⟨?_⟩; simp [LitsOk, litOk, Fits]; omega)) (by first | exact ⟨trivial⟩ | (refine ⟨?_⟩; simp [LitsOk, litOk, Fits]; done) | (refine ⟨?_⟩; simp [LitsOk, litOk, Fits]; omega))) rfl ?_
        clear hl a; intro a hl
        refine d_done (by kernel_rfl) ?_
        try clear hM
        have hl2 := hl.add (t := 3) (hl.add (t := 7) (hl.add (t := 31) (hl.add (t := 32) (hl.add (t := 33) (hl.add (t := 49) (hl.nil) rfl) rfl) rfl) rfl) rfl) rfl; clear hl; have hl := hl2; clear hl2
        refine then_normal ?_
        refine c_cond hl rfl ?_ ?_
        · intro hc2
          try simp only [decide_eq_true_eq, decide_eq_false_iff_not, Bool.not_eq_true', Bool.not_eq_false', Bool.not_eq_true, Bool.not_eq_false, Bool.and_eq_true, Bool.or_eq_true, Bool.and_eq_false_iff, Bool.or_eq_false_iff, Bool.not_not, ne_eq, Int.not_lt, Int.not_le, Decidable.not_not, beq_iff_eq, bne_iff_ne] at hc2
          exfalso; simp [eqLits, litBeq] at hc2
        · intro hc2
          try simp only [decide_eq_true_eq, decide_eq_false_iff_not, Bool.not_eq_true', Bool.not_eq_false', Bool.not_eq_true, Bool.not_eq_false, Bool.and_eq_true, Bool.or_eq_true, Bool.and_eq_false_iff, Bool.or_eq_false_iff, Bool.not_not, ne_eq, Int.not_lt, Int.not_le, Decidable.not_not, beq_iff_eq, bne_iff_ne] at hc2
          refine wp_skip ?_
          refine then_normal ?_
          refine c_seq ?_
          refine c_region ?_
          refine wl (wl_val hl rfl trivial (r_move hl rfl) ?_)
          clear hl a; intro a hl
          refine wl (wl_val hl rfl trivial (r_nilCheck hl rfl) ?_)
          clear hl a; intro a hl
          refine wl (wl_val hl rfl trivial (r_field hl rfl fld41_0) ?_)
          clear hl a; intro a hl
          refine wl (w_load hl hh rfl trivial one38 rfl (by repeat (first | exact find_head | apply find_tail)) (by first | rfl) ?_)
          clear hl a; intro a hl
          refine wl (w_call hl hh rfl trivial rfl cal19 rfl (census_spec b (doF s.1.f ⟨kd2, x2, A2, B2, E2, D2⟩).f) (by repeat (first | exact keeps_nil | apply keeps_cons (by repeat (first | exact find_head | apply find_tail)) (by first  | rfl) | exact keeps_self | exact keeps_left | exact keeps_right | exact keeps_swap | apply keeps_mv)) trivial ?_)
          clear hl hh a w; intro vc Fc a w hR hl hh
          obtain ⟨rfl, rfl⟩ := hR
          try simp only [List.cons_append, List.nil_append] at hh
          refine wl (wl_val hl rfl trivial (r_move hl rfl) ?_)
          clear hl a; intro a hl
          refine wl (w_call hl hh rfl trivial rfl cal20 rfl (censusM2 hI2 (by omega) hN2) (by repeat (first | exact keeps_nil | apply keeps_cons (by repeat (first | exact find_head | apply find_tail)) (by first  | rfl) | exact keeps_self | exact keeps_left | exact keeps_right | exact keeps_swap | apply keeps_mv)) trivial ?_)
          clear hl hh a w; intro vc Fc a w hR hl hh
          obtain ⟨rfl, rfl⟩ := hR
          try simp only [List.cons_append, List.nil_append] at hh
          replace hh := hh.comm; simp only [List.cons_append, List.nil_append, List.append_nil] at hh
          have hc1 := hI2.cn1; have hc2 := hI2.cn2; have hc3 := hI2.cn3; have hc4 := hI2.cn4; have hc0 := hI2.cn0
          refine wl (wl_val hl rfl trivial (r_neqA hl rfl rfl eqf47 shp47 (by simp only [unlitL, unlit]; rfl) (by simp only [unlitL, unlit]; rfl) (by first | exact ⟨trivial⟩ | (refine ⟨?_⟩; simp [LitsOk, litOk, Fits]; done) | (refine ⟨?_⟩; simp [LitsOk, litOk, Fits]; omega)) (by first | exact ⟨trivial⟩ | (refine ⟨?_⟩; simp [LitsOk, litOk, Fits]; done) | (refine ⟨?_⟩; simp [LitsOk, litOk, Fits]; omega))) ?_)
          clear hl a; intro a hl
          refine w_nil ?_
          have hl2 := hl.add (t := 3) (hl.add (t := 7) (hl.add (t := 31) (hl.add (t := 32) (hl.add (t := 33) (hl.add (t := 57) (hl.nil) rfl) rfl) rfl) rfl) rfl) rfl; clear hl; have hl := hl2; clear hl2
          refine then_normal ?_
          refine c_cond hl rfl ?_ ?_
          · intro hc3
            try simp only [decide_eq_true_eq, decide_eq_false_iff_not, Bool.not_eq_true', Bool.not_eq_false', Bool.not_eq_true, Bool.not_eq_false, Bool.and_eq_true, Bool.or_eq_true, Bool.and_eq_false_iff, Bool.or_eq_false_iff, Bool.not_not, ne_eq, Int.not_lt, Int.not_le, Decidable.not_not, beq_iff_eq, bne_iff_ne] at hc3
            exfalso; simp [eqLits, litBeq] at hc3
          · intro hc3
            try simp only [decide_eq_true_eq, decide_eq_false_iff_not, Bool.not_eq_true', Bool.not_eq_false', Bool.not_eq_true, Bool.not_eq_false, Bool.and_eq_true, Bool.or_eq_true, Bool.and_eq_false_iff, Bool.or_eq_false_iff, Bool.not_not, ne_eq, Int.not_lt, Int.not_le, Decidable.not_not, beq_iff_eq, bne_iff_ne] at hc3
            refine wp_skip ?_
            refine blk_normal ?_
            refine then_normal ?_
            refine c_region ?_
            first | refine wl (wl_val hl rfl trivial (r_add hl rfl rfl (by simp only [Fits]; omega)) ?_) | refine wl (wl_val hl rfl trivial (r_addW hl rfl rfl) ?_)
            clear hl a; intro a hl
            refine wl (wl_val hl rfl trivial (r_move hl rfl) ?_)
            clear hl a; intro a hl
            refine w_nil ?_
            have hl2 := hl.add (t := 3) (hl.add (t := 7) (hl.add (t := 31) (hl.add (t := 32) (hl.add (t := 33) (hl.nil) rfl) rfl) rfl) rfl) rfl; clear hl; have hl := hl2; clear hl2
            refine then_normal ?_
            refine ⟨(⟨s.1.i + 1, (doF s.1.f ⟨kd2, x2, A2, B2, E2, D2⟩).f, fl2, keepF s.1.rs ⟨kd2, x2, A2, B2, E2, D2⟩ (doF s.1.f ⟨kd2, x2, A2, B2, E2, D2⟩).ans, rv2, E3⟩, ⟨W2, R2, Z2, Fd2, ws2⟩), (by dsimp only; omega), ⟨hI.next hi hok hI2 hR2, hN2⟩, hl.addE (t := 33) (hl.addE (t := 3) (hl.addE (t := 7) (hl.addE (t := 31) (hl.addE (t := 32) (hl.nil) rfl (by first | rfl | rfl)) rfl (by first | rfl | rfl)) rfl (by first | rfl | rfl)) rfl (by first | rfl | rfl)) rfl (by first | rfl | rfl), (by simp only [List.cons_append, List.nil_append, List.append_nil]; exact hh.keep (by repeat (first | exact keeps_nil | apply keeps_cons (by repeat (first | exact find_head | apply find_tail)) (by first  | rfl) | exact keeps_self | exact keeps_left | exact keeps_right | exact keeps_swap | apply keeps_mv)))⟩
      ·
        try clear hM
        refine id (w_alloc hl hh rfl trivial zero36 rfl ?_)
        clear hl hh a w; intro k10 a w hl hh
        have hM : Mem [(gb, C [.pointer (some ⟨b, 0, none⟩), s.1.rv] 41), (k9, C [.int .u8 kd, .int .u32 x, .int .u64 A, .int .u64 B, .int .u64 E, .int .u64 D] 36)] w := (by repeat (first | exact Mem.nil | refine Mem.cons hh.mem (by repeat (first | exact find_head | apply find_tail)) ?_ | refine Mem.consR hh (by assumption) (by simp) ?_))
        refine d_step (fun _ => hM) ?_
        refine d_one (i := 5) (by kernel_rfl) rfl ?_
        try clear hM
        refine id (w_call hl hh rfl trivial rfl cal16 rfl (plain_spec s.1.rs s.1.rv s.1.Er hI.row (by have := hI.len; omega) ⟨kd, x, A, B, E, D⟩) (by repeat (first | exact keeps_nil | apply keeps_cons (by repeat (first | exact find_head | apply find_tail)) (by first  | rfl) | exact keeps_self | exact keeps_left | exact keeps_right | exact keeps_swap | apply keeps_mv)) trivial ?_)
        clear hl hh a w; intro vc Fc a w hR hl hh
        obtain ⟨rfl, rfl⟩ := hR
        try simp only [List.cons_append, List.nil_append] at hh
        replace hh := hh.comm; simp only [List.cons_append, List.nil_append, List.append_nil] at hh; have hok : (plainF s.1.rs ⟨kd, x, A, B, E, D⟩).ok := plainF_ok hqo hI.ok; generalize hp2 : plainF s.1.rs ⟨kd, x, A, B, E, D⟩ = o2 at hl hok; obtain ⟨kd2, x2, A2, B2, E2, D2⟩ := o2; simp only [MOp.vals] at hl
        have hM : Mem [(gb, C [.pointer (some ⟨b, 0, none⟩), s.1.rv] 41), (k9, C [.int .u8 kd, .int .u32 x, .int .u64 A, .int .u64 B, .int .u64 E, .int .u64 D] 36)] w := (by repeat (first | exact Mem.nil | refine Mem.cons hh.mem (by repeat (first | exact find_head | apply find_tail)) ?_ | refine Mem.consR hh (by assumption) (by simp) ?_))
        refine d_step (fun _ => hM) ?_
        refine d_one (i := 7) (by kernel_rfl) rfl ?_
        try clear hM
        refine id (w_storeA hl hh trivial agg36 rfl rfl (by repeat (first | exact find_head | apply find_tail)) (by first | rfl | (simp; done)) (by first | (simp; done) | (simp; omega)) (by first | rfl | (simp; done)) (by first | (simp only [setL, List.getElem?_cons_zero, List.getElem?_cons_succ, Value.cells, List.take_zero, List.take_succ_cons, List.take_nil, List.drop_zero, List.drop_succ_cons, List.drop_nil, List.length_cons, List.length_nil, List.cons_append, List.nil_append, List.append_nil, Nat.zero_add, Nat.add_zero, Nat.reduceAdd, Nat.reduceBEq, Nat.reduceEqDiff, Nat.ble, BEq.rfl, Bool.and_true, Bool.and_self, cond_true, beq_self_eq_true]; rfl)) ?_)
        clear hh w; intro w hh
        refine d_step (fun h => absurd h (by decide)) ?_
        refine d_done (by kernel_rfl) ?_
        try clear hM
        have hl2 := hl.add (t := 3) (hl.add (t := 7) (hl.add (t := 10) (hl.add (t := 31) (hl.add (t := 32) (hl.add (t := 33) (hl.nil) rfl) rfl) rfl) rfl) rfl) rfl; clear hl; have hl := hl2; clear hl2
        refine then_normal ?_
        refine c_seq ?_
        refine c_seq ?_
        refine c_draw [(k10, C [.int .u8 kd2, .int .u32 x2, .int .u64 A2, .int .u64 B2, .int .u64 E2, .int .u64 D2] 36)] [5, 6] mixed hh ?_
        clear hh w; intro w hh
        have hM : Mem [(k10, C [.int .u8 kd2, .int .u32 x2, .int .u64 A2, .int .u64 B2, .int .u64 E2, .int .u64 D2] 36)] w := (by repeat (first | exact Mem.nil | refine Mem.cons hh.mem (by repeat (first | exact find_head | apply find_tail)) ?_ | refine Mem.consR hh (by assumption) (by simp) ?_))
        refine d_take (i := 0) hl rfl (by kernel_rfl) (by kernel_rfl) (by kernel_rfl) (by kernel_rfl) (by kernel_rfl) rfl trivial (fun _ _ _ h => h) hM (fun w hC => r_move hl rfl) rfl ?_
        clear hl a; intro a hl
        refine d_take (i := 1) hl rfl (by kernel_rfl) (by kernel_rfl) (by kernel_rfl) (by kernel_rfl) (by kernel_rfl) rfl trivial (fun _ _ _ h => h) hM (fun w hC => r_loadCA hl rfl agg36 hC (by repeat (first | exact find_head | apply find_tail)) (by first | (simp only [List.getElem?_cons_zero, List.getElem?_cons_succ, Value.cells, List.take_zero, List.take_succ_cons, List.take_nil, List.drop_zero, List.drop_succ_cons, List.drop_nil, List.length_cons, List.length_nil, List.cons_append, List.nil_append, List.append_nil, Nat.zero_add, Nat.add_zero, Nat.reduceAdd, Nat.reduceBEq, Nat.reduceEqDiff, Nat.ble, BEq.rfl, Bool.and_true, Bool.and_self, cond_true, beq_self_eq_true]; rfl)) (by first | rfl | (simp; done))) rfl ?_
        clear hl a; intro a hl
        refine d_take (i := 3) hl rfl (by kernel_rfl) (by kernel_rfl) (by kernel_rfl) (by kernel_rfl) (by kernel_rfl) rfl trivial (fun _ _ _ h => h) hM (fun w hC => r_move hl rfl) rfl ?_
        clear hl a; intro a hl
        refine d_take (i := 4) hl rfl (by kernel_rfl) (by kernel_rfl) (by kernel_rfl) (by kernel_rfl) (by kernel_rfl) rfl trivial (fun _ _ _ h => h) hM (fun w hC => r_loadCA hl rfl agg36 hC (by repeat (first | exact find_head | apply find_tail)) (by first | (simp only [List.getElem?_cons_zero, List.getElem?_cons_succ, Value.cells, List.take_zero, List.take_succ_cons, List.take_nil, List.drop_zero, List.drop_succ_cons, List.drop_nil, List.length_cons, List.length_nil, List.cons_append, List.nil_append, List.append_nil, Nat.zero_add, Nat.add_zero, Nat.reduceAdd, Nat.reduceBEq, Nat.reduceEqDiff, Nat.ble, BEq.rfl, Bool.and_true, Bool.and_self, cond_true, beq_self_eq_true]; rfl)) (by first | rfl | (simp; done))) rfl ?_
        clear hl a; intro a hl
        refine d_one (i := 2) (by kernel_rfl) rfl ?_
        try clear hM
        refine id (w_call hl hh rfl trivial rfl cal17 rfl (gdo_spec gb b hI.inv (by omega) s.1.rs s.1.rv s.1.Er hI.row (by have := hI.len; omega) ⟨kd2, x2, A2, B2, E2, D2⟩ hok) (by repeat (first | exact keeps_nil | apply keeps_cons (by repeat (first | exact find_head | apply find_tail)) (by first  | rfl) | exact keeps_self | exact keeps_left | exact keeps_right | exact keeps_swap | apply keeps_mv)) trivial ?_)
        clear hl hh a w; intro vc Fc a w hR hl hh
        obtain ⟨rfl, rv2, E3, hR2, rfl⟩ := hR
        try simp only [List.cons_append, List.nil_append] at hh
        replace hh := has_rot2 hh; try simp only [List.cons_append, List.nil_append, List.append_nil, List.append_assoc] at hh
        have hM : Mem [(k10, C [.int .u8 kd2, .int .u32 x2, .int .u64 A2, .int .u64 B2, .int .u64 E2, .int .u64 D2] 36)] w := (by repeat (first | exact Mem.nil | refine Mem.cons hh.mem (by repeat (first | exact find_head | apply find_tail)) ?_ | refine Mem.consR hh (by assumption) (by simp) ?_))
        refine d_step (fun _ => hM) ?_
        refine d_one (i := 5) (by kernel_rfl) rfl ?_
        try clear hM
        refine id (w_call hl hh rfl trivial rfl cal18 rfl (step_spec hI.inv (by omega) hM2 ⟨kd2, x2, A2, B2, E2, D2⟩ hok) (by repeat (first | exact keeps_nil | apply keeps_cons (by repeat (first | exact find_head | apply find_tail)) (by first  | rfl) | exact keeps_self | exact keeps_left | exact keeps_right | exact keeps_swap | apply keeps_mv)) trivial ?_)
        clear hl hh a w; intro vc Fc a w hR hl hh
        obtain ⟨fl2, W2, R2, Z2, Fd2, ws2, hI2, hN2, rfl, rfl⟩ := hR
        try simp only [List.cons_append, List.nil_append] at hh
        replace hh := hh.comm; simp only [List.cons_append, List.nil_append, List.append_nil] at hh; have hts := doF_st s.1.f ⟨kd2, x2, A2, B2, E2, D2⟩; obtain ⟨hft0, hft1⟩ := doF_fits hI.inv ⟨kd2, x2, A2, B2, E2, D2⟩; generalize hr : (doF s.1.f ⟨kd2, x2, A2, B2, E2, D2⟩).ans = r at hl hts hft0 hft1; obtain ⟨t, pp, u, u1⟩ := r; simp only [Ans.l] at hl; simp only at hts hft0 hft1; simp only [Fits] at hft0 hft1
        refine d_step (fun h => absurd h (by decide)) ?_
        refine d_takeL (i := 6) hl rfl (by kernel_rfl) (by kernel_rfl) (by kernel_rfl) (by kernel_rfl) (by kernel_rfl) rfl trivial (fun _ _ _ h => h) (fun w => r_neqA hl rfl rfl eqf44 shp44 (by simp only [unlitL, unlit]; rfl) (by simp only [unlitL, unlit]; rfl) (by first | exact ⟨trivial⟩ | (refine ⟨?_⟩; simp [LitsOk, litOk, Fits]; done) | (refine ⟨?_⟩; simp [LitsOk, litOk, Fits]; omega)) (by first | exact ⟨trivial⟩ | (refine ⟨?_⟩; simp [LitsOk, litOk, Fits]; done) | (refine ⟨?_⟩; simp [LitsOk, litOk, Fits]; omega))) rfl ?_
        clear hl a; intro a hl
        refine d_done (by kernel_rfl) ?_
        try clear hM
        have hl2 := hl.add (t := 3) (hl.add (t := 7) (hl.add (t := 31) (hl.add (t := 32) (hl.add (t := 33) (hl.add (t := 49) (hl.nil) rfl) rfl) rfl) rfl) rfl) rfl; clear hl; have hl := hl2; clear hl2
        refine then_normal ?_
        refine c_cond hl rfl ?_ ?_
        · intro hc2
          try simp only [decide_eq_true_eq, decide_eq_false_iff_not, Bool.not_eq_true', Bool.not_eq_false', Bool.not_eq_true, Bool.not_eq_false, Bool.and_eq_true, Bool.or_eq_true, Bool.and_eq_false_iff, Bool.or_eq_false_iff, Bool.not_not, ne_eq, Int.not_lt, Int.not_le, Decidable.not_not, beq_iff_eq, bne_iff_ne] at hc2
          exfalso; simp [eqLits, litBeq] at hc2
        · intro hc2
          try simp only [decide_eq_true_eq, decide_eq_false_iff_not, Bool.not_eq_true', Bool.not_eq_false', Bool.not_eq_true, Bool.not_eq_false, Bool.and_eq_true, Bool.or_eq_true, Bool.and_eq_false_iff, Bool.or_eq_false_iff, Bool.not_not, ne_eq, Int.not_lt, Int.not_le, Decidable.not_not, beq_iff_eq, bne_iff_ne] at hc2
          refine wp_skip ?_
          refine then_normal ?_
          refine c_seq ?_
          refine c_region ?_
          refine wl (wl_val hl rfl trivial (r_move hl rfl) ?_)
          clear hl a; intro a hl
          refine wl (wl_val hl rfl trivial (r_nilCheck hl rfl) ?_)
          clear hl a; intro a hl
          refine wl (wl_val hl rfl trivial (r_field hl rfl fld41_0) ?_)
          clear hl a; intro a hl
          refine wl (w_load hl hh rfl trivial one38 rfl (by repeat (first | exact find_head | apply find_tail)) (by first | rfl) ?_)
          clear hl a; intro a hl
          refine wl (w_call hl hh rfl trivial rfl cal19 rfl (census_spec b (doF s.1.f ⟨kd2, x2, A2, B2, E2, D2⟩).f) (by repeat (first | exact keeps_nil | apply keeps_cons (by repeat (first | exact find_head | apply find_tail)) (by first  | rfl) | exact keeps_self | exact keeps_left | exact keeps_right | exact keeps_swap | apply keeps_mv)) trivial ?_)
          clear hl hh a w; intro vc Fc a w hR hl hh
          obtain ⟨rfl, rfl⟩ := hR
          try simp only [List.cons_append, List.nil_append] at hh
          refine wl (wl_val hl rfl trivial (r_move hl rfl) ?_)
          clear hl a; intro a hl
          refine wl (w_call hl hh rfl trivial rfl cal20 rfl (censusM2 hI2 (by omega) hN2) (by repeat (first | exact keeps_nil | apply keeps_cons (by repeat (first | exact find_head | apply find_tail)) (by first  | rfl) | exact keeps_self | exact keeps_left | exact keeps_right | exact keeps_swap | apply keeps_mv)) trivial ?_)
          clear hl hh a w; intro vc Fc a w hR hl hh
          obtain ⟨rfl, rfl⟩ := hR
          try simp only [List.cons_append, List.nil_append] at hh
          replace hh := hh.comm; simp only [List.cons_append, List.nil_append, List.append_nil] at hh
          have hc1 := hI2.cn1; have hc2 := hI2.cn2; have hc3 := hI2.cn3; have hc4 := hI2.cn4; have hc0 := hI2.cn0
          refine wl (wl_val hl rfl trivial (r_neqA hl rfl rfl eqf47 shp47 (by simp only [unlitL, unlit]; rfl) (by simp only [unlitL, unlit]; rfl) (by first | exact ⟨trivial⟩ | (refine ⟨?_⟩; simp [LitsOk, litOk, Fits]; done) | (refine ⟨?_⟩; simp [LitsOk, litOk, Fits]; omega)) (by first | exact ⟨trivial⟩ | (refine ⟨?_⟩; simp [LitsOk, litOk, Fits]; done) | (refine ⟨?_⟩; simp [LitsOk, litOk, Fits]; omega))) ?_)
          clear hl a; intro a hl
          refine w_nil ?_
          have hl2 := hl.add (t := 3) (hl.add (t := 7) (hl.add (t := 31) (hl.add (t := 32) (hl.add (t := 33) (hl.add (t := 57) (hl.nil) rfl) rfl) rfl) rfl) rfl) rfl; clear hl; have hl := hl2; clear hl2
          refine then_normal ?_
          refine c_cond hl rfl ?_ ?_
          · intro hc3
            try simp only [decide_eq_true_eq, decide_eq_false_iff_not, Bool.not_eq_true', Bool.not_eq_false', Bool.not_eq_true, Bool.not_eq_false, Bool.and_eq_true, Bool.or_eq_true, Bool.and_eq_false_iff, Bool.or_eq_false_iff, Bool.not_not, ne_eq, Int.not_lt, Int.not_le, Decidable.not_not, beq_iff_eq, bne_iff_ne] at hc3
            exfalso; simp [eqLits, litBeq] at hc3
          · intro hc3
            try simp only [decide_eq_true_eq, decide_eq_false_iff_not, Bool.not_eq_true', Bool.not_eq_false', Bool.not_eq_true, Bool.not_eq_false, Bool.and_eq_true, Bool.or_eq_true, Bool.and_eq_false_iff, Bool.or_eq_false_iff, Bool.not_not, ne_eq, Int.not_lt, Int.not_le, Decidable.not_not, beq_iff_eq, bne_iff_ne] at hc3
            refine wp_skip ?_
            refine blk_normal ?_
            refine then_normal ?_
            refine c_region ?_
            first | refine wl (wl_val hl rfl trivial (r_add hl rfl rfl (by simp only [Fits]; omega)) ?_) | refine wl (wl_val hl rfl trivial (r_addW hl rfl rfl) ?_)
            clear hl a; intro a hl
            refine wl (wl_val hl rfl trivial (r_move hl rfl) ?_)
            clear hl a; intro a hl
            refine w_nil ?_
            have hl2 := hl.add (t := 3) (hl.add (t := 7) (hl.add (t := 31) (hl.add (t := 32) (hl.add (t := 33) (hl.nil) rfl) rfl) rfl) rfl) rfl; clear hl; have hl := hl2; clear hl2
            refine then_normal ?_
            refine ⟨(⟨s.1.i + 1, (doF s.1.f ⟨kd2, x2, A2, B2, E2, D2⟩).f, fl2, keepF s.1.rs ⟨kd2, x2, A2, B2, E2, D2⟩ (doF s.1.f ⟨kd2, x2, A2, B2, E2, D2⟩).ans, rv2, E3⟩, ⟨W2, R2, Z2, Fd2, ws2⟩), (by dsimp only; omega), ⟨hI.next hi hok hI2 hR2, hN2⟩, hl.addE (t := 33) (hl.addE (t := 3) (hl.addE (t := 7) (hl.addE (t := 31) (hl.addE (t := 32) (hl.nil) rfl (by first | rfl | rfl)) rfl (by first | rfl | rfl)) rfl (by first | rfl | rfl)) rfl (by first | rfl | rfl)) rfl (by first | rfl | rfl), (by simp only [List.cons_append, List.nil_append, List.append_nil]; exact hh.keep (by repeat (first | exact keeps_nil | apply keeps_cons (by repeat (first | exact find_head | apply find_tail)) (by first  | rfl) | exact keeps_self | exact keeps_left | exact keeps_right | exact keeps_swap | apply keeps_mv)))⟩
    · intro hc1
      try simp only [decide_eq_true_eq, decide_eq_false_iff_not, Bool.not_eq_true', Bool.not_eq_false', Bool.not_eq_true, Bool.not_eq_false, Bool.and_eq_true, Bool.or_eq_true, Bool.and_eq_false_iff, Bool.or_eq_false_iff, Bool.not_not, ne_eq, Int.not_lt, Int.not_le, Decidable.not_not, beq_iff_eq, bne_iff_ne] at hc1
      replace hh := has_tail2 hh
      rw [MFB_eq] at hh
      simp only [List.cons_append, List.nil_append, List.append_assoc] at hh
      refine wp_exit ?_
      refine then_exit ?_
      refine then_exit ?_
      refine blk_exit ?_
      refine then_normal ?_
      refine c_seq ?_
      refine c_seq ?_
      refine c_region ?_
      refine wl (wl_val hl rfl trivial (r_assign hl rfl) ?_)
      clear hl a; intro a hl
      refine w_nil ?_
      have hl2 := hl.add (t := 3) (hl.add (t := 7) (hl.add (t := 11) (hl.nil) rfl) rfl) rfl; clear hl; have hl := hl2; clear hl2
      refine then_normal ?_
      refine wp_block ?_
      obtain ⟨KS1, hKS1, hk⟩ := (hl.add (t := 3) (hl.add (t := 7) (hl.nil) rfl) rfl).name
      obtain ⟨HS1, hHS1, hh2⟩ := hh.name (keeps_nil)
      refine c_loop (α := Nat) (fun a2 => 4096 - a2) (fun a2 a w => (2 ≤ a2 ∧ a2 ≤ 4096) ∧ Sl 96 ([(11, .int .u32 a2)] ++ KS1) a ∧ Has _ w0 ([] ++ HS1) w) 2 ⟨⟨Nat.le_refl _, by omega⟩, hl.addE (t := 11) (hk) rfl (by first | rfl), hh2⟩ ?_
      clear hk hh2 hl hh a w
      intro a2 a w hI
      obtain ⟨ha2, hl, hh⟩ := hI
      subst hKS1; subst hHS1
      simp only [List.cons_append, List.nil_append, List.append_nil] at hl hh
      refine c_seq ?_
      refine c_seq ?_
      refine c_region ?_
      refine wl (wl_val hl rfl trivial (r_move hl rfl) ?_)
      clear hl a; intro a hl
      refine wl (wl_val hl rfl trivial (r_lss hl rfl rfl) ?_)
      clear hl a; intro a hl
      refine w_nil ?_
      have hl2 := hl.add (t := 3) (hl.add (t := 7) (hl.add (t := 11) (hl.add (t := 60) (hl.nil) rfl) rfl) rfl) rfl; clear hl; have hl := hl2; clear hl2
      refine then_normal ?_
      refine c_cond hl rfl ?_ ?_
      · intro hc4
        try simp only [decide_eq_true_eq, decide_eq_false_iff_not, Bool.not_eq_true', Bool.not_eq_false', Bool.not_eq_true, Bool.not_eq_false, Bool.and_eq_true, Bool.or_eq_true, Bool.and_eq_false_iff, Bool.or_eq_false_iff, Bool.not_not, ne_eq, Int.not_lt, Int.not_le, Decidable.not_not, beq_iff_eq, bne_iff_ne] at hc4
        refine wp_skip ?_
        refine then_normal ?_
        refine c_seq ?_
        refine wp_block ?_
        refine c_seq ?_
        refine c_region ?_
        refine wl (wl_val hl rfl trivial (r_move hl rfl) ?_)
        clear hl a; intro a hl
        refine wl (wl_val hl rfl trivial (r_nilCheck hl rfl) ?_)
        clear hl a; intro a hl
        refine wl (wl_val hl rfl trivial (r_field hl rfl fld41_0) ?_)
        clear hl a; intro a hl
        refine wl (w_load hl hh rfl trivial one38 rfl (by repeat (first | exact find_head | apply find_tail)) (by first | rfl) ?_)
        clear hl a; intro a hl
        refine wl (wl_val hl rfl trivial (r_move hl rfl) ?_)
        clear hl a; intro a hl
        refine wl (w_call hl hh rfl trivial rfl cal21 rfl (load_spec b s.1.f a2) (by repeat (first | exact keeps_nil | apply keeps_cons (by repeat (first | exact find_head | apply find_tail)) (by first  | rfl) | exact keeps_self | exact keeps_left | exact keeps_right | exact keeps_swap | apply keeps_mv)) trivial ?_)
        clear hl hh a w; intro vc Fc a w hR hl hh
        obtain ⟨rfl, rfl⟩ := hR
        try simp only [List.cons_append, List.nil_append] at hh
        rw [if_pos (by omega)] at hl
        refine wl (wl_val hl rfl trivial (r_move hl rfl) ?_)
        clear hl a; intro a hl
        refine wl (wl_val hl rfl trivial (r_extract hl rfl (by simp only [List.getElem?_toArray, List.getElem?_cons_zero, List.getElem?_cons_succ]; rfl)) ?_)
        clear hl a; intro a hl
        refine wl (wl_val hl rfl trivial (r_extract hl rfl (by simp only [List.getElem?_toArray, List.getElem?_cons_zero, List.getElem?_cons_succ]; rfl)) ?_)
        clear hl a; intro a hl
        refine wl (wl_val hl rfl trivial (r_assign hl rfl) ?_)
        clear hl a; intro a hl
        refine wl (wl_val hl rfl trivial (r_assign hl rfl) ?_)
        clear hl a; intro a hl
        refine w_nil ?_
        have hl2 := hl.add (t := 3) (hl.add (t := 7) (hl.add (t := 11) (hl.add (t := 12) (hl.nil) rfl) rfl) rfl) rfl; clear hl; have hl := hl2; clear hl2
        refine then_normal ?_
        refine c_seq ?_
        refine c_region ?_
        refine wl (wl_val hl rfl trivial (r_move hl rfl) ?_)
        clear hl a; intro a hl
        refine wl (wl_val hl rfl trivial (r_nilCheck hl rfl) ?_)
        clear hl a; intro a hl
        refine wl (wl_val hl rfl trivial (r_field hl rfl fld41_0) ?_)
        clear hl a; intro a hl
        refine wl (w_load hl hh rfl trivial one38 rfl (by repeat (first | exact find_head | apply find_tail)) (by first | rfl) ?_)
        clear hl a; intro a hl
        refine wl (wl_val hl rfl trivial (r_move hl rfl) ?_)
        clear hl a; intro a hl
        refine wl (w_call hl hh rfl trivial rfl cal22 rfl (gen_spec b s.1.f a2) (by repeat (first | exact keeps_nil | apply keeps_cons (by repeat (first | exact find_head | apply find_tail)) (by first  | rfl) | exact keeps_self | exact keeps_left | exact keeps_right | exact keeps_swap | apply keeps_mv)) trivial ?_)
        clear hl hh a w; intro vc Fc a w hR hl hh
        obtain ⟨rfl, rfl⟩ := hR
        try simp only [List.cons_append, List.nil_append] at hh
        rw [if_pos (by omega)] at hl
        refine wl (wl_val hl rfl trivial (r_move hl rfl) ?_)
        clear hl a; intro a hl
        refine wl (wl_val hl rfl trivial (r_extract hl rfl (by simp only [List.getElem?_toArray, List.getElem?_cons_zero, List.getElem?_cons_succ]; rfl)) ?_)
        clear hl a; intro a hl
        refine wl (wl_val hl rfl trivial (r_extract hl rfl (by simp only [List.getElem?_toArray, List.getElem?_cons_zero, List.getElem?_cons_succ]; rfl)) ?_)
        clear hl a; intro a hl
        refine wl (wl_val hl rfl trivial (r_assign hl rfl) ?_)
        clear hl a; intro a hl
        refine wl (wl_val hl rfl trivial (r_assign hl rfl) ?_)
        clear hl a; intro a hl
        refine w_nil ?_
        have hl2 := hl.add (t := 3) (hl.add (t := 7) (hl.add (t := 11) (hl.add (t := 12) (hl.add (t := 14) (hl.nil) rfl) rfl) rfl) rfl) rfl; clear hl; have hl := hl2; clear hl2
        refine then_normal ?_
        refine c_seq ?_
        refine c_region ?_
        refine wl (wl_val hl rfl trivial (r_move hl rfl) ?_)
        clear hl a; intro a hl
        refine wl (wl_val hl rfl trivial (r_move hl rfl) ?_)
        clear hl a; intro a hl
        refine wl (wl_val hl rfl trivial (r_nilCheck hl rfl) ?_)
        clear hl a; intro a hl
        refine wl (wl_val hl rfl trivial (r_field hl rfl fld56_0) ?_)
        clear hl a; intro a hl
        refine wl (w_load hl hh rfl trivial one51 rfl (by repeat (first | exact find_head | apply find_tail)) (by first | rfl) ?_)
        clear hl a; intro a hl
        refine wl (wl_val hl rfl trivial (r_move hl rfl) ?_)
        clear hl a; intro a hl
        refine wl (w_lookup (keyInt Try.underlying34) Try.underlying51 zero27 hl hh rfl trivial rfl rfl (by repeat (first | exact find_head | apply find_tail)) ?_)
        clear hl a; intro a hl
        rw [hM2.wd a2 (by omega) (by omega)] at hl
        refine wl (wl_val hl rfl trivial (r_neq hl rfl rfl) ?_)
        clear hl a; intro a hl
        refine wl (wl_val hl rfl trivial (r_move hl rfl) ?_)
        clear hl a; intro a hl
        refine sl_split (t := 89) hl rfl ?_ ?_
        · intro hg1; clear hl; intro hl
          try simp only [decide_eq_true_eq, decide_eq_false_iff_not, Bool.not_eq_true', Bool.not_eq_false', Bool.not_eq_true, Bool.not_eq_false, Bool.and_eq_true, Bool.or_eq_true, Bool.and_eq_false_iff, Bool.or_eq_false_iff, Bool.not_not, ne_eq, Int.not_lt, Int.not_le, Decidable.not_not, beq_iff_eq, bne_iff_ne] at hg1
          exfalso; first | omega | (simp at *; done)
        · intro hg1; clear hl; intro hl
          try simp only [decide_eq_true_eq, decide_eq_false_iff_not, Bool.not_eq_true', Bool.not_eq_false', Bool.not_eq_true, Bool.not_eq_false, Bool.and_eq_true, Bool.or_eq_true, Bool.and_eq_false_iff, Bool.or_eq_false_iff, Bool.not_not, ne_eq, Int.not_lt, Int.not_le, Decidable.not_not, beq_iff_eq, bne_iff_ne] at hg1
          refine wl (wl_val hl rfl ⟨_, _, rfl, rfl, rfl⟩ (r_move hl rfl) ?_)
          clear hl a; intro a hl
          refine wl (wl_val hl rfl ⟨_, _, rfl, rfl, rfl⟩ (r_move hl rfl) ?_)
          clear hl a; intro a hl
          refine wl (wl_val hl rfl ⟨_, _, rfl, rfl, rfl⟩ (r_move hl rfl) ?_)
          clear hl a; intro a hl
          refine wl (w_call hl hh rfl ⟨_, _, rfl, rfl, rfl⟩ rfl cal23 rfl (genM_spec mb wb rb zb fb qb s.2.W s.2.R s.2.Z s.2.Fd (s.2.ws.map WE.kv) (boot s.1.f) (fresh s.1.f) (cnSpent s.1.f) a2 _ (hM2.rd a2 (by omega)) (by have h1 := hM2.gb a2 (by omega); have h2 := hI.inv.gens a2 (by omega); have h3 := hI.inv.bootR; dsimp only; omega)) (by repeat (first | exact keeps_nil | apply keeps_cons (by repeat (first | exact find_head | apply find_tail)) (by first  | rfl) | exact keeps_self | exact keeps_left | exact keeps_right | exact keeps_swap | apply keeps_mv)) trivial ?_)
          clear hl hh a w; intro vc Fc a w hR hl hh
          obtain ⟨rfl, rfl⟩ := hR
          try simp only [List.cons_append, List.nil_append] at hh
          rw [show boot s.1.f + (gen s.1.f a2 - boot s.1.f) = gen s.1.f a2 by omega] at hl
          refine wl (wl_val hl rfl ⟨_, _, rfl, rfl, rfl⟩ (r_neq hl rfl rfl) ?_)
          clear hl a; intro a hl
          refine wl (wl_val hl rfl trivial (r_pickF hl rfl rfl) ?_)
          clear hl a; intro a hl
          refine w_nil ?_
          have hl2 := hl.add (t := 3) (hl.add (t := 7) (hl.add (t := 11) (hl.add (t := 95) (hl.nil) rfl) rfl) rfl) rfl; clear hl; have hl := hl2; clear hl2
          refine then_normal ?_
          refine c_cond hl rfl ?_ ?_
          · intro hc5
            try simp only [decide_eq_true_eq, decide_eq_false_iff_not, Bool.not_eq_true', Bool.not_eq_false', Bool.not_eq_true, Bool.not_eq_false, Bool.and_eq_true, Bool.or_eq_true, Bool.and_eq_false_iff, Bool.or_eq_false_iff, Bool.not_not, ne_eq, Int.not_lt, Int.not_le, Decidable.not_not, beq_iff_eq, bne_iff_ne] at hc5
            exfalso; first | omega | (simp at *; done)
          · intro hc5
            try simp only [decide_eq_true_eq, decide_eq_false_iff_not, Bool.not_eq_true', Bool.not_eq_false', Bool.not_eq_true, Bool.not_eq_false, Bool.and_eq_true, Bool.or_eq_true, Bool.and_eq_false_iff, Bool.or_eq_false_iff, Bool.not_not, ne_eq, Int.not_lt, Int.not_le, Decidable.not_not, beq_iff_eq, bne_iff_ne] at hc5
            refine wp_skip ?_
            refine blk_normal ?_
            refine then_normal ?_
            refine c_region ?_
            refine wl (wl_val hl rfl trivial (r_move hl rfl) ?_)
            clear hl a; intro a hl
            first | refine wl (wl_val hl rfl trivial (r_add hl rfl rfl (by simp only [Fits]; omega)) ?_) | refine wl (wl_val hl rfl trivial (r_addW hl rfl rfl) ?_)
            clear hl a; intro a hl
            refine wl (wl_val hl rfl trivial (r_assign hl rfl) ?_)
            clear hl a; intro a hl
            refine w_nil ?_
            have hl2 := hl.add (t := 3) (hl.add (t := 7) (hl.add (t := 11) (hl.nil) rfl) rfl) rfl; clear hl; have hl := hl2; clear hl2
            refine then_normal ?_
            refine ⟨a2 + 1, (by omega), (by omega), hl.addE (t := 11) (hl.addE (t := 3) (hl.addE (t := 7) (hl.nil) rfl (by first | rfl | rfl)) rfl (by first | rfl | rfl)) rfl (by first | rfl | rfl), hh.keep (by repeat (first | exact keeps_nil | apply keeps_cons (by repeat (first | exact find_head | apply find_tail)) (by first  | rfl) | exact keeps_self | exact keeps_left | exact keeps_right | exact keeps_swap | apply keeps_mv))⟩
      · intro hc4
        try simp only [decide_eq_true_eq, decide_eq_false_iff_not, Bool.not_eq_true', Bool.not_eq_false', Bool.not_eq_true, Bool.not_eq_false, Bool.and_eq_true, Bool.or_eq_true, Bool.and_eq_false_iff, Bool.or_eq_false_iff, Bool.not_not, ne_eq, Int.not_lt, Int.not_le, Decidable.not_not, beq_iff_eq, bne_iff_ne] at hc4
        refine wp_exit ?_
        refine then_exit ?_
        refine then_exit ?_
        refine blk_exit ?_
        refine then_normal ?_
        refine c_seq ?_
        refine c_region ?_
        refine wl (wl_val hl rfl trivial (r_assign hl rfl) ?_)
        clear hl a; intro a hl
        refine w_nil ?_
        have hl2 := hl.add (t := 2) (hl.nil) rfl; clear hl; have hl := hl2; clear hl2
        refine then_normal ?_
        refine wp_ret ?_
        refine f_ret1 (F' := []) hl hh rfl rfl (by repeat (first | exact keeps_nil | apply keeps_cons (by repeat (first | exact find_head | apply find_tail)) (by first  | rfl) | exact keeps_self | exact keeps_left | exact keeps_right | exact keeps_swap | apply keeps_mv)) ?_
        exact ⟨rfl, rfl⟩
end Go.Proofs.Qxb6500913a

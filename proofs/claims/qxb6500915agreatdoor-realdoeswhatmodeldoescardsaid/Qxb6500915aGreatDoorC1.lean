import Derived.Test.Qxb6500915aGreatDoorC0
namespace Go.Proofs.Qxb6500915aGreatDoor
open Go.Eng
set_option linter.unusedVariables false
set_option linter.unusedSimpArgs false

attribute [local irreducible] RV.E

set_option maxHeartbeats 8000000 in
theorem addL_spec (kr kc n1 n2 n3 : Nat) (hn : n1 ≤ 1000 ∧ n2 ≤ 1000 ∧ n3 ≤ 1000) (rs : List RV) (hg : Good n1 n2 n3 rs) (rp : Option Addr) (rc : Nat) (RE : List (Nat × Obj)) (hR : Row (.slice rp rs.length rc) rs.length (fl RV.c3 rs) 3 57 RE) (k o : Int) (p : ByteArray) (ts : List Tm) (p1 : Option Addr) (c1 : Nat) (Z : List (Nat × Obj)) (h1 : AgG (.slice p1 ts.length c1) ts Z) (hk : 0 ≤ k ∧ k ≤ 255) (ho : 0 ≤ o ∧ o ≤ 255) (hp9 : p.data.toList.length ≤ maxLen) (hne : ∀ z, z ∈ Z → z.1 ∉ List.map Prod.fst ((kr, C [.slice rp (rs).length rc] 24) :: (kc, C [.int .i64 (n1 : Int), .int .i64 (n2 : Int), .int .i64 (n3 : Int)] 29) :: (RE ++ rs.flatMap RV.E))) : SpK Tryz.prog 13 #[.agg ⟨[.int .u8 k, .int .u8 o, .string p, .slice p1 ts.length c1]⟩, .pointer (some ⟨kr, 0, none⟩), .pointer (some ⟨kc, 0, none⟩)] (Mem Z) ((kr, C [.slice rp (rs).length rc] 24) :: (kc, C [.int .i64 (n1 : Int), .int .i64 (n2 : Int), .int .i64 (n3 : Int)] 29) :: (RE ++ rs.flatMap RV.E)) (fun v F' => v = .tuple #[] ∧ ∃ rs' rp' rc' RE', Good n1 n2 n3 rs' ∧ Row (.slice rp' rs'.length rc') rs'.length (fl RV.c3 rs') 3 57 RE' ∧ F' = (kr, C [.slice rp' (rs').length rc'] 24) :: (kc, C [.int .i64 (n1 : Int), .int .i64 (n2 : Int), .int .i64 (n3 : Int)] 29) :: (RE' ++ rs'.flatMap RV.E)) := by
  refine f_enter (args := [.agg ⟨[.int .u8 k, .int .u8 o, .string p, .slice p1 ts.length c1]⟩, .pointer (some ⟨kr, 0, none⟩), .pointer (some ⟨kc, 0, none⟩)]) Tryz.func13 rfl Tryz.ntmps13 rfl ?_
  intro w0 w a hpre hl hh
  have hgl := hg.len
  generalize List.map Prod.fst ((kr, C [.slice rp (rs).length rc] 24) :: (kc, C [.int .i64 (n1 : Int), .int .i64 (n2 : Int), .int .i64 (n3 : Int)] 29) :: (RE ++ rs.flatMap RV.E)) = D at hh hne ⊢
  simp only [slotsFrom, Nat.reduceAdd] at hl
  refine c_seq ?_
  refine c_region ?_
  refine wl (w_box hl hh rfl trivial rfl rfl ?_)
  clear hl hh a w; intro k3 a w hl hh
  refine w_nil ?_
  have hl2 := hl.add (t := 1) (hl.add (t := 2) (hl.add (t := 3) (hl.nil) rfl) rfl) rfl; clear hl; have hl := hl2; clear hl2
  refine then_normal ?_
  refine c_seq ?_
  refine c_seq ?_
  refine c_region ?_
  refine wl (w_load hl hh rfl trivial one24 rfl (by repeat (first | exact find_head | apply find_tail | apply find_skip)) (by first | exact fl_cell c3_len hx rfl j1 | exact fl_cell c3_len hxq rfl j1 | rfl) ?_)
  clear hl a; intro a hl
  refine wl (wl_val hl rfl trivial (r_lenS hl rfl slc24) ?_)
  clear hl a; intro a hl
  refine wl (wl_val hl rfl trivial (r_eql hl rfl rfl) ?_)
  clear hl a; intro a hl
  refine w_nil ?_
  have hl2 := hl.add (t := 1) (hl.add (t := 2) (hl.add (t := 3) (hl.add (t := 7) (hl.nil) rfl) rfl) rfl) rfl; clear hl; have hl := hl2; clear hl2
  refine then_normal ?_
  refine c_cond hl rfl ?_ ?_
  · intro hc0
    try simp only [decide_eq_true_eq, decide_eq_false_iff_not, Bool.not_eq_true', Bool.not_eq_false', Bool.not_eq_true, Bool.not_eq_false, Bool.and_eq_true, Bool.or_eq_true, Bool.and_eq_false_iff, Bool.or_eq_false_iff, Bool.not_not, ne_eq, Int.not_lt, Int.not_le, Decidable.not_not, beq_iff_eq, bne_iff_ne] at hc0
    refine wp_ret ?_
    refine then_ret ?_
    refine f_ret0 (F' := (kr, C [.slice rp (rs).length rc] 24) :: (kc, C [.int .i64 (n1 : Int), .int .i64 (n2 : Int), .int .i64 (n3 : Int)] 29) :: (RE ++ rs.flatMap RV.E)) hl hh rfl (by repeat (first | exact keeps_nil | apply keeps_cons (by repeat (first | exact find_head | apply find_tail | apply find_skip)) (by first  | rfl) | exact keeps_self | exact keeps_left | apply keeps_app | apply keeps_mv | apply keeps_skip)) ?_
    exact ⟨rfl, rs, rp, rc, RE, hg, hR, rfl⟩
  · intro hc0
    try simp only [decide_eq_true_eq, decide_eq_false_iff_not, Bool.not_eq_true', Bool.not_eq_false', Bool.not_eq_true, Bool.not_eq_false, Bool.and_eq_true, Bool.or_eq_true, Bool.and_eq_false_iff, Bool.or_eq_false_iff, Bool.not_not, ne_eq, Int.not_lt, Int.not_le, Decidable.not_not, beq_iff_eq, bne_iff_ne] at hc0
    obtain ⟨rs0, r, rfl⟩ := last_of (l := rs) (by omega)
    obtain ⟨b1, j1, rfl, hjl1, hjc1, rfl⟩ := row_pos hR (by omega)
    rw [rE_snoc] at hh
    have hr := hg.ok r (by simp)
    have hrl := hr.len; have hrb := hg.bd r (by simp)
    have hLl : (rs0 ++ [r]).length = rs0.length + 1 := by rw [List.length_append]; rfl
    rw [hLl] at hh hgl
    have hx := get_last rs0 r
    have hEq : r.E = r.hE ++ (r.bE ++ r.ls.flatMap LV.E) := by unfold RV.E; rfl
    refine wp_skip ?_
    refine then_normal ?_
    refine c_seq ?_
    refine c_region ?_
    refine wl (w_load hl hh rfl trivial one24 rfl (by repeat (first | exact find_head | apply find_tail | apply find_skip)) (by first | exact fl_cell c3_len hx rfl j1 | exact fl_cell c3_len hxq rfl j1 | rfl) ?_)
    clear hl a; intro a hl
    refine wl (w_load hl hh rfl trivial one24 rfl (by repeat (first | exact find_head | apply find_tail | apply find_skip)) (by first | exact fl_cell c3_len hx rfl j1 | exact fl_cell c3_len hxq rfl j1 | rfl) ?_)
    clear hl a; intro a hl
    refine wl (wl_val hl rfl trivial (r_lenS hl rfl slc24) ?_)
    clear hl a; intro a hl
    first | refine wl (wl_val hl rfl trivial (r_sub hl rfl rfl (by simp only [Fits]; omega)) ?_) | refine wl (wl_val hl rfl trivial (r_subW hl rfl rfl) ?_)
    clear hl a; intro a hl
    rw [show ((rs0.length + 1 : Nat) : Int) - 1 = (rs0.length : Int) by omega] at hl
    refine wl (wl_val hl rfl trivial (r_indexS hl rfl rfl slc24 (by omega) (by omega) (by first | (simp only [Int.reduceToNat]; rfl) | exact toNat_add1 _ | exact toNat_add2 _ _ | exact toNat_emod _ _ | exact Int.toNat_natCast _ | rfl)) ?_)
    clear hl a; intro a hl
    refine wl (wl_val hl rfl trivial (r_assign hl rfl) ?_)
    clear hl a; intro a hl
    refine w_nil ?_
    have hl2 := hl.add (t := 2) (hl.add (t := 3) (hl.add (t := 4) (hl.nil) rfl) rfl) rfl; clear hl; have hl := hl2; clear hl2
    refine then_normal ?_
    refine c_seq ?_
    refine c_seq ?_
    refine c_draw [(kc, C [.int .i64 (n1 : Int), .int .i64 (n2 : Int), .int .i64 (n3 : Int)] 29), (b1, C (fl RV.c3 (rs0 ++ [r]) ++ j1) 57)] [7] mixed hh ?_
    clear hh w; intro w hh
    have hM : Mem [(kc, C [.int .i64 (n1 : Int), .int .i64 (n2 : Int), .int .i64 (n3 : Int)] 29), (b1, C (fl RV.c3 (rs0 ++ [r]) ++ j1) 57)] w := (memK hh (by repeat (first | exact keeps_nil | apply keeps_cons (by repeat (first | exact find_head | apply find_tail | apply find_skip)) (by first  | rfl) | exact keeps_self | exact keeps_left | apply keeps_app | apply keeps_mv | apply keeps_skip)))
    refine d_take (i := 0) hl rfl (by kernel_rfl) (by kernel_rfl) (by kernel_rfl) (by kernel_rfl) (by kernel_rfl) rfl trivial (fun _ _ _ h => h) hM (fun w hC => r_move hl rfl) rfl ?_
    clear hl a; intro a hl
    refine d_take (i := 1) hl rfl (by kernel_rfl) (by kernel_rfl) (by kernel_rfl) (by kernel_rfl) (by kernel_rfl) rfl trivial (fun _ _ _ h => h) hM (fun w hC => r_nilCheck hl rfl) rfl ?_
    clear hl a; intro a hl
    refine d_take (i := 2) hl rfl (by kernel_rfl) (by kernel_rfl) (by kernel_rfl) (by kernel_rfl) (by kernel_rfl) rfl trivial (fun _ _ _ h => h) hM (fun w hC => r_field hl rfl fld57_1) rfl ?_
    clear hl a; intro a hl
    refine d_take (i := 3) hl rfl (by kernel_rfl) (by kernel_rfl) (by kernel_rfl) (by kernel_rfl) (by kernel_rfl) rfl trivial (fun _ _ _ h => h) hM (fun w hC => r_loadC hl rfl one55 hC (by repeat (first | exact find_head | apply find_tail | apply find_skip)) (by first | exact fl_cell c3_len hx rfl j1 | exact fl_cell c3_len hxq rfl j1 | rfl)) rfl ?_
    clear hl a; intro a hl
    refine d_take (i := 4) hl rfl (by kernel_rfl) (by kernel_rfl) (by kernel_rfl) (by kernel_rfl) (by kernel_rfl) rfl trivial (fun _ _ _ h => h) hM (fun w hC => r_lenS hl rfl slc55) rfl ?_
    clear hl a; intro a hl
    refine d_take (i := 5) hl rfl (by kernel_rfl) (by kernel_rfl) (by kernel_rfl) (by kernel_rfl) (by kernel_rfl) rfl trivial (fun _ _ _ h => h) hM (fun w hC => r_field hl rfl fld29_1) rfl ?_
    clear hl a; intro a hl
    refine d_take (i := 6) hl rfl (by kernel_rfl) (by kernel_rfl) (by kernel_rfl) (by kernel_rfl) (by kernel_rfl) rfl trivial (fun _ _ _ h => h) hM (fun w hC => r_loadC hl rfl one3 hC (by repeat (first | exact find_head | apply find_tail | apply find_skip)) (by first | exact fl_cell c3_len hx rfl j1 | exact fl_cell c3_len hxq rfl j1 | rfl)) rfl ?_
    clear hl a; intro a hl
    refine d_takeL (i := 7) hl rfl (by kernel_rfl) (by kernel_rfl) (by kernel_rfl) (by kernel_rfl) (by kernel_rfl) rfl trivial (fun _ _ _ h => h) (fun w => r_geq hl rfl rfl) rfl ?_
    clear hl a; intro a hl
    refine d_done (by kernel_rfl) ?_
    try clear hM
    have hl2 := hl.add (t := 2) (hl.add (t := 3) (hl.add (t := 4) (hl.add (t := 20) (hl.nil) rfl) rfl) rfl) rfl; clear hl; have hl := hl2; clear hl2
    refine then_normal ?_
    refine c_cond hl rfl ?_ ?_
    · intro hc1
      try simp only [decide_eq_true_eq, decide_eq_false_iff_not, Bool.not_eq_true', Bool.not_eq_false', Bool.not_eq_true, Bool.not_eq_false, Bool.and_eq_true, Bool.or_eq_true, Bool.and_eq_false_iff, Bool.or_eq_false_iff, Bool.not_not, ne_eq, Int.not_lt, Int.not_le, Decidable.not_not, beq_iff_eq, bne_iff_ne] at hc1
      refine wp_ret ?_
      refine then_ret ?_
      refine f_ret0 (F' := (kr, C [.slice (some ⟨b1, 0, none⟩) (rs0.length + 1) rc] 24) :: (kc, C [.int .i64 (n1 : Int), .int .i64 (n2 : Int), .int .i64 (n3 : Int)] 29) :: ((b1, C (fl RV.c3 (rs0 ++ [r]) ++ j1) 57) :: (rs0.flatMap RV.E ++ r.E))) hl hh rfl (by repeat (first | exact keeps_nil | apply keeps_cons (by repeat (first | exact find_head | apply find_tail | apply find_skip)) (by first  | rfl) | exact keeps_self | exact keeps_left | apply keeps_app | apply keeps_mv | apply keeps_skip)) ?_
      exact ⟨rfl, rs0 ++ [r], _, rc, _, hg, hR, by rw [rE_snoc, List.length_append]; rfl⟩
    · intro hc1
      try simp only [decide_eq_true_eq, decide_eq_false_iff_not, Bool.not_eq_true', Bool.not_eq_false', Bool.not_eq_true, Bool.not_eq_false, Bool.and_eq_true, Bool.or_eq_true, Bool.and_eq_false_iff, Bool.or_eq_false_iff, Bool.not_not, ne_eq, Int.not_lt, Int.not_le, Decidable.not_not, beq_iff_eq, bne_iff_ne] at hc1
      rw [hEq] at hh
      refine wp_skip ?_
      refine then_normal ?_
      refine c_seq ?_
      refine c_draw [(b1, C (fl RV.c3 (rs0 ++ [r]) ++ j1) 57), (k3, C [.int .u8 k, .int .u8 o, .string p, .slice p1 ts.length c1] 48)] [9, 10, 11] mixed hh ?_
      clear hh w; intro w hh
      have hM : Mem [(b1, C (fl RV.c3 (rs0 ++ [r]) ++ j1) 57), (k3, C [.int .u8 k, .int .u8 o, .string p, .slice p1 ts.length c1] 48)] w := (memK hh (by repeat (first | exact keeps_nil | apply keeps_cons (by repeat (first | exact find_head | apply find_tail | apply find_skip)) (by first  | rfl) | exact keeps_self | exact keeps_left | apply keeps_app | apply keeps_mv | apply keeps_skip)))
      refine d_take (i := 0) hl rfl (by kernel_rfl) (by kernel_rfl) (by kernel_rfl) (by kernel_rfl) (by kernel_rfl) rfl trivial (fun _ _ _ h => h) hM (fun w hC => r_move hl rfl) rfl ?_
      clear hl a; intro a hl
      refine d_take (i := 1) hl rfl (by kernel_rfl) (by kernel_rfl) (by kernel_rfl) (by kernel_rfl) (by kernel_rfl) rfl trivial (fun _ _ _ h => h) hM (fun w hC => r_move hl rfl) rfl ?_
      clear hl a; intro a hl
      refine d_take (i := 2) hl rfl (by kernel_rfl) (by kernel_rfl) (by kernel_rfl) (by kernel_rfl) (by kernel_rfl) rfl trivial (fun _ _ _ h => h) hM (fun w hC => r_nilCheck hl rfl) rfl ?_
      clear hl a; intro a hl
      refine d_take (i := 3) hl rfl (by kernel_rfl) (by kernel_rfl) (by kernel_rfl) (by kernel_rfl) (by kernel_rfl) rfl trivial (fun _ _ _ h => h) hM (fun w hC => r_field hl rfl fld57_1) rfl ?_
      clear hl a; intro a hl
      refine d_take (i := 4) hl rfl (by kernel_rfl) (by kernel_rfl) (by kernel_rfl) (by kernel_rfl) (by kernel_rfl) rfl trivial (fun _ _ _ h => h) hM (fun w hC => r_loadC hl rfl one55 hC (by repeat (first | exact find_head | apply find_tail | apply find_skip)) (by first | exact fl_cell c3_len hx rfl j1 | exact fl_cell c3_len hxq rfl j1 | rfl)) rfl ?_
      clear hl a; intro a hl
      refine d_take (i := 5) hl rfl (by kernel_rfl) (by kernel_rfl) (by kernel_rfl) (by kernel_rfl) (by kernel_rfl) rfl trivial (fun _ _ _ h => h) hM (fun w hC => r_loadCA hl rfl agg48 hC (by repeat (first | exact find_head | apply find_tail | apply find_skip)) (by first | exact hd2 | (simp only [List.getElem?_cons_zero, List.getElem?_cons_succ, Value.cells, List.take_zero, List.take_succ_cons, List.take_nil, List.drop_zero, List.drop_succ_cons, List.drop_nil, List.length_cons, List.length_nil, List.cons_append, List.nil_append, List.append_nil, Nat.zero_add, Nat.add_zero, Nat.reduceAdd, Nat.reduceBEq, Nat.reduceEqDiff, Nat.ble, BEq.rfl, Bool.and_true, Bool.and_self, cond_true, beq_self_eq_true]; rfl)) (by first | rfl | (simp; done))) rfl ?_
      clear hl a; intro a hl
      refine d_one (i := 6) (by kernel_rfl) rfl ?_
      try clear hM
      refine id (w_call hl hh rfl trivial rfl cal14 rfl (cloneL_spec k o p ts p1 c1 Z h1 hk ho hp9) (by repeat (first | exact keeps_nil | apply keeps_cons (by repeat (first | exact find_head | apply find_tail | apply find_skip)) (by first  | rfl) | exact keeps_self | exact keeps_left | apply keeps_app | apply keeps_mv | apply keeps_skip)) (mem_keepD hh hpre hne) ?_)
      clear hl hh a w; intro vc Fc a w hR hl hh
      obtain ⟨y, hy, hyl, rfl, rfl⟩ := hR
      try simp only [List.cons_append, List.nil_append, List.append_assoc, List.append_nil] at hh
      replace hh := hh.comm
      simp only [List.cons_append, List.nil_append, List.append_nil, List.append_assoc] at hh
      have hM : Mem [(b1, C (fl RV.c3 (rs0 ++ [r]) ++ j1) 57), (k3, C [.int .u8 k, .int .u8 o, .string p, .slice p1 ts.length c1] 48)] w := (memK hh (by repeat (first | exact keeps_nil | apply keeps_cons (by repeat (first | exact find_head | apply find_tail | apply find_skip)) (by first  | rfl) | exact keeps_self | exact keeps_left | apply keeps_app | apply keeps_mv | apply keeps_skip)))
      refine d_step (fun _ => hM) ?_
      refine d_one (i := 7) (by kernel_rfl) rfl ?_
      try clear hM
      refine id (w_buildSlice hl hh rfl trivial app55 zero48 rfl rfl rfl rfl rfl (by simp only [fillL, arrPl, List.range_succ, List.range_zero, List.map_cons, List.map_nil, List.map_append, List.nil_append, List.replicate_succ, List.replicate_zero, List.flatten_cons, List.flatten_nil, Nat.zero_mul, Nat.mul_one, Nat.one_mul, Nat.reduceMul, setL, List.getElem?_cons_zero, List.getElem?_cons_succ, Value.cells, List.take_zero, List.take_succ_cons, List.take_nil, List.drop_zero, List.drop_succ_cons, List.drop_nil, List.length_cons, List.length_nil, List.cons_append, List.nil_append, List.append_nil, Nat.zero_add, Nat.add_zero, Nat.reduceAdd, Nat.reduceBEq, Nat.reduceEqDiff, Nat.ble, BEq.rfl, Bool.and_true, Bool.and_self, cond_true, beq_self_eq_true]; rfl) ?_)
      clear hl hh a w; intro k28 a w hl hh
      have hM : Mem [(b1, C (fl RV.c3 (rs0 ++ [r]) ++ j1) 57), (k3, C [.int .u8 k, .int .u8 o, .string p, .slice p1 ts.length c1] 48)] w := (memK hh (by repeat (first | exact keeps_nil | apply keeps_cons (by repeat (first | exact find_head | apply find_tail | apply find_skip)) (by first  | rfl) | exact keeps_self | exact keeps_left | apply keeps_app | apply keeps_mv | apply keeps_skip)))
      refine d_step (fun _ => hM) ?_
      refine d_one (i := 8) (by kernel_rfl) rfl ?_
      try clear hM
      refine id (w_append (news := [.int .u8 y.l.k, .int .u8 y.l.o, .string y.l.p, .slice y.p y.l.a.length y.c]) hl hh rfl trivial app55 rfl rfl rfl hr.bd (by repeat (first | exact keeps_nil | apply keeps_cons (by repeat (first | exact find_head | apply find_tail | apply find_skip)) (by first  | rfl) | exact keeps_self | exact keeps_left | apply keeps_app | apply keeps_mv | apply keeps_skip)) (hh.mem _ _ (Find.mem (by repeat (first | exact find_head | apply find_tail | apply find_skip)))) rfl rfl rfl (by omega) (by omega) (by omega) (by decide) ?_)
      clear hl hh a w; intro rv2 E2 a w hR2 hl hh
      have hh3 := hh.comm; clear hh; have hh := hh3; clear hh3
      try simp only [List.cons_append, List.nil_append, List.append_assoc, List.append_nil] at hh
      obtain ⟨p9, c9, hv9⟩ := row_val hR2
      subst hv9
      obtain ⟨q, hq, hqc, hqE, hqn, u, hu, huc, huE, hun, hur⟩ := grow_of hr hy hR2 (by omega)
      have hxq := get_last rs0 q
      obtain ⟨b9, j9, hqb, _, hqcap, _⟩ := row_pos hq.bd (by omega)
      have hM : Mem [(b1, C (fl RV.c3 (rs0 ++ [r]) ++ j1) 57), (k3, C [.int .u8 k, .int .u8 o, .string p, .slice p1 ts.length c1] 48)] w := (memK hh (by repeat (first | exact keeps_nil | apply keeps_cons (by repeat (first | exact find_head | apply find_tail | apply find_skip)) (by first  | rfl) | exact keeps_self | exact keeps_left | apply keeps_app | apply keeps_mv | apply keeps_skip)))
      refine d_step (fun _ => hM) ?_
      refine d_takeL (i := 9) hl rfl (by kernel_rfl) (by kernel_rfl) (by kernel_rfl) (by kernel_rfl) (by kernel_rfl) rfl trivial (fun _ _ _ h => h) (fun w => r_nilCheck hl rfl) rfl ?_
      clear hl a; intro a hl
      refine d_takeL (i := 10) hl rfl (by kernel_rfl) (by kernel_rfl) (by kernel_rfl) (by kernel_rfl) (by kernel_rfl) rfl trivial (fun _ _ _ h => h) (fun w => r_field hl rfl fld57_1) rfl ?_
      clear hl a; intro a hl
      refine d_one (i := 11) (by kernel_rfl) rfl ?_
      try clear hM
      refine id (w_store hl hh trivial one55 rfl rfl (by repeat (first | exact find_head | apply find_tail | apply find_skip)) (by first | (simp; done) | (simp; omega) | (rw [List.length_append, fl_len c3_len]; simp only [List.length_append, List.length_singleton]; omega)) (by first | rfl | assumption | (apply Row.one; assumption)) (by first | exact fl_part (c' := q) c3_len j1 hx (by decide) (by rw [hqc]; rfl) | exact fl_part (c' := u) c3_len j1 hxq (by decide) (by rw [huc]; rfl) | (simp only [setL, List.getElem?_cons_zero, List.getElem?_cons_succ, Value.cells, List.take_zero, List.take_succ_cons, List.take_nil, List.drop_zero, List.drop_succ_cons, List.drop_nil, List.length_cons, List.length_nil, List.cons_append, List.nil_append, List.append_nil, Nat.zero_add, Nat.add_zero, Nat.reduceAdd, Nat.reduceBEq, Nat.reduceEqDiff, Nat.ble, BEq.rfl, Bool.and_true, Bool.and_self, cond_true, beq_self_eq_true]; rfl)) ?_)
      clear hh w; intro w hh
      refine d_step (fun h => absurd h (by decide)) ?_
      refine d_done (by kernel_rfl) ?_
      try clear hM
      have hl2 := hl.add (t := 2) (hl.add (t := 4) (hl.nil) rfl) rfl; clear hl; have hl := hl2; clear hl2
      rw [set_last] at hh
      replace hh := hh.keep (F' := (kr, C [.slice (some ⟨b1, 0, none⟩) (rs0.length + 1) rc] 24) :: (kc, C [.int .i64 (n1 : Int), .int .i64 (n2 : Int), .int .i64 (n3 : Int)] 29) :: (b1, C (fl RV.c3 (rs0 ++ [q]) ++ j1) 57) :: (rs0.flatMap RV.E ++ (r.hE ++ (E2 ++ (r.ls.flatMap LV.E ++ y.E))))) (by repeat (first | exact keeps_nil | apply keeps_cons (by repeat (first | exact find_head | apply find_tail | apply find_skip)) (by first  | rfl) | exact keeps_self | exact keeps_left | apply keeps_app | apply keeps_mv | apply keeps_skip))
      rw [← hqE] at hh
      have hd2 := fl_at c3_len hxq j1
      simp only [RV.c3] at hd2
      refine then_normal ?_
      refine c_seq ?_
      refine c_draw [(kc, C [.int .i64 (n1 : Int), .int .i64 (n2 : Int), .int .i64 (n3 : Int)] 29), (b1, C (fl RV.c3 (rs0 ++ [q]) ++ j1) 57)] [] mixed hh ?_
      clear hh w; intro w hh
      have hM : Mem [(kc, C [.int .i64 (n1 : Int), .int .i64 (n2 : Int), .int .i64 (n3 : Int)] 29), (b1, C (fl RV.c3 (rs0 ++ [q]) ++ j1) 57)] w := (memK hh (by repeat (first | exact keeps_nil | apply keeps_cons (by repeat (first | exact find_head | apply find_tail | apply find_skip)) (by first  | rfl) | exact keeps_self | exact keeps_left | apply keeps_app | apply keeps_mv | apply keeps_skip)))
      refine d_take (i := 0) hl rfl (by kernel_rfl) (by kernel_rfl) (by kernel_rfl) (by kernel_rfl) (by kernel_rfl) rfl trivial (fun _ _ _ h => h) hM (fun w hC => r_move hl rfl) rfl ?_
      clear hl a; intro a hl
      refine d_take (i := 1) hl rfl (by kernel_rfl) (by kernel_rfl) (by kernel_rfl) (by kernel_rfl) (by kernel_rfl) rfl trivial (fun _ _ _ h => h) hM (fun w hC => r_nilCheck hl rfl) rfl ?_
      clear hl a; intro a hl
      refine d_take (i := 2) hl rfl (by kernel_rfl) (by kernel_rfl) (by kernel_rfl) (by kernel_rfl) (by kernel_rfl) rfl trivial (fun _ _ _ h => h) hM (fun w hC => r_loadCA hl rfl agg57 hC (by repeat (first | exact find_head | apply find_tail | apply find_skip)) (by first | exact hd2 | (simp only [List.getElem?_cons_zero, List.getElem?_cons_succ, Value.cells, List.take_zero, List.take_succ_cons, List.take_nil, List.drop_zero, List.drop_succ_cons, List.drop_nil, List.length_cons, List.length_nil, List.cons_append, List.nil_append, List.append_nil, Nat.zero_add, Nat.add_zero, Nat.reduceAdd, Nat.reduceBEq, Nat.reduceEqDiff, Nat.ble, BEq.rfl, Bool.and_true, Bool.and_self, cond_true, beq_self_eq_true]; rfl)) (by first | rfl | (simp; done))) rfl ?_
      clear hl a; intro a hl
      refine d_take (i := 5) hl rfl (by kernel_rfl) (by kernel_rfl) (by kernel_rfl) (by kernel_rfl) (by kernel_rfl) rfl trivial (fun _ _ _ h => h) hM (fun w hC => r_field hl rfl fld29_2) rfl ?_
      clear hl a; intro a hl
      refine d_take (i := 6) hl rfl (by kernel_rfl) (by kernel_rfl) (by kernel_rfl) (by kernel_rfl) (by kernel_rfl) rfl trivial (fun _ _ _ h => h) hM (fun w hC => r_loadC hl rfl one3 hC (by repeat (first | exact find_head | apply find_tail | apply find_skip)) (by first | exact fl_cell c3_len hx rfl j1 | exact fl_cell c3_len hxq rfl j1 | rfl)) rfl ?_
      clear hl a; intro a hl
      refine d_one (i := 3) (by kernel_rfl) rfl ?_
      try clear hM
      refine id (w_call hl hh rfl trivial rfl cal12 rfl (vars_spec q hq) (by repeat (first | exact keeps_nil | apply keeps_cons (by repeat (first | exact find_head | apply find_tail | apply find_skip)) (by first  | rfl) | exact keeps_self | exact keeps_left | apply keeps_app | apply keeps_mv | apply keeps_skip)) (fun b o m => hh.mem b o (by simp [m])) ?_)
      clear hl hh a w; intro vc Fc a w hR hl hh
      obtain ⟨vp, vc, rfl, hRv⟩ := hR
      try simp only [List.cons_append, List.nil_append, List.append_assoc, List.append_nil] at hh
      generalize Fc = Ev at hh hRv
      have hvb := vars_bd hq q.ls.length
      rw [show (q.ls.map LV.l).take q.ls.length = q.ls.map LV.l from by rw [← List.length_map (f := LV.l), List.take_length]] at hvb
      replace hh := hh.comm
      simp only [List.cons_append, List.nil_append, List.append_nil, List.append_assoc] at hh
      have hM : Mem [(kc, C [.int .i64 (n1 : Int), .int .i64 (n2 : Int), .int .i64 (n3 : Int)] 29), (b1, C (fl RV.c3 (rs0 ++ [q]) ++ j1) 57)] w := (memK hh (by repeat (first | exact keeps_nil | apply keeps_cons (by repeat (first | exact find_head | apply find_tail | apply find_skip)) (by first  | rfl) | exact keeps_self | exact keeps_left | apply keeps_app | apply keeps_mv | apply keeps_skip)))
      refine d_step (fun _ => hM) ?_
      refine d_take (i := 4) hl rfl (by kernel_rfl) (by kernel_rfl) (by kernel_rfl) (by kernel_rfl) (by kernel_rfl) rfl trivial (fun _ _ _ h => h) hM (fun w hC => r_lenS hl rfl slc58) rfl ?_
      clear hl a; intro a hl
      refine d_take (i := 7) hl rfl (by kernel_rfl) (by kernel_rfl) (by kernel_rfl) (by kernel_rfl) (by kernel_rfl) rfl trivial (fun _ _ _ h => h) hM (fun w hC => r_gtr hl rfl rfl) rfl ?_
      clear hl a; intro a hl
      refine d_done (by kernel_rfl) ?_
      try clear hM
      have hl2 := hl.add (t := 4) (hl.add (t := 39) (hl.nil) rfl) rfl; clear hl; have hl := hl2; clear hl2
      refine then_normal ?_
      refine c_cond hl rfl ?_ ?_
      · intro hc2
        try simp only [decide_eq_true_eq, decide_eq_false_iff_not, Bool.not_eq_true', Bool.not_eq_false', Bool.not_eq_true, Bool.not_eq_false, Bool.and_eq_true, Bool.or_eq_true, Bool.and_eq_false_iff, Bool.or_eq_false_iff, Bool.not_not, ne_eq, Int.not_lt, Int.not_le, Decidable.not_not, beq_iff_eq, bne_iff_ne] at hc2
        refine c_draw [(b1, C (fl RV.c3 (rs0 ++ [q]) ++ j1) 57)] [12, 13, 14] mixed hh ?_
        clear hh w; intro w hh
        have hM : Mem [(b1, C (fl RV.c3 (rs0 ++ [q]) ++ j1) 57)] w := (memK hh (by repeat (first | exact keeps_nil | apply keeps_cons (by repeat (first | exact find_head | apply find_tail | apply find_skip)) (by first  | rfl) | exact keeps_self | exact keeps_left | apply keeps_app | apply keeps_mv | apply keeps_skip)))
        refine d_take (i := 0) hl rfl (by kernel_rfl) (by kernel_rfl) (by kernel_rfl) (by kernel_rfl) (by kernel_rfl) rfl trivial (fun _ _ _ h => h) hM (fun w hC => r_move hl rfl) rfl ?_
        clear hl a; intro a hl
        refine d_take (i := 1) hl rfl (by kernel_rfl) (by kernel_rfl) (by kernel_rfl) (by kernel_rfl) (by kernel_rfl) rfl trivial (fun _ _ _ h => h) hM (fun w hC => r_move hl rfl) rfl ?_
        clear hl a; intro a hl
        refine d_take (i := 2) hl rfl (by kernel_rfl) (by kernel_rfl) (by kernel_rfl) (by kernel_rfl) (by kernel_rfl) rfl trivial (fun _ _ _ h => h) hM (fun w hC => r_nilCheck hl rfl) rfl ?_
        clear hl a; intro a hl
        refine d_take (i := 3) hl rfl (by kernel_rfl) (by kernel_rfl) (by kernel_rfl) (by kernel_rfl) (by kernel_rfl) rfl trivial (fun _ _ _ h => h) hM (fun w hC => r_field hl rfl fld57_1) rfl ?_
        clear hl a; intro a hl
        refine d_take (i := 4) hl rfl (by kernel_rfl) (by kernel_rfl) (by kernel_rfl) (by kernel_rfl) (by kernel_rfl) rfl trivial (fun _ _ _ h => h) hM (fun w hC => r_loadC hl rfl one55 hC (by repeat (first | exact find_head | apply find_tail | apply find_skip)) (by first | exact fl_cell c3_len hx rfl j1 | exact fl_cell c3_len hxq rfl j1 | rfl)) rfl ?_
        clear hl a; intro a hl
        refine d_take (i := 5) hl rfl (by kernel_rfl) (by kernel_rfl) (by kernel_rfl) (by kernel_rfl) (by kernel_rfl) rfl trivial (fun _ _ _ h => h) hM (fun w hC => r_move hl rfl) rfl ?_
        clear hl a; intro a hl
        refine d_take (i := 6) hl rfl (by kernel_rfl) (by kernel_rfl) (by kernel_rfl) (by kernel_rfl) (by kernel_rfl) rfl trivial (fun _ _ _ h => h) hM (fun w hC => r_nilCheck hl rfl) rfl ?_
        clear hl a; intro a hl
        refine d_take (i := 7) hl rfl (by kernel_rfl) (by kernel_rfl) (by kernel_rfl) (by kernel_rfl) (by kernel_rfl) rfl trivial (fun _ _ _ h => h) hM (fun w hC => r_field hl rfl fld57_1) rfl ?_
        clear hl a; intro a hl
        refine d_take (i := 8) hl rfl (by kernel_rfl) (by kernel_rfl) (by kernel_rfl) (by kernel_rfl) (by kernel_rfl) rfl trivial (fun _ _ _ h => h) hM (fun w hC => r_loadC hl rfl one55 hC (by repeat (first | exact find_head | apply find_tail | apply find_skip)) (by first | exact fl_cell c3_len hx rfl j1 | exact fl_cell c3_len hxq rfl j1 | rfl)) rfl ?_
        clear hl a; intro a hl
        refine d_take (i := 9) hl rfl (by kernel_rfl) (by kernel_rfl) (by kernel_rfl) (by kernel_rfl) (by kernel_rfl) rfl trivial (fun _ _ _ h => h) hM (fun w hC => r_lenS hl rfl slc55) rfl ?_
        clear hl a; intro a hl
        first | refine d_take (i := 10) hl rfl (by kernel_rfl) (by kernel_rfl) (by kernel_rfl) (by kernel_rfl) (by kernel_rfl) rfl trivial (fun _ _ _ h => h) hM (fun w hC => r_sub hl rfl rfl (by simp only [Fits]; omega)) rfl ?_ | refine d_take (i := 10) hl rfl (by kernel_rfl) (by kernel_rfl) (by kernel_rfl) (by kernel_rfl) (by kernel_rfl) rfl trivial (fun _ _ _ h => h) hM (fun w hC => r_subW hl rfl rfl) rfl ?_
        clear hl a; intro a hl
        rw [show (q.ls.length : Int) - 1 = (r.ls.length : Int) by omega] at hl
        refine d_take (i := 11) hl rfl (by kernel_rfl) (by kernel_rfl) (by kernel_rfl) (by kernel_rfl) (by kernel_rfl) rfl trivial (fun _ _ _ h => h) hM (fun w hC => r_sliceS01 (by intro q e; first | (cases e; rfl) | (cases e; done) | (rw [hqb] at e; cases e; rfl)) hl rfl rfl slc55 (by omega) (by first | (simp only [Int.reduceToNat]; rfl) | exact toNat_add1 _ | exact toNat_add2 _ _ | exact toNat_emod _ _ | exact Int.toNat_natCast _ | rfl)) rfl ?_
        clear hl a; intro a hl
        refine d_takeL (i := 12) hl rfl (by kernel_rfl) (by kernel_rfl) (by kernel_rfl) (by kernel_rfl) (by kernel_rfl) rfl trivial (fun _ _ _ h => h) (fun w => r_nilCheck hl rfl) rfl ?_
        clear hl a; intro a hl
        refine d_takeL (i := 13) hl rfl (by kernel_rfl) (by kernel_rfl) (by kernel_rfl) (by kernel_rfl) (by kernel_rfl) rfl trivial (fun _ _ _ h => h) (fun w => r_field hl rfl fld57_1) rfl ?_
        clear hl a; intro a hl
        refine d_one (i := 14) (by kernel_rfl) rfl ?_
        try clear hM
        refine id (w_store hl hh trivial one55 rfl rfl (by repeat (first | exact find_head | apply find_tail | apply find_skip)) (by first | (simp; done) | (simp; omega) | (rw [List.length_append, fl_len c3_len]; simp only [List.length_append, List.length_singleton]; omega)) (by first | rfl | assumption | (apply Row.one; assumption)) (by first | exact fl_part (c' := q) c3_len j1 hx (by decide) (by rw [hqc]; rfl) | exact fl_part (c' := u) c3_len j1 hxq (by decide) (by rw [huc]; rfl) | (simp only [setL, List.getElem?_cons_zero, List.getElem?_cons_succ, Value.cells, List.take_zero, List.take_succ_cons, List.take_nil, List.drop_zero, List.drop_succ_cons, List.drop_nil, List.length_cons, List.length_nil, List.cons_append, List.nil_append, List.append_nil, Nat.zero_add, Nat.add_zero, Nat.reduceAdd, Nat.reduceBEq, Nat.reduceEqDiff, Nat.ble, BEq.rfl, Bool.and_true, Bool.and_self, cond_true, beq_self_eq_true]; rfl)) ?_)
        clear hh w; intro w hh
        refine d_step (fun h => absurd h (by decide)) ?_
        refine d_done (by kernel_rfl) ?_
        try clear hM
        have hl2 := hl.nil; clear hl; have hl := hl2; clear hl2
        rw [set_last] at hh
        rw [hqE] at hh
        simp only [List.append_assoc] at hh
        replace hh := hh.keep (F' := (kr, C [.slice (some ⟨b1, 0, none⟩) (rs0.length + 1) rc] 24) :: (kc, C [.int .i64 (n1 : Int), .int .i64 (n2 : Int), .int .i64 (n3 : Int)] 29) :: (b1, C (fl RV.c3 (rs0 ++ [u]) ++ j1) 57) :: (rs0.flatMap RV.E ++ (r.hE ++ (E2 ++ r.ls.flatMap LV.E)))) (by repeat (first | exact keeps_nil | apply keeps_cons (by repeat (first | exact find_head | apply find_tail | apply find_skip)) (by first  | rfl) | exact keeps_self | exact keeps_left | apply keeps_app | apply keeps_mv | apply keeps_skip))
        rw [← huE] at hh
        obtain ⟨z, hzk, hzb, hzv, hze⟩ : ∃ z : RV, z.ok ∧ z.ls.length ≤ n2 ∧ (vars z.ru).length ≤ n3 ∧ z = u := ⟨u, hu, by omega, (by rw [hur]; exact hg.vs r (by simp)), rfl⟩
        rw [← hze] at hh
        refine f_end0 (F' := (kr, C [.slice (some ⟨b1, 0, none⟩) (rs0.length + 1) rc] 24) :: (kc, C [.int .i64 (n1 : Int), .int .i64 (n2 : Int), .int .i64 (n3 : Int)] 29) :: ((b1, C (fl RV.c3 (rs0 ++ [z]) ++ j1) 57) :: (rs0.flatMap RV.E ++ z.E))) hl hh rfl (by repeat (first | exact keeps_nil | apply keeps_cons (by repeat (first | exact find_head | apply find_tail | apply find_skip)) (by first  | rfl) | exact keeps_self | exact keeps_left | apply keeps_app | apply keeps_mv | apply keeps_skip)) ?_; exact ⟨rfl, rs0 ++ [z], _, rc, _, hg.last hzk hzb hzv, row_set c3_len (by rw [List.length_append, List.length_append]; rfl) hjl1 hjc1, by rw [rE_snoc, List.length_append]; rfl⟩
      · intro hc2
        try simp only [decide_eq_true_eq, decide_eq_false_iff_not, Bool.not_eq_true', Bool.not_eq_false', Bool.not_eq_true, Bool.not_eq_false, Bool.and_eq_true, Bool.or_eq_true, Bool.and_eq_false_iff, Bool.or_eq_false_iff, Bool.not_not, ne_eq, Int.not_lt, Int.not_le, Decidable.not_not, beq_iff_eq, bne_iff_ne] at hc2
        obtain ⟨z, hzk, hzb, hzv, hze⟩ : ∃ z : RV, z.ok ∧ z.ls.length ≤ n2 ∧ (vars z.ru).length ≤ n3 ∧ z = q := ⟨q, hq, by omega, (by omega), rfl⟩
        rw [← hze] at hh
        refine wp_skip ?_
        refine f_end0 (F' := (kr, C [.slice (some ⟨b1, 0, none⟩) (rs0.length + 1) rc] 24) :: (kc, C [.int .i64 (n1 : Int), .int .i64 (n2 : Int), .int .i64 (n3 : Int)] 29) :: ((b1, C (fl RV.c3 (rs0 ++ [z]) ++ j1) 57) :: (rs0.flatMap RV.E ++ z.E))) hl hh rfl (by repeat (first | exact keeps_nil | apply keeps_cons (by repeat (first | exact find_head | apply find_tail | apply find_skip)) (by first  | rfl) | exact keeps_self | exact keeps_left | apply keeps_app | apply keeps_mv | apply keeps_skip)) ?_; exact ⟨rfl, rs0 ++ [z], _, rc, _, hg.last hzk hzb hzv, row_set c3_len (by rw [List.length_append, List.length_append]; rfl) hjl1 hjc1, by rw [rE_snoc, List.length_append]; rfl⟩
end Go.Proofs.Qxb6500915aGreatDoor

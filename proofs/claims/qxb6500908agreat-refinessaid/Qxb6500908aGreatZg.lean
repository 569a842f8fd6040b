import Derived.Test.Qxb6500908aGreatZ0
namespace Go.Proofs.Qxb6500908aGreat
open Go.Eng
set_option linter.unusedVariables false
set_option linter.unusedSimpArgs false
theorem app72 : appOk Tryz.prog 72 36 1 4 = true := by kernel_rfl
theorem zero36 : zeroOk Tryz.prog 36 (.int .u32 0) := by unfold zeroOk; kernel_rfl
theorem shp38 : shapeT Tryz.prog 8 38 = some [.int .u8, .int .u8, .int .u32, .int .u32, .bool, .int .u32, .int .u32, .string] := by kernel_rfl
theorem eqf38 : eqOk Tryz.prog 8 38 = true := by kernel_rfl
theorem agg84 : aggOk Tryz.prog 84 65 = true := by kernel_rfl
theorem fld84_0 : fieldOk Tryz.prog 84 0 0 = true := by kernel_rfl
theorem litsM {m : Ms} (h : m.ok) (hz : m.t.size ≤ 1000) : LitsFit [.int .u8, .int .u8, .int .u32, .int .u32, .bool, .int .u32, .int .u32, .string] [.int .u8 m.k, .int .u8 m.d, .int .u32 m.e, .int .u32 m.b, .bool m.y, .int .u32 m.r, .int .u32 m.s, .string m.t.data.toList] := by
  obtain ⟨h1, h2, h3, h4, h5, h6⟩ := h
  refine ⟨?_⟩
  have hz : m.t.data.toList.length ≤ 1000 := by rw [Array.length_toList]; exact hz
  simp only [LitsOk, litOk, Fits, and_true, true_and, Go.maxLen]
  omega
theorem eqM {m : Ms} (h : m.ok) (hz : m.t.size ≤ 1000) : eqLits [.int .u8 m.k, .int .u8 m.d, .int .u32 m.e, .int .u32 m.b, .bool m.y, .int .u32 m.r, .int .u32 m.s, .string m.t.data.toList] [.int .u8 m.k, .int .u8 m.d, .int .u32 m.e, .int .u32 m.b, .bool m.y, .int .u32 m.r, .int .u32 m.s, .string m.t.data.toList] = true := (eqLits_iff (litsM h hz).ok (litsM h hz).ok).2 rfl
theorem tk_snoc9 {α : Type} {q : List α} {i : Nat} {x : α} (h : q[i]? = some x) : q.take (i + 1) = q.take i ++ [x] := by
  rw [List.take_add_one, h]; rfl


attribute [local irreducible] NtV.k StV.c LdV.c StV.E GtV.c GtV.t DuV.c DuV.E MdV.c MdV.t

set_option maxHeartbeats 4000000 in
theorem smsg_spec (ms : List Ms) (ho : ∀ m, m ∈ ms → m.ok) (hsz : ∀ m, m ∈ ms → m.t.size ≤ 1000) (hml : ms.length ≤ 1000) (p p2 : Option Addr) (c c2 : Nat) (E E2 : List (Nat × Obj)) (hR : ROWB p ms c E) (hR2 : ROWB p2 ms c2 E2) : Sp Tryz.prog 101 #[.slice p ms.length c, .slice p2 ms.length c2] (E ++ E2) (fun v F' => v = .bool true ∧ F' = E ++ E2) := by
  refine f_enter (args := [.slice p ms.length c, .slice p2 ms.length c2]) Tryz.func101 rfl Tryz.ntmps101 rfl ?_
  intro w0 w a hpre hl hh
  generalize hDD : List.map Prod.fst (E ++ E2) = D at hh ⊢
  simp only [slotsFrom, Nat.reduceAdd] at hl
  refine c_seq ?_
  refine c_region ?_
  refine wl (wl_val hl rfl trivial (r_assign hl rfl) ?_)
  clear hl a; intro a hl
  refine w_nil ?_
  have hl2 := hl.add (t := 0) (hl.add (t := 1) (hl.nil) rfl) rfl; clear hl; have hl := hl2; clear hl2
  refine then_normal ?_
  refine c_seq ?_
  refine c_seq ?_
  refine c_region ?_
  refine wl (wl_val hl rfl trivial (r_move hl rfl) ?_)
  clear hl a; intro a hl
  refine wl (wl_val hl rfl trivial (r_lenS hl rfl slc53) ?_)
  clear hl a; intro a hl
  refine wl (wl_val hl rfl trivial (r_move hl rfl) ?_)
  clear hl a; intro a hl
  refine wl (wl_val hl rfl trivial (r_lenS hl rfl slc53) ?_)
  clear hl a; intro a hl
  refine wl (wl_val hl rfl trivial (r_neq hl rfl rfl) ?_)
  clear hl a; intro a hl
  refine w_nil ?_
  have hl2 := hl.add (t := 0) (hl.add (t := 1) (hl.add (t := 10) (hl.nil) rfl) rfl) rfl; clear hl; have hl := hl2; clear hl2
  refine then_normal ?_
  refine c_cond hl rfl ?_ ?_
  · intro hc0
    try simp only [decide_eq_true_eq, decide_eq_false_iff_not, Bool.not_eq_true', Bool.not_eq_false', Bool.not_eq_true, Bool.not_eq_false, Bool.and_eq_true, Bool.or_eq_true, Bool.and_eq_false_iff, Bool.or_eq_false_iff, Bool.not_not, ne_eq, Int.not_lt, Int.not_le, Decidable.not_not, beq_iff_eq, bne_iff_ne] at hc0
    exfalso; first | contradiction | omega | (simp_all; done)
  · intro hc0
    try simp only [decide_eq_true_eq, decide_eq_false_iff_not, Bool.not_eq_true', Bool.not_eq_false', Bool.not_eq_true, Bool.not_eq_false, Bool.and_eq_true, Bool.or_eq_true, Bool.and_eq_false_iff, Bool.or_eq_false_iff, Bool.not_not, ne_eq, Int.not_lt, Int.not_le, Decidable.not_not, beq_iff_eq, bne_iff_ne] at hc0
    refine wp_skip ?_
    refine then_normal ?_
    refine c_seq ?_
    refine c_seq ?_
    refine c_region ?_
    refine wl (wl_val hl rfl trivial (r_move hl rfl) ?_)
    clear hl a; intro a hl
    refine wl (wl_val hl rfl trivial (r_lenS hl rfl slc53) ?_)
    clear hl a; intro a hl
    refine wl (wl_val hl rfl trivial (r_move hl rfl) ?_)
    clear hl a; intro a hl
    refine w_nil ?_
    have hl2 := hl.add (t := 0) (hl.add (t := 1) (hl.add (t := 12) (hl.add (t := 13) (hl.nil) rfl) rfl) rfl) rfl; clear hl; have hl := hl2; clear hl2
    refine then_normal ?_
    refine wp_block ?_
    obtain ⟨KS0, hKS0, hk⟩ := (hl.add (t := 0) (hl.add (t := 1) (hl.add (t := 12) (hl.nil) rfl) rfl) rfl).name
    obtain ⟨HS0, hHS0, hh2⟩ := hh.name (keeps_nil)
    refine c_loop (α := Nat) (fun i => ms.length - i) (fun i a w => (i ≤ ms.length) ∧ Sl 26 ([(13, .int .i64 (i : Int))] ++ KS0) a ∧ Has _ w0 ([] ++ HS0) w) 0 ⟨Nat.zero_le _, hl.addE (t := 13) (hk) rfl (by first | rfl), hh2⟩ ?_
    clear hk hh2 hl hh a w
    intro i a w hI
    obtain ⟨hi, hl, hh⟩ := hI
    subst hKS0; subst hHS0
    simp only [List.cons_append, List.nil_append, List.append_nil, List.append_assoc] at hl hh
    refine c_seq ?_
    refine c_region ?_
    refine wl (wl_val hl rfl trivial (r_lss hl rfl rfl) ?_)
    clear hl a; intro a hl
    refine w_nil ?_
    have hl2 := hl.add (t := 0) (hl.add (t := 1) (hl.add (t := 12) (hl.add (t := 13) (hl.add (t := 14) (hl.nil) rfl) rfl) rfl) rfl) rfl; clear hl; have hl := hl2; clear hl2
    refine then_normal ?_
    refine c_seq ?_
    refine c_cond hl rfl ?_ ?_
    · intro hc1
      try simp only [decide_eq_true_eq, decide_eq_false_iff_not, Bool.not_eq_true', Bool.not_eq_false', Bool.not_eq_true, Bool.not_eq_false, Bool.and_eq_true, Bool.or_eq_true, Bool.and_eq_false_iff, Bool.or_eq_false_iff, Bool.not_not, ne_eq, Int.not_lt, Int.not_le, Decidable.not_not, beq_iff_eq, bne_iff_ne] at hc1
      obtain ⟨x, hx⟩ : ∃ x, ms[i]? = some x := ⟨_, List.getElem?_eq_getElem (by omega)⟩
      have hxo := ho x (List.mem_of_getElem? hx)
      obtain ⟨b1, j1, rfl, hjl1, hjc1, hE1⟩ := row_pos hR (by omega)
      obtain ⟨b2, j2, rfl, hjl2, hjc2, hE2⟩ := row_pos hR2 (by omega)
      have hmem1 : (b1, C (fl msc ms ++ j1) 38) ∈ E := by rw [hE1]; exact List.mem_singleton.2 rfl
      have hmem2 : (b2, C (fl msc ms ++ j2) 38) ∈ E2 := by rw [hE2]; exact List.mem_singleton.2 rfl
      have hd1 : ((fl msc ms ++ j1).drop (0 + i * 8)).take 8 = [.int .u8 x.k, .int .u8 x.d, .int .u32 x.e, .int .u32 x.b, .bool x.y, .int .u32 x.r, .int .u32 x.s, .string x.t] := fl_at msc_len hx j1
      have hd2 : ((fl msc ms ++ j2).drop (0 + i * 8)).take 8 = [.int .u8 x.k, .int .u8 x.d, .int .u32 x.e, .int .u32 x.b, .bool x.y, .int .u32 x.r, .int .u32 x.s, .string x.t] := fl_at msc_len hx j2
      have hxz := hsz x (List.mem_of_getElem? hx)
      have heq := eqM hxo hxz
      refine wp_skip ?_
      refine then_normal ?_
      refine c_seq ?_
      refine wp_block ?_
      refine c_seq ?_
      refine c_region ?_
      refine wl (wl_val hl rfl trivial (r_move hl rfl) ?_)
      clear hl a; intro a hl
      refine wl (wl_val hl rfl trivial (r_assign hl rfl) ?_)
      clear hl a; intro a hl
      refine w_nil ?_
      have hl2 := hl.add (t := 0) (hl.add (t := 1) (hl.add (t := 5) (hl.add (t := 12) (hl.add (t := 13) (hl.nil) rfl) rfl) rfl) rfl) rfl; clear hl; have hl := hl2; clear hl2
      refine then_normal ?_
      refine c_seq ?_
      refine c_draw [] [8] mixed hh ?_
      clear hh w; intro w hh
      have hM : Mem [] w := Mem.nil
      refine d_take (i := 0) hl rfl (by kernel_rfl) (by kernel_rfl) (by kernel_rfl) (by kernel_rfl) (by kernel_rfl) rfl trivial (fun _ _ _ h => h) hM (fun w hC => r_move hl rfl) rfl ?_
      clear hl a; intro a hl
      refine d_take (i := 1) hl rfl (by kernel_rfl) (by kernel_rfl) (by kernel_rfl) (by kernel_rfl) (by kernel_rfl) rfl trivial (fun _ _ _ h => h) hM (fun w hC => r_move hl rfl) rfl ?_
      clear hl a; intro a hl
      refine d_take (i := 2) hl rfl (by kernel_rfl) (by kernel_rfl) (by kernel_rfl) (by kernel_rfl) (by kernel_rfl) rfl trivial (fun _ _ _ h => h) hM (fun w hC => r_indexS hl rfl rfl slc53 (by omega) (by omega) (by first | (simp only [Int.reduceToNat]; rfl) | exact toNat_add1 _ | exact toNat_add2 _ _ | exact toNat_emod _ _ | exact Int.toNat_natCast _ | rfl)) rfl ?_
      clear hl a; intro a hl
      refine d_take (i := 4) hl rfl (by kernel_rfl) (by kernel_rfl) (by kernel_rfl) (by kernel_rfl) (by kernel_rfl) rfl trivial (fun _ _ _ h => h) hM (fun w hC => r_move hl rfl) rfl ?_
      clear hl a; intro a hl
      refine d_take (i := 5) hl rfl (by kernel_rfl) (by kernel_rfl) (by kernel_rfl) (by kernel_rfl) (by kernel_rfl) rfl trivial (fun _ _ _ h => h) hM (fun w hC => r_move hl rfl) rfl ?_
      clear hl a; intro a hl
      refine d_take (i := 6) hl rfl (by kernel_rfl) (by kernel_rfl) (by kernel_rfl) (by kernel_rfl) (by kernel_rfl) rfl trivial (fun _ _ _ h => h) hM (fun w hC => r_indexS hl rfl rfl slc53 (by omega) (by omega) (by first | (simp only [Int.reduceToNat]; rfl) | exact toNat_add1 _ | exact toNat_add2 _ _ | exact toNat_emod _ _ | exact Int.toNat_natCast _ | rfl)) rfl ?_
      clear hl a; intro a hl
      refine d_two (i := 3) (j := 7) (by kernel_rfl) rfl rfl ?_ ?_
      ·
        try clear hM
        first | refine id (w_loadA hl hh rfl trivial agg38 rfl (by repeat (first | exact find_head | apply find_tail | apply find_skip)) (by first | (simp only [List.getElem?_cons_zero, List.getElem?_cons_succ, Value.cells, List.take_zero, List.take_succ_cons, List.take_nil, List.drop_zero, List.drop_succ_cons, List.drop_nil, List.length_cons, List.length_nil, List.cons_append, List.nil_append, List.append_nil, Nat.zero_add, Nat.add_zero, Nat.reduceAdd, Nat.reduceBEq, Nat.reduceEqDiff, Nat.ble, BEq.rfl, Bool.and_true, Bool.and_self, cond_true, beq_self_eq_true]; rfl)) (by first | rfl | (simp; done)) ?_) | refine id (wl_val hl rfl trivial (r_loadA hl rfl agg38 (hh.mem _ _ (by repeat (first | exact hmem1 | exact List.mem_append_left _ hmem1 | apply List.mem_cons_of_mem | apply List.mem_append_right))) hd1 rfl) ?_) | refine id (wl_val hl rfl trivial (r_loadA hl rfl agg38 (hh.mem _ _ (by repeat (first | exact hmem2 | exact List.mem_append_left _ hmem2 | apply List.mem_cons_of_mem | apply List.mem_append_right))) hd2 rfl) ?_)
        clear hl a; intro a hl
        have hM : Mem [] w := Mem.nil
        refine d_step (fun _ => hM) ?_
        refine d_one (i := 7) (by kernel_rfl) rfl ?_
        try clear hM
        first | refine id (w_loadA hl hh rfl trivial agg38 rfl (by repeat (first | exact find_head | apply find_tail | apply find_skip)) (by first | (simp only [List.getElem?_cons_zero, List.getElem?_cons_succ, Value.cells, List.take_zero, List.take_succ_cons, List.take_nil, List.drop_zero, List.drop_succ_cons, List.drop_nil, List.length_cons, List.length_nil, List.cons_append, List.nil_append, List.append_nil, Nat.zero_add, Nat.add_zero, Nat.reduceAdd, Nat.reduceBEq, Nat.reduceEqDiff, Nat.ble, BEq.rfl, Bool.and_true, Bool.and_self, cond_true, beq_self_eq_true]; rfl)) (by first | rfl | (simp; done)) ?_) | refine id (wl_val hl rfl trivial (r_loadA hl rfl agg38 (hh.mem _ _ (by repeat (first | exact hmem1 | exact List.mem_append_left _ hmem1 | apply List.mem_cons_of_mem | apply List.mem_append_right))) hd1 rfl) ?_) | refine id (wl_val hl rfl trivial (r_loadA hl rfl agg38 (hh.mem _ _ (by repeat (first | exact hmem2 | exact List.mem_append_left _ hmem2 | apply List.mem_cons_of_mem | apply List.mem_append_right))) hd2 rfl) ?_)
        clear hl a; intro a hl
        have hM : Mem [] w := Mem.nil
        refine d_step (fun _ => hM) ?_
        refine d_takeL (i := 8) hl rfl (by kernel_rfl) (by kernel_rfl) (by kernel_rfl) (by kernel_rfl) (by kernel_rfl) rfl trivial (fun _ _ _ h => h) (fun w => r_neqA hl rfl rfl eqf38 shp38 (by simp only [unlitL, unlit]; rfl) (by simp only [unlitL, unlit]; rfl) (by first | exact litsM hxo hxz | exact ⟨trivial⟩ | (refine ⟨?_⟩; simp [LitsOk, litOk, Fits]; done) | (refine ⟨?_⟩; simp [LitsOk, litOk, Fits]; omega)) (by first | exact litsM hxo hxz | exact ⟨trivial⟩ | (refine ⟨?_⟩; simp [LitsOk, litOk, Fits]; done) | (refine ⟨?_⟩; simp [LitsOk, litOk, Fits]; omega))) rfl ?_
        clear hl a; intro a hl
        refine d_done (by kernel_rfl) ?_
        try clear hM
        have hl2 := hl.add (t := 0) (hl.add (t := 1) (hl.add (t := 12) (hl.add (t := 13) (hl.add (t := 24) (hl.nil) rfl) rfl) rfl) rfl) rfl; clear hl; have hl := hl2; clear hl2
        refine then_normal ?_
        refine c_cond hl rfl ?_ ?_
        · intro hc2
          try simp only [decide_eq_true_eq, decide_eq_false_iff_not, Bool.not_eq_true', Bool.not_eq_false', Bool.not_eq_true, Bool.not_eq_false, Bool.and_eq_true, Bool.or_eq_true, Bool.and_eq_false_iff, Bool.or_eq_false_iff, Bool.not_not, ne_eq, Int.not_lt, Int.not_le, Decidable.not_not, beq_iff_eq, bne_iff_ne] at hc2
          exfalso; first | contradiction | omega | (simp_all; done)
        · intro hc2
          try simp only [decide_eq_true_eq, decide_eq_false_iff_not, Bool.not_eq_true', Bool.not_eq_false', Bool.not_eq_true, Bool.not_eq_false, Bool.and_eq_true, Bool.or_eq_true, Bool.and_eq_false_iff, Bool.or_eq_false_iff, Bool.not_not, ne_eq, Int.not_lt, Int.not_le, Decidable.not_not, beq_iff_eq, bne_iff_ne] at hc2
          refine wp_skip ?_
          refine blk_normal ?_
          refine then_normal ?_
          refine c_region ?_
          first | refine wl (wl_val hl rfl trivial (r_add hl rfl rfl (by simp only [Fits]; omega)) ?_) | refine wl (wl_val hl rfl trivial (r_addW hl rfl rfl) ?_)
          clear hl a; intro a hl
          refine wl (wl_val hl rfl trivial (r_move hl rfl) ?_)
          clear hl a; intro a hl
          refine w_nil ?_
          have hl2 := hl.add (t := 0) (hl.add (t := 1) (hl.add (t := 12) (hl.add (t := 13) (hl.nil) rfl) rfl) rfl) rfl; clear hl; have hl := hl2; clear hl2
          refine then_normal ?_
          refine ⟨i + 1, (by omega), (by omega), hl.addE (t := 13) (hl.addE (t := 0) (hl.addE (t := 1) (hl.addE (t := 12) (hl.nil) rfl (by first | rfl | exact congrArg (Value.int .i64) (show (i : Int) + 1 = ((i + 1 : Nat) : Int) by omega))) rfl (by first | rfl | exact congrArg (Value.int .i64) (show (i : Int) + 1 = ((i + 1 : Nat) : Int) by omega))) rfl (by first | rfl | exact congrArg (Value.int .i64) (show (i : Int) + 1 = ((i + 1 : Nat) : Int) by omega))) rfl (by first | rfl | exact congrArg (Value.int .i64) (show (i : Int) + 1 = ((i + 1 : Nat) : Int) by omega)), hh.keep (by repeat (first | exact keeps_nil | apply keeps_cons (by repeat (first | exact find_head | apply find_tail | apply find_skip)) (by first  | rfl) | exact keeps_self | exact keeps_left | apply keeps_app | apply keeps_mv | apply keeps_skip))⟩
      ·
        try clear hM
        first | refine id (w_loadA hl hh rfl trivial agg38 rfl (by repeat (first | exact find_head | apply find_tail | apply find_skip)) (by first | (simp only [List.getElem?_cons_zero, List.getElem?_cons_succ, Value.cells, List.take_zero, List.take_succ_cons, List.take_nil, List.drop_zero, List.drop_succ_cons, List.drop_nil, List.length_cons, List.length_nil, List.cons_append, List.nil_append, List.append_nil, Nat.zero_add, Nat.add_zero, Nat.reduceAdd, Nat.reduceBEq, Nat.reduceEqDiff, Nat.ble, BEq.rfl, Bool.and_true, Bool.and_self, cond_true, beq_self_eq_true]; rfl)) (by first | rfl | (simp; done)) ?_) | refine id (wl_val hl rfl trivial (r_loadA hl rfl agg38 (hh.mem _ _ (by repeat (first | exact hmem1 | exact List.mem_append_left _ hmem1 | apply List.mem_cons_of_mem | apply List.mem_append_right))) hd1 rfl) ?_) | refine id (wl_val hl rfl trivial (r_loadA hl rfl agg38 (hh.mem _ _ (by repeat (first | exact hmem2 | exact List.mem_append_left _ hmem2 | apply List.mem_cons_of_mem | apply List.mem_append_right))) hd2 rfl) ?_)
        clear hl a; intro a hl
        have hM : Mem [] w := Mem.nil
        refine d_step (fun _ => hM) ?_
        refine d_one (i := 3) (by kernel_rfl) rfl ?_
        try clear hM
        first | refine id (w_loadA hl hh rfl trivial agg38 rfl (by repeat (first | exact find_head | apply find_tail | apply find_skip)) (by first | (simp only [List.getElem?_cons_zero, List.getElem?_cons_succ, Value.cells, List.take_zero, List.take_succ_cons, List.take_nil, List.drop_zero, List.drop_succ_cons, List.drop_nil, List.length_cons, List.length_nil, List.cons_append, List.nil_append, List.append_nil, Nat.zero_add, Nat.add_zero, Nat.reduceAdd, Nat.reduceBEq, Nat.reduceEqDiff, Nat.ble, BEq.rfl, Bool.and_true, Bool.and_self, cond_true, beq_self_eq_true]; rfl)) (by first | rfl | (simp; done)) ?_) | refine id (wl_val hl rfl trivial (r_loadA hl rfl agg38 (hh.mem _ _ (by repeat (first | exact hmem1 | exact List.mem_append_left _ hmem1 | apply List.mem_cons_of_mem | apply List.mem_append_right))) hd1 rfl) ?_) | refine id (wl_val hl rfl trivial (r_loadA hl rfl agg38 (hh.mem _ _ (by repeat (first | exact hmem2 | exact List.mem_append_left _ hmem2 | apply List.mem_cons_of_mem | apply List.mem_append_right))) hd2 rfl) ?_)
        clear hl a; intro a hl
        have hM : Mem [] w := Mem.nil
        refine d_step (fun _ => hM) ?_
        refine d_takeL (i := 8) hl rfl (by kernel_rfl) (by kernel_rfl) (by kernel_rfl) (by kernel_rfl) (by kernel_rfl) rfl trivial (fun _ _ _ h => h) (fun w => r_neqA hl rfl rfl eqf38 shp38 (by simp only [unlitL, unlit]; rfl) (by simp only [unlitL, unlit]; rfl) (by first | exact litsM hxo hxz | exact ⟨trivial⟩ | (refine ⟨?_⟩; simp [LitsOk, litOk, Fits]; done) | (refine ⟨?_⟩; simp [LitsOk, litOk, Fits]; omega)) (by first | exact litsM hxo hxz | exact ⟨trivial⟩ | (refine ⟨?_⟩; simp [LitsOk, litOk, Fits]; done) | (refine ⟨?_⟩; simp [LitsOk, litOk, Fits]; omega))) rfl ?_
        clear hl a; intro a hl
        refine d_done (by kernel_rfl) ?_
        try clear hM
        have hl2 := hl.add (t := 0) (hl.add (t := 1) (hl.add (t := 12) (hl.add (t := 13) (hl.add (t := 24) (hl.nil) rfl) rfl) rfl) rfl) rfl; clear hl; have hl := hl2; clear hl2
        refine then_normal ?_
        refine c_cond hl rfl ?_ ?_
        · intro hc2
          try simp only [decide_eq_true_eq, decide_eq_false_iff_not, Bool.not_eq_true', Bool.not_eq_false', Bool.not_eq_true, Bool.not_eq_false, Bool.and_eq_true, Bool.or_eq_true, Bool.and_eq_false_iff, Bool.or_eq_false_iff, Bool.not_not, ne_eq, Int.not_lt, Int.not_le, Decidable.not_not, beq_iff_eq, bne_iff_ne] at hc2
          exfalso; first | contradiction | omega | (simp_all; done)
        · intro hc2
          try simp only [decide_eq_true_eq, decide_eq_false_iff_not, Bool.not_eq_true', Bool.not_eq_false', Bool.not_eq_true, Bool.not_eq_false, Bool.and_eq_true, Bool.or_eq_true, Bool.and_eq_false_iff, Bool.or_eq_false_iff, Bool.not_not, ne_eq, Int.not_lt, Int.not_le, Decidable.not_not, beq_iff_eq, bne_iff_ne] at hc2
          refine wp_skip ?_
          refine blk_normal ?_
          refine then_normal ?_
          refine c_region ?_
          first | refine wl (wl_val hl rfl trivial (r_add hl rfl rfl (by simp only [Fits]; omega)) ?_) | refine wl (wl_val hl rfl trivial (r_addW hl rfl rfl) ?_)
          clear hl a; intro a hl
          refine wl (wl_val hl rfl trivial (r_move hl rfl) ?_)
          clear hl a; intro a hl
          refine w_nil ?_
          have hl2 := hl.add (t := 0) (hl.add (t := 1) (hl.add (t := 12) (hl.add (t := 13) (hl.nil) rfl) rfl) rfl) rfl; clear hl; have hl := hl2; clear hl2
          refine then_normal ?_
          refine ⟨i + 1, (by omega), (by omega), hl.addE (t := 13) (hl.addE (t := 0) (hl.addE (t := 1) (hl.addE (t := 12) (hl.nil) rfl (by first | rfl | exact congrArg (Value.int .i64) (show (i : Int) + 1 = ((i + 1 : Nat) : Int) by omega))) rfl (by first | rfl | exact congrArg (Value.int .i64) (show (i : Int) + 1 = ((i + 1 : Nat) : Int) by omega))) rfl (by first | rfl | exact congrArg (Value.int .i64) (show (i : Int) + 1 = ((i + 1 : Nat) : Int) by omega))) rfl (by first | rfl | exact congrArg (Value.int .i64) (show (i : Int) + 1 = ((i + 1 : Nat) : Int) by omega)), hh.keep (by repeat (first | exact keeps_nil | apply keeps_cons (by repeat (first | exact find_head | apply find_tail | apply find_skip)) (by first  | rfl) | exact keeps_self | exact keeps_left | apply keeps_app | apply keeps_mv | apply keeps_skip))⟩
    · intro hc1
      try simp only [decide_eq_true_eq, decide_eq_false_iff_not, Bool.not_eq_true', Bool.not_eq_false', Bool.not_eq_true, Bool.not_eq_false, Bool.and_eq_true, Bool.or_eq_true, Bool.and_eq_false_iff, Bool.or_eq_false_iff, Bool.not_not, ne_eq, Int.not_lt, Int.not_le, Decidable.not_not, beq_iff_eq, bne_iff_ne] at hc1
      refine wp_exit ?_
      refine then_exit ?_
      refine then_exit ?_
      refine blk_exit ?_
      refine then_normal ?_
      refine c_seq ?_
      refine c_region ?_
      refine wl (wl_val hl rfl trivial (r_assign hl rfl) ?_)
      clear hl a; intro a hl
      refine w_nil ?_
      have hl2 := hl.add (t := 4) (hl.nil) rfl; clear hl; have hl := hl2; clear hl2
      refine then_normal ?_
      refine wp_ret ?_
      refine f_ret1 (F' := E ++ E2) hl hh rfl rfl (by repeat (first | exact keeps_nil | apply keeps_cons (by repeat (first | exact find_head | apply find_tail | apply find_skip)) (by first  | rfl) | exact keeps_self | exact keeps_left | apply keeps_app | apply keeps_mv | apply keeps_skip)) ?_
      exact ⟨rfl, rfl⟩

set_option maxHeartbeats 4000000 in
theorem snet_spec (Z Y : List (Nat × Obj)) (n1 n2 : NtV) (h1 : n1.ok Z) (h2 : n2.ok Y) (he : n1.pl = n2.pl) : SpK Tryz.prog 118 #[.agg ⟨n1.c⟩, .agg ⟨n2.c⟩] (fun w => Mem Z w ∧ Mem Y w) [] (fun v F' => v = .bool true ∧ F' = []) := by
  refine f_enter (args := [.agg ⟨n1.c⟩, .agg ⟨n2.c⟩]) Tryz.func118 rfl Tryz.ntmps118 rfl ?_
  intro w0 w a hpre hl hh
  have hl1 := NtV.len h1; have hl2 := NtV.len h2
  simp only [slotsFrom, Nat.reduceAdd] at hl
  refine c_seq ?_
  refine c_region ?_
  refine wl (w_box hl hh rfl trivial rfl rfl ?_)
  clear hl hh a w; intro k2 a w hl hh
  refine wl (w_box hl hh rfl trivial rfl rfl ?_)
  clear hl hh a w; intro k3 a w hl hh
  refine wl (wl_val hl rfl trivial (r_assign hl rfl) ?_)
  clear hl a; intro a hl
  refine w_nil ?_
  have hl2 := hl.add (t := 2) (hl.add (t := 3) (hl.nil) rfl) rfl; clear hl; have hl := hl2; clear hl2
  refine then_normal ?_
  refine c_seq ?_
  refine c_seq ?_
  refine c_region ?_
  refine wl (wl_val hl rfl trivial (r_assign hl rfl) ?_)
  clear hl a; intro a hl
  refine w_nil ?_
  have hl2 := hl.add (t := 2) (hl.add (t := 3) (hl.add (t := 5) (hl.nil) rfl) rfl) rfl; clear hl; have hl := hl2; clear hl2
  refine then_normal ?_
  refine wp_block ?_
  obtain ⟨KS0, hKS0, hk⟩ := (hl.add (t := 2) (hl.add (t := 3) (hl.nil) rfl) rfl).name
  obtain ⟨HS0, hHS0, hh2⟩ := hh.name (keeps_nil)
  refine c_loop (α := Nat) (fun i => 16 - i) (fun i a w => (i ≤ 16) ∧ Sl 17 ([(5, .int .i64 (i : Int))] ++ KS0) a ∧ Has _ w0 ([] ++ HS0) w) 0 ⟨Nat.zero_le _, hl.addE (t := 5) (hk) rfl (by first | rfl), hh2⟩ ?_
  clear hk hh2 hl hh a w
  intro i a w hI
  obtain ⟨hi, hl, hh⟩ := hI
  subst hKS0; subst hHS0
  simp only [List.cons_append, List.nil_append, List.append_nil] at hl hh
  refine c_seq ?_
  refine c_seq ?_
  refine c_region ?_
  refine wl (wl_val hl rfl trivial (r_move hl rfl) ?_)
  clear hl a; intro a hl
  refine wl (wl_val hl rfl trivial (r_lss hl rfl rfl) ?_)
  clear hl a; intro a hl
  refine w_nil ?_
  have hl2 := hl.add (t := 2) (hl.add (t := 3) (hl.add (t := 5) (hl.add (t := 7) (hl.nil) rfl) rfl) rfl) rfl; clear hl; have hl := hl2; clear hl2
  refine then_normal ?_
  refine c_cond hl rfl ?_ ?_
  · intro hc0
    try simp only [decide_eq_true_eq, decide_eq_false_iff_not, Bool.not_eq_true', Bool.not_eq_false', Bool.not_eq_true, Bool.not_eq_false, Bool.and_eq_true, Bool.or_eq_true, Bool.and_eq_false_iff, Bool.or_eq_false_iff, Bool.not_not, ne_eq, Int.not_lt, Int.not_le, Decidable.not_not, beq_iff_eq, bne_iff_ne] at hc0
    refine wp_skip ?_
    refine then_normal ?_
    refine c_seq ?_
    refine wp_block ?_
    refine c_seq ?_
    refine c_draw [(k2, C n1.c 66), (k3, C n2.c 66)] [5, 6] mixed hh ?_
    clear hh w; intro w hh
    have hM : Mem [(k2, C n1.c 66), (k3, C n2.c 66)] w := (by (repeat (first | exact Mem.nil | refine Mem.consR hh (by assumption) (by simp) ?_ | refine Mem.cons hh.mem (by (repeat (first | exact find_head | apply find_tail)); done) ?_ | fail)); done)
    refine d_take (i := 0) hl rfl (by kernel_rfl) (by kernel_rfl) (by kernel_rfl) (by kernel_rfl) (by kernel_rfl) rfl trivial (fun _ _ _ h => h) hM (fun w hC => r_loadCA hl rfl agg66 hC (by repeat (first | exact find_head | apply find_tail)) (by first | exact NtV.whole h1 | exact NtV.whole h2) (by first | exact hl1 | exact hl2)) rfl ?_
    clear hl a; intro a hl
    refine d_take (i := 1) hl rfl (by kernel_rfl) (by kernel_rfl) (by kernel_rfl) (by kernel_rfl) (by kernel_rfl) rfl trivial (fun _ _ _ h => h) hM (fun w hC => r_move hl rfl) rfl ?_
    clear hl a; intro a hl
    refine d_take (i := 3) hl rfl (by kernel_rfl) (by kernel_rfl) (by kernel_rfl) (by kernel_rfl) (by kernel_rfl) rfl trivial (fun _ _ _ h => h) hM (fun w hC => r_loadCA hl rfl agg66 hC (by repeat (first | exact find_head | apply find_tail)) (by first | exact NtV.whole h1 | exact NtV.whole h2) (by first | exact hl1 | exact hl2)) rfl ?_
    clear hl a; intro a hl
    refine d_take (i := 4) hl rfl (by kernel_rfl) (by kernel_rfl) (by kernel_rfl) (by kernel_rfl) (by kernel_rfl) rfl trivial (fun _ _ _ h => h) hM (fun w hC => r_move hl rfl) rfl ?_
    clear hl a; intro a hl
    refine d_one (i := 2) (by kernel_rfl) rfl ?_
    try clear hM
    refine id (w_call hl hh rfl trivial rfl cal9 rfl (slice_spec Z n1 h1 i (by omega)) (by repeat (first | exact keeps_nil | apply keeps_cons (by repeat (first | exact find_head | apply find_tail)) (by first  | rfl) | exact keeps_self | apply keeps_mv)) (mem_keep hh hpre.1) ?_)
    clear hl hh a w; intro vc Fc a w hR hl hh
    obtain ⟨rfl, rfl⟩ := hR
    try simp only [List.cons_append, List.nil_append] at hh
    have hM : Mem [(k2, C n1.c 66), (k3, C n2.c 66)] w := (by (repeat (first | exact Mem.nil | refine Mem.consR hh (by assumption) (by simp) ?_ | refine Mem.cons hh.mem (by (repeat (first | exact find_head | apply find_tail)); done) ?_ | fail)); done)
    refine d_step (fun _ => hM) ?_
    refine d_one (i := 5) (by kernel_rfl) rfl ?_
    try clear hM
    refine id (w_call hl hh rfl trivial rfl cal9 rfl (slice_spec Y n2 h2 i (by omega)) (by repeat (first | exact keeps_nil | apply keeps_cons (by repeat (first | exact find_head | apply find_tail)) (by first  | rfl) | exact keeps_self | apply keeps_mv)) (mem_keep hh hpre.2) ?_)
    clear hl hh a w; intro vc Fc a w hR hl hh
    obtain ⟨rfl, rfl⟩ := hR
    try simp only [List.cons_append, List.nil_append] at hh
    refine d_step (fun h => absurd h (by decide)) ?_
    refine d_takeL (i := 6) hl rfl (by kernel_rfl) (by kernel_rfl) (by kernel_rfl) (by kernel_rfl) (by kernel_rfl) rfl trivial (fun _ _ _ h => h) (fun w => r_neq_string hl rfl rfl) rfl ?_
    clear hl a; intro a hl
    rw [he] at hl
    refine d_done (by kernel_rfl) ?_
    try clear hM
    have hl2 := hl.add (t := 2) (hl.add (t := 3) (hl.add (t := 5) (hl.add (t := 16) (hl.nil) rfl) rfl) rfl) rfl; clear hl; have hl := hl2; clear hl2
    refine then_normal ?_
    refine c_cond hl rfl ?_ ?_
    · intro hc1
      try simp only [decide_eq_true_eq, decide_eq_false_iff_not, Bool.not_eq_true', Bool.not_eq_false', Bool.not_eq_true, Bool.not_eq_false, Bool.and_eq_true, Bool.or_eq_true, Bool.and_eq_false_iff, Bool.or_eq_false_iff, Bool.not_not, ne_eq, Int.not_lt, Int.not_le, Decidable.not_not, beq_iff_eq, bne_iff_ne] at hc1
      exfalso; first | contradiction | omega | (simp_all; done)
    · intro hc1
      try simp only [decide_eq_true_eq, decide_eq_false_iff_not, Bool.not_eq_true', Bool.not_eq_false', Bool.not_eq_true, Bool.not_eq_false, Bool.and_eq_true, Bool.or_eq_true, Bool.and_eq_false_iff, Bool.or_eq_false_iff, Bool.not_not, ne_eq, Int.not_lt, Int.not_le, Decidable.not_not, beq_iff_eq, bne_iff_ne] at hc1
      refine wp_skip ?_
      refine blk_normal ?_
      refine then_normal ?_
      refine c_region ?_
      refine wl (wl_val hl rfl trivial (r_move hl rfl) ?_)
      clear hl a; intro a hl
      first | refine wl (wl_val hl rfl trivial (r_add hl rfl rfl (by simp only [Fits]; omega)) ?_) | refine wl (wl_val hl rfl trivial (r_addW hl rfl rfl) ?_)
      clear hl a; intro a hl
      refine wl (wl_val hl rfl trivial (r_assign hl rfl) ?_)
      clear hl a; intro a hl
      refine w_nil ?_
      have hl2 := hl.add (t := 2) (hl.add (t := 3) (hl.add (t := 5) (hl.nil) rfl) rfl) rfl; clear hl; have hl := hl2; clear hl2
      refine then_normal ?_
      refine ⟨i + 1, (by omega), (by omega), hl.addE (t := 5) (hl.addE (t := 2) (hl.addE (t := 3) (hl.nil) rfl (by first | rfl | exact congrArg (Value.int .i64) (show (i : Int) + 1 = ((i + 1 : Nat) : Int) by omega))) rfl (by first | rfl | exact congrArg (Value.int .i64) (show (i : Int) + 1 = ((i + 1 : Nat) : Int) by omega))) rfl (by first | rfl | exact congrArg (Value.int .i64) (show (i : Int) + 1 = ((i + 1 : Nat) : Int) by omega)), hh.keep (by repeat (first | exact keeps_nil | apply keeps_cons (by repeat (first | exact find_head | apply find_tail)) (by first  | rfl) | exact keeps_self | apply keeps_mv))⟩
  · intro hc0
    try simp only [decide_eq_true_eq, decide_eq_false_iff_not, Bool.not_eq_true', Bool.not_eq_false', Bool.not_eq_true, Bool.not_eq_false, Bool.and_eq_true, Bool.or_eq_true, Bool.and_eq_false_iff, Bool.or_eq_false_iff, Bool.not_not, ne_eq, Int.not_lt, Int.not_le, Decidable.not_not, beq_iff_eq, bne_iff_ne] at hc0
    refine wp_exit ?_
    refine then_exit ?_
    refine then_exit ?_
    refine blk_exit ?_
    refine then_normal ?_
    refine c_seq ?_
    refine c_region ?_
    refine wl (wl_val hl rfl trivial (r_assign hl rfl) ?_)
    clear hl a; intro a hl
    refine w_nil ?_
    have hl2 := hl.add (t := 4) (hl.nil) rfl; clear hl; have hl := hl2; clear hl2
    refine then_normal ?_
    refine wp_ret ?_
    refine f_ret1 (F' := []) hl hh rfl rfl (by repeat (first | exact keeps_nil | apply keeps_cons (by repeat (first | exact find_head | apply find_tail)) (by first  | rfl) | exact keeps_self | apply keeps_mv)) ?_
    exact ⟨rfl, rfl⟩

set_option maxHeartbeats 4000000 in
theorem hist_spec (Z : List (Nat × Obj)) (gb : Nat) (g : GtV) (hg : g.ok Z) : Sp Tryz.prog 113 #[.pointer (some ⟨gb, 0, none⟩)] ((gb, C g.c 127) :: g.st.E) (fun v F' => ∃ p c E, Row (.slice p (if g.off then [] else g.st.vs).length c) (if g.off then [] else g.st.vs).length (fl idc (if g.off then [] else g.st.vs)) 1 36 E ∧ v = .slice p (if g.off then [] else g.st.vs).length c ∧ F' = E ++ ((gb, C g.c 127) :: g.st.E)) := by
  refine f_enter (args := [.pointer (some ⟨gb, 0, none⟩)]) Tryz.func113 rfl Tryz.ntmps113 rfl ?_
  intro w0 w a hpre hl hh
  generalize hDD : List.map Prod.fst ((gb, C g.c 127) :: g.st.E) = D at hh ⊢
  have hv1 := hg.st.v1; have hvl := hg.st.vl
  obtain ⟨b1, j1, hq1, hjl1, hjc1, hE1⟩ := row_pos hg.st.v hv1
  have hmem1 : (b1, C (fl vrc g.st.vs ++ j1) 84) ∈ g.st.E := inE_v (by rw [hE1]; exact List.mem_singleton.2 rfl)
  simp only [slotsFrom, Nat.reduceAdd] at hl
  refine c_seq ?_
  refine c_region ?_
  refine wl (wl_val hl rfl trivial (r_assign hl rfl) ?_)
  clear hl a; intro a hl
  refine w_nil ?_
  have hl2 := hl.add (t := 0) (hl.nil) rfl; clear hl; have hl := hl2; clear hl2
  refine then_normal ?_
  refine c_seq ?_
  refine c_seq ?_
  refine c_region ?_
  refine wl (wl_val hl rfl trivial (r_move hl rfl) ?_)
  clear hl a; intro a hl
  refine wl (wl_val hl rfl trivial (r_nilCheck hl rfl) ?_)
  clear hl a; intro a hl
  refine wl (wl_val hl rfl trivial (r_field hl rfl fld127_10) ?_)
  clear hl a; intro a hl
  refine wl (w_load hl hh rfl trivial one4 rfl (by repeat (first | exact find_head | apply find_tail | apply find_skip)) (by first | exact gtc_led _ | exact gtc_ep _ | exact gtc_vs _ | exact gtc_is _ | exact gtc_fid _ | exact gtc_ph _ | exact gtc_vd _ | exact gtc_q _ | exact gtc_rf _ | exact gtc_ys _ | exact gtc_dn _ | exact gtc_tk _ | exact gtc_au _ | exact gtc_o _ | exact gtc_off _ | exact vrc_id x | rfl) ?_)
  clear hl a; intro a hl
  refine w_nil ?_
  have hl2 := hl.add (t := 0) (hl.add (t := 9) (hl.nil) rfl) rfl; clear hl; have hl := hl2; clear hl2
  refine then_normal ?_
  refine c_cond hl rfl ?_ ?_
  · intro hc0
    try simp only [decide_eq_true_eq, decide_eq_false_iff_not, Bool.not_eq_true', Bool.not_eq_false', Bool.not_eq_true, Bool.not_eq_false, Bool.and_eq_true, Bool.or_eq_true, Bool.and_eq_false_iff, Bool.or_eq_false_iff, Bool.not_not, ne_eq, Int.not_lt, Int.not_le, Decidable.not_not, beq_iff_eq, bne_iff_ne] at hc0
    have hif : (if g.off then [] else g.st.vs) = ([] : List Vr) := by rw [hc0]; rfl
    refine c_seq ?_
    refine c_region ?_
    refine wl (wl_val hl rfl trivial (r_assign hl rfl) ?_)
    clear hl a; intro a hl
    refine w_nil ?_
    have hl2 := hl.add (t := 2) (hl.nil) rfl; clear hl; have hl := hl2; clear hl2
    refine then_normal ?_
    refine wp_ret ?_
    refine then_ret ?_
    refine f_ret1 (F' := (gb, C g.c 127) :: g.st.E) hl hh rfl rfl (by repeat (first | exact keeps_nil | apply keeps_cons (by repeat (first | exact find_head | apply find_tail | apply find_skip)) (by first  | rfl) | exact keeps_self | exact keeps_left | apply keeps_app | apply keeps_mv | apply keeps_skip)) ?_
    exact ⟨none, 0, [], by rw [hif]; exact Row.nil _ _, by rw [hif]; rfl, rfl⟩
  · intro hc0
    try simp only [decide_eq_true_eq, decide_eq_false_iff_not, Bool.not_eq_true', Bool.not_eq_false', Bool.not_eq_true, Bool.not_eq_false, Bool.and_eq_true, Bool.or_eq_true, Bool.and_eq_false_iff, Bool.or_eq_false_iff, Bool.not_not, ne_eq, Int.not_lt, Int.not_le, Decidable.not_not, beq_iff_eq, bne_iff_ne] at hc0
    have hif : (if g.off then [] else g.st.vs) = g.st.vs := by rw [hc0]; rfl
    refine wp_skip ?_
    refine then_normal ?_
    refine c_seq ?_
    refine c_region ?_
    refine wl (wl_val hl rfl trivial (r_move hl rfl) ?_)
    clear hl a; intro a hl
    refine wl (wl_val hl rfl trivial (r_nilCheck hl rfl) ?_)
    clear hl a; intro a hl
    refine wl (wl_val hl rfl trivial (r_field hl rfl fld127_1) ?_)
    clear hl a; intro a hl
    refine wl (wl_val hl rfl trivial (r_field hl rfl fld89_1) ?_)
    clear hl a; intro a hl
    refine wl (w_load hl hh rfl trivial one85 rfl (by repeat (first | exact find_head | apply find_tail | apply find_skip)) (by first | exact gtc_led _ | exact gtc_ep _ | exact gtc_vs _ | exact gtc_is _ | exact gtc_fid _ | exact gtc_ph _ | exact gtc_vd _ | exact gtc_q _ | exact gtc_rf _ | exact gtc_ys _ | exact gtc_dn _ | exact gtc_tk _ | exact gtc_au _ | exact gtc_o _ | exact gtc_off _ | exact vrc_id x | rfl) ?_)
    clear hl a; intro a hl
    refine wl (wl_val hl rfl trivial (r_lenS hl rfl slc85) ?_)
    clear hl a; intro a hl
    refine wl (w_makeSlice0b hl hh rfl trivial app72 rfl rfl (by omega) (by decide) ?_)
    clear hl hh a w; intro k16 jk16 a w hjk16 hl hh
    replace hh := hh.perm (List.perm_append_singleton _ _).symm
    simp only [List.cons_append] at hh
    refine wl (wl_val hl rfl trivial (r_assign hl rfl) ?_)
    clear hl a; intro a hl
    refine w_nil ?_
    have hl2 := hl.add (t := 0) (hl.add (t := 3) (hl.nil) rfl) rfl; clear hl; have hl := hl2; clear hl2
    refine then_normal ?_
    refine c_seq ?_
    refine c_seq ?_
    refine c_region ?_
    refine wl (wl_val hl rfl trivial (r_move hl rfl) ?_)
    clear hl a; intro a hl
    refine wl (wl_val hl rfl trivial (r_nilCheck hl rfl) ?_)
    clear hl a; intro a hl
    refine wl (wl_val hl rfl trivial (r_field hl rfl fld127_1) ?_)
    clear hl a; intro a hl
    refine wl (wl_val hl rfl trivial (r_field hl rfl fld89_1) ?_)
    clear hl a; intro a hl
    refine wl (w_load hl hh rfl trivial one85 rfl (by repeat (first | exact find_head | apply find_tail | apply find_skip)) (by first | exact gtc_led _ | exact gtc_ep _ | exact gtc_vs _ | exact gtc_is _ | exact gtc_fid _ | exact gtc_ph _ | exact gtc_vd _ | exact gtc_q _ | exact gtc_rf _ | exact gtc_ys _ | exact gtc_dn _ | exact gtc_tk _ | exact gtc_au _ | exact gtc_o _ | exact gtc_off _ | exact vrc_id x | rfl) ?_)
    clear hl a; intro a hl
    rw [hq1] at hl
    refine wl (wl_val hl rfl trivial (r_lenS hl rfl slc85) ?_)
    clear hl a; intro a hl
    refine wl (wl_val hl rfl trivial (r_move hl rfl) ?_)
    clear hl a; intro a hl
    refine w_nil ?_
    have hl2 := hl.add (t := 3) (hl.add (t := 21) (hl.add (t := 22) (hl.add (t := 23) (hl.nil) rfl) rfl) rfl) rfl; clear hl; have hl := hl2; clear hl2
    refine then_normal ?_
    refine wp_block ?_
    obtain ⟨KS0, hKS0, hk⟩ := (hl.add (t := 21) (hl.add (t := 22) (hl.nil) rfl) rfl).name
    obtain ⟨HS0, hHS0, hh2⟩ := hh.nameT (A := []) (U := [(k16, C jk16 36)]) ((by repeat (first | exact keeps_nil | exact keeps_self | exact keeps_left | apply keeps_app | apply keeps_mv | apply keeps_skip)))
    refine c_loop (α := PuS) (fun s => g.st.vs.length - s.i) (fun s a w => (s.i ≤ g.st.vs.length ∧ Row (.slice s.p (g.st.vs.take s.i).length s.c) (g.st.vs.take s.i).length (fl idc (g.st.vs.take s.i)) 1 36 s.E) ∧ Sl 34 ([(23, .int .i64 (s.i : Int)), (3, .slice s.p (g.st.vs.take s.i).length s.c)] ++ KS0) a ∧ Has _ w0 ([] ++ (HS0 ++ s.E)) w) ⟨0, some ⟨k16, 0, none⟩, g.st.vs.length, [(k16, C jk16 36)]⟩ ⟨⟨Nat.zero_le _, .inr ⟨k16, g.st.vs.length, jk16, rfl, rfl, by rw [show fl idc (List.take 0 g.st.vs) = [] from rfl, List.nil_append]; exact hjk16, Nat.zero_le _, rfl⟩⟩, hl.addE (t := 23) (hl.addE (t := 3) (hk) rfl (by first | rfl)) rfl (by first | rfl), hh2⟩ ?_
    clear hk hh2 hl hh a w
    intro s a w hI
    obtain ⟨⟨hsi, hsR⟩, hl, hh⟩ := hI
    subst hKS0; subst hHS0
    simp only [List.cons_append, List.nil_append, List.append_nil, List.append_assoc] at hl hh
    refine c_seq ?_
    refine c_region ?_
    refine wl (wl_val hl rfl trivial (r_lss hl rfl rfl) ?_)
    clear hl a; intro a hl
    refine w_nil ?_
    have hl2 := hl.add (t := 3) (hl.add (t := 21) (hl.add (t := 22) (hl.add (t := 23) (hl.add (t := 24) (hl.nil) rfl) rfl) rfl) rfl) rfl; clear hl; have hl := hl2; clear hl2
    refine then_normal ?_
    refine c_seq ?_
    refine c_cond hl rfl ?_ ?_
    · intro hc1
      try simp only [decide_eq_true_eq, decide_eq_false_iff_not, Bool.not_eq_true', Bool.not_eq_false', Bool.not_eq_true, Bool.not_eq_false, Bool.and_eq_true, Bool.or_eq_true, Bool.and_eq_false_iff, Bool.or_eq_false_iff, Bool.not_not, ne_eq, Int.not_lt, Int.not_le, Decidable.not_not, beq_iff_eq, bne_iff_ne] at hc1
      obtain ⟨x, hx⟩ : ∃ x, g.st.vs[s.i]? = some x := ⟨_, List.getElem?_eq_getElem (by omega)⟩
      have hd1 := fl_at vrc_len hx j1
      have htl : (g.st.vs.take s.i).length ≤ 1000000000 := by rw [List.length_take]; omega
      refine wp_skip ?_
      refine then_normal ?_
      refine c_seq ?_
      refine wp_block ?_
      refine c_seq ?_
      refine c_region ?_
      refine wl (wl_val hl rfl trivial (r_indexS hl rfl rfl slc85 (by omega) (by omega) (by first | (simp only [Int.reduceToNat]; rfl) | exact toNat_add1 _ | exact toNat_add2 _ _ | exact toNat_emod _ _ | exact Int.toNat_natCast _ | rfl)) ?_)
      clear hl a; intro a hl
      first | refine wl (w_loadA hl hh rfl trivial agg84 rfl (by repeat (first | exact find_head | apply find_tail | apply find_skip)) (by exact hd1) (by exact vrc_len _) ?_) | refine wl (wl_val hl rfl trivial (r_loadA hl rfl agg84 (hh.mem _ _ (by repeat (first | exact hmem1 | exact List.mem_append_left _ hmem1 | apply List.mem_cons_of_mem | apply List.mem_append_right))) hd1 (vrc_len _)) ?_)
      clear hl a; intro a hl
      refine wl (w_alloc hl hh rfl trivial zero84 rfl ?_)
      clear hl hh a w; intro k5 a w hl hh
      refine wl (w_storeA hl hh trivial agg84 rfl rfl (by repeat (first | exact find_head | apply find_tail | apply find_skip)) (by exact vrc_len _) (by exact Nat.le_refl 65) (by exact vrc_one _) (by exact setL_all (show 65 = _ from (vrc_len _).symm)) ?_)
      clear hh w; intro w hh
      refine w_nil ?_
      have hl2 := hl.add (t := 3) (hl.add (t := 5) (hl.add (t := 21) (hl.add (t := 22) (hl.add (t := 23) (hl.nil) rfl) rfl) rfl) rfl) rfl; clear hl; have hl := hl2; clear hl2
      refine then_normal ?_
      refine c_region ?_
      refine wl (wl_val hl rfl trivial (r_move hl rfl) ?_)
      clear hl a; intro a hl
      refine wl (wl_val hl rfl trivial (r_field hl rfl fld84_0) ?_)
      clear hl a; intro a hl
      refine wl (w_load hl hh rfl trivial one36 rfl (by repeat (first | exact find_head | apply find_tail | apply find_skip)) (by first | exact gtc_led _ | exact gtc_ep _ | exact gtc_vs _ | exact gtc_is _ | exact gtc_fid _ | exact gtc_ph _ | exact gtc_vd _ | exact gtc_q _ | exact gtc_rf _ | exact gtc_ys _ | exact gtc_dn _ | exact gtc_tk _ | exact gtc_au _ | exact gtc_o _ | exact gtc_off _ | exact vrc_id x | rfl) ?_)
      clear hl a; intro a hl
      refine wl (w_buildSlice hl hh rfl trivial app72 zero36 rfl rfl rfl rfl rfl (by simp only [fillL, arrPl, List.range_succ, List.range_zero, List.map_cons, List.map_nil, List.map_append, List.nil_append, List.replicate_succ, List.replicate_zero, List.flatten_cons, List.flatten_nil, Nat.zero_mul, Nat.mul_one, Nat.one_mul, Nat.reduceMul, setL, List.getElem?_cons_zero, List.getElem?_cons_succ, Value.cells, List.take_zero, List.take_succ_cons, List.take_nil, List.drop_zero, List.drop_succ_cons, List.drop_nil, List.length_cons, List.length_nil, List.cons_append, List.nil_append, List.append_nil, Nat.zero_add, Nat.add_zero, Nat.reduceAdd, Nat.reduceBEq, Nat.reduceEqDiff, Nat.ble, BEq.rfl, Bool.and_true, Bool.and_self, cond_true, beq_self_eq_true]; rfl) ?_)
      clear hl hh a w; intro k30 a w hl hh
      refine wl (w_append (news := (idc x)) hl hh rfl trivial app72 rfl rfl rfl hsR (by repeat (first | exact keeps_nil | apply keeps_cons (by repeat (first | exact find_head | apply find_tail | apply find_skip)) (by first  | rfl) | exact keeps_self | exact keeps_left | apply keeps_app | apply keeps_mv | apply keeps_skip)) (hh.mem _ _ (Find.mem (by repeat (first | exact find_head | apply find_tail | apply find_skip)))) rfl rfl (idc_one _) (by omega) (by omega) (by omega) (by decide) ?_)
      clear hl hh a w; intro rv2 E2 a w hR2 hl hh
      have hh3 := hh.comm; clear hh; have hh := hh3; clear hh3
      try simp only [List.cons_append, List.nil_append, List.append_assoc, List.append_nil] at hh
      obtain ⟨p6, c6, hv6⟩ := row_val hR2
      rw [hv6] at hl hR2
      rw [show (g.st.vs.take s.i).length + 1 = (g.st.vs.take s.i ++ [x]).length by simp] at hl hR2
      rw [show fl idc (g.st.vs.take s.i) ++ idc x = fl idc (g.st.vs.take s.i ++ [x]) by rw [fl_app, fl_sing]] at hR2
      refine wl (wl_val hl rfl trivial (r_assign hl rfl) ?_)
      clear hl a; intro a hl
      refine w_nil ?_
      have hl2 := hl.add (t := 3) (hl.add (t := 21) (hl.add (t := 22) (hl.add (t := 23) (hl.nil) rfl) rfl) rfl) rfl; clear hl; have hl := hl2; clear hl2
      refine blk_normal ?_
      refine then_normal ?_
      refine c_region ?_
      first | refine wl (wl_val hl rfl trivial (r_add hl rfl rfl (by simp only [Fits]; omega)) ?_) | refine wl (wl_val hl rfl trivial (r_addW hl rfl rfl) ?_)
      clear hl a; intro a hl
      refine wl (wl_val hl rfl trivial (r_move hl rfl) ?_)
      clear hl a; intro a hl
      refine w_nil ?_
      have hl2 := hl.add (t := 3) (hl.add (t := 21) (hl.add (t := 22) (hl.add (t := 23) (hl.nil) rfl) rfl) rfl) rfl; clear hl; have hl := hl2; clear hl2
      refine then_normal ?_
      refine ⟨⟨s.i + 1, p6, c6, E2⟩, (by simp only; omega), ⟨by simp only; omega, by simp only; rw [tk_snoc9 hx]; exact hR2⟩, hl.addE (t := 23) (hl.addE (t := 3) (hl.addE (t := 21) (hl.addE (t := 22) (hl.nil) rfl (by first | rfl | exact congrArg (Value.int .i64) (show (s.i : Int) + 1 = ((s.i + 1 : Nat) : Int) by omega) | (simp only; rw [tk_snoc9 hx]; done))) rfl (by first | rfl | exact congrArg (Value.int .i64) (show (s.i : Int) + 1 = ((s.i + 1 : Nat) : Int) by omega) | (simp only; rw [tk_snoc9 hx]; done))) rfl (by first | rfl | exact congrArg (Value.int .i64) (show (s.i : Int) + 1 = ((s.i + 1 : Nat) : Int) by omega) | (simp only; rw [tk_snoc9 hx]; done))) rfl (by first | rfl | exact congrArg (Value.int .i64) (show (s.i : Int) + 1 = ((s.i + 1 : Nat) : Int) by omega) | (simp only; rw [tk_snoc9 hx]; done)), hh.keep (by repeat (first | exact keeps_nil | apply keeps_cons (by repeat (first | exact find_head | apply find_tail | apply find_skip)) (by first  | rfl) | exact keeps_self | exact keeps_left | apply keeps_app | apply keeps_mv | apply keeps_skip))⟩
    · intro hc1
      try simp only [decide_eq_true_eq, decide_eq_false_iff_not, Bool.not_eq_true', Bool.not_eq_false', Bool.not_eq_true, Bool.not_eq_false, Bool.and_eq_true, Bool.or_eq_true, Bool.and_eq_false_iff, Bool.or_eq_false_iff, Bool.not_not, ne_eq, Int.not_lt, Int.not_le, Decidable.not_not, beq_iff_eq, bne_iff_ne] at hc1
      have hie : s.i = g.st.vs.length := by omega
      rw [hie, List.take_length] at hl hsR
      refine wp_exit ?_
      refine then_exit ?_
      refine then_exit ?_
      refine blk_exit ?_
      refine then_normal ?_
      refine c_seq ?_
      refine c_region ?_
      refine wl (wl_val hl rfl trivial (r_move hl rfl) ?_)
      clear hl a; intro a hl
      refine wl (wl_val hl rfl trivial (r_assign hl rfl) ?_)
      clear hl a; intro a hl
      refine w_nil ?_
      have hl2 := hl.add (t := 2) (hl.nil) rfl; clear hl; have hl := hl2; clear hl2
      refine then_normal ?_
      refine wp_ret ?_
      refine f_ret1 (F' := s.E ++ ((gb, C g.c 127) :: g.st.E)) hl hh rfl rfl (by repeat (first | exact keeps_nil | apply keeps_cons (by repeat (first | exact find_head | apply find_tail | apply find_skip)) (by first  | rfl) | exact keeps_self | exact keeps_left | apply keeps_app | apply keeps_mv | apply keeps_skip)) ?_
      exact ⟨s.p, s.c, s.E, by rw [hif]; exact hsR, by rw [hif], rfl⟩
end Go.Proofs.Qxb6500908aGreat

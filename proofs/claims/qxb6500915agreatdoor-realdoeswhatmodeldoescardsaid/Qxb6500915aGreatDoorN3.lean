import Derived.Test.Qxb6500915aGreatDoorN2
namespace Go.Proofs.Qxb6500915aGreatDoor
open Go.Eng
set_option linter.unusedVariables false
set_option linter.unusedSimpArgs false
theorem cal73 : callable Tryz.prog 73 = true := by kernel_rfl
theorem slc154 : slcOk Tryz.prog 154 2 = true := by kernel_rfl
theorem fld156_0 : fieldOk Tryz.prog 156 0 0 = true := by kernel_rfl
theorem fld156_1 : fieldOk Tryz.prog 156 1 1 = true := by kernel_rfl
theorem spR_bd {r : RV} (hr : r.ok) (h : r.ls.length ≤ 64) : (spR r.ru).length ≤ 20000000 := by
  have h1 : ((r.ls.map LV.l).flatMap spL).length ≤ (r.ls.map LV.l).length * 262148 := flatMap_le fun x hx => by
    obtain ⟨y, hy, rfl⟩ := List.mem_map.1 hx
    have h2 := (hr.ls y hy).ags.len
    have h3 := spT_len y.l.a
    show (spT y.l.a).length + 3 ≤ _
    omega
  rw [List.length_map] at h1
  have h4 := hr.hd.len
  have h5 := spT_len r.a
  show (spT r.a ++ (r.ls.map LV.l).flatMap spL).length + 1 ≤ _
  rw [List.length_append]
  omega


attribute [local irreducible] RV.E

set_option maxHeartbeats 8000000 in
theorem less_spec (r t : RV) (hr : r.ok) (ht : t.ok) (hr4 : r.ls.length ≤ 64) (ht4 : t.ls.length ≤ 64) : SpK Tryz.prog 43 #[.agg ⟨[.string r.p, .slice r.hp r.a.length r.hc, .slice r.bp r.ls.length r.bc]⟩, .agg ⟨[.string t.p, .slice t.hp t.a.length t.hc, .slice t.bp t.ls.length t.bc]⟩] (fun w => Mem r.E w ∧ Mem t.E w) [] (fun v F' => v = .bool (decide (cmpR r.ru t.ru < 0)) ∧ F' = []) := by
  refine f_enter (args := [.agg ⟨[.string r.p, .slice r.hp r.a.length r.hc, .slice r.bp r.ls.length r.bc]⟩, .agg ⟨[.string t.p, .slice t.hp t.a.length t.hc, .slice t.bp t.ls.length t.bc]⟩]) Tryz.func43 rfl Tryz.ntmps43 rfl ?_
  intro w0 w a hpre hl hh
  have hbx := spR_bd hr hr4; have hby := spR_bd ht ht4
  simp only [slotsFrom, Nat.reduceAdd] at hl
  refine c_seq ?_
  refine c_region ?_
  refine wl (w_box hl hh rfl trivial rfl rfl ?_)
  clear hl hh a w; intro k2 a w hl hh
  refine wl (w_box hl hh rfl trivial rfl rfl ?_)
  clear hl hh a w; intro k3 a w hl hh
  refine wl (wl_val hl rfl trivial (r_assign hl rfl) ?_)
  clear hl a; intro a hl
  refine w_nil ?_
  have hl2 := hl.add (t := 2) (hl.add (t := 3) (hl.nil) rfl) rfl; clear hl; have hl := hl2; clear hl2
  refine then_normal ?_
  refine c_seq ?_
  refine cut_region (fun a w => ∃ (xp : Option Addr) (xc : Nat) (xE : List (Nat × Obj)) (yp : Option Addr) (yc : Nat) (yE : List (Nat × Obj)), (Row (.slice xp (spR r.ru).length xc) (spR r.ru).length (fl cec (spR r.ru)) 2 156 xE ∧ Row (.slice yp (spR t.ru).length yc) (spR t.ru).length (fl cec (spR t.ru)) 2 156 yE) ∧ Sl 73 [(5, .slice xp (spR r.ru).length xc), (6, .slice yp (spR t.ru).length yc)] a ∧ Has [] w0 (xE ++ yE) w) ?_ ?_
  ·
    refine c_draw [(k2, C [.string r.p, .slice r.hp r.a.length r.hc, .slice r.bp r.ls.length r.bc] 57), (k3, C [.string t.p, .slice t.hp t.a.length t.hc, .slice t.bp t.ls.length t.bc] 57)] [3, 4, 5] mixed hh ?_
    clear hh w; intro w hh
    have hM : Mem [(k2, C [.string r.p, .slice r.hp r.a.length r.hc, .slice r.bp r.ls.length r.bc] 57), (k3, C [.string t.p, .slice t.hp t.a.length t.hc, .slice t.bp t.ls.length t.bc] 57)] w := (memK hh (by repeat (first | exact keeps_nil | apply keeps_cons (by repeat (first | exact find_head | apply find_tail | apply find_skip)) (by first  | rfl) | exact keeps_self | exact keeps_left | apply keeps_app | apply keeps_mv | apply keeps_skip)))
    refine d_take (i := 0) hl rfl (by kernel_rfl) (by kernel_rfl) (by kernel_rfl) (by kernel_rfl) (by kernel_rfl) rfl trivial (fun _ _ _ h => by cases h.1) hM (fun w hC => r_loadCA hl rfl agg57 hC (by repeat (first | exact find_head | apply find_tail | apply find_skip)) (by first | (simp only [List.getElem?_cons_zero, List.getElem?_cons_succ, Value.cells, List.take_zero, List.take_succ_cons, List.take_nil, List.drop_zero, List.drop_succ_cons, List.drop_nil, List.length_cons, List.length_nil, List.cons_append, List.nil_append, List.append_nil, Nat.zero_add, Nat.add_zero, Nat.reduceAdd, Nat.reduceBEq, Nat.reduceEqDiff, Nat.ble, BEq.rfl, Bool.and_true, Bool.and_self, cond_true, beq_self_eq_true]; rfl)) (by first | rfl | (simp; done))) rfl ?_
    clear hl a; intro a hl
    refine d_take (i := 2) hl rfl (by kernel_rfl) (by kernel_rfl) (by kernel_rfl) (by kernel_rfl) (by kernel_rfl) rfl trivial (fun _ _ _ h => by cases h.1) hM (fun w hC => r_loadCA hl rfl agg57 hC (by repeat (first | exact find_head | apply find_tail | apply find_skip)) (by first | (simp only [List.getElem?_cons_zero, List.getElem?_cons_succ, Value.cells, List.take_zero, List.take_succ_cons, List.take_nil, List.drop_zero, List.drop_succ_cons, List.drop_nil, List.length_cons, List.length_nil, List.cons_append, List.nil_append, List.append_nil, Nat.zero_add, Nat.add_zero, Nat.reduceAdd, Nat.reduceBEq, Nat.reduceEqDiff, Nat.ble, BEq.rfl, Bool.and_true, Bool.and_self, cond_true, beq_self_eq_true]; rfl)) (by first | rfl | (simp; done))) rfl ?_
    clear hl a; intro a hl
    refine d_one (i := 1) (by kernel_rfl) rfl ?_
    try clear hM
    refine id (w_call hl hh rfl trivial rfl cal73 rfl (spR_spec r hr hr4) (by repeat (first | exact keeps_nil | apply keeps_cons (by repeat (first | exact find_head | apply find_tail | apply find_skip)) (by first  | rfl) | exact keeps_self | exact keeps_left | apply keeps_app | apply keeps_mv | apply keeps_skip)) (mem_keep hh hpre.1) ?_)
    clear hl hh a w; intro vc Fc a w hR hl hh
    obtain ⟨xp, xc, rfl, hRx⟩ := hR
    try simp only [List.cons_append, List.nil_append, List.append_assoc, List.append_nil] at hh
    generalize Fc = xE at hh hRx
    have hM : Mem [(k2, C [.string r.p, .slice r.hp r.a.length r.hc, .slice r.bp r.ls.length r.bc] 57), (k3, C [.string t.p, .slice t.hp t.a.length t.hc, .slice t.bp t.ls.length t.bc] 57)] w := (memK hh (by repeat (first | exact keeps_nil | apply keeps_cons (by repeat (first | exact find_head | apply find_tail | apply find_skip)) (by first  | rfl) | exact keeps_self | exact keeps_left | apply keeps_app | apply keeps_mv | apply keeps_skip)))
    refine d_step (fun _ => hM) ?_
    refine d_one (i := 3) (by kernel_rfl) rfl ?_
    try clear hM
    refine id (w_call hl hh rfl trivial rfl cal73 rfl (spR_spec t ht ht4) (by repeat (first | exact keeps_nil | apply keeps_cons (by repeat (first | exact find_head | apply find_tail | apply find_skip)) (by first  | rfl) | exact keeps_self | exact keeps_left | apply keeps_app | apply keeps_mv | apply keeps_skip)) (mem_keep hh hpre.2) ?_)
    clear hl hh a w; intro vc Fc a w hR hl hh
    obtain ⟨yp, yc, rfl, hRy⟩ := hR
    try simp only [List.cons_append, List.nil_append, List.append_assoc, List.append_nil] at hh
    generalize Fc = yE at hh hRy
    refine d_step (fun h => absurd h (by decide)) ?_
    refine d_takeL (i := 4) hl rfl (by kernel_rfl) (by kernel_rfl) (by kernel_rfl) (by kernel_rfl) (by kernel_rfl) rfl trivial (fun _ _ _ h => by cases h.1) (fun w => r_assign hl rfl) rfl ?_
    clear hl a; intro a hl
    refine d_takeL (i := 5) hl rfl (by kernel_rfl) (by kernel_rfl) (by kernel_rfl) (by kernel_rfl) (by kernel_rfl) rfl trivial (fun _ _ _ h => by cases h.1) (fun w => r_assign hl rfl) rfl ?_
    clear hl a; intro a hl
    refine d_done (by kernel_rfl) ?_
    try clear hM
    exact ⟨rfl, xp, xc, xE, yp, yc, yE, ⟨hRx, hRy⟩, hl.addE (t := 5) (hl.addE (t := 6) (hl.nil) rfl (by first | rfl)) rfl (by first | rfl), hh.keep (by repeat (first | exact keeps_nil | apply keeps_cons (by repeat (first | exact find_head | apply find_tail | apply find_skip)) (by first  | rfl) | exact keeps_self | exact keeps_left | apply keeps_app | apply keeps_mv | apply keeps_skip))⟩
  ·
    clear hl hh a w; intro a w hI
    obtain ⟨xp, xc, xE, yp, yc, yE, ⟨hRx, hRy⟩, hl, hh⟩ := hI
    have hl2 := hl.add (t := 5) (hl.add (t := 6) (hl.nil) rfl) rfl; clear hl; have hl := hl2; clear hl2
    refine then_normal ?_
    refine c_seq ?_
    refine c_seq ?_
    refine c_region ?_
    refine wl (wl_val hl rfl trivial (r_assign hl rfl) ?_)
    clear hl a; intro a hl
    refine w_nil ?_
    have hl2 := hl.add (t := 5) (hl.add (t := 6) (hl.add (t := 7) (hl.nil) rfl) rfl) rfl; clear hl; have hl := hl2; clear hl2
    refine then_normal ?_
    refine wp_block ?_
    obtain ⟨KS0, hKS0, hk⟩ := (hl.add (t := 5) (hl.add (t := 6) (hl.nil) rfl) rfl).name
    obtain ⟨HS0, hHS0, hh2⟩ := hh.name (keeps_nil)
    refine c_loop (α := Nat) (fun i => (spR r.ru).length - i) (fun i a w => ((i ≤ (spR r.ru).length ∧ i ≤ (spR t.ru).length) ∧ cmpX (spR r.ru) (spR t.ru) = cmpX ((spR r.ru).drop i) ((spR t.ru).drop i)) ∧ Sl 73 ([(7, .int .i64 (i : Int))] ++ KS0) a ∧ Has _ w0 ([] ++ HS0) w) 0 ⟨⟨⟨Nat.zero_le _, Nat.zero_le _⟩, rfl⟩, hl.addE (t := 7) (hk) rfl (by first | rfl), hh2⟩ ?_
    clear hk hh2 hl hh a w
    intro i a w hI
    obtain ⟨⟨⟨hi, hi2⟩, hI⟩, hl, hh⟩ := hI
    subst hKS0; subst hHS0
    simp only [List.cons_append, List.nil_append, List.append_nil, List.append_assoc] at hl hh
    refine c_seq ?_
    refine c_seq ?_
    refine c_region ?_
    refine wl (wl_val hl rfl trivial (r_move hl rfl) ?_)
    clear hl a; intro a hl
    refine wl (wl_val hl rfl trivial (r_move hl rfl) ?_)
    clear hl a; intro a hl
    refine wl (wl_val hl rfl trivial (r_lenS hl rfl slc154) ?_)
    clear hl a; intro a hl
    refine wl (wl_val hl rfl trivial (r_lss hl rfl rfl) ?_)
    clear hl a; intro a hl
    refine wl (wl_val hl rfl trivial (r_move hl rfl) ?_)
    clear hl a; intro a hl
    refine sl_split (t := 16) hl rfl ?_ ?_
    · intro hg1; clear hl; intro hl
      try simp only [decide_eq_true_eq, decide_eq_false_iff_not, Bool.not_eq_true', Bool.not_eq_false', Bool.not_eq_true, Bool.not_eq_false, Bool.and_eq_true, Bool.or_eq_true, Bool.and_eq_false_iff, Bool.or_eq_false_iff, Bool.not_not, ne_eq, Int.not_lt, Int.not_le, Decidable.not_not, beq_iff_eq, bne_iff_ne] at hg1
      refine wl (wl_val hl rfl ⟨_, _, rfl, rfl, rfl⟩ (r_move hl rfl) ?_)
      clear hl a; intro a hl
      refine wl (wl_val hl rfl ⟨_, _, rfl, rfl, rfl⟩ (r_move hl rfl) ?_)
      clear hl a; intro a hl
      refine wl (wl_val hl rfl ⟨_, _, rfl, rfl, rfl⟩ (r_lenS hl rfl slc154) ?_)
      clear hl a; intro a hl
      refine wl (wl_val hl rfl ⟨_, _, rfl, rfl, rfl⟩ (r_lss hl rfl rfl) ?_)
      clear hl a; intro a hl
      refine wl (wl_val hl rfl trivial (r_pickT hl rfl rfl) ?_)
      clear hl a; intro a hl
      refine w_nil ?_
      have hl2 := hl.add (t := 5) (hl.add (t := 6) (hl.add (t := 7) (hl.add (t := 21) (hl.nil) rfl) rfl) rfl) rfl; clear hl; have hl := hl2; clear hl2
      refine then_normal ?_
      refine c_cond hl rfl ?_ ?_
      · intro hc0
        try simp only [decide_eq_true_eq, decide_eq_false_iff_not, Bool.not_eq_true', Bool.not_eq_false', Bool.not_eq_true, Bool.not_eq_false, Bool.and_eq_true, Bool.or_eq_true, Bool.and_eq_false_iff, Bool.or_eq_false_iff, Bool.not_not, ne_eq, Int.not_lt, Int.not_le, Decidable.not_not, beq_iff_eq, bne_iff_ne] at hc0
        obtain ⟨x, hx⟩ : ∃ x, (spR r.ru)[i]? = some x := ⟨_, List.getElem?_eq_getElem (by omega)⟩
        obtain ⟨y, hy⟩ : ∃ y, (spR t.ru)[i]? = some y := ⟨_, List.getElem?_eq_getElem (by omega)⟩
        have hdr := cX_drop hx hy
        obtain ⟨bx, jx, hqx, _, _, hEx⟩ := row_pos hRx (by omega)
        have hbxm : (bx, C (fl cec (spR r.ru) ++ jx) 156) ∈ xE := by rw [hEx]; exact List.mem_singleton.2 rfl
        obtain ⟨bz, jy, hqy, _, _, hEy⟩ := row_pos hRy (by omega)
        have hbzm : (bz, C (fl cec (spR t.ru) ++ jy) 156) ∈ yE := by rw [hEy]; exact List.mem_singleton.2 rfl
        rw [hqx, hqy] at hl
        refine wp_skip ?_
        refine then_normal ?_
        refine c_seq ?_
        refine wp_block ?_
        refine c_seq ?_
        refine c_seq ?_
        refine c_draw [(bx, C (fl cec (spR r.ru) ++ jx) 156), (bz, C (fl cec (spR t.ru) ++ jy) 156)] [10] mixed hh ?_
        clear hh w; intro w hh
        have hM : Mem [(bx, C (fl cec (spR r.ru) ++ jx) 156), (bz, C (fl cec (spR t.ru) ++ jy) 156)] w := (fun b o m => by simp only [List.mem_cons, List.not_mem_nil, or_false] at m; rcases m with m | m <;> cases m; exact hh.mem _ _ (by repeat (first | exact hbxm | exact List.mem_append_left _ hbxm | apply List.mem_cons_of_mem | apply List.mem_append_right)); exact hh.mem _ _ (by repeat (first | exact hbzm | exact List.mem_append_left _ hbzm | apply List.mem_cons_of_mem | apply List.mem_append_right)))
        refine d_take (i := 0) hl rfl (by kernel_rfl) (by kernel_rfl) (by kernel_rfl) (by kernel_rfl) (by kernel_rfl) rfl trivial (fun _ _ _ h => h) hM (fun w hC => r_move hl rfl) rfl ?_
        clear hl a; intro a hl
        refine d_take (i := 1) hl rfl (by kernel_rfl) (by kernel_rfl) (by kernel_rfl) (by kernel_rfl) (by kernel_rfl) rfl trivial (fun _ _ _ h => h) hM (fun w hC => r_move hl rfl) rfl ?_
        clear hl a; intro a hl
        refine d_take (i := 2) hl rfl (by kernel_rfl) (by kernel_rfl) (by kernel_rfl) (by kernel_rfl) (by kernel_rfl) rfl trivial (fun _ _ _ h => h) hM (fun w hC => r_indexS hl rfl rfl slc154 (by omega) (by omega) (by first | (simp only [Int.reduceToNat]; rfl) | exact toNat_add1 _ | exact toNat_add2 _ _ | exact toNat_emod _ _ | exact Int.toNat_natCast _ | rfl)) rfl ?_
        clear hl a; intro a hl
        refine d_take (i := 3) hl rfl (by kernel_rfl) (by kernel_rfl) (by kernel_rfl) (by kernel_rfl) (by kernel_rfl) rfl trivial (fun _ _ _ h => h) hM (fun w hC => r_field hl rfl fld156_0) rfl ?_
        clear hl a; intro a hl
        refine d_take (i := 4) hl rfl (by kernel_rfl) (by kernel_rfl) (by kernel_rfl) (by kernel_rfl) (by kernel_rfl) rfl trivial (fun _ _ _ h => h) hM (fun w hC => r_loadC hl rfl one2 hC (by repeat (first | exact find_head | apply find_tail | apply find_skip)) (by first | exact fl_cell cec_len hx rfl jx | exact fl_cell cec_len hy rfl jy | rfl)) rfl ?_
        clear hl a; intro a hl
        refine d_take (i := 5) hl rfl (by kernel_rfl) (by kernel_rfl) (by kernel_rfl) (by kernel_rfl) (by kernel_rfl) rfl trivial (fun _ _ _ h => h) hM (fun w hC => r_move hl rfl) rfl ?_
        clear hl a; intro a hl
        refine d_take (i := 6) hl rfl (by kernel_rfl) (by kernel_rfl) (by kernel_rfl) (by kernel_rfl) (by kernel_rfl) rfl trivial (fun _ _ _ h => h) hM (fun w hC => r_move hl rfl) rfl ?_
        clear hl a; intro a hl
        refine d_take (i := 7) hl rfl (by kernel_rfl) (by kernel_rfl) (by kernel_rfl) (by kernel_rfl) (by kernel_rfl) rfl trivial (fun _ _ _ h => h) hM (fun w hC => r_indexS hl rfl rfl slc154 (by omega) (by omega) (by first | (simp only [Int.reduceToNat]; rfl) | exact toNat_add1 _ | exact toNat_add2 _ _ | exact toNat_emod _ _ | exact Int.toNat_natCast _ | rfl)) rfl ?_
        clear hl a; intro a hl
        refine d_take (i := 8) hl rfl (by kernel_rfl) (by kernel_rfl) (by kernel_rfl) (by kernel_rfl) (by kernel_rfl) rfl trivial (fun _ _ _ h => h) hM (fun w hC => r_field hl rfl fld156_0) rfl ?_
        clear hl a; intro a hl
        refine d_take (i := 9) hl rfl (by kernel_rfl) (by kernel_rfl) (by kernel_rfl) (by kernel_rfl) (by kernel_rfl) rfl trivial (fun _ _ _ h => h) hM (fun w hC => r_loadC hl rfl one2 hC (by repeat (first | exact find_head | apply find_tail | apply find_skip)) (by first | exact fl_cell cec_len hx rfl jx | exact fl_cell cec_len hy rfl jy | rfl)) rfl ?_
        clear hl a; intro a hl
        refine d_takeL (i := 10) hl rfl (by kernel_rfl) (by kernel_rfl) (by kernel_rfl) (by kernel_rfl) (by kernel_rfl) rfl trivial (fun _ _ _ h => h) (fun w => r_neq hl rfl rfl) rfl ?_
        clear hl a; intro a hl
        refine d_done (by kernel_rfl) ?_
        try clear hM
        have hl2 := hl.add (t := 5) (hl.add (t := 6) (hl.add (t := 7) (hl.add (t := 34) (hl.nil) rfl) rfl) rfl) rfl; clear hl; have hl := hl2; clear hl2
        refine then_normal ?_
        refine c_cond hl rfl ?_ ?_
        · intro hc1
          try simp only [decide_eq_true_eq, decide_eq_false_iff_not, Bool.not_eq_true', Bool.not_eq_false', Bool.not_eq_true, Bool.not_eq_false, Bool.and_eq_true, Bool.or_eq_true, Bool.and_eq_false_iff, Bool.or_eq_false_iff, Bool.not_not, ne_eq, Int.not_lt, Int.not_le, Decidable.not_not, beq_iff_eq, bne_iff_ne] at hc1
          refine c_seq ?_
          refine c_draw [(bx, C (fl cec (spR r.ru) ++ jx) 156), (bz, C (fl cec (spR t.ru) ++ jy) 156)] [10, 11] mixed hh ?_
          clear hh w; intro w hh
          have hM : Mem [(bx, C (fl cec (spR r.ru) ++ jx) 156), (bz, C (fl cec (spR t.ru) ++ jy) 156)] w := (fun b o m => by simp only [List.mem_cons, List.not_mem_nil, or_false] at m; rcases m with m | m <;> cases m; exact hh.mem _ _ (by repeat (first | exact hbxm | exact List.mem_append_left _ hbxm | apply List.mem_cons_of_mem | apply List.mem_append_right)); exact hh.mem _ _ (by repeat (first | exact hbzm | exact List.mem_append_left _ hbzm | apply List.mem_cons_of_mem | apply List.mem_append_right)))
          refine d_take (i := 0) hl rfl (by kernel_rfl) (by kernel_rfl) (by kernel_rfl) (by kernel_rfl) (by kernel_rfl) rfl trivial (fun _ _ _ h => h) hM (fun w hC => r_move hl rfl) rfl ?_
          clear hl a; intro a hl
          refine d_take (i := 1) hl rfl (by kernel_rfl) (by kernel_rfl) (by kernel_rfl) (by kernel_rfl) (by kernel_rfl) rfl trivial (fun _ _ _ h => h) hM (fun w hC => r_move hl rfl) rfl ?_
          clear hl a; intro a hl
          refine d_take (i := 2) hl rfl (by kernel_rfl) (by kernel_rfl) (by kernel_rfl) (by kernel_rfl) (by kernel_rfl) rfl trivial (fun _ _ _ h => h) hM (fun w hC => r_indexS hl rfl rfl slc154 (by omega) (by omega) (by first | (simp only [Int.reduceToNat]; rfl) | exact toNat_add1 _ | exact toNat_add2 _ _ | exact toNat_emod _ _ | exact Int.toNat_natCast _ | rfl)) rfl ?_
          clear hl a; intro a hl
          refine d_take (i := 3) hl rfl (by kernel_rfl) (by kernel_rfl) (by kernel_rfl) (by kernel_rfl) (by kernel_rfl) rfl trivial (fun _ _ _ h => h) hM (fun w hC => r_field hl rfl fld156_0) rfl ?_
          clear hl a; intro a hl
          refine d_take (i := 4) hl rfl (by kernel_rfl) (by kernel_rfl) (by kernel_rfl) (by kernel_rfl) (by kernel_rfl) rfl trivial (fun _ _ _ h => h) hM (fun w hC => r_loadC hl rfl one2 hC (by repeat (first | exact find_head | apply find_tail | apply find_skip)) (by first | exact fl_cell cec_len hx rfl jx | exact fl_cell cec_len hy rfl jy | rfl)) rfl ?_
          clear hl a; intro a hl
          refine d_take (i := 5) hl rfl (by kernel_rfl) (by kernel_rfl) (by kernel_rfl) (by kernel_rfl) (by kernel_rfl) rfl trivial (fun _ _ _ h => h) hM (fun w hC => r_move hl rfl) rfl ?_
          clear hl a; intro a hl
          refine d_take (i := 6) hl rfl (by kernel_rfl) (by kernel_rfl) (by kernel_rfl) (by kernel_rfl) (by kernel_rfl) rfl trivial (fun _ _ _ h => h) hM (fun w hC => r_move hl rfl) rfl ?_
          clear hl a; intro a hl
          refine d_take (i := 7) hl rfl (by kernel_rfl) (by kernel_rfl) (by kernel_rfl) (by kernel_rfl) (by kernel_rfl) rfl trivial (fun _ _ _ h => h) hM (fun w hC => r_indexS hl rfl rfl slc154 (by omega) (by omega) (by first | (simp only [Int.reduceToNat]; rfl) | exact toNat_add1 _ | exact toNat_add2 _ _ | exact toNat_emod _ _ | exact Int.toNat_natCast _ | rfl)) rfl ?_
          clear hl a; intro a hl
          refine d_take (i := 8) hl rfl (by kernel_rfl) (by kernel_rfl) (by kernel_rfl) (by kernel_rfl) (by kernel_rfl) rfl trivial (fun _ _ _ h => h) hM (fun w hC => r_field hl rfl fld156_0) rfl ?_
          clear hl a; intro a hl
          refine d_take (i := 9) hl rfl (by kernel_rfl) (by kernel_rfl) (by kernel_rfl) (by kernel_rfl) (by kernel_rfl) rfl trivial (fun _ _ _ h => h) hM (fun w hC => r_loadC hl rfl one2 hC (by repeat (first | exact find_head | apply find_tail | apply find_skip)) (by first | exact fl_cell cec_len hx rfl jx | exact fl_cell cec_len hy rfl jy | rfl)) rfl ?_
          clear hl a; intro a hl
          refine d_takeL (i := 10) hl rfl (by kernel_rfl) (by kernel_rfl) (by kernel_rfl) (by kernel_rfl) (by kernel_rfl) rfl trivial (fun _ _ _ h => h) (fun w => r_lss hl rfl rfl) rfl ?_
          clear hl a; intro a hl
          refine d_takeL (i := 11) hl rfl (by kernel_rfl) (by kernel_rfl) (by kernel_rfl) (by kernel_rfl) (by kernel_rfl) rfl trivial (fun _ _ _ h => h) (fun w => r_assign hl rfl) rfl ?_
          clear hl a; intro a hl
          refine d_done (by kernel_rfl) ?_
          try clear hM
          have hl2 := hl.add (t := 4) (hl.nil) rfl; clear hl; have hl := hl2; clear hl2
          refine then_normal ?_
          refine wp_ret ?_
          refine then_ret ?_
          refine blk_ret ?_
          refine then_ret ?_
          refine then_ret ?_
          refine blk_ret ?_
          refine then_ret ?_
          refine f_ret1 (F' := []) hl hh rfl rfl (by repeat (first | exact keeps_nil | apply keeps_cons (by repeat (first | exact find_head | apply find_tail | apply find_skip)) (by first  | rfl) | exact keeps_self | exact keeps_left | apply keeps_app | apply keeps_mv | apply keeps_skip)) ?_
          exact ⟨congrArg Value.bool (by rw [← cX_R, hI, hdr, cX_n hc1]), rfl⟩
        · intro hc1
          try simp only [decide_eq_true_eq, decide_eq_false_iff_not, Bool.not_eq_true', Bool.not_eq_false', Bool.not_eq_true, Bool.not_eq_false, Bool.and_eq_true, Bool.or_eq_true, Bool.and_eq_false_iff, Bool.or_eq_false_iff, Bool.not_not, ne_eq, Int.not_lt, Int.not_le, Decidable.not_not, beq_iff_eq, bne_iff_ne] at hc1
          refine wp_skip ?_
          refine then_normal ?_
          refine c_seq ?_
          refine c_draw [(bx, C (fl cec (spR r.ru) ++ jx) 156), (bz, C (fl cec (spR t.ru) ++ jy) 156)] [10] mixed hh ?_
          clear hh w; intro w hh
          have hM : Mem [(bx, C (fl cec (spR r.ru) ++ jx) 156), (bz, C (fl cec (spR t.ru) ++ jy) 156)] w := (fun b o m => by simp only [List.mem_cons, List.not_mem_nil, or_false] at m; rcases m with m | m <;> cases m; exact hh.mem _ _ (by repeat (first | exact hbxm | exact List.mem_append_left _ hbxm | apply List.mem_cons_of_mem | apply List.mem_append_right)); exact hh.mem _ _ (by repeat (first | exact hbzm | exact List.mem_append_left _ hbzm | apply List.mem_cons_of_mem | apply List.mem_append_right)))
          refine d_take (i := 0) hl rfl (by kernel_rfl) (by kernel_rfl) (by kernel_rfl) (by kernel_rfl) (by kernel_rfl) rfl trivial (fun _ _ _ h => h) hM (fun w hC => r_move hl rfl) rfl ?_
          clear hl a; intro a hl
          refine d_take (i := 1) hl rfl (by kernel_rfl) (by kernel_rfl) (by kernel_rfl) (by kernel_rfl) (by kernel_rfl) rfl trivial (fun _ _ _ h => h) hM (fun w hC => r_move hl rfl) rfl ?_
          clear hl a; intro a hl
          refine d_take (i := 2) hl rfl (by kernel_rfl) (by kernel_rfl) (by kernel_rfl) (by kernel_rfl) (by kernel_rfl) rfl trivial (fun _ _ _ h => h) hM (fun w hC => r_indexS hl rfl rfl slc154 (by omega) (by omega) (by first | (simp only [Int.reduceToNat]; rfl) | exact toNat_add1 _ | exact toNat_add2 _ _ | exact toNat_emod _ _ | exact Int.toNat_natCast _ | rfl)) rfl ?_
          clear hl a; intro a hl
          refine d_take (i := 3) hl rfl (by kernel_rfl) (by kernel_rfl) (by kernel_rfl) (by kernel_rfl) (by kernel_rfl) rfl trivial (fun _ _ _ h => h) hM (fun w hC => r_field hl rfl fld156_1) rfl ?_
          clear hl a; intro a hl
          refine d_take (i := 4) hl rfl (by kernel_rfl) (by kernel_rfl) (by kernel_rfl) (by kernel_rfl) (by kernel_rfl) rfl trivial (fun _ _ _ h => h) hM (fun w hC => r_loadC hl rfl one9 hC (by repeat (first | exact find_head | apply find_tail | apply find_skip)) (by first | exact fl_cell cec_len hx rfl jx | exact fl_cell cec_len hy rfl jy | rfl)) rfl ?_
          clear hl a; intro a hl
          refine d_take (i := 5) hl rfl (by kernel_rfl) (by kernel_rfl) (by kernel_rfl) (by kernel_rfl) (by kernel_rfl) rfl trivial (fun _ _ _ h => h) hM (fun w hC => r_move hl rfl) rfl ?_
          clear hl a; intro a hl
          refine d_take (i := 6) hl rfl (by kernel_rfl) (by kernel_rfl) (by kernel_rfl) (by kernel_rfl) (by kernel_rfl) rfl trivial (fun _ _ _ h => h) hM (fun w hC => r_move hl rfl) rfl ?_
          clear hl a; intro a hl
          refine d_take (i := 7) hl rfl (by kernel_rfl) (by kernel_rfl) (by kernel_rfl) (by kernel_rfl) (by kernel_rfl) rfl trivial (fun _ _ _ h => h) hM (fun w hC => r_indexS hl rfl rfl slc154 (by omega) (by omega) (by first | (simp only [Int.reduceToNat]; rfl) | exact toNat_add1 _ | exact toNat_add2 _ _ | exact toNat_emod _ _ | exact Int.toNat_natCast _ | rfl)) rfl ?_
          clear hl a; intro a hl
          refine d_take (i := 8) hl rfl (by kernel_rfl) (by kernel_rfl) (by kernel_rfl) (by kernel_rfl) (by kernel_rfl) rfl trivial (fun _ _ _ h => h) hM (fun w hC => r_field hl rfl fld156_1) rfl ?_
          clear hl a; intro a hl
          refine d_take (i := 9) hl rfl (by kernel_rfl) (by kernel_rfl) (by kernel_rfl) (by kernel_rfl) (by kernel_rfl) rfl trivial (fun _ _ _ h => h) hM (fun w hC => r_loadC hl rfl one9 hC (by repeat (first | exact find_head | apply find_tail | apply find_skip)) (by first | exact fl_cell cec_len hx rfl jx | exact fl_cell cec_len hy rfl jy | rfl)) rfl ?_
          clear hl a; intro a hl
          refine d_takeL (i := 10) hl rfl (by kernel_rfl) (by kernel_rfl) (by kernel_rfl) (by kernel_rfl) (by kernel_rfl) rfl trivial (fun _ _ _ h => h) (fun w => r_neq_string hl rfl rfl) rfl ?_
          clear hl a; intro a hl
          refine d_done (by kernel_rfl) ?_
          try clear hM
          have hl2 := hl.add (t := 5) (hl.add (t := 6) (hl.add (t := 7) (hl.add (t := 56) (hl.nil) rfl) rfl) rfl) rfl; clear hl; have hl := hl2; clear hl2
          refine then_normal ?_
          refine c_cond hl rfl ?_ ?_
          · intro hc2
            try simp only [decide_eq_true_eq, decide_eq_false_iff_not, Bool.not_eq_true', Bool.not_eq_false', Bool.not_eq_true, Bool.not_eq_false, Bool.and_eq_true, Bool.or_eq_true, Bool.and_eq_false_iff, Bool.or_eq_false_iff, Bool.not_not, ne_eq, Int.not_lt, Int.not_le, Decidable.not_not, beq_iff_eq, bne_iff_ne] at hc2
            refine c_seq ?_
            refine c_draw [(bx, C (fl cec (spR r.ru) ++ jx) 156), (bz, C (fl cec (spR t.ru) ++ jy) 156)] [10, 11] mixed hh ?_
            clear hh w; intro w hh
            have hM : Mem [(bx, C (fl cec (spR r.ru) ++ jx) 156), (bz, C (fl cec (spR t.ru) ++ jy) 156)] w := (fun b o m => by simp only [List.mem_cons, List.not_mem_nil, or_false] at m; rcases m with m | m <;> cases m; exact hh.mem _ _ (by repeat (first | exact hbxm | exact List.mem_append_left _ hbxm | apply List.mem_cons_of_mem | apply List.mem_append_right)); exact hh.mem _ _ (by repeat (first | exact hbzm | exact List.mem_append_left _ hbzm | apply List.mem_cons_of_mem | apply List.mem_append_right)))
            refine d_take (i := 0) hl rfl (by kernel_rfl) (by kernel_rfl) (by kernel_rfl) (by kernel_rfl) (by kernel_rfl) rfl trivial (fun _ _ _ h => h) hM (fun w hC => r_move hl rfl) rfl ?_
            clear hl a; intro a hl
            refine d_take (i := 1) hl rfl (by kernel_rfl) (by kernel_rfl) (by kernel_rfl) (by kernel_rfl) (by kernel_rfl) rfl trivial (fun _ _ _ h => h) hM (fun w hC => r_move hl rfl) rfl ?_
            clear hl a; intro a hl
            refine d_take (i := 2) hl rfl (by kernel_rfl) (by kernel_rfl) (by kernel_rfl) (by kernel_rfl) (by kernel_rfl) rfl trivial (fun _ _ _ h => h) hM (fun w hC => r_indexS hl rfl rfl slc154 (by omega) (by omega) (by first | (simp only [Int.reduceToNat]; rfl) | exact toNat_add1 _ | exact toNat_add2 _ _ | exact toNat_emod _ _ | exact Int.toNat_natCast _ | rfl)) rfl ?_
            clear hl a; intro a hl
            refine d_take (i := 3) hl rfl (by kernel_rfl) (by kernel_rfl) (by kernel_rfl) (by kernel_rfl) (by kernel_rfl) rfl trivial (fun _ _ _ h => h) hM (fun w hC => r_field hl rfl fld156_1) rfl ?_
            clear hl a; intro a hl
            refine d_take (i := 4) hl rfl (by kernel_rfl) (by kernel_rfl) (by kernel_rfl) (by kernel_rfl) (by kernel_rfl) rfl trivial (fun _ _ _ h => h) hM (fun w hC => r_loadC hl rfl one9 hC (by repeat (first | exact find_head | apply find_tail | apply find_skip)) (by first | exact fl_cell cec_len hx rfl jx | exact fl_cell cec_len hy rfl jy | rfl)) rfl ?_
            clear hl a; intro a hl
            refine d_take (i := 5) hl rfl (by kernel_rfl) (by kernel_rfl) (by kernel_rfl) (by kernel_rfl) (by kernel_rfl) rfl trivial (fun _ _ _ h => h) hM (fun w hC => r_move hl rfl) rfl ?_
            clear hl a; intro a hl
            refine d_take (i := 6) hl rfl (by kernel_rfl) (by kernel_rfl) (by kernel_rfl) (by kernel_rfl) (by kernel_rfl) rfl trivial (fun _ _ _ h => h) hM (fun w hC => r_move hl rfl) rfl ?_
            clear hl a; intro a hl
            refine d_take (i := 7) hl rfl (by kernel_rfl) (by kernel_rfl) (by kernel_rfl) (by kernel_rfl) (by kernel_rfl) rfl trivial (fun _ _ _ h => h) hM (fun w hC => r_indexS hl rfl rfl slc154 (by omega) (by omega) (by first | (simp only [Int.reduceToNat]; rfl) | exact toNat_add1 _ | exact toNat_add2 _ _ | exact toNat_emod _ _ | exact Int.toNat_natCast _ | rfl)) rfl ?_
            clear hl a; intro a hl
            refine d_take (i := 8) hl rfl (by kernel_rfl) (by kernel_rfl) (by kernel_rfl) (by kernel_rfl) (by kernel_rfl) rfl trivial (fun _ _ _ h => h) hM (fun w hC => r_field hl rfl fld156_1) rfl ?_
            clear hl a; intro a hl
            refine d_take (i := 9) hl rfl (by kernel_rfl) (by kernel_rfl) (by kernel_rfl) (by kernel_rfl) (by kernel_rfl) rfl trivial (fun _ _ _ h => h) hM (fun w hC => r_loadC hl rfl one9 hC (by repeat (first | exact find_head | apply find_tail | apply find_skip)) (by first | exact fl_cell cec_len hx rfl jx | exact fl_cell cec_len hy rfl jy | rfl)) rfl ?_
            clear hl a; intro a hl
            refine d_takeL (i := 10) hl rfl (by kernel_rfl) (by kernel_rfl) (by kernel_rfl) (by kernel_rfl) (by kernel_rfl) rfl trivial (fun _ _ _ h => h) (fun w => r_lss_string hl rfl rfl) rfl ?_
            clear hl a; intro a hl
            refine d_takeL (i := 11) hl rfl (by kernel_rfl) (by kernel_rfl) (by kernel_rfl) (by kernel_rfl) (by kernel_rfl) rfl trivial (fun _ _ _ h => h) (fun w => r_assign hl rfl) rfl ?_
            clear hl a; intro a hl
            refine d_done (by kernel_rfl) ?_
            try clear hM
            have hl2 := hl.add (t := 4) (hl.nil) rfl; clear hl; have hl := hl2; clear hl2
            refine then_normal ?_
            refine wp_ret ?_
            refine blk_ret ?_
            refine then_ret ?_
            refine then_ret ?_
            refine blk_ret ?_
            refine then_ret ?_
            refine f_ret1 (F' := []) hl hh rfl rfl (by repeat (first | exact keeps_nil | apply keeps_cons (by repeat (first | exact find_head | apply find_tail | apply find_skip)) (by first  | rfl) | exact keeps_self | exact keeps_left | apply keeps_app | apply keeps_mv | apply keeps_skip)) ?_
            exact ⟨congrArg Value.bool (by rw [← cX_R, hI, hdr, cX_s hc1 (by_f hc2)]), rfl⟩
          · intro hc2
            try simp only [decide_eq_true_eq, decide_eq_false_iff_not, Bool.not_eq_true', Bool.not_eq_false', Bool.not_eq_true, Bool.not_eq_false, Bool.and_eq_true, Bool.or_eq_true, Bool.and_eq_false_iff, Bool.or_eq_false_iff, Bool.not_not, ne_eq, Int.not_lt, Int.not_le, Decidable.not_not, beq_iff_eq, bne_iff_ne] at hc2
            refine wp_skip ?_
            refine blk_normal ?_
            refine then_normal ?_
            refine c_region ?_
            refine wl (wl_val hl rfl trivial (r_move hl rfl) ?_)
            clear hl a; intro a hl
            first | refine wl (wl_val hl rfl trivial (r_add hl rfl rfl (by simp only [Fits]; omega)) ?_) | refine wl (wl_val hl rfl trivial (r_addW hl rfl rfl) ?_)
            clear hl a; intro a hl
            refine wl (wl_val hl rfl trivial (r_assign hl rfl) ?_)
            clear hl a; intro a hl
            refine w_nil ?_
            have hl2 := hl.add (t := 5) (hl.add (t := 6) (hl.add (t := 7) (hl.nil) rfl) rfl) rfl; clear hl; have hl := hl2; clear hl2
            refine then_normal ?_
            refine ⟨i + 1, (by omega), ⟨⟨by omega, by omega⟩, by rw [hI, hdr, cX_0 hc1 (by_t hc2)]⟩, hl.addE (t := 7) (hl.addE (t := 5) (hl.addE (t := 6) (hl.nil) rfl (by first | rfl | exact congrArg (Value.int .i64) (show (i : Int) + 1 = ((i + 1 : Nat) : Int) by omega) | (rw [hqx]) | (rw [hqy]))) rfl (by first | rfl | exact congrArg (Value.int .i64) (show (i : Int) + 1 = ((i + 1 : Nat) : Int) by omega) | (rw [hqx]) | (rw [hqy]))) rfl (by first | rfl | exact congrArg (Value.int .i64) (show (i : Int) + 1 = ((i + 1 : Nat) : Int) by omega) | (rw [hqx]) | (rw [hqy])), hh.keep (by repeat (first | exact keeps_nil | apply keeps_cons (by repeat (first | exact find_head | apply find_tail | apply find_skip)) (by first  | rfl) | exact keeps_self | exact keeps_left | apply keeps_app | apply keeps_mv | apply keeps_skip))⟩
      · intro hc0
        try simp only [decide_eq_true_eq, decide_eq_false_iff_not, Bool.not_eq_true', Bool.not_eq_false', Bool.not_eq_true, Bool.not_eq_false, Bool.and_eq_true, Bool.or_eq_true, Bool.and_eq_false_iff, Bool.or_eq_false_iff, Bool.not_not, ne_eq, Int.not_lt, Int.not_le, Decidable.not_not, beq_iff_eq, bne_iff_ne] at hc0
        have hend := cX_end (a := (spR r.ru)) (b := (spR t.ru)) (i := i) (by omega) (by omega) (by omega)
        refine wp_exit ?_
        refine then_exit ?_
        refine then_exit ?_
        refine blk_exit ?_
        refine then_normal ?_
        refine c_seq ?_
        refine c_region ?_
        refine wl (wl_val hl rfl trivial (r_move hl rfl) ?_)
        clear hl a; intro a hl
        refine wl (wl_val hl rfl trivial (r_lenS hl rfl slc154) ?_)
        clear hl a; intro a hl
        refine wl (wl_val hl rfl trivial (r_move hl rfl) ?_)
        clear hl a; intro a hl
        refine wl (wl_val hl rfl trivial (r_lenS hl rfl slc154) ?_)
        clear hl a; intro a hl
        refine wl (wl_val hl rfl trivial (r_lss hl rfl rfl) ?_)
        clear hl a; intro a hl
        refine wl (wl_val hl rfl trivial (r_assign hl rfl) ?_)
        clear hl a; intro a hl
        refine w_nil ?_
        have hl2 := hl.add (t := 4) (hl.nil) rfl; clear hl; have hl := hl2; clear hl2
        refine then_normal ?_
        refine wp_ret ?_
        refine f_ret1 (F' := []) hl hh rfl rfl (by repeat (first | exact keeps_nil | apply keeps_cons (by repeat (first | exact find_head | apply find_tail | apply find_skip)) (by first  | rfl) | exact keeps_self | exact keeps_left | apply keeps_app | apply keeps_mv | apply keeps_skip)) ?_
        exact ⟨congrArg Value.bool (by rw [← cX_R, hI, hend]), rfl⟩
    · intro hg1; clear hl; intro hl
      try simp only [decide_eq_true_eq, decide_eq_false_iff_not, Bool.not_eq_true', Bool.not_eq_false', Bool.not_eq_true, Bool.not_eq_false, Bool.and_eq_true, Bool.or_eq_true, Bool.and_eq_false_iff, Bool.or_eq_false_iff, Bool.not_not, ne_eq, Int.not_lt, Int.not_le, Decidable.not_not, beq_iff_eq, bne_iff_ne] at hg1
      refine wl (wl_skip hl rfl ⟨_, _, rfl, rfl, rfl⟩ ?_)
      clear hl a; intro a hl
      refine wl (wl_skip hl rfl ⟨_, _, rfl, rfl, rfl⟩ ?_)
      clear hl a; intro a hl
      refine wl (wl_skip hl rfl ⟨_, _, rfl, rfl, rfl⟩ ?_)
      clear hl a; intro a hl
      refine wl (wl_skip hl rfl ⟨_, _, rfl, rfl, rfl⟩ ?_)
      clear hl a; intro a hl
      refine wl (wl_val hl rfl trivial (r_pickF hl rfl rfl) ?_)
      clear hl a; intro a hl
      refine w_nil ?_
      have hl2 := hl.add (t := 5) (hl.add (t := 6) (hl.add (t := 7) (hl.add (t := 21) (hl.nil) rfl) rfl) rfl) rfl; clear hl; have hl := hl2; clear hl2
      refine then_normal ?_
      refine c_condF hl rfl ?_
      have hend := cX_end (a := (spR r.ru)) (b := (spR t.ru)) (i := i) (by omega) (by omega) (by omega)
      refine wp_exit ?_
      refine then_exit ?_
      refine then_exit ?_
      refine blk_exit ?_
      refine then_normal ?_
      refine c_seq ?_
      refine c_region ?_
      refine wl (wl_val hl rfl trivial (r_move hl rfl) ?_)
      clear hl a; intro a hl
      refine wl (wl_val hl rfl trivial (r_lenS hl rfl slc154) ?_)
      clear hl a; intro a hl
      refine wl (wl_val hl rfl trivial (r_move hl rfl) ?_)
      clear hl a; intro a hl
      refine wl (wl_val hl rfl trivial (r_lenS hl rfl slc154) ?_)
      clear hl a; intro a hl
      refine wl (wl_val hl rfl trivial (r_lss hl rfl rfl) ?_)
      clear hl a; intro a hl
      refine wl (wl_val hl rfl trivial (r_assign hl rfl) ?_)
      clear hl a; intro a hl
      refine w_nil ?_
      have hl2 := hl.add (t := 4) (hl.nil) rfl; clear hl; have hl := hl2; clear hl2
      refine then_normal ?_
      refine wp_ret ?_
      refine f_ret1 (F' := []) hl hh rfl rfl (by repeat (first | exact keeps_nil | apply keeps_cons (by repeat (first | exact find_head | apply find_tail | apply find_skip)) (by first  | rfl) | exact keeps_self | exact keeps_left | apply keeps_app | apply keeps_mv | apply keeps_skip)) ?_
      exact ⟨congrArg Value.bool (by rw [← cX_R, hI, hend]), rfl⟩

end Go.Proofs.Qxb6500915aGreatDoor

import Derived.Test.Qxb6500908aGreatZa
namespace Go.Proofs.Qxb6500908aGreat
open Go.Eng
set_option linter.unusedVariables false
set_option linter.unusedSimpArgs false

attribute [local irreducible] NtV.k StV.c LdV.c StV.E GtV.c GtV.t DuV.c DuV.E MdV.c MdV.t

set_option maxHeartbeats 4000000 in
theorem mdrop_spec (Z : List (Nat × Obj)) (mb : Nat) (m : MdV) (g : GtP) (l : LdP) (hm : MdR Z m g l) (hI : GtI g) (hsd : g.st = l.d) (hdn : l.dn = false) (v : Iv) (hv : v.ok) : Sp Tryz.prog 109 #[.pointer (some ⟨mb, 0, none⟩), .agg ⟨ivc v⟩] (MF mb m Z) (fun u F' => u = .int .u8 (dropP g l v).2 ∧ MdO mb (dropP g l v).1 Z F') := by
  refine f_enter (args := [.pointer (some ⟨mb, 0, none⟩), .agg ⟨[.int .u8 v.k, .int .u8 v.a, .int .u8 v.b, .int .u8 v.w, .int .u8 v.da, .int .u8 v.dl]⟩]) Tryz.func109 rfl Tryz.ntmps109 rfl ?_
  intro w0 w a hpre hl hh
  have hst : m.d.pl = g.st := hm.d.trans hsd.symm
  have hup : m.up = true := by rw [hm.up, hI.on]; rfl
  have hph : m.d.ph = g.st.ph := congrArg StP.ph hst
  have hfi : m.d.fid = g.st.fid := congrArg StP.fid hst
  have hep : m.d.ep = g.st.ep := congrArg StP.ep hst
  have hqg := hm.qp
  have hql : m.q.length ≤ 8 := by have h9 := hI.ql; rw [← hqg, List.length_map] at h9; exact h9
  obtain ⟨rb, rl, rn, hrb, hrE, hrv, hrk, hrf⟩ := hm.r
  generalize hDD : List.map Prod.fst (MF mb m Z) = D at hh ⊢
  simp only [MF, DuV.E_eq m.d, List.append_assoc, List.cons_append, List.nil_append] at hh
  have his : m.d.is = g.st.is := congrArg StP.is hst
  have hil := hm.dok.il
  simp only [slotsFrom, Nat.reduceAdd] at hl
  refine c_seq ?_
  refine c_region ?_
  refine wl (w_box hl hh rfl trivial rfl rfl ?_)
  clear hl hh a w; intro k3 a w hl hh
  refine wl (wl_val hl rfl trivial (r_assign hl rfl) ?_)
  clear hl a; intro a hl
  refine w_nil ?_
  have hl2 := hl.add (t := 0) (hl.add (t := 3) (hl.nil) rfl) rfl; clear hl; have hl := hl2; clear hl2
  refine then_normal ?_
  refine c_seq ?_
  refine c_seq ?_
  refine c_region ?_
  refine wl (wl_val hl rfl trivial (r_move hl rfl) ?_)
  clear hl a; intro a hl
  refine wl (wl_val hl rfl trivial (r_nilCheck hl rfl) ?_)
  clear hl a; intro a hl
  refine wl (wl_val hl rfl trivial (r_field hl rfl fld82_1) ?_)
  clear hl a; intro a hl
  refine wl (w_load hl hh rfl trivial one4 rfl (by repeat (first | exact find_head | apply find_tail | apply find_skip)) (by first | exact mdc_ep _ | exact mdc_a _ | exact mdc_n _ | exact mdc_i _ | exact mdc_ph _ | exact mdc_fid _ | exact mdc_vd _ | exact mdc_up _ | exact mdc_q _ | exact mdc_rf _ | exact mdc_tk _ | exact mdc_au _ | exact mdc_fl _ | exact mdc_fu _ | exact mdc_kp _ | exact duc_ep _ | exact duc_a _ | exact duc_n _ | exact duc_i _ | exact duc_ph _ | exact duc_fid _ | exact duc_vd _ | rfl) ?_)
  clear hl a; intro a hl
  refine wl (wl_val hl rfl trivial (r_not hl rfl) ?_)
  clear hl a; intro a hl
  refine w_nil ?_
  have hl2 := hl.add (t := 0) (hl.add (t := 3) (hl.add (t := 12) (hl.nil) rfl) rfl) rfl; clear hl; have hl := hl2; clear hl2
  refine then_normal ?_
  refine c_cond hl rfl ?_ ?_
  · intro hc0
    try simp only [decide_eq_true_eq, decide_eq_false_iff_not, Bool.not_eq_true', Bool.not_eq_false', Bool.not_eq_true, Bool.not_eq_false, Bool.and_eq_true, Bool.or_eq_true, Bool.and_eq_false_iff, Bool.or_eq_false_iff, Bool.not_not, ne_eq, Int.not_lt, Int.not_le, Decidable.not_not, beq_iff_eq, bne_iff_ne] at hc0
    exfalso; first | contradiction | omega | (simp_all; done)
  · intro hc0
    try simp only [decide_eq_true_eq, decide_eq_false_iff_not, Bool.not_eq_true', Bool.not_eq_false', Bool.not_eq_true, Bool.not_eq_false, Bool.and_eq_true, Bool.or_eq_true, Bool.and_eq_false_iff, Bool.or_eq_false_iff, Bool.not_not, ne_eq, Int.not_lt, Int.not_le, Decidable.not_not, beq_iff_eq, bne_iff_ne] at hc0
    refine wp_skip ?_
    refine then_normal ?_
    refine c_seq ?_
    refine c_seq ?_
    refine c_region ?_
    refine wl (wl_val hl rfl trivial (r_move hl rfl) ?_)
    clear hl a; intro a hl
    first | refine wl (w_loadA hl hh rfl trivial agg43 rfl (by repeat (first | exact find_head | apply find_tail | apply find_skip)) (by first | (simp only [List.getElem?_cons_zero, List.getElem?_cons_succ, Value.cells, List.take_zero, List.take_succ_cons, List.take_nil, List.drop_zero, List.drop_succ_cons, List.drop_nil, List.length_cons, List.length_nil, List.cons_append, List.nil_append, List.append_nil, Nat.zero_add, Nat.add_zero, Nat.reduceAdd, Nat.reduceBEq, Nat.reduceEqDiff, Nat.ble, BEq.rfl, Bool.and_true, Bool.and_self, cond_true, beq_self_eq_true]; rfl)) (by first | rfl | (simp; done)) ?_) | refine wl (wl_val hl rfl trivial (r_loadA hl rfl agg43 (hh.mem _ _ (by repeat (first | exact hmem1 | exact List.mem_append_left _ hmem1 | apply List.mem_cons_of_mem | apply List.mem_append_right))) hd1 rfl) ?_)
    clear hl a; intro a hl
    refine wl (w_call hl hh rfl trivial rfl cal121 rfl (hasM_spec Z mb m hm.dok v hv) (by repeat (first | exact keeps_nil | apply keeps_cons (by repeat (first | exact find_head | apply find_tail | apply find_skip)) (by first  | rfl) | exact keeps_self | exact keeps_left | apply keeps_app | apply keeps_mv | apply keeps_skip)) trivial ?_)
    clear hl hh a w; intro vc Fc a w hR hl hh
    obtain ⟨rfl, rfl⟩ := hR
    try simp only [List.cons_append, List.nil_append, List.append_assoc, List.append_nil] at hh
    try simp only [List.append_assoc, List.cons_append, List.nil_append] at hh
    rw [his] at hl
    refine wl (wl_val hl rfl trivial (r_not hl rfl) ?_)
    clear hl a; intro a hl
    refine w_nil ?_
    have hl2 := hl.add (t := 0) (hl.add (t := 3) (hl.add (t := 16) (hl.nil) rfl) rfl) rfl; clear hl; have hl := hl2; clear hl2
    refine then_normal ?_
    refine c_cond hl rfl ?_ ?_
    · intro hc1
      try simp only [decide_eq_true_eq, decide_eq_false_iff_not, Bool.not_eq_true', Bool.not_eq_false', Bool.not_eq_true, Bool.not_eq_false, Bool.and_eq_true, Bool.or_eq_true, Bool.and_eq_false_iff, Bool.or_eq_false_iff, Bool.not_not, ne_eq, Int.not_lt, Int.not_le, Decidable.not_not, beq_iff_eq, bne_iff_ne] at hc1
      have hq9 : ¬ 0 ≤ hix g.st.is v := by simpa using hc1
      have hab := dr_n (g := g) (l := l) (v := v) hI.on (by omega)
      refine c_seq ?_
      refine c_region ?_
      refine wl (wl_val hl rfl trivial (r_assign hl rfl) ?_)
      clear hl a; intro a hl
      refine w_nil ?_
      have hl2 := hl.add (t := 4) (hl.nil) rfl; clear hl; have hl := hl2; clear hl2
      refine then_normal ?_
      refine wp_ret ?_
      refine then_ret ?_
      refine f_ret1 (F' := (mb, C (MdV.c m) 82) :: (m.d.aE ++ (m.d.nE ++ (m.d.iE ++ ((m.d.vb, MO (kInt .u32) m.d.vd) :: (m.qE ++ (m.rE ++ Z))))))) hl hh rfl rfl (by repeat (first | exact keeps_nil | apply keeps_cons (by repeat (first | exact find_head | apply find_tail | apply find_skip)) (by first  | rfl) | exact keeps_self | exact keeps_left | apply keeps_app | apply keeps_mv | apply keeps_skip)) ?_
      exact ⟨by rw [hab], MdO.same (by rw [hab]; exact hm) (by simp only [MF, DuV.E_eq, List.append_assoc, List.cons_append, List.nil_append])⟩
    · intro hc1
      try simp only [decide_eq_true_eq, decide_eq_false_iff_not, Bool.not_eq_true', Bool.not_eq_false', Bool.not_eq_true, Bool.not_eq_false, Bool.and_eq_true, Bool.or_eq_true, Bool.and_eq_false_iff, Bool.or_eq_false_iff, Bool.not_not, ne_eq, Int.not_lt, Int.not_le, Decidable.not_not, beq_iff_eq, bne_iff_ne] at hc1
      have hq0 : 0 ≤ hix g.st.is v := by simpa using hc1
      have hat := dr_t (g := g) (l := l) (v := v) hI.on (by omega)
      refine wp_skip ?_
      refine then_normal ?_
      refine c_seq ?_
      refine c_region ?_
      refine wl (wl_val hl rfl trivial (r_move hl rfl) ?_)
      clear hl a; intro a hl
      refine wl (wl_val hl rfl trivial (r_nilCheck hl rfl) ?_)
      clear hl a; intro a hl
      refine wl (wl_val hl rfl trivial (r_field hl rfl fld82_0) ?_)
      clear hl a; intro a hl
      first | refine wl (w_loadA hl hh rfl trivial agg78 rfl (by repeat (first | exact find_head | apply find_tail | apply find_skip)) (by first | exact duc_all _ | exact mdc_d _) (by exact duc_len _) ?_) | refine wl (wl_val hl rfl trivial (r_loadA hl rfl agg78 (hh.mem _ _ (by repeat (first | exact hmem1 | exact List.mem_append_left _ hmem1 | apply List.mem_cons_of_mem | apply List.mem_append_right))) hd1 rfl) ?_)
      clear hl a; intro a hl
      refine wl (w_call hl hh rfl trivial rfl cal115 rfl (cpy2 Z m.d hm.dok) (by repeat (first | exact keeps_nil | apply keeps_cons (by repeat (first | exact find_head | apply find_tail | apply find_skip)) (by first  | rfl) | exact keeps_self | exact keeps_left | apply keeps_app | apply keeps_mv | apply keeps_skip)) trivial ?_)
      clear hl hh a w; intro vc Fc a w hR hl hh
      obtain ⟨s1, hs1, hps1, rfl, rfl⟩ := hR
      try simp only [List.cons_append, List.nil_append, List.append_assoc, List.append_nil] at hh
      rw [DuV.E_eq s1] at hh
      try simp only [List.append_assoc, List.cons_append, List.nil_append] at hh
      have hs9 : s1.pl = g.st := hps1.trans hst
      have hil1 : s1.is = g.st.is := congrArg StP.is hs9
      refine wl (w_alloc hl hh rfl trivial zero78 rfl ?_)
      clear hl hh a w; intro k5 a w hl hh
      refine wl (w_storeA hl hh trivial agg78 rfl rfl (by repeat (first | exact find_head | apply find_tail | apply find_skip)) (by exact duc_len _) (by first | exact Nat.le_refl 71 | (rw [mdc_len]; omega)) (by exact duc_one _) (by first | exact setL_all (show 71 = _ from (duc_len _).symm) | exact mdc_sd _ _) ?_)
      clear hh w; intro w hh
      refine w_nil ?_
      have hl2 := hl.add (t := 0) (hl.add (t := 3) (hl.add (t := 5) (hl.nil) rfl) rfl) rfl; clear hl; have hl := hl2; clear hl2
      refine then_normal ?_
      refine c_seq ?_
      refine c_region ?_
      refine wl (wl_val hl rfl trivial (r_field hl rfl fld78_3) ?_)
      clear hl a; intro a hl
      refine wl (w_store hl hh trivial one75 rfl rfl (by repeat (first | exact find_head | apply find_tail | apply find_skip)) (by first | (simp; done) | (simp; omega) | (rw [mdc_len]; omega) | (rw [mdc_len]; simp; done) | (rw [duc_len]; omega) | (rw [duc_len]; simp; done)) (by first | rfl | assumption | (apply Row.one; assumption)) (by first | exact mdc_sup _ _ | exact mdc_stk _ _ | exact mdc_sau _ _ | exact mdc_sfl _ _ | exact mdc_sfu _ _ | exact mdc_skp _ _ | exact duc_si s1 none [] 0 [] | exact duc_si _ _ (rstI v m.d.is s.i ++ [x]) _ E2 | (simp only [setL, List.getElem?_cons_zero, List.getElem?_cons_succ, Value.cells, List.take_zero, List.take_succ_cons, List.take_nil, List.drop_zero, List.drop_succ_cons, List.drop_nil, List.length_cons, List.length_nil, List.cons_append, List.nil_append, List.append_nil, Nat.zero_add, Nat.add_zero, Nat.reduceAdd, Nat.reduceBEq, Nat.reduceEqDiff, Nat.ble, BEq.rfl, Bool.and_true, Bool.and_self, cond_true, beq_self_eq_true]; rfl)) ?_)
      clear hh w; intro w hh
      refine w_nil ?_
      have hl2 := hl.add (t := 0) (hl.add (t := 3) (hl.add (t := 5) (hl.nil) rfl) rfl) rfl; clear hl; have hl := hl2; clear hl2
      refine then_normal ?_
      refine c_seq ?_
      refine c_seq ?_
      refine c_region ?_
      refine wl (wl_val hl rfl trivial (r_move hl rfl) ?_)
      clear hl a; intro a hl
      refine wl (wl_val hl rfl trivial (r_nilCheck hl rfl) ?_)
      clear hl a; intro a hl
      refine wl (wl_val hl rfl trivial (r_field hl rfl fld82_0) ?_)
      clear hl a; intro a hl
      refine wl (wl_val hl rfl trivial (r_field hl rfl fld78_3) ?_)
      clear hl a; intro a hl
      refine wl (w_load hl hh rfl trivial one75 rfl (by repeat (first | exact find_head | apply find_tail | apply find_skip)) (by first | exact mdc_ep _ | exact mdc_a _ | exact mdc_n _ | exact mdc_i _ | exact mdc_ph _ | exact mdc_fid _ | exact mdc_vd _ | exact mdc_up _ | exact mdc_q _ | exact mdc_rf _ | exact mdc_tk _ | exact mdc_au _ | exact mdc_fl _ | exact mdc_fu _ | exact mdc_kp _ | exact duc_ep _ | exact duc_a _ | exact duc_n _ | exact duc_i _ | exact duc_ph _ | exact duc_fid _ | exact duc_vd _ | rfl) ?_)
      clear hl a; intro a hl
      refine wl (wl_val hl rfl trivial (r_lenS hl rfl slc75) ?_)
      clear hl a; intro a hl
      refine wl (wl_val hl rfl trivial (r_move hl rfl) ?_)
      clear hl a; intro a hl
      refine w_nil ?_
      have hl2 := hl.add (t := 0) (hl.add (t := 3) (hl.add (t := 5) (hl.add (t := 27) (hl.add (t := 28) (hl.add (t := 29) (hl.nil) rfl) rfl) rfl) rfl) rfl) rfl; clear hl; have hl := hl2; clear hl2
      refine then_normal ?_
      refine wp_block ?_
      obtain ⟨KS0, hKS0, hk⟩ := (hl.add (t := 0) (hl.add (t := 3) (hl.add (t := 5) (hl.add (t := 27) (hl.add (t := 28) (hl.nil) rfl) rfl) rfl) rfl) rfl).name
      obtain ⟨HS0, hHS0, hh2⟩ := hh.nameT (A := [(k5, C (DuV.c { s1 with ip := none, is := [], ic := 0, iE := [] }) 78)]) (U := []) (keeps_cons (b := k5) (o' := C (DuV.c { s1 with ip := none, is := [], ic := 0, iE := [] }) 78) (by repeat (first | exact find_head | apply find_tail | apply find_skip)) (by first | rfl) ((by repeat (first | exact keeps_nil | exact keeps_self | exact keeps_left | apply keeps_app | apply keeps_mv | apply keeps_skip))))
      refine c_loop (α := PuS) (fun s => m.d.is.length - s.i) (fun s a w => (s.i ≤ m.d.is.length ∧ Row (.slice s.p (rstI v m.d.is s.i).length s.c) (rstI v m.d.is s.i).length (fl ivc (rstI v m.d.is s.i)) 6 43 s.E) ∧ Sl 46 ([(29, .int .i64 (s.i : Int))] ++ KS0) a ∧ Has _ w0 ([(k5, C (DuV.c { s1 with ip := s.p, is := rstI v m.d.is s.i, ic := s.c, iE := s.E }) 78)] ++ (HS0 ++ s.E)) w) ⟨0, none, 0, []⟩ ⟨⟨Nat.zero_le _, Row.nil _ _⟩, hl.addE (t := 29) (hk) rfl (by first | rfl), hh2⟩ ?_
      clear hk hh2 hl hh a w
      intro s a w hI
      obtain ⟨⟨hsi, hsR⟩, hl, hh⟩ := hI
      subst hKS0; subst hHS0
      simp only [List.cons_append, List.nil_append, List.append_nil, List.append_assoc] at hl hh
      have hrl := rsi_len v m.d.is s.i
      refine c_seq ?_
      refine c_region ?_
      refine wl (wl_val hl rfl trivial (r_lss hl rfl rfl) ?_)
      clear hl a; intro a hl
      refine w_nil ?_
      have hl2 := hl.add (t := 0) (hl.add (t := 3) (hl.add (t := 5) (hl.add (t := 27) (hl.add (t := 28) (hl.add (t := 29) (hl.add (t := 30) (hl.nil) rfl) rfl) rfl) rfl) rfl) rfl) rfl; clear hl; have hl := hl2; clear hl2
      refine then_normal ?_
      refine c_seq ?_
      refine c_cond hl rfl ?_ ?_
      · intro hc2
        try simp only [decide_eq_true_eq, decide_eq_false_iff_not, Bool.not_eq_true', Bool.not_eq_false', Bool.not_eq_true, Bool.not_eq_false, Bool.and_eq_true, Bool.or_eq_true, Bool.and_eq_false_iff, Bool.or_eq_false_iff, Bool.not_not, ne_eq, Int.not_lt, Int.not_le, Decidable.not_not, beq_iff_eq, bne_iff_ne] at hc2
        obtain ⟨x, hx⟩ : ∃ x, m.d.is[s.i]? = some x := ⟨_, List.getElem?_eq_getElem (by omega)⟩
        have hxo := hm.dok.io x (List.mem_of_getElem? hx)
        obtain ⟨b1, j1, hq1, hjl1, hjc1, hE1⟩ := row_pos hm.dok.i (by omega)
        have hmem1 : (b1, C (fl ivc m.d.is ++ j1) 43) ∈ m.d.iE := (by rw [hE1]; exact List.mem_singleton.2 rfl)
        have hd1 : ((fl ivc m.d.is ++ j1).drop (0 + s.i * 6)).take 6 = [.int .u8 x.k, .int .u8 x.a, .int .u8 x.b, .int .u8 x.w, .int .u8 x.da, .int .u8 x.dl] := fl_at ivc_len hx j1
        rw [hq1] at hl
        refine wp_skip ?_
        refine then_normal ?_
        refine c_seq ?_
        refine wp_block ?_
        refine c_seq ?_
        refine c_region ?_
        refine wl (wl_val hl rfl trivial (r_indexS hl rfl rfl slc75 (by omega) (by omega) (by first | (simp only [Int.reduceToNat]; rfl) | exact toNat_add1 _ | exact toNat_add2 _ _ | exact toNat_emod _ _ | exact Int.toNat_natCast _ | rfl)) ?_)
        clear hl a; intro a hl
        first | refine wl (w_loadA hl hh rfl trivial agg43 rfl (by repeat (first | exact find_head | apply find_tail | apply find_skip)) (by first | (simp only [List.getElem?_cons_zero, List.getElem?_cons_succ, Value.cells, List.take_zero, List.take_succ_cons, List.take_nil, List.drop_zero, List.drop_succ_cons, List.drop_nil, List.length_cons, List.length_nil, List.cons_append, List.nil_append, List.append_nil, Nat.zero_add, Nat.add_zero, Nat.reduceAdd, Nat.reduceBEq, Nat.reduceEqDiff, Nat.ble, BEq.rfl, Bool.and_true, Bool.and_self, cond_true, beq_self_eq_true]; rfl)) (by first | rfl | (simp; done)) ?_) | refine wl (wl_val hl rfl trivial (r_loadA hl rfl agg43 (hh.mem _ _ (by repeat (first | exact hmem1 | exact List.mem_append_left _ hmem1 | apply List.mem_cons_of_mem | apply List.mem_append_right))) hd1 rfl) ?_)
        clear hl a; intro a hl
        refine wl (w_alloc hl hh rfl trivial zero43 rfl ?_)
        clear hl hh a w; intro k7 a w hl hh
        refine wl (w_storeA hl hh trivial agg43 rfl rfl (by repeat (first | exact find_head | apply find_tail | apply find_skip)) (by first | rfl | (simp; done)) (by first | (simp; done) | (simp; omega) | (rw [mdc_len]; omega) | (rw [mdc_len]; simp; done) | (rw [duc_len]; omega) | (rw [duc_len]; simp; done)) (by first | rfl | (simp; done) | rfl) (by first | exact mdc_sup _ _ | exact mdc_stk _ _ | exact mdc_sau _ _ | exact mdc_sfl _ _ | exact mdc_sfu _ _ | exact mdc_skp _ _ | exact duc_si s1 none [] 0 [] | exact duc_si _ _ (rstI v m.d.is s.i ++ [x]) _ E2 | (simp only [setL, List.getElem?_cons_zero, List.getElem?_cons_succ, Value.cells, List.take_zero, List.take_succ_cons, List.take_nil, List.drop_zero, List.drop_succ_cons, List.drop_nil, List.length_cons, List.length_nil, List.cons_append, List.nil_append, List.append_nil, Nat.zero_add, Nat.add_zero, Nat.reduceAdd, Nat.reduceBEq, Nat.reduceEqDiff, Nat.ble, BEq.rfl, Bool.and_true, Bool.and_self, cond_true, beq_self_eq_true]; rfl)) ?_)
        clear hh w; intro w hh
        refine w_nil ?_
        have hl2 := hl.add (t := 0) (hl.add (t := 3) (hl.add (t := 5) (hl.add (t := 7) (hl.add (t := 27) (hl.add (t := 28) (hl.add (t := 29) (hl.nil) rfl) rfl) rfl) rfl) rfl) rfl) rfl; clear hl; have hl := hl2; clear hl2
        refine then_normal ?_
        refine c_seq ?_
        refine c_region ?_
        first | refine wl (w_loadA hl hh rfl trivial agg43 rfl (by repeat (first | exact find_head | apply find_tail | apply find_skip)) (by first | (simp only [List.getElem?_cons_zero, List.getElem?_cons_succ, Value.cells, List.take_zero, List.take_succ_cons, List.take_nil, List.drop_zero, List.drop_succ_cons, List.drop_nil, List.length_cons, List.length_nil, List.cons_append, List.nil_append, List.append_nil, Nat.zero_add, Nat.add_zero, Nat.reduceAdd, Nat.reduceBEq, Nat.reduceEqDiff, Nat.ble, BEq.rfl, Bool.and_true, Bool.and_self, cond_true, beq_self_eq_true]; rfl)) (by first | rfl | (simp; done)) ?_) | refine wl (wl_val hl rfl trivial (r_loadA hl rfl agg43 (hh.mem _ _ (by repeat (first | exact hmem1 | exact List.mem_append_left _ hmem1 | apply List.mem_cons_of_mem | apply List.mem_append_right))) hd1 rfl) ?_)
        clear hl a; intro a hl
        first | refine wl (w_loadA hl hh rfl trivial agg43 rfl (by repeat (first | exact find_head | apply find_tail | apply find_skip)) (by first | (simp only [List.getElem?_cons_zero, List.getElem?_cons_succ, Value.cells, List.take_zero, List.take_succ_cons, List.take_nil, List.drop_zero, List.drop_succ_cons, List.drop_nil, List.length_cons, List.length_nil, List.cons_append, List.nil_append, List.append_nil, Nat.zero_add, Nat.add_zero, Nat.reduceAdd, Nat.reduceBEq, Nat.reduceEqDiff, Nat.ble, BEq.rfl, Bool.and_true, Bool.and_self, cond_true, beq_self_eq_true]; rfl)) (by first | rfl | (simp; done)) ?_) | refine wl (wl_val hl rfl trivial (r_loadA hl rfl agg43 (hh.mem _ _ (by repeat (first | exact hmem1 | exact List.mem_append_left _ hmem1 | apply List.mem_cons_of_mem | apply List.mem_append_right))) hd1 rfl) ?_)
        clear hl a; intro a hl
        refine wl (wl_val hl rfl trivial (r_neqA hl rfl rfl eqf43 shp43 (by simp only [unlitL, unlit]; rfl) (by simp only [unlitL, unlit]; rfl) (by first | exact litsI hxo | exact litsI hv | exact ⟨trivial⟩ | (refine ⟨?_⟩; simp [LitsOk, litOk, Fits]; done) | (refine ⟨?_⟩; simp [LitsOk, litOk, Fits]; omega)) (by first | exact litsI hxo | exact litsI hv | exact ⟨trivial⟩ | (refine ⟨?_⟩; simp [LitsOk, litOk, Fits]; done) | (refine ⟨?_⟩; simp [LitsOk, litOk, Fits]; omega))) ?_)
        clear hl a; intro a hl
        refine w_nil ?_
        have hl2 := hl.add (t := 0) (hl.add (t := 3) (hl.add (t := 5) (hl.add (t := 7) (hl.add (t := 27) (hl.add (t := 28) (hl.add (t := 29) (hl.add (t := 35) (hl.nil) rfl) rfl) rfl) rfl) rfl) rfl) rfl) rfl; clear hl; have hl := hl2; clear hl2
        refine then_normal ?_
        refine c_cond hl rfl ?_ ?_
        · intro hc3
          try simp only [decide_eq_true_eq, decide_eq_false_iff_not, Bool.not_eq_true', Bool.not_eq_false', Bool.not_eq_true, Bool.not_eq_false, Bool.and_eq_true, Bool.or_eq_true, Bool.and_eq_false_iff, Bool.or_eq_false_iff, Bool.not_not, ne_eq, Int.not_lt, Int.not_le, Decidable.not_not, beq_iff_eq, bne_iff_ne] at hc3
          have hrs := rsi_y hx (eqI_f hxo hv (by simpa using hc3))
          refine c_region ?_
          refine wl (wl_val hl rfl trivial (r_field hl rfl fld78_3) ?_)
          clear hl a; intro a hl
          refine wl (w_load hl hh rfl trivial one75 rfl (by repeat (first | exact find_head | apply find_tail | apply find_skip)) (by first | exact mdc_ep _ | exact mdc_a _ | exact mdc_n _ | exact mdc_i _ | exact mdc_ph _ | exact mdc_fid _ | exact mdc_vd _ | exact mdc_up _ | exact mdc_q _ | exact mdc_rf _ | exact mdc_tk _ | exact mdc_au _ | exact mdc_fl _ | exact mdc_fu _ | exact mdc_kp _ | exact duc_ep _ | exact duc_a _ | exact duc_n _ | exact duc_i _ | exact duc_ph _ | exact duc_fid _ | exact duc_vd _ | rfl) ?_)
          clear hl a; intro a hl
          first | refine wl (w_loadA hl hh rfl trivial agg43 rfl (by repeat (first | exact find_head | apply find_tail | apply find_skip)) (by first | (simp only [List.getElem?_cons_zero, List.getElem?_cons_succ, Value.cells, List.take_zero, List.take_succ_cons, List.take_nil, List.drop_zero, List.drop_succ_cons, List.drop_nil, List.length_cons, List.length_nil, List.cons_append, List.nil_append, List.append_nil, Nat.zero_add, Nat.add_zero, Nat.reduceAdd, Nat.reduceBEq, Nat.reduceEqDiff, Nat.ble, BEq.rfl, Bool.and_true, Bool.and_self, cond_true, beq_self_eq_true]; rfl)) (by first | rfl | (simp; done)) ?_) | refine wl (wl_val hl rfl trivial (r_loadA hl rfl agg43 (hh.mem _ _ (by repeat (first | exact hmem1 | exact List.mem_append_left _ hmem1 | apply List.mem_cons_of_mem | apply List.mem_append_right))) hd1 rfl) ?_)
          clear hl a; intro a hl
          refine wl (w_buildSlice hl hh rfl trivial app75 zero43 rfl rfl rfl rfl rfl (by simp only [fillL, arrPl, List.range_succ, List.range_zero, List.map_cons, List.map_nil, List.map_append, List.nil_append, List.replicate_succ, List.replicate_zero, List.flatten_cons, List.flatten_nil, Nat.zero_mul, Nat.mul_one, Nat.one_mul, Nat.reduceMul, setL, List.getElem?_cons_zero, List.getElem?_cons_succ, Value.cells, List.take_zero, List.take_succ_cons, List.take_nil, List.drop_zero, List.drop_succ_cons, List.drop_nil, List.length_cons, List.length_nil, List.cons_append, List.nil_append, List.append_nil, Nat.zero_add, Nat.add_zero, Nat.reduceAdd, Nat.reduceBEq, Nat.reduceEqDiff, Nat.ble, BEq.rfl, Bool.and_true, Bool.and_self, cond_true, beq_self_eq_true]; rfl) ?_)
          clear hl hh a w; intro k39 a w hl hh
          refine wl (w_append (news := (ivc x)) hl hh rfl trivial app75 rfl rfl rfl hsR (by repeat (first | exact keeps_nil | apply keeps_cons (by repeat (first | exact find_head | apply find_tail | apply find_skip)) (by first  | rfl) | exact keeps_self | exact keeps_left | apply keeps_app | apply keeps_mv | apply keeps_skip)) (hh.mem _ _ (Find.mem (by repeat (first | exact find_head | apply find_tail | apply find_skip)))) rfl rfl (ivc_one _) (by omega) (by omega) (by omega) (by decide) ?_)
          clear hl hh a w; intro rv2 E2 a w hR2 hl hh
          have hh3 := hh.comm; clear hh; have hh := hh3; clear hh3
          try simp only [List.cons_append, List.nil_append, List.append_assoc, List.append_nil] at hh
          obtain ⟨p6, c6, hv6⟩ := row_val hR2
          rw [hv6] at hl hR2
          rw [show (rstI v m.d.is s.i).length + 1 = (rstI v m.d.is s.i ++ [x]).length by simp] at hl hR2
          rw [show fl ivc (rstI v m.d.is s.i) ++ ivc x = fl ivc (rstI v m.d.is s.i ++ [x]) by rw [fl_app, fl_sing]] at hR2
          refine wl (wl_val hl rfl trivial (r_field hl rfl fld78_3) ?_)
          clear hl a; intro a hl
          refine wl (w_store hl hh trivial one75 rfl rfl (by repeat (first | exact find_head | apply find_tail | apply find_skip)) (by first | (simp; done) | (simp; omega) | (rw [mdc_len]; omega) | (rw [mdc_len]; simp; done) | (rw [duc_len]; omega) | (rw [duc_len]; simp; done)) (by first | rfl | assumption | (apply Row.one; assumption)) (by first | exact mdc_sup _ _ | exact mdc_stk _ _ | exact mdc_sau _ _ | exact mdc_sfl _ _ | exact mdc_sfu _ _ | exact mdc_skp _ _ | exact duc_si s1 none [] 0 [] | exact duc_si _ _ (rstI v m.d.is s.i ++ [x]) _ E2 | (simp only [setL, List.getElem?_cons_zero, List.getElem?_cons_succ, Value.cells, List.take_zero, List.take_succ_cons, List.take_nil, List.drop_zero, List.drop_succ_cons, List.drop_nil, List.length_cons, List.length_nil, List.cons_append, List.nil_append, List.append_nil, Nat.zero_add, Nat.add_zero, Nat.reduceAdd, Nat.reduceBEq, Nat.reduceEqDiff, Nat.ble, BEq.rfl, Bool.and_true, Bool.and_self, cond_true, beq_self_eq_true]; rfl)) ?_)
          clear hh w; intro w hh
          refine w_nil ?_
          have hl2 := hl.add (t := 0) (hl.add (t := 3) (hl.add (t := 5) (hl.add (t := 27) (hl.add (t := 28) (hl.add (t := 29) (hl.nil) rfl) rfl) rfl) rfl) rfl) rfl; clear hl; have hl := hl2; clear hl2
          refine blk_normal ?_
          refine then_normal ?_
          refine c_region ?_
          first | refine wl (wl_val hl rfl trivial (r_add hl rfl rfl (by simp only [Fits]; omega)) ?_) | refine wl (wl_val hl rfl trivial (r_addW hl rfl rfl) ?_)
          clear hl a; intro a hl
          refine wl (wl_val hl rfl trivial (r_move hl rfl) ?_)
          clear hl a; intro a hl
          refine w_nil ?_
          have hl2 := hl.add (t := 0) (hl.add (t := 3) (hl.add (t := 5) (hl.add (t := 27) (hl.add (t := 28) (hl.add (t := 29) (hl.nil) rfl) rfl) rfl) rfl) rfl) rfl; clear hl; have hl := hl2; clear hl2
          refine then_normal ?_
          refine ⟨⟨s.i + 1, p6, c6, E2⟩, (by simp only; omega), ⟨by simp only; omega, by simp only; rw [hrs]; exact hR2⟩, hl.addE (t := 29) (hl.addE (t := 0) (hl.addE (t := 3) (hl.addE (t := 5) (hl.addE (t := 27) (hl.addE (t := 28) (hl.nil) rfl (by first | rfl | exact congrArg (Value.int .i64) (show (s.i : Int) + 1 = ((s.i + 1 : Nat) : Int) by omega) | (rw [hq1]; done))) rfl (by first | rfl | exact congrArg (Value.int .i64) (show (s.i : Int) + 1 = ((s.i + 1 : Nat) : Int) by omega) | (rw [hq1]; done))) rfl (by first | rfl | exact congrArg (Value.int .i64) (show (s.i : Int) + 1 = ((s.i + 1 : Nat) : Int) by omega) | (rw [hq1]; done))) rfl (by first | rfl | exact congrArg (Value.int .i64) (show (s.i : Int) + 1 = ((s.i + 1 : Nat) : Int) by omega) | (rw [hq1]; done))) rfl (by first | rfl | exact congrArg (Value.int .i64) (show (s.i : Int) + 1 = ((s.i + 1 : Nat) : Int) by omega) | (rw [hq1]; done))) rfl (by first | rfl | exact congrArg (Value.int .i64) (show (s.i : Int) + 1 = ((s.i + 1 : Nat) : Int) by omega) | (rw [hq1]; done)), hh.keep (by repeat (first | exact keeps_nil | apply keeps_cons (by repeat (first | exact find_head | apply find_tail | apply find_skip)) (by first  | (simp only [hrs]; done) | rfl) | exact keeps_self | exact keeps_left | apply keeps_app | apply keeps_mv | apply keeps_skip))⟩
        · intro hc3
          try simp only [decide_eq_true_eq, decide_eq_false_iff_not, Bool.not_eq_true', Bool.not_eq_false', Bool.not_eq_true, Bool.not_eq_false, Bool.and_eq_true, Bool.or_eq_true, Bool.and_eq_false_iff, Bool.or_eq_false_iff, Bool.not_not, ne_eq, Int.not_lt, Int.not_le, Decidable.not_not, beq_iff_eq, bne_iff_ne] at hc3
          have hrs := rsi_n hx ((eqI hxo hv).1 (by simpa using hc3))
          refine wp_skip ?_
          refine blk_normal ?_
          refine then_normal ?_
          refine c_region ?_
          first | refine wl (wl_val hl rfl trivial (r_add hl rfl rfl (by simp only [Fits]; omega)) ?_) | refine wl (wl_val hl rfl trivial (r_addW hl rfl rfl) ?_)
          clear hl a; intro a hl
          refine wl (wl_val hl rfl trivial (r_move hl rfl) ?_)
          clear hl a; intro a hl
          refine w_nil ?_
          have hl2 := hl.add (t := 0) (hl.add (t := 3) (hl.add (t := 5) (hl.add (t := 27) (hl.add (t := 28) (hl.add (t := 29) (hl.nil) rfl) rfl) rfl) rfl) rfl) rfl; clear hl; have hl := hl2; clear hl2
          refine then_normal ?_
          refine ⟨⟨s.i + 1, s.p, s.c, s.E⟩, (by simp only; omega), ⟨by simp only; omega, by simp only; rw [hrs]; exact hsR⟩, hl.addE (t := 29) (hl.addE (t := 0) (hl.addE (t := 3) (hl.addE (t := 5) (hl.addE (t := 27) (hl.addE (t := 28) (hl.nil) rfl (by first | rfl | exact congrArg (Value.int .i64) (show (s.i : Int) + 1 = ((s.i + 1 : Nat) : Int) by omega) | (rw [hq1]; done))) rfl (by first | rfl | exact congrArg (Value.int .i64) (show (s.i : Int) + 1 = ((s.i + 1 : Nat) : Int) by omega) | (rw [hq1]; done))) rfl (by first | rfl | exact congrArg (Value.int .i64) (show (s.i : Int) + 1 = ((s.i + 1 : Nat) : Int) by omega) | (rw [hq1]; done))) rfl (by first | rfl | exact congrArg (Value.int .i64) (show (s.i : Int) + 1 = ((s.i + 1 : Nat) : Int) by omega) | (rw [hq1]; done))) rfl (by first | rfl | exact congrArg (Value.int .i64) (show (s.i : Int) + 1 = ((s.i + 1 : Nat) : Int) by omega) | (rw [hq1]; done))) rfl (by first | rfl | exact congrArg (Value.int .i64) (show (s.i : Int) + 1 = ((s.i + 1 : Nat) : Int) by omega) | (rw [hq1]; done)), hh.keep (by repeat (first | exact keeps_nil | apply keeps_cons (by repeat (first | exact find_head | apply find_tail | apply find_skip)) (by first  | (simp only [hrs]; done) | rfl) | exact keeps_self | exact keeps_left | apply keeps_app | apply keeps_mv | apply keeps_skip))⟩
      · intro hc2
        try simp only [decide_eq_true_eq, decide_eq_false_iff_not, Bool.not_eq_true', Bool.not_eq_false', Bool.not_eq_true, Bool.not_eq_false, Bool.and_eq_true, Bool.or_eq_true, Bool.and_eq_false_iff, Bool.or_eq_false_iff, Bool.not_not, ne_eq, Int.not_lt, Int.not_le, Decidable.not_not, beq_iff_eq, bne_iff_ne] at hc2
        have hie : s.i = m.d.is.length := by omega
        rw [hie] at hh hsR
        have hdl : rstI v m.d.is m.d.is.length = delP g.st.is (hix g.st.is v).toNat := by rw [his]; exact rsi_del hI.s.n hq0
        have hrl2 := rsi_len v m.d.is m.d.is.length
        have hso : DuV.ok Z { s1 with ip := s.p, is := rstI v m.d.is m.d.is.length, ic := s.c, iE := s.E } := du_isok hs1 hsR (fun x hx => hm.dok.io x (rsi_mem hx)) (by omega)
        have hpl : DuV.pl { s1 with ip := s.p, is := rstI v m.d.is m.d.is.length, ic := s.c, iE := s.E } = { g.st with is := delP g.st.is (hix g.st.is v).toNat } := by rw [← hdl]; exact du_ispl hs9 _ _ _ _
        refine wp_exit ?_
        refine then_exit ?_
        refine then_exit ?_
        refine blk_exit ?_
        refine then_normal ?_
        refine c_seq ?_
        refine c_region ?_
        refine wl (wl_val hl rfl trivial (r_move hl rfl) ?_)
        clear hl a; intro a hl
        first | refine wl (w_loadA hl hh rfl trivial agg78 rfl (by repeat (first | exact find_head | apply find_tail | apply find_skip)) (by first | exact duc_all _ | exact mdc_d _) (by exact duc_len _) ?_) | refine wl (wl_val hl rfl trivial (r_loadA hl rfl agg78 (hh.mem _ _ (by repeat (first | exact hmem1 | exact List.mem_append_left _ hmem1 | apply List.mem_cons_of_mem | apply List.mem_append_right))) hd1 rfl) ?_)
        clear hl a; intro a hl
        refine wl (w_call hl hh rfl trivial rfl cal116 rfl (write4 mb m { s1 with ip := s.p, is := rstI v m.d.is m.d.is.length, ic := s.c, iE := s.E } l hdn hm.fl hm.fu hm.kp hm.d hm.fb) (by repeat (first | exact keeps_nil | apply keeps_cons (by repeat (first | exact find_head | apply find_tail | apply find_skip)) (by first  | rfl) | exact keeps_self | exact keeps_left | apply keeps_app | apply keeps_mv | apply keeps_skip)) trivial ?_)
        clear hl hh a w; intro vc Fc a w hR hl hh
        rcases hR with ⟨f, hr, hf, rfl, rfl⟩ | ⟨hr, rfl, rfl⟩ | ⟨hr, rfl, rfl⟩ | ⟨hr, rfl, rfl⟩
        ·
          try simp only [List.cons_append, List.nil_append, List.append_nil] at hh
          try simp only [List.append_assoc, List.cons_append, List.nil_append] at hh
          refine wl (wl_val hl rfl trivial (r_assign hl rfl) ?_)
          clear hl a; intro a hl
          refine w_nil ?_
          have hl2 := hl.add (t := 4) (hl.nil) rfl; clear hl; have hl := hl2; clear hl2
          refine then_normal ?_
          refine wp_ret ?_
          first
          | (have hab := hat.trans (tx_0 (g := g) (show (admitP l _).2 = 0 by rw [← hpl, hr])); rw [← hpl, hr] at hab; refine f_ret1 (F' := (mb, C (MdV.c { m with d := { s1 with ip := s.p, is := rstI v m.d.is m.d.is.length, ic := s.c, iE := s.E }, fu := f }) 82) :: ((s1.aE ++ (s1.nE ++ (s.E ++ [(s1.vb, MO (kInt .u32) s1.vd)]))) ++ (m.qE ++ (m.rE ++ Z)))) hl hh rfl rfl (by repeat (first | exact keeps_nil | apply keeps_cons (by repeat (first | exact find_head | apply find_tail | apply find_skip)) (by first  | rfl) | exact keeps_self | exact keeps_left | apply keeps_app | apply keeps_mv | apply keeps_skip)) ?_; exact ⟨by rw [hab], MdO.same (m' := { m with d := { s1 with ip := s.p, is := rstI v m.d.is m.d.is.length, ic := s.c, iE := s.E }, fu := f }) (by rw [hab]; exact ⟨hso, rfl, hm.up, hm.qr, hm.qo, hm.qp, hm.r, hm.ys, hm.dn, hm.tk, hm.au, hm.fl, rfl, hm.kp, hf⟩) (by simp only [MF, DuV.E_eq, List.append_assoc, List.cons_append, List.nil_append])⟩)
          | (have hab := hat.trans (tx_1 (g := g) (show (admitP l _).2 = 1 by rw [← hpl, hr])); rw [← hpl, hr] at hab; refine f_ret1 (F' := (mb, C (MdV.c m) 82) :: (m.d.aE ++ (m.d.nE ++ (m.d.iE ++ ((m.d.vb, MO (kInt .u32) m.d.vd) :: (m.qE ++ (m.rE ++ Z))))))) hl hh rfl rfl (by repeat (first | exact keeps_nil | apply keeps_cons (by repeat (first | exact find_head | apply find_tail | apply find_skip)) (by first  | rfl) | exact keeps_self | exact keeps_left | apply keeps_app | apply keeps_mv | apply keeps_skip)) ?_; exact ⟨by rw [hab], MdO.same (m' := m) (by rw [hab]; exact hm) (by simp only [MF, DuV.E_eq, List.append_assoc, List.cons_append, List.nil_append])⟩)
          | (have hab := hat.trans (tx_2 (g := g) (show (admitP l _).2 = 2 by rw [← hpl, hr])); rw [← hpl, hr] at hab; refine f_ret1 (F' := (mb, C (MdV.c { m with d := { s1 with ip := s.p, is := rstI v m.d.is m.d.is.length, ic := s.c, iE := s.E }, fu := 0, up := false }) 82) :: ((s1.aE ++ (s1.nE ++ (s.E ++ [(s1.vb, MO (kInt .u32) s1.vd)]))) ++ (m.qE ++ (m.rE ++ Z)))) hl hh rfl rfl (by repeat (first | exact keeps_nil | apply keeps_cons (by repeat (first | exact find_head | apply find_tail | apply find_skip)) (by first  | rfl) | exact keeps_self | exact keeps_left | apply keeps_app | apply keeps_mv | apply keeps_skip)) ?_; exact ⟨by rw [hab], MdO.same (m' := { m with d := { s1 with ip := s.p, is := rstI v m.d.is m.d.is.length, ic := s.c, iE := s.E }, fu := 0, up := false }) (by rw [hab]; exact ⟨hso, rfl, rfl, hm.qr, hm.qo, hm.qp, hm.r, hm.ys, hm.dn, hm.tk, hm.au, hm.fl, rfl, hm.kp, (by simp)⟩) (by simp only [MF, DuV.E_eq, List.append_assoc, List.cons_append, List.nil_append])⟩)
          | (have hab := hat.trans (tx_2 (g := g) (show (admitP l _).2 = 2 by rw [← hpl, hr])); rw [← hpl, hr] at hab; refine f_ret1 (F' := (mb, C (MdV.c { m with fu := 0, up := false }) 82) :: (m.d.aE ++ (m.d.nE ++ (m.d.iE ++ ((m.d.vb, MO (kInt .u32) m.d.vd) :: (m.qE ++ (m.rE ++ Z))))))) hl hh rfl rfl (by repeat (first | exact keeps_nil | apply keeps_cons (by repeat (first | exact find_head | apply find_tail | apply find_skip)) (by first  | rfl) | exact keeps_self | exact keeps_left | apply keeps_app | apply keeps_mv | apply keeps_skip)) ?_; exact ⟨by rw [hab], MdO.same (m' := { m with fu := 0, up := false }) (by rw [hab]; exact ⟨hm.dok, hm.d, rfl, hm.qr, hm.qo, hm.qp, hm.r, hm.ys, hm.dn, hm.tk, hm.au, hm.fl, rfl, hm.kp, (by simp)⟩) (by simp only [MF, DuV.E_eq, List.append_assoc, List.cons_append, List.nil_append])⟩)
        ·
          try simp only [List.cons_append, List.nil_append, List.append_nil] at hh
          try simp only [List.append_assoc, List.cons_append, List.nil_append] at hh
          refine wl (wl_val hl rfl trivial (r_assign hl rfl) ?_)
          clear hl a; intro a hl
          refine w_nil ?_
          have hl2 := hl.add (t := 4) (hl.nil) rfl; clear hl; have hl := hl2; clear hl2
          refine then_normal ?_
          refine wp_ret ?_
          first
          | (have hab := hat.trans (tx_0 (g := g) (show (admitP l _).2 = 0 by rw [← hpl, hr])); rw [← hpl, hr] at hab; refine f_ret1 (F' := (mb, C (MdV.c { m with d := { s1 with ip := s.p, is := rstI v m.d.is m.d.is.length, ic := s.c, iE := s.E }, fu := f }) 82) :: ((s1.aE ++ (s1.nE ++ (s.E ++ [(s1.vb, MO (kInt .u32) s1.vd)]))) ++ (m.qE ++ (m.rE ++ Z)))) hl hh rfl rfl (by repeat (first | exact keeps_nil | apply keeps_cons (by repeat (first | exact find_head | apply find_tail | apply find_skip)) (by first  | rfl) | exact keeps_self | exact keeps_left | apply keeps_app | apply keeps_mv | apply keeps_skip)) ?_; exact ⟨by rw [hab], MdO.same (m' := { m with d := { s1 with ip := s.p, is := rstI v m.d.is m.d.is.length, ic := s.c, iE := s.E }, fu := f }) (by rw [hab]; exact ⟨hso, rfl, hm.up, hm.qr, hm.qo, hm.qp, hm.r, hm.ys, hm.dn, hm.tk, hm.au, hm.fl, rfl, hm.kp, hf⟩) (by simp only [MF, DuV.E_eq, List.append_assoc, List.cons_append, List.nil_append])⟩)
          | (have hab := hat.trans (tx_1 (g := g) (show (admitP l _).2 = 1 by rw [← hpl, hr])); rw [← hpl, hr] at hab; refine f_ret1 (F' := (mb, C (MdV.c m) 82) :: (m.d.aE ++ (m.d.nE ++ (m.d.iE ++ ((m.d.vb, MO (kInt .u32) m.d.vd) :: (m.qE ++ (m.rE ++ Z))))))) hl hh rfl rfl (by repeat (first | exact keeps_nil | apply keeps_cons (by repeat (first | exact find_head | apply find_tail | apply find_skip)) (by first  | rfl) | exact keeps_self | exact keeps_left | apply keeps_app | apply keeps_mv | apply keeps_skip)) ?_; exact ⟨by rw [hab], MdO.same (m' := m) (by rw [hab]; exact hm) (by simp only [MF, DuV.E_eq, List.append_assoc, List.cons_append, List.nil_append])⟩)
          | (have hab := hat.trans (tx_2 (g := g) (show (admitP l _).2 = 2 by rw [← hpl, hr])); rw [← hpl, hr] at hab; refine f_ret1 (F' := (mb, C (MdV.c { m with d := { s1 with ip := s.p, is := rstI v m.d.is m.d.is.length, ic := s.c, iE := s.E }, fu := 0, up := false }) 82) :: ((s1.aE ++ (s1.nE ++ (s.E ++ [(s1.vb, MO (kInt .u32) s1.vd)]))) ++ (m.qE ++ (m.rE ++ Z)))) hl hh rfl rfl (by repeat (first | exact keeps_nil | apply keeps_cons (by repeat (first | exact find_head | apply find_tail | apply find_skip)) (by first  | rfl) | exact keeps_self | exact keeps_left | apply keeps_app | apply keeps_mv | apply keeps_skip)) ?_; exact ⟨by rw [hab], MdO.same (m' := { m with d := { s1 with ip := s.p, is := rstI v m.d.is m.d.is.length, ic := s.c, iE := s.E }, fu := 0, up := false }) (by rw [hab]; exact ⟨hso, rfl, rfl, hm.qr, hm.qo, hm.qp, hm.r, hm.ys, hm.dn, hm.tk, hm.au, hm.fl, rfl, hm.kp, (by simp)⟩) (by simp only [MF, DuV.E_eq, List.append_assoc, List.cons_append, List.nil_append])⟩)
          | (have hab := hat.trans (tx_2 (g := g) (show (admitP l _).2 = 2 by rw [← hpl, hr])); rw [← hpl, hr] at hab; refine f_ret1 (F' := (mb, C (MdV.c { m with fu := 0, up := false }) 82) :: (m.d.aE ++ (m.d.nE ++ (m.d.iE ++ ((m.d.vb, MO (kInt .u32) m.d.vd) :: (m.qE ++ (m.rE ++ Z))))))) hl hh rfl rfl (by repeat (first | exact keeps_nil | apply keeps_cons (by repeat (first | exact find_head | apply find_tail | apply find_skip)) (by first  | rfl) | exact keeps_self | exact keeps_left | apply keeps_app | apply keeps_mv | apply keeps_skip)) ?_; exact ⟨by rw [hab], MdO.same (m' := { m with fu := 0, up := false }) (by rw [hab]; exact ⟨hm.dok, hm.d, rfl, hm.qr, hm.qo, hm.qp, hm.r, hm.ys, hm.dn, hm.tk, hm.au, hm.fl, rfl, hm.kp, (by simp)⟩) (by simp only [MF, DuV.E_eq, List.append_assoc, List.cons_append, List.nil_append])⟩)
        ·
          try simp only [List.cons_append, List.nil_append, List.append_nil] at hh
          try simp only [List.append_assoc, List.cons_append, List.nil_append] at hh
          refine wl (wl_val hl rfl trivial (r_assign hl rfl) ?_)
          clear hl a; intro a hl
          refine w_nil ?_
          have hl2 := hl.add (t := 4) (hl.nil) rfl; clear hl; have hl := hl2; clear hl2
          refine then_normal ?_
          refine wp_ret ?_
          first
          | (have hab := hat.trans (tx_0 (g := g) (show (admitP l _).2 = 0 by rw [← hpl, hr])); rw [← hpl, hr] at hab; refine f_ret1 (F' := (mb, C (MdV.c { m with d := { s1 with ip := s.p, is := rstI v m.d.is m.d.is.length, ic := s.c, iE := s.E }, fu := f }) 82) :: ((s1.aE ++ (s1.nE ++ (s.E ++ [(s1.vb, MO (kInt .u32) s1.vd)]))) ++ (m.qE ++ (m.rE ++ Z)))) hl hh rfl rfl (by repeat (first | exact keeps_nil | apply keeps_cons (by repeat (first | exact find_head | apply find_tail | apply find_skip)) (by first  | rfl) | exact keeps_self | exact keeps_left | apply keeps_app | apply keeps_mv | apply keeps_skip)) ?_; exact ⟨by rw [hab], MdO.same (m' := { m with d := { s1 with ip := s.p, is := rstI v m.d.is m.d.is.length, ic := s.c, iE := s.E }, fu := f }) (by rw [hab]; exact ⟨hso, rfl, hm.up, hm.qr, hm.qo, hm.qp, hm.r, hm.ys, hm.dn, hm.tk, hm.au, hm.fl, rfl, hm.kp, hf⟩) (by simp only [MF, DuV.E_eq, List.append_assoc, List.cons_append, List.nil_append])⟩)
          | (have hab := hat.trans (tx_1 (g := g) (show (admitP l _).2 = 1 by rw [← hpl, hr])); rw [← hpl, hr] at hab; refine f_ret1 (F' := (mb, C (MdV.c m) 82) :: (m.d.aE ++ (m.d.nE ++ (m.d.iE ++ ((m.d.vb, MO (kInt .u32) m.d.vd) :: (m.qE ++ (m.rE ++ Z))))))) hl hh rfl rfl (by repeat (first | exact keeps_nil | apply keeps_cons (by repeat (first | exact find_head | apply find_tail | apply find_skip)) (by first  | rfl) | exact keeps_self | exact keeps_left | apply keeps_app | apply keeps_mv | apply keeps_skip)) ?_; exact ⟨by rw [hab], MdO.same (m' := m) (by rw [hab]; exact hm) (by simp only [MF, DuV.E_eq, List.append_assoc, List.cons_append, List.nil_append])⟩)
          | (have hab := hat.trans (tx_2 (g := g) (show (admitP l _).2 = 2 by rw [← hpl, hr])); rw [← hpl, hr] at hab; refine f_ret1 (F' := (mb, C (MdV.c { m with d := { s1 with ip := s.p, is := rstI v m.d.is m.d.is.length, ic := s.c, iE := s.E }, fu := 0, up := false }) 82) :: ((s1.aE ++ (s1.nE ++ (s.E ++ [(s1.vb, MO (kInt .u32) s1.vd)]))) ++ (m.qE ++ (m.rE ++ Z)))) hl hh rfl rfl (by repeat (first | exact keeps_nil | apply keeps_cons (by repeat (first | exact find_head | apply find_tail | apply find_skip)) (by first  | rfl) | exact keeps_self | exact keeps_left | apply keeps_app | apply keeps_mv | apply keeps_skip)) ?_; exact ⟨by rw [hab], MdO.same (m' := { m with d := { s1 with ip := s.p, is := rstI v m.d.is m.d.is.length, ic := s.c, iE := s.E }, fu := 0, up := false }) (by rw [hab]; exact ⟨hso, rfl, rfl, hm.qr, hm.qo, hm.qp, hm.r, hm.ys, hm.dn, hm.tk, hm.au, hm.fl, rfl, hm.kp, (by simp)⟩) (by simp only [MF, DuV.E_eq, List.append_assoc, List.cons_append, List.nil_append])⟩)
          | (have hab := hat.trans (tx_2 (g := g) (show (admitP l _).2 = 2 by rw [← hpl, hr])); rw [← hpl, hr] at hab; refine f_ret1 (F' := (mb, C (MdV.c { m with fu := 0, up := false }) 82) :: (m.d.aE ++ (m.d.nE ++ (m.d.iE ++ ((m.d.vb, MO (kInt .u32) m.d.vd) :: (m.qE ++ (m.rE ++ Z))))))) hl hh rfl rfl (by repeat (first | exact keeps_nil | apply keeps_cons (by repeat (first | exact find_head | apply find_tail | apply find_skip)) (by first  | rfl) | exact keeps_self | exact keeps_left | apply keeps_app | apply keeps_mv | apply keeps_skip)) ?_; exact ⟨by rw [hab], MdO.same (m' := { m with fu := 0, up := false }) (by rw [hab]; exact ⟨hm.dok, hm.d, rfl, hm.qr, hm.qo, hm.qp, hm.r, hm.ys, hm.dn, hm.tk, hm.au, hm.fl, rfl, hm.kp, (by simp)⟩) (by simp only [MF, DuV.E_eq, List.append_assoc, List.cons_append, List.nil_append])⟩)
        ·
          try simp only [List.cons_append, List.nil_append, List.append_nil] at hh
          try simp only [List.append_assoc, List.cons_append, List.nil_append] at hh
          refine wl (wl_val hl rfl trivial (r_assign hl rfl) ?_)
          clear hl a; intro a hl
          refine w_nil ?_
          have hl2 := hl.add (t := 4) (hl.nil) rfl; clear hl; have hl := hl2; clear hl2
          refine then_normal ?_
          refine wp_ret ?_
          first
          | (have hab := hat.trans (tx_0 (g := g) (show (admitP l _).2 = 0 by rw [← hpl, hr])); rw [← hpl, hr] at hab; refine f_ret1 (F' := (mb, C (MdV.c { m with d := { s1 with ip := s.p, is := rstI v m.d.is m.d.is.length, ic := s.c, iE := s.E }, fu := f }) 82) :: ((s1.aE ++ (s1.nE ++ (s.E ++ [(s1.vb, MO (kInt .u32) s1.vd)]))) ++ (m.qE ++ (m.rE ++ Z)))) hl hh rfl rfl (by repeat (first | exact keeps_nil | apply keeps_cons (by repeat (first | exact find_head | apply find_tail | apply find_skip)) (by first  | rfl) | exact keeps_self | exact keeps_left | apply keeps_app | apply keeps_mv | apply keeps_skip)) ?_; exact ⟨by rw [hab], MdO.same (m' := { m with d := { s1 with ip := s.p, is := rstI v m.d.is m.d.is.length, ic := s.c, iE := s.E }, fu := f }) (by rw [hab]; exact ⟨hso, rfl, hm.up, hm.qr, hm.qo, hm.qp, hm.r, hm.ys, hm.dn, hm.tk, hm.au, hm.fl, rfl, hm.kp, hf⟩) (by simp only [MF, DuV.E_eq, List.append_assoc, List.cons_append, List.nil_append])⟩)
          | (have hab := hat.trans (tx_1 (g := g) (show (admitP l _).2 = 1 by rw [← hpl, hr])); rw [← hpl, hr] at hab; refine f_ret1 (F' := (mb, C (MdV.c m) 82) :: (m.d.aE ++ (m.d.nE ++ (m.d.iE ++ ((m.d.vb, MO (kInt .u32) m.d.vd) :: (m.qE ++ (m.rE ++ Z))))))) hl hh rfl rfl (by repeat (first | exact keeps_nil | apply keeps_cons (by repeat (first | exact find_head | apply find_tail | apply find_skip)) (by first  | rfl) | exact keeps_self | exact keeps_left | apply keeps_app | apply keeps_mv | apply keeps_skip)) ?_; exact ⟨by rw [hab], MdO.same (m' := m) (by rw [hab]; exact hm) (by simp only [MF, DuV.E_eq, List.append_assoc, List.cons_append, List.nil_append])⟩)
          | (have hab := hat.trans (tx_2 (g := g) (show (admitP l _).2 = 2 by rw [← hpl, hr])); rw [← hpl, hr] at hab; refine f_ret1 (F' := (mb, C (MdV.c { m with d := { s1 with ip := s.p, is := rstI v m.d.is m.d.is.length, ic := s.c, iE := s.E }, fu := 0, up := false }) 82) :: ((s1.aE ++ (s1.nE ++ (s.E ++ [(s1.vb, MO (kInt .u32) s1.vd)]))) ++ (m.qE ++ (m.rE ++ Z)))) hl hh rfl rfl (by repeat (first | exact keeps_nil | apply keeps_cons (by repeat (first | exact find_head | apply find_tail | apply find_skip)) (by first  | rfl) | exact keeps_self | exact keeps_left | apply keeps_app | apply keeps_mv | apply keeps_skip)) ?_; exact ⟨by rw [hab], MdO.same (m' := { m with d := { s1 with ip := s.p, is := rstI v m.d.is m.d.is.length, ic := s.c, iE := s.E }, fu := 0, up := false }) (by rw [hab]; exact ⟨hso, rfl, rfl, hm.qr, hm.qo, hm.qp, hm.r, hm.ys, hm.dn, hm.tk, hm.au, hm.fl, rfl, hm.kp, (by simp)⟩) (by simp only [MF, DuV.E_eq, List.append_assoc, List.cons_append, List.nil_append])⟩)
          | (have hab := hat.trans (tx_2 (g := g) (show (admitP l _).2 = 2 by rw [← hpl, hr])); rw [← hpl, hr] at hab; refine f_ret1 (F' := (mb, C (MdV.c { m with fu := 0, up := false }) 82) :: (m.d.aE ++ (m.d.nE ++ (m.d.iE ++ ((m.d.vb, MO (kInt .u32) m.d.vd) :: (m.qE ++ (m.rE ++ Z))))))) hl hh rfl rfl (by repeat (first | exact keeps_nil | apply keeps_cons (by repeat (first | exact find_head | apply find_tail | apply find_skip)) (by first  | rfl) | exact keeps_self | exact keeps_left | apply keeps_app | apply keeps_mv | apply keeps_skip)) ?_; exact ⟨by rw [hab], MdO.same (m' := { m with fu := 0, up := false }) (by rw [hab]; exact ⟨hm.dok, hm.d, rfl, hm.qr, hm.qo, hm.qp, hm.r, hm.ys, hm.dn, hm.tk, hm.au, hm.fl, rfl, hm.kp, (by simp)⟩) (by simp only [MF, DuV.E_eq, List.append_assoc, List.cons_append, List.nil_append])⟩)
end Go.Proofs.Qxb6500908aGreat

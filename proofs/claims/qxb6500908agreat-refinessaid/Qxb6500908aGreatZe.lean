import Derived.Test.Qxb6500908aGreatZd
namespace Go.Proofs.Qxb6500908aGreat
open Go.Eng
set_option linter.unusedVariables false
set_option linter.unusedSimpArgs false

attribute [local irreducible] NtV.k StV.c LdV.c StV.E GtV.c GtV.t DuV.c DuV.E MdV.c MdV.t

set_option maxHeartbeats 4000000 in
theorem mtick0 (Z : List (Nat × Obj)) (mb : Nat) (m : MdV) (g : GtP) (l : LdP) (hm : MdR Z m g l) (hI : GtI g) (hsd : g.st = l.d) (hdn : l.dn = false) (hp : g.st.ph = 0) : Sp Tryz.prog 111 #[.pointer (some ⟨mb, 0, none⟩)] (MF mb m Z) (MdS mb (tickP g l) Z) := by
  refine f_enter (args := [.pointer (some ⟨mb, 0, none⟩)]) Tryz.func111 rfl Tryz.ntmps111 rfl ?_
  intro w0 w a hpre hl hh
  have hst : m.d.pl = g.st := hm.d.trans hsd.symm
  have hup : m.up = true := by rw [hm.up, hI.on]; rfl
  have hph : m.d.ph = g.st.ph := congrArg StP.ph hst
  have hfi : m.d.fid = g.st.fid := congrArg StP.fid hst
  have hep : m.d.ep = g.st.ep := congrArg StP.ep hst
  have hqg := hm.qp
  have hql : m.q.length ≤ 8 := by have h9 := hI.ql; rw [← hqg, List.length_map] at h9; exact h9
  obtain ⟨rb, rl, rn, hrb, hrE, hrv, hrk, hrf⟩ := hm.r
  generalize hDD : List.map Prod.fst (MF mb m Z) = D at hh ⊢
  simp only [MF, hrE, DuV.E_eq m.d, List.append_assoc, List.cons_append, List.nil_append] at hh
  have hvl := hm.dok.vl; have hv1 := hm.dok.v1; have hil := hm.dok.il
  have hwl : m.d.ws.length = m.d.vs.length := by rw [hm.dok.e]
  obtain ⟨b2, j2, hq2, hjl2, hjc2, hE2⟩ := row_pos hm.dok.n (by omega)
  have hmem2 : (b2, C (fl ntc m.d.ws ++ j2) 66) ∈ m.d.nE := by rw [hE2]; exact List.mem_singleton.2 rfl
  obtain ⟨y, hyw⟩ : ∃ y, m.d.ws[m.d.ws.length - 1]? = some y := ⟨_, List.getElem?_eq_getElem (by omega)⟩
  have hyo := hm.dok.vo y (by rw [← hm.dok.e]; exact List.mem_of_getElem? hyw)
  have hyn := fl_at ntc_len hyw j2
  have hlast := last_pl hst hm.dok.e hyw
  simp only [slotsFrom, Nat.reduceAdd] at hl
  refine c_seq ?_
  refine c_region ?_
  refine wl (wl_val hl rfl trivial (r_assign hl rfl) ?_)
  clear hl a; intro a hl
  refine w_nil ?_
  have hl2 := hl.add (t := 0) (hl.nil) rfl; clear hl; have hl := hl2; clear hl2
  refine then_normal ?_
  refine c_seq ?_
  refine c_seq ?_
  refine c_region ?_
  refine wl (wl_val hl rfl trivial (r_move hl rfl) ?_)
  clear hl a; intro a hl
  refine wl (wl_val hl rfl trivial (r_nilCheck hl rfl) ?_)
  clear hl a; intro a hl
  refine wl (wl_val hl rfl trivial (r_field hl rfl fld82_1) ?_)
  clear hl a; intro a hl
  refine wl (w_load hl hh rfl trivial one4 rfl (by repeat (first | exact find_head | apply find_tail | apply find_skip)) (by first | exact mdc_ep _ | exact mdc_a _ | exact mdc_n _ | exact mdc_i _ | exact mdc_ph _ | exact mdc_fid _ | exact mdc_vd _ | exact mdc_up _ | exact mdc_q _ | exact mdc_rf _ | exact mdc_tk _ | exact mdc_au _ | exact mdc_fl _ | exact mdc_fu _ | exact mdc_kp _ | exact duc_ep _ | exact duc_a _ | exact duc_n _ | exact duc_i _ | exact duc_ph _ | exact duc_fid _ | exact duc_vd _ | rfl) ?_)
  clear hl a; intro a hl
  refine wl (wl_val hl rfl trivial (r_not hl rfl) ?_)
  clear hl a; intro a hl
  refine w_nil ?_
  have hl2 := hl.add (t := 0) (hl.add (t := 11) (hl.nil) rfl) rfl; clear hl; have hl := hl2; clear hl2
  refine then_normal ?_
  refine c_cond hl rfl ?_ ?_
  · intro hc0
    try simp only [decide_eq_true_eq, decide_eq_false_iff_not, Bool.not_eq_true', Bool.not_eq_false', Bool.not_eq_true, Bool.not_eq_false, Bool.and_eq_true, Bool.or_eq_true, Bool.and_eq_false_iff, Bool.or_eq_false_iff, Bool.not_not, ne_eq, Int.not_lt, Int.not_le, Decidable.not_not, beq_iff_eq, bne_iff_ne] at hc0
    exfalso; first | contradiction | omega | (simp_all; done)
  · intro hc0
    try simp only [decide_eq_true_eq, decide_eq_false_iff_not, Bool.not_eq_true', Bool.not_eq_false', Bool.not_eq_true, Bool.not_eq_false, Bool.and_eq_true, Bool.or_eq_true, Bool.and_eq_false_iff, Bool.or_eq_false_iff, Bool.not_not, ne_eq, Int.not_lt, Int.not_le, Decidable.not_not, beq_iff_eq, bne_iff_ne] at hc0
    refine wp_skip ?_
    refine then_normal ?_
    refine c_seq ?_
    refine c_seq ?_
    refine c_region ?_
    refine wl (wl_val hl rfl trivial (r_move hl rfl) ?_)
    clear hl a; intro a hl
    refine wl (wl_val hl rfl trivial (r_nilCheck hl rfl) ?_)
    clear hl a; intro a hl
    refine wl (wl_val hl rfl trivial (r_field hl rfl fld82_0) ?_)
    clear hl a; intro a hl
    refine wl (wl_val hl rfl trivial (r_field hl rfl fld78_4) ?_)
    clear hl a; intro a hl
    refine wl (w_load hl hh rfl trivial one76 rfl (by repeat (first | exact find_head | apply find_tail | apply find_skip)) (by first | exact mdc_ep _ | exact mdc_a _ | exact mdc_n _ | exact mdc_i _ | exact mdc_ph _ | exact mdc_fid _ | exact mdc_vd _ | exact mdc_up _ | exact mdc_q _ | exact mdc_rf _ | exact mdc_tk _ | exact mdc_au _ | exact mdc_fl _ | exact mdc_fu _ | exact mdc_kp _ | exact duc_ep _ | exact duc_a _ | exact duc_n _ | exact duc_i _ | exact duc_ph _ | exact duc_fid _ | exact duc_vd _ | rfl) ?_)
    clear hl a; intro a hl
    refine wl (wl_val hl rfl trivial (r_eql hl rfl rfl) ?_)
    clear hl a; intro a hl
    refine w_nil ?_
    have hl2 := hl.add (t := 0) (hl.add (t := 17) (hl.nil) rfl) rfl; clear hl; have hl := hl2; clear hl2
    refine then_normal ?_
    refine c_cond hl rfl ?_ ?_
    · intro hc1
      try simp only [decide_eq_true_eq, decide_eq_false_iff_not, Bool.not_eq_true', Bool.not_eq_false', Bool.not_eq_true, Bool.not_eq_false, Bool.and_eq_true, Bool.or_eq_true, Bool.and_eq_false_iff, Bool.or_eq_false_iff, Bool.not_not, ne_eq, Int.not_lt, Int.not_le, Decidable.not_not, beq_iff_eq, bne_iff_ne] at hc1
      exfalso; first | contradiction | omega | (simp_all; done)
    · intro hc1
      try simp only [decide_eq_true_eq, decide_eq_false_iff_not, Bool.not_eq_true', Bool.not_eq_false', Bool.not_eq_true, Bool.not_eq_false, Bool.and_eq_true, Bool.or_eq_true, Bool.and_eq_false_iff, Bool.or_eq_false_iff, Bool.not_not, ne_eq, Int.not_lt, Int.not_le, Decidable.not_not, beq_iff_eq, bne_iff_ne] at hc1
      refine wp_skip ?_
      refine then_normal ?_
      refine c_seq ?_
      refine c_seq ?_
      refine c_region ?_
      refine wl (wl_val hl rfl trivial (r_move hl rfl) ?_)
      clear hl a; intro a hl
      refine wl (wl_val hl rfl trivial (r_nilCheck hl rfl) ?_)
      clear hl a; intro a hl
      refine wl (wl_val hl rfl trivial (r_field hl rfl fld82_0) ?_)
      clear hl a; intro a hl
      refine wl (wl_val hl rfl trivial (r_field hl rfl fld78_4) ?_)
      clear hl a; intro a hl
      refine wl (w_load hl hh rfl trivial one76 rfl (by repeat (first | exact find_head | apply find_tail | apply find_skip)) (by first | exact mdc_ep _ | exact mdc_a _ | exact mdc_n _ | exact mdc_i _ | exact mdc_ph _ | exact mdc_fid _ | exact mdc_vd _ | exact mdc_up _ | exact mdc_q _ | exact mdc_rf _ | exact mdc_tk _ | exact mdc_au _ | exact mdc_fl _ | exact mdc_fu _ | exact mdc_kp _ | exact duc_ep _ | exact duc_a _ | exact duc_n _ | exact duc_i _ | exact duc_ph _ | exact duc_fid _ | exact duc_vd _ | rfl) ?_)
      clear hl a; intro a hl
      refine wl (wl_val hl rfl trivial (r_neq hl rfl rfl) ?_)
      clear hl a; intro a hl
      refine wl (wl_val hl rfl trivial (r_move hl rfl) ?_)
      clear hl a; intro a hl
      refine sl_split (t := 38) hl rfl ?_ ?_
      · intro hg1; clear hl; intro hl
        try simp only [decide_eq_true_eq, decide_eq_false_iff_not, Bool.not_eq_true', Bool.not_eq_false', Bool.not_eq_true, Bool.not_eq_false, Bool.and_eq_true, Bool.or_eq_true, Bool.and_eq_false_iff, Bool.or_eq_false_iff, Bool.not_not, ne_eq, Int.not_lt, Int.not_le, Decidable.not_not, beq_iff_eq, bne_iff_ne] at hg1
        exfalso; first | contradiction | omega | (simp_all; done)
      · intro hg1; clear hl; intro hl
        try simp only [decide_eq_true_eq, decide_eq_false_iff_not, Bool.not_eq_true', Bool.not_eq_false', Bool.not_eq_true, Bool.not_eq_false, Bool.and_eq_true, Bool.or_eq_true, Bool.and_eq_false_iff, Bool.or_eq_false_iff, Bool.not_not, ne_eq, Int.not_lt, Int.not_le, Decidable.not_not, beq_iff_eq, bne_iff_ne] at hg1
        refine wl (wl_val hl rfl ⟨_, _, rfl, rfl, rfl⟩ (r_move hl rfl) ?_)
        clear hl a; intro a hl
        refine wl (wl_val hl rfl ⟨_, _, rfl, rfl, rfl⟩ (r_nilCheck hl rfl) ?_)
        clear hl a; intro a hl
        refine wl (wl_val hl rfl ⟨_, _, rfl, rfl, rfl⟩ (r_field hl rfl fld82_2) ?_)
        clear hl a; intro a hl
        refine wl (w_load hl hh rfl ⟨_, _, rfl, rfl, rfl⟩ one79 rfl (by repeat (first | exact find_head | apply find_tail | apply find_skip)) (by first | exact mdc_ep _ | exact mdc_a _ | exact mdc_n _ | exact mdc_i _ | exact mdc_ph _ | exact mdc_fid _ | exact mdc_vd _ | exact mdc_up _ | exact mdc_q _ | exact mdc_rf _ | exact mdc_tk _ | exact mdc_au _ | exact mdc_fl _ | exact mdc_fu _ | exact mdc_kp _ | exact duc_ep _ | exact duc_a _ | exact duc_n _ | exact duc_i _ | exact duc_ph _ | exact duc_fid _ | exact duc_vd _ | rfl) ?_)
        clear hl a; intro a hl
        refine wl (wl_val hl rfl ⟨_, _, rfl, rfl, rfl⟩ (r_lenS hl rfl slc79) ?_)
        clear hl a; intro a hl
        refine wl (wl_val hl rfl ⟨_, _, rfl, rfl, rfl⟩ (r_eql hl rfl rfl) ?_)
        clear hl a; intro a hl
        refine wl (wl_val hl rfl trivial (r_pickF hl rfl rfl) ?_)
        clear hl a; intro a hl
        refine w_nil ?_
        have hl2 := hl.add (t := 0) (hl.add (t := 45) (hl.nil) rfl) rfl; clear hl; have hl := hl2; clear hl2
        refine then_normal ?_
        refine c_cond hl rfl ?_ ?_
        · intro hc3
          try simp only [decide_eq_true_eq, decide_eq_false_iff_not, Bool.not_eq_true', Bool.not_eq_false', Bool.not_eq_true, Bool.not_eq_false, Bool.and_eq_true, Bool.or_eq_true, Bool.and_eq_false_iff, Bool.or_eq_false_iff, Bool.not_not, ne_eq, Int.not_lt, Int.not_le, Decidable.not_not, beq_iff_eq, bne_iff_ne] at hc3
          have hq0 : g.q = [] := by rw [← hqg, List.eq_nil_of_length_eq_zero (show m.q.length = 0 by omega)]; rfl
          refine c_seq ?_
          refine c_region ?_
          refine wl (wl_val hl rfl trivial (r_move hl rfl) ?_)
          clear hl a; intro a hl
          refine wl (w_call hl hh rfl trivial rfl cal117 rfl (due_spec Z mb m hm.dok.fn hm.dok.ph) (by repeat (first | exact keeps_nil | apply keeps_cons (by repeat (first | exact find_head | apply find_tail | apply find_skip)) (by first  | rfl) | exact keeps_self | exact keeps_left | apply keeps_app | apply keeps_mv | apply keeps_skip)) trivial ?_)
          clear hl hh a w; intro vc Fc a w hR hl hh
          obtain ⟨p6, c6, E6, hR6, rfl, rfl⟩ := hR
          try simp only [List.cons_append, List.nil_append, List.append_assoc, List.append_nil] at hh
          refine wl (wl_val hl rfl trivial (r_assign hl rfl) ?_)
          clear hl a; intro a hl
          refine w_nil ?_
          have hl2 := hl.add (t := 2) (hl.nil) rfl; clear hl; have hl := hl2; clear hl2
          refine then_normal ?_
          refine wp_ret ?_
          refine then_ret ?_
          refine f_ret1 (F' := E6 ++ ((mb, C (MdV.c m) 82) :: (m.d.aE ++ (m.d.nE ++ (m.d.iE ++ ((m.d.vb, MO (kInt .u32) m.d.vd) :: (m.qE ++ ((rb, MD (kInt .u32) rl rn) :: Z)))))))) hl hh rfl rfl (by repeat (first | exact keeps_nil | apply keeps_cons (by repeat (first | exact find_head | apply find_tail | apply find_skip)) (by first  | rfl) | exact keeps_self | exact keeps_left | apply keeps_app | apply keeps_mv | apply keeps_skip)) ?_
          have hsx := (tk_0 (l := l) hI.on hp).trans (sx_0 hq0)
          exact MdS.of (m' := m) (by rw [hsx, due_0 (by omega)]; exact hI.o) hR6 (due_sz hm.dok.fn) (by rw [hsx]; exact hm) (by simp only [MF, DuV.E_eq, hrE, List.append_assoc, List.cons_append, List.nil_append])
        · intro hc3
          try simp only [decide_eq_true_eq, decide_eq_false_iff_not, Bool.not_eq_true', Bool.not_eq_false', Bool.not_eq_true, Bool.not_eq_false, Bool.and_eq_true, Bool.or_eq_true, Bool.and_eq_false_iff, Bool.or_eq_false_iff, Bool.not_not, ne_eq, Int.not_lt, Int.not_le, Decidable.not_not, beq_iff_eq, bne_iff_ne] at hc3
          obtain ⟨x, qs, hqx⟩ : ∃ x qs, m.q = x :: qs := by
            cases hq8 : m.q with
            | nil => rw [hq8] at hc3; exact absurd rfl hc3
            | cons a t => exact ⟨a, t, rfl⟩
          have hql0 : 0 < m.q.length := by rw [hqx]; simp
          have hqls : m.q.length = qs.length + 1 := by rw [hqx]; rfl
          have hx : m.q[0]? = some x := by rw [hqx]; rfl
          have hxo := hm.qo x (List.mem_of_getElem? hx)
          obtain ⟨b1, o1, l1, hq1, hxl1, hjc1, hol1, hxs1, hE1⟩ := rowO_pos hm.qr hql0
          rw [hE1] at hh
          try simp only [List.cons_append, List.nil_append, List.append_assoc, List.append_nil] at hh
          have hd1 := rowO_bt (b := b1) hxs1 hx
          obtain ⟨p9, hp9⟩ : ∃ p9, p9 = (if m.qc = 1 then some (⟨b1, o1, none⟩ : Addr) else some ⟨b1, o1 + 1 * 2, none⟩) := ⟨_, rfl⟩
          have hRO : RowO (.slice p9 qs.length (m.qc - 1)) qs.length (fl btc qs) 2 141 [(b1, C l1 141)] := by rw [hp9]; exact qtl (x := x) (by rw [← hqx]; exact hxl1) (by rw [← hqx]; exact hjc1) hol1 (by rw [← hqx]; exact hxs1)
          have hqp : g.q = btP x :: qs.map btP := by rw [← hqg, hqx]; rfl
          refine wp_skip ?_
          refine then_normal ?_
          refine c_seq ?_
          refine c_region ?_
          refine wl (wl_val hl rfl trivial (r_move hl rfl) ?_)
          clear hl a; intro a hl
          refine wl (wl_val hl rfl trivial (r_nilCheck hl rfl) ?_)
          clear hl a; intro a hl
          refine wl (wl_val hl rfl trivial (r_field hl rfl fld82_2) ?_)
          clear hl a; intro a hl
          refine wl (w_load hl hh rfl trivial one79 rfl (by repeat (first | exact find_head | apply find_tail | apply find_skip)) (by first | exact mdc_ep _ | exact mdc_a _ | exact mdc_n _ | exact mdc_i _ | exact mdc_ph _ | exact mdc_fid _ | exact mdc_vd _ | exact mdc_up _ | exact mdc_q _ | exact mdc_rf _ | exact mdc_tk _ | exact mdc_au _ | exact mdc_fl _ | exact mdc_fu _ | exact mdc_kp _ | exact duc_ep _ | exact duc_a _ | exact duc_n _ | exact duc_i _ | exact duc_ph _ | exact duc_fid _ | exact duc_vd _ | rfl) ?_)
          clear hl a; intro a hl
          rw [hq1] at hl
          refine wl (wl_val hl rfl trivial (r_indexS hl rfl rfl slc79 (by omega) (by omega) (by first | (simp only [Int.reduceToNat]; rfl) | exact toNat_add1 _ | exact toNat_add2 _ _ | exact toNat_emod _ _ | exact Int.toNat_natCast _ | rfl)) ?_)
          clear hl a; intro a hl
          first | refine wl (w_loadA hl hh rfl trivial agg141 rfl (by repeat (first | exact find_head | apply find_tail | apply find_skip)) (by first | exact hd1 | rfl) (by rfl) ?_) | refine wl (wl_val hl rfl trivial (r_loadA hl rfl agg141 (hh.mem _ _ (by repeat (first | exact hmem2 | exact List.mem_append_left _ hmem2 | apply List.mem_cons_of_mem | apply List.mem_append_right))) hyn (ntk_len _)) ?_)
          clear hl a; intro a hl
          refine wl (w_alloc hl hh rfl trivial zero141 rfl ?_)
          clear hl hh a w; intro k3 a w hl hh
          refine wl (w_storeA hl hh trivial agg141 rfl rfl (by repeat (first | exact find_head | apply find_tail | apply find_skip)) (by rfl) (by exact Nat.le_refl 2) (by rfl) (by exact setL_all rfl) ?_)
          clear hh w; intro w hh
          refine w_nil ?_
          have hl2 := hl.add (t := 0) (hl.add (t := 3) (hl.nil) rfl) rfl; clear hl; have hl := hl2; clear hl2
          refine then_normal ?_
          refine c_seq ?_
          refine c_region ?_
          refine wl (wl_val hl rfl trivial (r_move hl rfl) ?_)
          clear hl a; intro a hl
          refine wl (wl_val hl rfl trivial (r_move hl rfl) ?_)
          clear hl a; intro a hl
          refine wl (wl_val hl rfl trivial (r_nilCheck hl rfl) ?_)
          clear hl a; intro a hl
          refine wl (wl_val hl rfl trivial (r_field hl rfl fld82_2) ?_)
          clear hl a; intro a hl
          refine wl (w_load hl hh rfl trivial one79 rfl (by repeat (first | exact find_head | apply find_tail | apply find_skip)) (by first | exact mdc_ep _ | exact mdc_a _ | exact mdc_n _ | exact mdc_i _ | exact mdc_ph _ | exact mdc_fid _ | exact mdc_vd _ | exact mdc_up _ | exact mdc_q _ | exact mdc_rf _ | exact mdc_tk _ | exact mdc_au _ | exact mdc_fl _ | exact mdc_fu _ | exact mdc_kp _ | exact duc_ep _ | exact duc_a _ | exact duc_n _ | exact duc_i _ | exact duc_ph _ | exact duc_fid _ | exact duc_vd _ | rfl) ?_)
          clear hl a; intro a hl
          rw [hq1] at hl
          refine wl (wl_val hl rfl trivial (r_sliceS10x hl rfl rfl slc79 (by omega) (by first | (simp only [Int.reduceToNat]; rfl) | exact toNat_add1 _ | exact toNat_add2 _ _ | exact toNat_emod _ _ | exact Int.toNat_natCast _ | rfl)) ?_)
          clear hl a; intro a hl
          rw [← hp9, show m.q.length - 1 = qs.length by omega] at hl
          refine wl (wl_val hl rfl trivial (r_nilCheck hl rfl) ?_)
          clear hl a; intro a hl
          refine wl (wl_val hl rfl trivial (r_field hl rfl fld82_2) ?_)
          clear hl a; intro a hl
          refine wl (w_store hl hh trivial one79 rfl rfl (by repeat (first | exact find_head | apply find_tail | apply find_skip)) (by first | (simp; done) | (simp; omega) | (rw [mdc_len]; omega) | (rw [mdc_len]; simp; done) | (rw [duc_len]; omega) | (rw [duc_len]; simp; done)) (by first | rfl | assumption | (apply Row.one; assumption)) (by first | exact mdc_sup _ _ | exact mdc_stk _ _ | exact mdc_sau _ _ | exact mdc_sfl _ _ | exact mdc_sfu _ _ | exact mdc_skp _ _ | exact mdc_sq _ p9 qs (m.qc - 1) [(b1, C l1 141)] | exact duc_sph _ _ | exact duc_sfid _ _ | (simp only [setL, List.getElem?_cons_zero, List.getElem?_cons_succ, Value.cells, List.take_zero, List.take_succ_cons, List.take_nil, List.drop_zero, List.drop_succ_cons, List.drop_nil, List.length_cons, List.length_nil, List.cons_append, List.nil_append, List.append_nil, Nat.zero_add, Nat.add_zero, Nat.reduceAdd, Nat.reduceBEq, Nat.reduceEqDiff, Nat.ble, BEq.rfl, Bool.and_true, Bool.and_self, cond_true, beq_self_eq_true]; rfl)) ?_)
          clear hh w; intro w hh
          refine w_nil ?_
          have hl2 := hl.add (t := 0) (hl.add (t := 3) (hl.nil) rfl) rfl; clear hl; have hl := hl2; clear hl2
          try simp only at hh
          refine then_normal ?_
          refine c_seq ?_
          refine c_draw [(mb, C (MdV.c { m with q := qs, qp := p9, qc := m.qc - 1, qE := [(b1, C l1 141)] }) 82), (k3, C (btc x) 141)] [21] mixed hh ?_
          clear hh w; intro w hh
          have hM : Mem [(mb, C (MdV.c { m with q := qs, qp := p9, qc := m.qc - 1, qE := [(b1, C l1 141)] }) 82), (k3, C (btc x) 141)] w := (memK hh (by repeat (first | exact keeps_nil | apply keeps_cons (by repeat (first | exact find_head | apply find_tail | apply find_skip)) (by first  | rfl) | exact keeps_self | exact keeps_left | apply keeps_app | apply keeps_mv | apply keeps_skip)))
          refine d_take (i := 0) hl rfl (by kernel_rfl) (by kernel_rfl) (by kernel_rfl) (by kernel_rfl) (by kernel_rfl) rfl trivial (fun _ _ _ h => h) hM (fun w hC => r_move hl rfl) rfl ?_
          clear hl a; intro a hl
          refine d_take (i := 1) hl rfl (by kernel_rfl) (by kernel_rfl) (by kernel_rfl) (by kernel_rfl) (by kernel_rfl) rfl trivial (fun _ _ _ h => h) hM (fun w hC => r_nilCheck hl rfl) rfl ?_
          clear hl a; intro a hl
          refine d_take (i := 2) hl rfl (by kernel_rfl) (by kernel_rfl) (by kernel_rfl) (by kernel_rfl) (by kernel_rfl) rfl trivial (fun _ _ _ h => h) hM (fun w hC => r_field hl rfl fld82_0) rfl ?_
          clear hl a; intro a hl
          refine d_take (i := 3) hl rfl (by kernel_rfl) (by kernel_rfl) (by kernel_rfl) (by kernel_rfl) (by kernel_rfl) rfl trivial (fun _ _ _ h => h) hM (fun w hC => r_field hl rfl fld78_2) rfl ?_
          clear hl a; intro a hl
          refine d_take (i := 4) hl rfl (by kernel_rfl) (by kernel_rfl) (by kernel_rfl) (by kernel_rfl) (by kernel_rfl) rfl trivial (fun _ _ _ h => h) hM (fun w hC => r_loadC hl rfl one73 hC (by repeat (first | exact find_head | apply find_tail | apply find_skip)) (by first | exact mdc_ep _ | exact mdc_a _ | exact mdc_n _ | exact mdc_i _ | exact mdc_ph _ | exact mdc_fid _ | exact mdc_vd _ | exact mdc_up _ | exact mdc_q _ | exact mdc_rf _ | exact mdc_tk _ | exact mdc_au _ | exact mdc_fl _ | exact mdc_fu _ | exact mdc_kp _ | exact duc_ep _ | exact duc_a _ | exact duc_n _ | exact duc_i _ | exact duc_ph _ | exact duc_fid _ | exact duc_vd _ | rfl)) rfl ?_
          clear hl a; intro a hl
          simp only at hl
          rw [hq2] at hl
          refine d_take (i := 5) hl rfl (by kernel_rfl) (by kernel_rfl) (by kernel_rfl) (by kernel_rfl) (by kernel_rfl) rfl trivial (fun _ _ _ h => h) hM (fun w hC => r_move hl rfl) rfl ?_
          clear hl a; intro a hl
          refine d_take (i := 6) hl rfl (by kernel_rfl) (by kernel_rfl) (by kernel_rfl) (by kernel_rfl) (by kernel_rfl) rfl trivial (fun _ _ _ h => h) hM (fun w hC => r_nilCheck hl rfl) rfl ?_
          clear hl a; intro a hl
          refine d_take (i := 7) hl rfl (by kernel_rfl) (by kernel_rfl) (by kernel_rfl) (by kernel_rfl) (by kernel_rfl) rfl trivial (fun _ _ _ h => h) hM (fun w hC => r_field hl rfl fld82_0) rfl ?_
          clear hl a; intro a hl
          refine d_take (i := 8) hl rfl (by kernel_rfl) (by kernel_rfl) (by kernel_rfl) (by kernel_rfl) (by kernel_rfl) rfl trivial (fun _ _ _ h => h) hM (fun w hC => r_field hl rfl fld78_2) rfl ?_
          clear hl a; intro a hl
          refine d_take (i := 9) hl rfl (by kernel_rfl) (by kernel_rfl) (by kernel_rfl) (by kernel_rfl) (by kernel_rfl) rfl trivial (fun _ _ _ h => h) hM (fun w hC => r_loadC hl rfl one73 hC (by repeat (first | exact find_head | apply find_tail | apply find_skip)) (by first | exact mdc_ep _ | exact mdc_a _ | exact mdc_n _ | exact mdc_i _ | exact mdc_ph _ | exact mdc_fid _ | exact mdc_vd _ | exact mdc_up _ | exact mdc_q _ | exact mdc_rf _ | exact mdc_tk _ | exact mdc_au _ | exact mdc_fl _ | exact mdc_fu _ | exact mdc_kp _ | exact duc_ep _ | exact duc_a _ | exact duc_n _ | exact duc_i _ | exact duc_ph _ | exact duc_fid _ | exact duc_vd _ | rfl)) rfl ?_
          clear hl a; intro a hl
          simp only at hl
          refine d_take (i := 10) hl rfl (by kernel_rfl) (by kernel_rfl) (by kernel_rfl) (by kernel_rfl) (by kernel_rfl) rfl trivial (fun _ _ _ h => h) hM (fun w hC => r_lenS hl rfl slc73) rfl ?_
          clear hl a; intro a hl
          first | refine d_take (i := 11) hl rfl (by kernel_rfl) (by kernel_rfl) (by kernel_rfl) (by kernel_rfl) (by kernel_rfl) rfl trivial (fun _ _ _ h => h) hM (fun w hC => r_sub hl rfl rfl (by simp only [Fits]; omega)) rfl ?_ | refine d_take (i := 11) hl rfl (by kernel_rfl) (by kernel_rfl) (by kernel_rfl) (by kernel_rfl) (by kernel_rfl) rfl trivial (fun _ _ _ h => h) hM (fun w hC => r_subW hl rfl rfl) rfl ?_
          clear hl a; intro a hl
          rw [show (m.d.ws.length : Int) - 1 = ((m.d.ws.length - 1 : Nat) : Int) by omega] at hl
          refine d_take (i := 12) hl rfl (by kernel_rfl) (by kernel_rfl) (by kernel_rfl) (by kernel_rfl) (by kernel_rfl) rfl trivial (fun _ _ _ h => h) hM (fun w hC => r_indexS hl rfl rfl slc73 (by omega) (by omega) (by first | (simp only [Int.reduceToNat]; rfl) | exact toNat_add1 _ | exact toNat_add2 _ _ | exact toNat_emod _ _ | exact Int.toNat_natCast _ | rfl)) rfl ?_
          clear hl a; intro a hl
          refine d_take (i := 14) hl rfl (by kernel_rfl) (by kernel_rfl) (by kernel_rfl) (by kernel_rfl) (by kernel_rfl) rfl trivial (fun _ _ _ h => h) hM (fun w hC => r_loadCA hl rfl agg141 hC (by repeat (first | exact find_head | apply find_tail | apply find_skip)) (by first | exact hd1 | rfl) (by rfl)) rfl ?_
          clear hl a; intro a hl
          refine d_two (i := 13) (j := 19) (by kernel_rfl) rfl rfl ?_ ?_
          ·
            try clear hM
            first | refine id (w_loadA hl hh rfl trivial agg66 rfl (by repeat (first | exact find_head | apply find_tail | apply find_skip)) (by first | exact NtV.whole hn2 | exact hyn) (by first | exact NtV.len hn2 | exact ntk_len _) ?_) | refine id (wl_val hl rfl trivial (r_loadA hl rfl agg66 (hh.mem _ _ (by repeat (first | exact hmem2 | exact List.mem_append_left _ hmem2 | apply List.mem_cons_of_mem | apply List.mem_append_right))) hyn (ntk_len _)) ?_)
            clear hl a; intro a hl
            rw [show ntc y = _ from ntk_eq hyo.1] at hl
            have hM : Mem [(mb, C (MdV.c { m with q := qs, qp := p9, qc := m.qc - 1, qE := [(b1, C l1 141)] }) 82), (k3, C (btc x) 141)] w := (memK hh (by repeat (first | exact keeps_nil | apply keeps_cons (by repeat (first | exact find_head | apply find_tail | apply find_skip)) (by first  | rfl) | exact keeps_self | exact keeps_left | apply keeps_app | apply keeps_mv | apply keeps_skip)))
            refine d_step (fun _ => hM) ?_
            refine d_two (i := 15) (j := 19) (by kernel_rfl) rfl rfl ?_ ?_
            ·
              try clear hM
              refine id (w_call hl hh rfl trivial rfl cal66 rfl (apply2 Z y.n hyo.1 x hxo) (by repeat (first | exact keeps_nil | apply keeps_cons (by repeat (first | exact find_head | apply find_tail | apply find_skip)) (by first  | rfl) | exact keeps_self | exact keeps_left | apply keeps_app | apply keeps_mv | apply keeps_skip)) (memK hh (by repeat (first | exact keeps_nil | apply keeps_cons (by repeat (first | exact find_head | apply find_tail | apply find_skip)) (by first  | rfl) | exact keeps_self | exact keeps_left | apply keeps_app | apply keeps_mv | apply keeps_skip))) ?_)
              clear hl hh a w; intro vc Fc a w hR hl hh
              obtain ⟨n2, bo, hn2, hap, rfl⟩ := hR
              try simp only [List.cons_append, List.nil_append, List.append_assoc, List.append_nil] at hh
              rw [← hlast] at hap
              generalize Fc = G9 at hh hn2
              replace hh := hh.comm
              simp only [List.cons_append, List.nil_append, List.append_nil, List.append_assoc] at hh
              have hM : Mem [(mb, C (MdV.c { m with q := qs, qp := p9, qc := m.qc - 1, qE := [(b1, C l1 141)] }) 82), (k3, C (btc x) 141)] w := (memK hh (by repeat (first | exact keeps_nil | apply keeps_cons (by repeat (first | exact find_head | apply find_tail | apply find_skip)) (by first  | rfl) | exact keeps_self | exact keeps_left | apply keeps_app | apply keeps_mv | apply keeps_skip)))
              refine d_step (fun _ => hM) ?_
              refine d_take (i := 16) hl rfl (by kernel_rfl) (by kernel_rfl) (by kernel_rfl) (by kernel_rfl) (by kernel_rfl) rfl trivial (fun _ _ _ h => h) hM (fun w hC => r_move hl rfl) rfl ?_
              clear hl a; intro a hl
              refine d_take (i := 17) hl rfl (by kernel_rfl) (by kernel_rfl) (by kernel_rfl) (by kernel_rfl) (by kernel_rfl) rfl trivial (fun _ _ _ h => h) hM (fun w hC => r_extract hl rfl (by simp only [List.getElem?_toArray, List.getElem?_cons_zero, List.getElem?_cons_succ]; rfl)) rfl ?_
              clear hl a; intro a hl
              refine d_take (i := 18) hl rfl (by kernel_rfl) (by kernel_rfl) (by kernel_rfl) (by kernel_rfl) (by kernel_rfl) rfl trivial (fun _ _ _ h => h) hM (fun w hC => r_extract hl rfl (by simp only [List.getElem?_toArray, List.getElem?_cons_zero, List.getElem?_cons_succ]; rfl)) rfl ?_
              clear hl a; intro a hl
              refine d_one (i := 19) (by kernel_rfl) rfl ?_
              try clear hM
              refine id (w_alloc hl hh rfl trivial zero66 rfl ?_)
              clear hl hh a w; intro k4 a w hl hh
              have hM : Mem [(mb, C (MdV.c { m with q := qs, qp := p9, qc := m.qc - 1, qE := [(b1, C l1 141)] }) 82), (k3, C (btc x) 141)] w := (memK hh (by repeat (first | exact keeps_nil | apply keeps_cons (by repeat (first | exact find_head | apply find_tail | apply find_skip)) (by first  | rfl) | exact keeps_self | exact keeps_left | apply keeps_app | apply keeps_mv | apply keeps_skip)))
              refine d_step (fun _ => hM) ?_
              refine d_one (i := 20) (by kernel_rfl) rfl ?_
              try clear hM
              refine id (w_storeA hl hh trivial agg66 rfl rfl (by repeat (first | exact find_head | apply find_tail | apply find_skip)) (by first | exact NtV.len hn2 | exact ntk_len _) (by first | exact Nat.le_refl 64 | (rw [duc_len]; omega)) (by first | exact NtV.one | exact ntk_one _) (by first | exact setL_all (show 64 = _ from (NtV.len hn2).symm) | exact duc_sfn _ _) ?_)
              clear hh w; intro w hh
              have hM : Mem [(mb, C (MdV.c { m with q := qs, qp := p9, qc := m.qc - 1, qE := [(b1, C l1 141)] }) 82), (k3, C (btc x) 141)] w := (memK hh (by repeat (first | exact keeps_nil | apply keeps_cons (by repeat (first | exact find_head | apply find_tail | apply find_skip)) (by first  | rfl) | exact keeps_self | exact keeps_left | apply keeps_app | apply keeps_mv | apply keeps_skip)))
              refine d_step (fun _ => hM) ?_
              refine d_takeL (i := 21) hl rfl (by kernel_rfl) (by kernel_rfl) (by kernel_rfl) (by kernel_rfl) (by kernel_rfl) rfl trivial (fun _ _ _ h => h) (fun w => r_assign hl rfl) rfl ?_
              clear hl a; intro a hl
              refine d_done (by kernel_rfl) ?_
              try clear hM
              have hl2 := hl.add (t := 0) (hl.add (t := 3) (hl.add (t := 4) (hl.add (t := 5) (hl.nil) rfl) rfl) rfl) rfl; clear hl; have hl := hl2; clear hl2
              refine then_normal ?_
              refine c_seq ?_
              refine c_seq ?_
              refine c_region ?_
              refine wl (wl_val hl rfl trivial (r_move hl rfl) ?_)
              clear hl a; intro a hl
              refine wl (wl_val hl rfl trivial (r_not hl rfl) ?_)
              clear hl a; intro a hl
              refine w_nil ?_
              have hl2 := hl.add (t := 0) (hl.add (t := 3) (hl.add (t := 4) (hl.add (t := 82) (hl.nil) rfl) rfl) rfl) rfl; clear hl; have hl := hl2; clear hl2
              refine then_normal ?_
              refine c_cond hl rfl ?_ ?_
              · intro hc4
                try simp only [decide_eq_true_eq, decide_eq_false_iff_not, Bool.not_eq_true', Bool.not_eq_false', Bool.not_eq_true, Bool.not_eq_false, Bool.and_eq_true, Bool.or_eq_true, Bool.and_eq_false_iff, Bool.or_eq_false_iff, Bool.not_not, ne_eq, Int.not_lt, Int.not_le, Decidable.not_not, beq_iff_eq, bne_iff_ne] at hc4
                have hvc := vc_9 (g := g) (cs := x.cs) (by rw [hap, hc4]; rfl)
                refine c_seq ?_
                refine c_draw [(mb, C (MdV.c { m with q := qs, qp := p9, qc := m.qc - 1, qE := [(b1, C l1 141)] }) 82), (k3, C (btc x) 141)] [6] mixed hh ?_
                clear hh w; intro w hh
                have hM : Mem [(mb, C (MdV.c { m with q := qs, qp := p9, qc := m.qc - 1, qE := [(b1, C l1 141)] }) 82), (k3, C (btc x) 141)] w := (memK hh (by repeat (first | exact keeps_nil | apply keeps_cons (by repeat (first | exact find_head | apply find_tail | apply find_skip)) (by first  | rfl) | exact keeps_self | exact keeps_left | apply keeps_app | apply keeps_mv | apply keeps_skip)))
                refine d_take (i := 0) hl rfl (by kernel_rfl) (by kernel_rfl) (by kernel_rfl) (by kernel_rfl) (by kernel_rfl) rfl trivial (fun _ _ _ h => h) hM (fun w hC => r_move hl rfl) rfl ?_
                clear hl a; intro a hl
                refine d_take (i := 1) hl rfl (by kernel_rfl) (by kernel_rfl) (by kernel_rfl) (by kernel_rfl) (by kernel_rfl) rfl trivial (fun _ _ _ h => h) hM (fun w hC => r_nilCheck hl rfl) rfl ?_
                clear hl a; intro a hl
                refine d_take (i := 2) hl rfl (by kernel_rfl) (by kernel_rfl) (by kernel_rfl) (by kernel_rfl) (by kernel_rfl) rfl trivial (fun _ _ _ h => h) hM (fun w hC => r_field hl rfl fld82_3) rfl ?_
                clear hl a; intro a hl
                refine d_take (i := 3) hl rfl (by kernel_rfl) (by kernel_rfl) (by kernel_rfl) (by kernel_rfl) (by kernel_rfl) rfl trivial (fun _ _ _ h => h) hM (fun w hC => r_loadC hl rfl one74 hC (by repeat (first | exact find_head | apply find_tail | apply find_skip)) (by first | exact mdc_ep _ | exact mdc_a _ | exact mdc_n _ | exact mdc_i _ | exact mdc_ph _ | exact mdc_fid _ | exact mdc_vd _ | exact mdc_up _ | exact mdc_q _ | exact mdc_rf _ | exact mdc_tk _ | exact mdc_au _ | exact mdc_fl _ | exact mdc_fu _ | exact mdc_kp _ | exact duc_ep _ | exact duc_a _ | exact duc_n _ | exact duc_i _ | exact duc_ph _ | exact duc_fid _ | exact duc_vd _ | rfl)) rfl ?_
                clear hl a; intro a hl
                rw [hrb] at hl
                refine d_take (i := 4) hl rfl (by kernel_rfl) (by kernel_rfl) (by kernel_rfl) (by kernel_rfl) (by kernel_rfl) rfl trivial (fun _ _ _ h => h) hM (fun w hC => r_field hl rfl fld141_0) rfl ?_
                clear hl a; intro a hl
                refine d_take (i := 5) hl rfl (by kernel_rfl) (by kernel_rfl) (by kernel_rfl) (by kernel_rfl) (by kernel_rfl) rfl trivial (fun _ _ _ h => h) hM (fun w hC => r_loadC hl rfl one36 hC (by repeat (first | exact find_head | apply find_tail | apply find_skip)) (by first | exact mdc_ep _ | exact mdc_a _ | exact mdc_n _ | exact mdc_i _ | exact mdc_ph _ | exact mdc_fid _ | exact mdc_vd _ | exact mdc_up _ | exact mdc_q _ | exact mdc_rf _ | exact mdc_tk _ | exact mdc_au _ | exact mdc_fl _ | exact mdc_fu _ | exact mdc_kp _ | exact duc_ep _ | exact duc_a _ | exact duc_n _ | exact duc_i _ | exact duc_ph _ | exact duc_fid _ | exact duc_vd _ | rfl)) rfl ?_
                clear hl a; intro a hl
                refine d_one (i := 6) (by kernel_rfl) rfl ?_
                try clear hM
                refine id (w_mapUpdG kd36 (keyInt Tryz.underlying36) Tryz.underlying74 hl hh trivial rfl rfl rfl (by repeat (first | exact find_head | apply find_tail | apply find_skip)) ?_)
                clear hh w; intro w hh
                refine d_step (fun h => absurd h (by decide)) ?_
                refine d_done (by kernel_rfl) ?_
                try clear hM
                have hl2 := hl.nil; clear hl; have hl := hl2; clear hl2
                refine then_normal ?_
                refine c_seq ?_
                refine c_region ?_
                refine wl (wl_val hl rfl trivial (r_assign hl rfl) ?_)
                clear hl a; intro a hl
                refine w_nil ?_
                have hl2 := hl.add (t := 2) (hl.nil) rfl; clear hl; have hl := hl2; clear hl2
                refine then_normal ?_
                refine wp_ret ?_
                refine then_ret ?_
                rw [← mdc_rE { m with q := qs, qp := p9, qc := m.qc - 1, qE := [(b1, C l1 141)] } [(rb, MD (kInt .u32) (dput rl x.id (.int .u8 9) rn).1 (dput rl x.id (.int .u8 9) rn).2)]] at hh
                simp only at hh
                refine f_ret1 (F' := (mb, C (MdV.c { m with q := qs, qp := p9, qc := m.qc - 1, qE := [(b1, C l1 141)], rE := [(rb, MD (kInt .u32) (dput rl x.id (.int .u8 9) rn).1 (dput rl x.id (.int .u8 9) rn).2)] }) 82) :: ((m.d.aE ++ (m.d.nE ++ (m.d.iE ++ [(m.d.vb, MO (kInt .u32) m.d.vd)]))) ++ ((b1, C l1 141) :: ((rb, MD (kInt .u32) (dput rl x.id (.int .u8 9) rn).1 (dput rl x.id (.int .u8 9) rn).2) :: (Z ++ G9))))) hl hh rfl rfl (by repeat (first | exact keeps_nil | apply keeps_cons (by repeat (first | exact find_head | apply find_tail | apply find_skip)) (by first  | rfl) | exact keeps_self | exact keeps_left | apply keeps_app | apply keeps_mv | apply keeps_skip)) ?_
                have hsx := (tk_0 (l := l) hI.on hp).trans (sx_r hqp (show ¬ vcP g x.cs = 0 by omega))
                rw [show vcP g (btP x).2 = 9 from hvc] at hsx
                refine MdS.nil (by rw [hsx]; exact hI.o) (MdO.grow (G := G9) (m' := { m with q := qs, qp := p9, qc := m.qc - 1, qE := [(b1, C l1 141)], rE := [(rb, MD (kInt .u32) (dput rl x.id (.int .u8 9) rn).1 (dput rl x.id (.int .u8 9) rn).2)] }) (by rw [hsx]; exact ⟨hm.dok.app, hm.d, hm.up, hRO, (fun z hz => (hm.qo z (by rw [hqx]; exact List.mem_cons_of_mem _ hz)).app), rfl, ⟨rb, _, _, hrb, rfl, ru_ok hrv x.id (by omega), dput_ky hrk, ru_pl hrf x.id 9⟩, hm.ys, hm.dn, hm.tk, hm.au, hm.fl, hm.fu, hm.kp, hm.fb⟩) (by simp only [MF, DuV.E_eq, hrE, List.append_assoc, List.cons_append, List.nil_append]))
              · intro hc4
                try simp only [decide_eq_true_eq, decide_eq_false_iff_not, Bool.not_eq_true', Bool.not_eq_false', Bool.not_eq_true, Bool.not_eq_false, Bool.and_eq_true, Bool.or_eq_true, Bool.and_eq_false_iff, Bool.or_eq_false_iff, Bool.not_not, ne_eq, Int.not_lt, Int.not_le, Decidable.not_not, beq_iff_eq, bne_iff_ne] at hc4
                have hap2 : apP (lastV g) x.cs = some n2.pl := by rw [hap, hc4]; rfl
                have hap3 : apP (lastV g) (btP x).2 = some n2.pl := hap2
                refine wp_skip ?_
                refine then_normal ?_
                refine c_seq ?_
                refine c_seq ?_
                refine c_draw [(mb, C (MdV.c { m with q := qs, qp := p9, qc := m.qc - 1, qE := [(b1, C l1 141)] }) 82), (k4, C n2.c 66)] [6, 7] mixed hh ?_
                clear hh w; intro w hh
                have hM : Mem [(mb, C (MdV.c { m with q := qs, qp := p9, qc := m.qc - 1, qE := [(b1, C l1 141)] }) 82), (k4, C n2.c 66)] w := (memK hh (by repeat (first | exact keeps_nil | apply keeps_cons (by repeat (first | exact find_head | apply find_tail | apply find_skip)) (by first  | rfl) | exact keeps_self | exact keeps_left | apply keeps_app | apply keeps_mv | apply keeps_skip)))
                refine d_take (i := 0) hl rfl (by kernel_rfl) (by kernel_rfl) (by kernel_rfl) (by kernel_rfl) (by kernel_rfl) rfl trivial (fun _ _ _ h => h) hM (fun w hC => r_loadCA hl rfl agg66 hC (by repeat (first | exact find_head | apply find_tail | apply find_skip)) (by first | exact NtV.whole hn2 | exact hyn) (by first | exact NtV.len hn2 | exact ntk_len _)) rfl ?_
                clear hl a; intro a hl
                refine d_take (i := 1) hl rfl (by kernel_rfl) (by kernel_rfl) (by kernel_rfl) (by kernel_rfl) (by kernel_rfl) rfl trivial (fun _ _ _ h => h) hM (fun w hC => r_move hl rfl) rfl ?_
                clear hl a; intro a hl
                refine d_take (i := 2) hl rfl (by kernel_rfl) (by kernel_rfl) (by kernel_rfl) (by kernel_rfl) (by kernel_rfl) rfl trivial (fun _ _ _ h => h) hM (fun w hC => r_nilCheck hl rfl) rfl ?_
                clear hl a; intro a hl
                refine d_take (i := 3) hl rfl (by kernel_rfl) (by kernel_rfl) (by kernel_rfl) (by kernel_rfl) (by kernel_rfl) rfl trivial (fun _ _ _ h => h) hM (fun w hC => r_field hl rfl fld82_0) rfl ?_
                clear hl a; intro a hl
                refine d_take (i := 4) hl rfl (by kernel_rfl) (by kernel_rfl) (by kernel_rfl) (by kernel_rfl) (by kernel_rfl) rfl trivial (fun _ _ _ h => h) hM (fun w hC => r_field hl rfl fld78_3) rfl ?_
                clear hl a; intro a hl
                refine d_take (i := 5) hl rfl (by kernel_rfl) (by kernel_rfl) (by kernel_rfl) (by kernel_rfl) (by kernel_rfl) rfl trivial (fun _ _ _ h => h) hM (fun w hC => r_loadC hl rfl one75 hC (by repeat (first | exact find_head | apply find_tail | apply find_skip)) (by first | exact mdc_ep _ | exact mdc_a _ | exact mdc_n _ | exact mdc_i _ | exact mdc_ph _ | exact mdc_fid _ | exact mdc_vd _ | exact mdc_up _ | exact mdc_q _ | exact mdc_rf _ | exact mdc_tk _ | exact mdc_au _ | exact mdc_fl _ | exact mdc_fu _ | exact mdc_kp _ | exact duc_ep _ | exact duc_a _ | exact duc_n _ | exact duc_i _ | exact duc_ph _ | exact duc_fid _ | exact duc_vd _ | rfl)) rfl ?_
                clear hl a; intro a hl
                refine d_one (i := 6) (by kernel_rfl) rfl ?_
                try clear hM
                refine id (w_call hl hh rfl trivial rfl cal58 rfl (check_spec (Z ++ G9) n2 hn2 m.d.is hm.dok.io m.d.ip m.d.ic m.d.iE hm.dok.i (by omega)) (by repeat (first | exact keeps_nil | apply keeps_cons (by repeat (first | exact find_head | apply find_tail | apply find_skip)) (by first  | rfl) | exact keeps_self | exact keeps_left | apply keeps_app | apply keeps_mv | apply keeps_skip)) ⟨(fun b o mz => (by rcases List.mem_append.1 mz with mz | mz; exact memK (E := Z) hh (by repeat (first | exact keeps_nil | apply keeps_cons (by repeat (first | exact find_head | apply find_tail | apply find_skip)) (by first  | rfl) | exact keeps_self | exact keeps_left | apply keeps_app | apply keeps_mv | apply keeps_skip)) b o mz; exact memK (E := G9) hh (by repeat (first | exact keeps_nil | apply keeps_cons (by repeat (first | exact find_head | apply find_tail | apply find_skip)) (by first  | rfl) | exact keeps_self | exact keeps_left | apply keeps_app | apply keeps_mv | apply keeps_skip)) b o mz)), memK (E := m.d.iE) hh (by repeat (first | exact keeps_nil | apply keeps_cons (by repeat (first | exact find_head | apply find_tail | apply find_skip)) (by first  | rfl) | exact keeps_self | exact keeps_left | apply keeps_app | apply keeps_mv | apply keeps_skip))⟩ ?_)
                clear hl hh a w; intro vc Fc a w hR hl hh
                obtain ⟨rfl, rfl⟩ := hR
                try simp only [List.cons_append, List.nil_append, List.append_assoc, List.append_nil] at hh
                refine d_step (fun h => absurd h (by decide)) ?_
                refine d_takeL (i := 7) hl rfl (by kernel_rfl) (by kernel_rfl) (by kernel_rfl) (by kernel_rfl) (by kernel_rfl) rfl trivial (fun _ _ _ h => h) (fun w => r_not hl rfl) rfl ?_
                clear hl a; intro a hl
                refine d_done (by kernel_rfl) ?_
                try clear hM
                have hl2 := hl.add (t := 0) (hl.add (t := 3) (hl.add (t := 4) (hl.add (t := 96) (hl.nil) rfl) rfl) rfl) rfl; clear hl; have hl := hl2; clear hl2
                refine then_normal ?_
                refine c_cond hl rfl ?_ ?_
                · intro hc5
                  try simp only [decide_eq_true_eq, decide_eq_false_iff_not, Bool.not_eq_true', Bool.not_eq_false', Bool.not_eq_true, Bool.not_eq_false, Bool.and_eq_true, Bool.or_eq_true, Bool.and_eq_false_iff, Bool.or_eq_false_iff, Bool.not_not, ne_eq, Int.not_lt, Int.not_le, Decidable.not_not, beq_iff_eq, bne_iff_ne] at hc5
                  have hvc := vc_10 (g := g) hap2 (by rw [← show m.d.is = g.st.is from congrArg StP.is hst]; simpa using hc5)
                  refine c_seq ?_
                  refine c_draw [(mb, C (MdV.c { m with q := qs, qp := p9, qc := m.qc - 1, qE := [(b1, C l1 141)] }) 82), (k3, C (btc x) 141)] [6] mixed hh ?_
                  clear hh w; intro w hh
                  have hM : Mem [(mb, C (MdV.c { m with q := qs, qp := p9, qc := m.qc - 1, qE := [(b1, C l1 141)] }) 82), (k3, C (btc x) 141)] w := (memK hh (by repeat (first | exact keeps_nil | apply keeps_cons (by repeat (first | exact find_head | apply find_tail | apply find_skip)) (by first  | rfl) | exact keeps_self | exact keeps_left | apply keeps_app | apply keeps_mv | apply keeps_skip)))
                  refine d_take (i := 0) hl rfl (by kernel_rfl) (by kernel_rfl) (by kernel_rfl) (by kernel_rfl) (by kernel_rfl) rfl trivial (fun _ _ _ h => h) hM (fun w hC => r_move hl rfl) rfl ?_
                  clear hl a; intro a hl
                  refine d_take (i := 1) hl rfl (by kernel_rfl) (by kernel_rfl) (by kernel_rfl) (by kernel_rfl) (by kernel_rfl) rfl trivial (fun _ _ _ h => h) hM (fun w hC => r_nilCheck hl rfl) rfl ?_
                  clear hl a; intro a hl
                  refine d_take (i := 2) hl rfl (by kernel_rfl) (by kernel_rfl) (by kernel_rfl) (by kernel_rfl) (by kernel_rfl) rfl trivial (fun _ _ _ h => h) hM (fun w hC => r_field hl rfl fld82_3) rfl ?_
                  clear hl a; intro a hl
                  refine d_take (i := 3) hl rfl (by kernel_rfl) (by kernel_rfl) (by kernel_rfl) (by kernel_rfl) (by kernel_rfl) rfl trivial (fun _ _ _ h => h) hM (fun w hC => r_loadC hl rfl one74 hC (by repeat (first | exact find_head | apply find_tail | apply find_skip)) (by first | exact mdc_ep _ | exact mdc_a _ | exact mdc_n _ | exact mdc_i _ | exact mdc_ph _ | exact mdc_fid _ | exact mdc_vd _ | exact mdc_up _ | exact mdc_q _ | exact mdc_rf _ | exact mdc_tk _ | exact mdc_au _ | exact mdc_fl _ | exact mdc_fu _ | exact mdc_kp _ | exact duc_ep _ | exact duc_a _ | exact duc_n _ | exact duc_i _ | exact duc_ph _ | exact duc_fid _ | exact duc_vd _ | rfl)) rfl ?_
                  clear hl a; intro a hl
                  rw [hrb] at hl
                  refine d_take (i := 4) hl rfl (by kernel_rfl) (by kernel_rfl) (by kernel_rfl) (by kernel_rfl) (by kernel_rfl) rfl trivial (fun _ _ _ h => h) hM (fun w hC => r_field hl rfl fld141_0) rfl ?_
                  clear hl a; intro a hl
                  refine d_take (i := 5) hl rfl (by kernel_rfl) (by kernel_rfl) (by kernel_rfl) (by kernel_rfl) (by kernel_rfl) rfl trivial (fun _ _ _ h => h) hM (fun w hC => r_loadC hl rfl one36 hC (by repeat (first | exact find_head | apply find_tail | apply find_skip)) (by first | exact mdc_ep _ | exact mdc_a _ | exact mdc_n _ | exact mdc_i _ | exact mdc_ph _ | exact mdc_fid _ | exact mdc_vd _ | exact mdc_up _ | exact mdc_q _ | exact mdc_rf _ | exact mdc_tk _ | exact mdc_au _ | exact mdc_fl _ | exact mdc_fu _ | exact mdc_kp _ | exact duc_ep _ | exact duc_a _ | exact duc_n _ | exact duc_i _ | exact duc_ph _ | exact duc_fid _ | exact duc_vd _ | rfl)) rfl ?_
                  clear hl a; intro a hl
                  refine d_one (i := 6) (by kernel_rfl) rfl ?_
                  try clear hM
                  refine id (w_mapUpdG kd36 (keyInt Tryz.underlying36) Tryz.underlying74 hl hh trivial rfl rfl rfl (by repeat (first | exact find_head | apply find_tail | apply find_skip)) ?_)
                  clear hh w; intro w hh
                  refine d_step (fun h => absurd h (by decide)) ?_
                  refine d_done (by kernel_rfl) ?_
                  try clear hM
                  have hl2 := hl.nil; clear hl; have hl := hl2; clear hl2
                  refine then_normal ?_
                  refine c_seq ?_
                  refine c_region ?_
                  refine wl (wl_val hl rfl trivial (r_assign hl rfl) ?_)
                  clear hl a; intro a hl
                  refine w_nil ?_
                  have hl2 := hl.add (t := 2) (hl.nil) rfl; clear hl; have hl := hl2; clear hl2
                  refine then_normal ?_
                  refine wp_ret ?_
                  refine then_ret ?_
                  rw [← mdc_rE { m with q := qs, qp := p9, qc := m.qc - 1, qE := [(b1, C l1 141)] } [(rb, MD (kInt .u32) (dput rl x.id (.int .u8 10) rn).1 (dput rl x.id (.int .u8 10) rn).2)]] at hh
                  simp only at hh
                  refine f_ret1 (F' := (mb, C (MdV.c { m with q := qs, qp := p9, qc := m.qc - 1, qE := [(b1, C l1 141)], rE := [(rb, MD (kInt .u32) (dput rl x.id (.int .u8 10) rn).1 (dput rl x.id (.int .u8 10) rn).2)] }) 82) :: ((m.d.aE ++ (m.d.nE ++ (m.d.iE ++ [(m.d.vb, MO (kInt .u32) m.d.vd)]))) ++ ((b1, C l1 141) :: ((rb, MD (kInt .u32) (dput rl x.id (.int .u8 10) rn).1 (dput rl x.id (.int .u8 10) rn).2) :: (Z ++ G9))))) hl hh rfl rfl (by repeat (first | exact keeps_nil | apply keeps_cons (by repeat (first | exact find_head | apply find_tail | apply find_skip)) (by first  | rfl) | exact keeps_self | exact keeps_left | apply keeps_app | apply keeps_mv | apply keeps_skip)) ?_
                  have hsx := (tk_0 (l := l) hI.on hp).trans (sx_r hqp (show ¬ vcP g x.cs = 0 by omega))
                  rw [show vcP g (btP x).2 = 10 from hvc] at hsx
                  refine MdS.nil (by rw [hsx]; exact hI.o) (MdO.grow (G := G9) (m' := { m with q := qs, qp := p9, qc := m.qc - 1, qE := [(b1, C l1 141)], rE := [(rb, MD (kInt .u32) (dput rl x.id (.int .u8 10) rn).1 (dput rl x.id (.int .u8 10) rn).2)] }) (by rw [hsx]; exact ⟨hm.dok.app, hm.d, hm.up, hRO, (fun z hz => (hm.qo z (by rw [hqx]; exact List.mem_cons_of_mem _ hz)).app), rfl, ⟨rb, _, _, hrb, rfl, ru_ok hrv x.id (by omega), dput_ky hrk, ru_pl hrf x.id 10⟩, hm.ys, hm.dn, hm.tk, hm.au, hm.fl, hm.fu, hm.kp, hm.fb⟩) (by simp only [MF, DuV.E_eq, hrE, List.append_assoc, List.cons_append, List.nil_append]))
                · intro hc5
                  try simp only [decide_eq_true_eq, decide_eq_false_iff_not, Bool.not_eq_true', Bool.not_eq_false', Bool.not_eq_true, Bool.not_eq_false, Bool.and_eq_true, Bool.or_eq_true, Bool.and_eq_false_iff, Bool.or_eq_false_iff, Bool.not_not, ne_eq, Int.not_lt, Int.not_le, Decidable.not_not, beq_iff_eq, bne_iff_ne] at hc5
                  have hv0 : vcP g (btP x).2 = 0 := vc_0 (g := g) hap2 (by rw [← show m.d.is = g.st.is from congrArg StP.is hst]; simpa using hc5)
                  refine wp_skip ?_
                  refine then_normal ?_
                  refine c_seq ?_
                  refine c_region ?_
                  refine wl (wl_val hl rfl trivial (r_move hl rfl) ?_)
                  clear hl a; intro a hl
                  refine wl (wl_val hl rfl trivial (r_nilCheck hl rfl) ?_)
                  clear hl a; intro a hl
                  refine wl (wl_val hl rfl trivial (r_field hl rfl fld82_0) ?_)
                  clear hl a; intro a hl
                  first | refine wl (w_loadA hl hh rfl trivial agg78 rfl (by repeat (first | exact find_head | apply find_tail | apply find_skip)) (by first | exact duc_all _ | exact mdc_d _) (by exact duc_len _) ?_) | refine wl (wl_val hl rfl trivial (r_loadA hl rfl agg78 (hh.mem _ _ (by repeat (first | exact hmem2 | exact List.mem_append_left _ hmem2 | apply List.mem_cons_of_mem | apply List.mem_append_right))) hyn (ntk_len _)) ?_)
                  clear hl a; intro a hl
                  refine wl (w_call hl hh rfl trivial rfl cal115 rfl (cpy2 (Z ++ G9) m.d hm.dok.app) (by repeat (first | exact keeps_nil | apply keeps_cons (by repeat (first | exact find_head | apply find_tail | apply find_skip)) (by first  | rfl) | exact keeps_self | exact keeps_left | apply keeps_app | apply keeps_mv | apply keeps_skip)) trivial ?_)
                  clear hl hh a w; intro vc Fc a w hR hl hh
                  obtain ⟨s1, hs1, hps1, rfl, rfl⟩ := hR
                  try simp only [List.cons_append, List.nil_append, List.append_assoc, List.append_nil] at hh
                  rw [DuV.E_eq s1] at hh
                  try simp only [List.append_assoc, List.cons_append, List.nil_append] at hh
                  have hs9 : s1.pl = g.st := hps1.trans hst
                  have hso : DuV.ok (Z ++ G9) { s1 with ph := 1, fid := x.id, fn := n2 } := du_fliok hs1 hxo.id (by omega) hn2
                  have hpl : DuV.pl { s1 with ph := 1, fid := x.id, fn := n2 } = stNx g (btP x).1 n2.pl := du_flipl hs9 x.id n2
                  refine wl (w_alloc hl hh rfl trivial zero78 rfl ?_)
                  clear hl hh a w; intro k6 a w hl hh
                  refine wl (w_storeA hl hh trivial agg78 rfl rfl (by repeat (first | exact find_head | apply find_tail | apply find_skip)) (by exact duc_len _) (by first | exact Nat.le_refl 71 | (rw [mdc_len]; omega)) (by exact duc_one _) (by first | exact setL_all (show 71 = _ from (duc_len _).symm) | exact mdc_sd _ _) ?_)
                  clear hh w; intro w hh
                  refine w_nil ?_
                  have hl2 := hl.add (t := 0) (hl.add (t := 3) (hl.add (t := 4) (hl.add (t := 6) (hl.nil) rfl) rfl) rfl) rfl; clear hl; have hl := hl2; clear hl2
                  refine then_normal ?_
                  refine c_seq ?_
                  refine c_draw [(k3, C (btc x) 141), (k4, C n2.c 66)] [7, 8] mixed hh ?_
                  clear hh w; intro w hh
                  have hM : Mem [(k3, C (btc x) 141), (k4, C n2.c 66)] w := (memK hh (by repeat (first | exact keeps_nil | apply keeps_cons (by repeat (first | exact find_head | apply find_tail | apply find_skip)) (by first  | rfl) | exact keeps_self | exact keeps_left | apply keeps_app | apply keeps_mv | apply keeps_skip)))
                  refine d_take (i := 0) hl rfl (by kernel_rfl) (by kernel_rfl) (by kernel_rfl) (by kernel_rfl) (by kernel_rfl) rfl trivial (fun _ _ _ h => h) hM (fun w hC => r_field hl rfl fld141_0) rfl ?_
                  clear hl a; intro a hl
                  refine d_take (i := 1) hl rfl (by kernel_rfl) (by kernel_rfl) (by kernel_rfl) (by kernel_rfl) (by kernel_rfl) rfl trivial (fun _ _ _ h => h) hM (fun w hC => r_loadC hl rfl one36 hC (by repeat (first | exact find_head | apply find_tail | apply find_skip)) (by first | exact mdc_ep _ | exact mdc_a _ | exact mdc_n _ | exact mdc_i _ | exact mdc_ph _ | exact mdc_fid _ | exact mdc_vd _ | exact mdc_up _ | exact mdc_q _ | exact mdc_rf _ | exact mdc_tk _ | exact mdc_au _ | exact mdc_fl _ | exact mdc_fu _ | exact mdc_kp _ | exact duc_ep _ | exact duc_a _ | exact duc_n _ | exact duc_i _ | exact duc_ph _ | exact duc_fid _ | exact duc_vd _ | rfl)) rfl ?_
                  clear hl a; intro a hl
                  refine d_take (i := 2) hl rfl (by kernel_rfl) (by kernel_rfl) (by kernel_rfl) (by kernel_rfl) (by kernel_rfl) rfl trivial (fun _ _ _ h => h) hM (fun w hC => r_loadCA hl rfl agg66 hC (by repeat (first | exact find_head | apply find_tail | apply find_skip)) (by first | exact NtV.whole hn2 | exact hyn) (by first | exact NtV.len hn2 | exact ntk_len _)) rfl ?_
                  clear hl a; intro a hl
                  rw [← ntk_eq hn2] at hl
                  refine d_take (i := 3) hl rfl (by kernel_rfl) (by kernel_rfl) (by kernel_rfl) (by kernel_rfl) (by kernel_rfl) rfl trivial (fun _ _ _ h => h) hM (fun w hC => r_field hl rfl fld78_4) rfl ?_
                  clear hl a; intro a hl
                  refine d_one (i := 4) (by kernel_rfl) rfl ?_
                  try clear hM
                  refine id (w_store hl hh trivial one76 rfl rfl (by repeat (first | exact find_head | apply find_tail | apply find_skip)) (by first | (simp; done) | (simp; omega) | (rw [mdc_len]; omega) | (rw [mdc_len]; simp; done) | (rw [duc_len]; omega) | (rw [duc_len]; simp; done)) (by first | rfl | assumption | (apply Row.one; assumption)) (by first | exact mdc_sup _ _ | exact mdc_stk _ _ | exact mdc_sau _ _ | exact mdc_sfl _ _ | exact mdc_sfu _ _ | exact mdc_skp _ _ | exact mdc_sq _ p9 qs (m.qc - 1) [(b1, C l1 141)] | exact duc_sph _ _ | exact duc_sfid _ _ | (simp only [setL, List.getElem?_cons_zero, List.getElem?_cons_succ, Value.cells, List.take_zero, List.take_succ_cons, List.take_nil, List.drop_zero, List.drop_succ_cons, List.drop_nil, List.length_cons, List.length_nil, List.cons_append, List.nil_append, List.append_nil, Nat.zero_add, Nat.add_zero, Nat.reduceAdd, Nat.reduceBEq, Nat.reduceEqDiff, Nat.ble, BEq.rfl, Bool.and_true, Bool.and_self, cond_true, beq_self_eq_true]; rfl)) ?_)
                  clear hh w; intro w hh
                  have hM : Mem [(k3, C (btc x) 141), (k4, C n2.c 66)] w := (memK hh (by repeat (first | exact keeps_nil | apply keeps_cons (by repeat (first | exact find_head | apply find_tail | apply find_skip)) (by first  | rfl) | exact keeps_self | exact keeps_left | apply keeps_app | apply keeps_mv | apply keeps_skip)))
                  refine d_step (fun _ => hM) ?_
                  refine d_take (i := 5) hl rfl (by kernel_rfl) (by kernel_rfl) (by kernel_rfl) (by kernel_rfl) (by kernel_rfl) rfl trivial (fun _ _ _ h => h) hM (fun w hC => r_field hl rfl fld78_5) rfl ?_
                  clear hl a; intro a hl
                  refine d_one (i := 6) (by kernel_rfl) rfl ?_
                  try clear hM
                  refine id (w_store hl hh trivial one36 rfl rfl (by repeat (first | exact find_head | apply find_tail | apply find_skip)) (by first | (simp; done) | (simp; omega) | (rw [mdc_len]; omega) | (rw [mdc_len]; simp; done) | (rw [duc_len]; omega) | (rw [duc_len]; simp; done)) (by first | rfl | assumption | (apply Row.one; assumption)) (by first | exact mdc_sup _ _ | exact mdc_stk _ _ | exact mdc_sau _ _ | exact mdc_sfl _ _ | exact mdc_sfu _ _ | exact mdc_skp _ _ | exact mdc_sq _ p9 qs (m.qc - 1) [(b1, C l1 141)] | exact duc_sph _ _ | exact duc_sfid _ _ | (simp only [setL, List.getElem?_cons_zero, List.getElem?_cons_succ, Value.cells, List.take_zero, List.take_succ_cons, List.take_nil, List.drop_zero, List.drop_succ_cons, List.drop_nil, List.length_cons, List.length_nil, List.cons_append, List.nil_append, List.append_nil, Nat.zero_add, Nat.add_zero, Nat.reduceAdd, Nat.reduceBEq, Nat.reduceEqDiff, Nat.ble, BEq.rfl, Bool.and_true, Bool.and_self, cond_true, beq_self_eq_true]; rfl)) ?_)
                  clear hh w; intro w hh
                  have hM : Mem [(k3, C (btc x) 141), (k4, C n2.c 66)] w := (memK hh (by repeat (first | exact keeps_nil | apply keeps_cons (by repeat (first | exact find_head | apply find_tail | apply find_skip)) (by first  | rfl) | exact keeps_self | exact keeps_left | apply keeps_app | apply keeps_mv | apply keeps_skip)))
                  refine d_step (fun _ => hM) ?_
                  refine d_takeL (i := 7) hl rfl (by kernel_rfl) (by kernel_rfl) (by kernel_rfl) (by kernel_rfl) (by kernel_rfl) rfl trivial (fun _ _ _ h => h) (fun w => r_field hl rfl fld78_6) rfl ?_
                  clear hl a; intro a hl
                  refine d_one (i := 8) (by kernel_rfl) rfl ?_
                  try clear hM
                  refine id (w_storeA hl hh trivial agg66 rfl rfl (by repeat (first | exact find_head | apply find_tail | apply find_skip)) (by first | exact NtV.len hn2 | exact ntk_len _) (by first | exact Nat.le_refl 64 | (rw [duc_len]; omega)) (by first | exact NtV.one | exact ntk_one _) (by first | exact setL_all (show 64 = _ from (NtV.len hn2).symm) | exact duc_sfn _ _) ?_)
                  clear hh w; intro w hh
                  refine d_step (fun h => absurd h (by decide)) ?_
                  refine d_done (by kernel_rfl) ?_
                  try clear hM
                  have hl2 := hl.add (t := 0) (hl.add (t := 3) (hl.add (t := 6) (hl.nil) rfl) rfl) rfl; clear hl; have hl := hl2; clear hl2
                  refine then_normal ?_
                  refine c_seq ?_
                  refine c_seq ?_
                  refine c_region ?_
                  refine wl (wl_val hl rfl trivial (r_move hl rfl) ?_)
                  clear hl a; intro a hl
                  first | refine wl (w_loadA hl hh rfl trivial agg78 rfl (by repeat (first | exact find_head | apply find_tail | apply find_skip)) (by first | exact duc_all _ | exact mdc_d _) (by exact duc_len _) ?_) | refine wl (wl_val hl rfl trivial (r_loadA hl rfl agg78 (hh.mem _ _ (by repeat (first | exact hmem2 | exact List.mem_append_left _ hmem2 | apply List.mem_cons_of_mem | apply List.mem_append_right))) hyn (ntk_len _)) ?_)
                  clear hl a; intro a hl
                  refine wl (w_call hl hh rfl trivial rfl cal116 rfl (write4 mb { m with q := qs, qp := p9, qc := m.qc - 1, qE := [(b1, C l1 141)] } { s1 with ph := 1, fid := x.id, fn := n2 } l hdn hm.fl hm.fu hm.kp hm.d hm.fb) (by repeat (first | exact keeps_nil | apply keeps_cons (by repeat (first | exact find_head | apply find_tail | apply find_skip)) (by first  | rfl) | exact keeps_self | exact keeps_left | apply keeps_app | apply keeps_mv | apply keeps_skip)) trivial ?_)
                  clear hl hh a w; intro vc Fc a w hR hl hh
                  rcases hR with ⟨f, hr, hf, rfl, rfl⟩ | ⟨hr, rfl, rfl⟩ | ⟨hr, rfl, rfl⟩ | ⟨hr, rfl, rfl⟩
                  ·
                    try simp only [List.cons_append, List.nil_append, List.append_nil] at hh
                    try simp only [List.append_assoc, List.cons_append, List.nil_append] at hh
                    refine w_nil ?_
                    have hl2 := hl.add (t := 0) (hl.add (t := 3) (hl.add (t := 116) (hl.nil) rfl) rfl) rfl; clear hl; have hl := hl2; clear hl2
                    refine then_normal ?_
                    refine wp_block ?_
                    refine c_seq ?_
                    refine c_region ?_
                    refine wl (wl_val hl rfl trivial (r_eql hl rfl rfl) ?_)
                    clear hl a; intro a hl
                    refine wl (wl_val hl rfl trivial (r_assign hl rfl) ?_)
                    clear hl a; intro a hl
                    refine w_nil ?_
                    have hl2 := hl.add (t := 0) (hl.add (t := 3) (hl.add (t := 116) (hl.add (t := 117) (hl.nil) rfl) rfl) rfl) rfl; clear hl; have hl := hl2; clear hl2
                    refine then_normal ?_
                    refine c_condF hl rfl ?_
                    refine c_seq ?_
                    refine c_region ?_
                    refine wl (wl_val hl rfl trivial (r_eql hl rfl rfl) ?_)
                    clear hl a; intro a hl
                    refine wl (wl_val hl rfl trivial (r_assign hl rfl) ?_)
                    clear hl a; intro a hl
                    refine w_nil ?_
                    have hl2 := hl.add (t := 0) (hl.add (t := 125) (hl.nil) rfl) rfl; clear hl; have hl := hl2; clear hl2
                    refine then_normal ?_
                    refine c_condF hl rfl ?_
                    refine wp_skip ?_
                    refine blk_normal ?_
                    refine then_normal ?_
                    refine c_seq ?_
                    refine c_region ?_
                    refine wl (wl_val hl rfl trivial (r_move hl rfl) ?_)
                    clear hl a; intro a hl
                    refine wl (wl_val hl rfl trivial (r_build hl rfl zero80 bld80 (by simp only [fillL, setL, List.getElem?_cons_zero, List.getElem?_cons_succ, Value.cells, List.take_zero, List.take_succ_cons, List.take_nil, List.drop_zero, List.drop_succ_cons, List.drop_nil, List.length_cons, List.length_nil, List.cons_append, List.nil_append, List.append_nil, Nat.zero_add, Nat.add_zero, Nat.reduceAdd, Nat.reduceBEq, Nat.reduceEqDiff, Nat.ble, BEq.rfl, Bool.and_true, Bool.and_self, cond_true, beq_self_eq_true]; rfl)) ?_)
                    clear hl a; intro a hl
                    refine wl (wl_val hl rfl trivial (r_nilCheck hl rfl) ?_)
                    clear hl a; intro a hl
                    refine wl (wl_val hl rfl trivial (r_field hl rfl fld82_4) ?_)
                    clear hl a; intro a hl
                    refine wl (w_storeA hl hh trivial agg80 rfl rfl (by repeat (first | exact find_head | apply find_tail | apply find_skip)) (by rfl) (by first | (rw [mdc_len]; omega) | exact Nat.le_refl 16) (by rfl) (by first | exact mdc_sy _ (fun _ => false) | exact mdc_sdf _ (fun _ => false) | exact setL_all rfl) ?_)
                    clear hh w; intro w hh
                    refine w_nil ?_
                    have hl2 := hl.add (t := 0) (hl.nil) rfl; clear hl; have hl := hl2; clear hl2
                    refine then_normal ?_
                    refine c_seq ?_
                    refine c_region ?_
                    refine wl (wl_val hl rfl trivial (r_move hl rfl) ?_)
                    clear hl a; intro a hl
                    refine wl (wl_val hl rfl trivial (r_build hl rfl zero80 bld80 (by simp only [fillL, setL, List.getElem?_cons_zero, List.getElem?_cons_succ, Value.cells, List.take_zero, List.take_succ_cons, List.take_nil, List.drop_zero, List.drop_succ_cons, List.drop_nil, List.length_cons, List.length_nil, List.cons_append, List.nil_append, List.append_nil, Nat.zero_add, Nat.add_zero, Nat.reduceAdd, Nat.reduceBEq, Nat.reduceEqDiff, Nat.ble, BEq.rfl, Bool.and_true, Bool.and_self, cond_true, beq_self_eq_true]; rfl)) ?_)
                    clear hl a; intro a hl
                    refine wl (wl_val hl rfl trivial (r_nilCheck hl rfl) ?_)
                    clear hl a; intro a hl
                    refine wl (wl_val hl rfl trivial (r_field hl rfl fld82_5) ?_)
                    clear hl a; intro a hl
                    refine wl (w_storeA hl hh trivial agg80 rfl rfl (by repeat (first | exact find_head | apply find_tail | apply find_skip)) (by rfl) (by first | (rw [mdc_len]; omega) | exact Nat.le_refl 16) (by rfl) (by first | exact mdc_sy _ (fun _ => false) | exact mdc_sdf _ (fun _ => false) | exact setL_all rfl) ?_)
                    clear hh w; intro w hh
                    refine w_nil ?_
                    have hl2 := hl.add (t := 0) (hl.nil) rfl; clear hl; have hl := hl2; clear hl2
                    refine then_normal ?_
                    refine c_seq ?_
                    refine c_region ?_
                    refine wl (wl_val hl rfl trivial (r_move hl rfl) ?_)
                    clear hl a; intro a hl
                    refine wl (wl_val hl rfl trivial (r_nilCheck hl rfl) ?_)
                    clear hl a; intro a hl
                    refine wl (wl_val hl rfl trivial (r_field hl rfl fld82_6) ?_)
                    clear hl a; intro a hl
                    refine wl (w_store hl hh trivial one3 rfl rfl (by repeat (first | exact find_head | apply find_tail | apply find_skip)) (by first | (simp; done) | (simp; omega) | (rw [mdc_len]; omega) | (rw [mdc_len]; simp; done) | (rw [duc_len]; omega) | (rw [duc_len]; simp; done)) (by first | rfl | assumption | (apply Row.one; assumption)) (by first | exact mdc_sup _ _ | exact mdc_stk _ _ | exact mdc_sau _ _ | exact mdc_sfl _ _ | exact mdc_sfu _ _ | exact mdc_skp _ _ | exact mdc_sq _ p9 qs (m.qc - 1) [(b1, C l1 141)] | exact duc_sph _ _ | exact duc_sfid _ _ | (simp only [setL, List.getElem?_cons_zero, List.getElem?_cons_succ, Value.cells, List.take_zero, List.take_succ_cons, List.take_nil, List.drop_zero, List.drop_succ_cons, List.drop_nil, List.length_cons, List.length_nil, List.cons_append, List.nil_append, List.append_nil, Nat.zero_add, Nat.add_zero, Nat.reduceAdd, Nat.reduceBEq, Nat.reduceEqDiff, Nat.ble, BEq.rfl, Bool.and_true, Bool.and_self, cond_true, beq_self_eq_true]; rfl)) ?_)
                    clear hh w; intro w hh
                    refine w_nil ?_
                    have hl2 := hl.add (t := 0) (hl.nil) rfl; clear hl; have hl := hl2; clear hl2
                    refine then_normal ?_
                    refine c_seq ?_
                    refine c_region ?_
                    refine wl (wl_val hl rfl trivial (r_move hl rfl) ?_)
                    clear hl a; intro a hl
                    refine wl (wl_val hl rfl trivial (r_nilCheck hl rfl) ?_)
                    clear hl a; intro a hl
                    refine wl (wl_val hl rfl trivial (r_field hl rfl fld82_7) ?_)
                    clear hl a; intro a hl
                    refine wl (w_store hl hh trivial one4 rfl rfl (by repeat (first | exact find_head | apply find_tail | apply find_skip)) (by first | (simp; done) | (simp; omega) | (rw [mdc_len]; omega) | (rw [mdc_len]; simp; done) | (rw [duc_len]; omega) | (rw [duc_len]; simp; done)) (by first | rfl | assumption | (apply Row.one; assumption)) (by first | exact mdc_sup _ _ | exact mdc_stk _ _ | exact mdc_sau _ _ | exact mdc_sfl _ _ | exact mdc_sfu _ _ | exact mdc_skp _ _ | exact mdc_sq _ p9 qs (m.qc - 1) [(b1, C l1 141)] | exact duc_sph _ _ | exact duc_sfid _ _ | (simp only [setL, List.getElem?_cons_zero, List.getElem?_cons_succ, Value.cells, List.take_zero, List.take_succ_cons, List.take_nil, List.drop_zero, List.drop_succ_cons, List.drop_nil, List.length_cons, List.length_nil, List.cons_append, List.nil_append, List.append_nil, Nat.zero_add, Nat.add_zero, Nat.reduceAdd, Nat.reduceBEq, Nat.reduceEqDiff, Nat.ble, BEq.rfl, Bool.and_true, Bool.and_self, cond_true, beq_self_eq_true]; rfl)) ?_)
                    clear hh w; intro w hh
                    refine w_nil ?_
                    have hl2 := hl.add (t := 0) (hl.nil) rfl; clear hl; have hl := hl2; clear hl2
                    refine then_normal ?_
                    refine c_seq ?_
                    refine c_region ?_
                    refine wl (wl_val hl rfl trivial (r_move hl rfl) ?_)
                    clear hl a; intro a hl
                    refine wl (w_call hl hh rfl trivial rfl cal117 rfl (due_spec (Z ++ G9) mb { m with q := qs, qp := p9, qc := m.qc - 1, qE := [(b1, C l1 141)], d := { s1 with ph := 1, fid := x.id, fn := n2 }, fu := f, yf := fun _ => false, df := fun _ => false, tk := 0, au := false } hso.fn hso.ph) (by repeat (first | exact keeps_nil | apply keeps_cons (by repeat (first | exact find_head | apply find_tail | apply find_skip)) (by first  | rfl) | exact keeps_self | exact keeps_left | apply keeps_app | apply keeps_mv | apply keeps_skip)) trivial ?_)
                    clear hl hh a w; intro vc Fc a w hR hl hh
                    obtain ⟨p6, c6, E6, hR6, rfl, rfl⟩ := hR
                    try simp only [List.cons_append, List.nil_append, List.append_assoc, List.append_nil] at hh
                    refine wl (wl_val hl rfl trivial (r_assign hl rfl) ?_)
                    clear hl a; intro a hl
                    refine w_nil ?_
                    have hl2 := hl.add (t := 2) (hl.nil) rfl; clear hl; have hl := hl2; clear hl2
                    refine then_normal ?_
                    refine wp_ret ?_
                    refine f_ret1 (F' := E6 ++ ((mb, C (MdV.c { m with q := qs, qp := p9, qc := m.qc - 1, qE := [(b1, C l1 141)], d := { s1 with ph := 1, fid := x.id, fn := n2 }, fu := f, yf := fun _ => false, df := fun _ => false, tk := 0, au := false }) 82) :: ((s1.aE ++ (s1.nE ++ (s1.iE ++ [(s1.vb, MO (kInt .u32) s1.vd)]))) ++ ((b1, C l1 141) :: ((rb, MD (kInt .u32) rl rn) :: (Z ++ G9)))))) hl hh rfl rfl (by repeat (first | exact keeps_nil | apply keeps_cons (by repeat (first | exact find_head | apply find_tail | apply find_skip)) (by first  | rfl) | exact keeps_self | exact keeps_left | apply keeps_app | apply keeps_mv | apply keeps_skip)) ?_
                    have hsx := (tk_0 (l := l) hI.on hp).trans (sx_y hqp hv0 hap3 (show (admitP l (stNx g (btP x).1 n2.pl)).2 = 0 by rw [← hpl, hr]))
                    rw [← hpl, hr] at hsx
                    have hdu : dueM { m with q := qs, qp := p9, qc := m.qc - 1, qE := [(b1, C l1 141)], d := { s1 with ph := 1, fid := x.id, fn := n2 }, fu := f, yf := fun _ => false, df := fun _ => false, tk := 0, au := false } = pushP { g with q := qs.map btP, st := stNx g (btP x).1 n2.pl, sl := slF g.sl n2.pl 16, ys := 0, dn := 0, tk := 0, au := false } := due_push hpl (fun d hd => (bit0 d hd).symm) (fun d hd => (bit0 d hd).symm) rfl (fun _ d hd => slF_16 hd)
                    exact MdS.ofG (G := G9) (m' := { m with q := qs, qp := p9, qc := m.qc - 1, qE := [(b1, C l1 141)], d := { s1 with ph := 1, fid := x.id, fn := n2 }, fu := f, yf := fun _ => false, df := fun _ => false, tk := 0, au := false }) (by rw [hsx, hdu, hI.o, hpl]; rfl) hR6 (due_sz hso.fn) (by rw [hsx]; exact ⟨hso, rfl, hm.up, hRO, (fun z hz => (hm.qo z (by rw [hqx]; exact List.mem_cons_of_mem _ hz)).app), rfl, hm.r, (fun d hd => (bit0 d hd).symm), (fun d hd => (bit0 d hd).symm), rfl, rfl, hm.fl, rfl, hm.kp, hf⟩) (by simp only [MF, DuV.E_eq, hrE, List.append_assoc, List.cons_append, List.nil_append])
                  ·
                    try simp only [List.cons_append, List.nil_append, List.append_nil] at hh
                    try simp only [List.append_assoc, List.cons_append, List.nil_append] at hh
                    refine w_nil ?_
                    have hl2 := hl.add (t := 0) (hl.add (t := 3) (hl.add (t := 116) (hl.nil) rfl) rfl) rfl; clear hl; have hl := hl2; clear hl2
                    refine then_normal ?_
                    refine wp_block ?_
                    refine c_seq ?_
                    refine c_region ?_
                    refine wl (wl_val hl rfl trivial (r_eql hl rfl rfl) ?_)
                    clear hl a; intro a hl
                    refine wl (wl_val hl rfl trivial (r_assign hl rfl) ?_)
                    clear hl a; intro a hl
                    refine w_nil ?_
                    have hl2 := hl.add (t := 0) (hl.add (t := 3) (hl.add (t := 116) (hl.add (t := 117) (hl.nil) rfl) rfl) rfl) rfl; clear hl; have hl := hl2; clear hl2
                    refine then_normal ?_
                    refine c_condT hl rfl ?_
                    refine c_seq ?_
                    refine c_draw [(mb, C (MdV.c { m with q := qs, qp := p9, qc := m.qc - 1, qE := [(b1, C l1 141)] }) 82), (k3, C (btc x) 141)] [6] mixed hh ?_
                    clear hh w; intro w hh
                    have hM : Mem [(mb, C (MdV.c { m with q := qs, qp := p9, qc := m.qc - 1, qE := [(b1, C l1 141)] }) 82), (k3, C (btc x) 141)] w := (memK hh (by repeat (first | exact keeps_nil | apply keeps_cons (by repeat (first | exact find_head | apply find_tail | apply find_skip)) (by first  | rfl) | exact keeps_self | exact keeps_left | apply keeps_app | apply keeps_mv | apply keeps_skip)))
                    refine d_take (i := 0) hl rfl (by kernel_rfl) (by kernel_rfl) (by kernel_rfl) (by kernel_rfl) (by kernel_rfl) rfl trivial (fun _ _ _ h => h) hM (fun w hC => r_move hl rfl) rfl ?_
                    clear hl a; intro a hl
                    refine d_take (i := 1) hl rfl (by kernel_rfl) (by kernel_rfl) (by kernel_rfl) (by kernel_rfl) (by kernel_rfl) rfl trivial (fun _ _ _ h => h) hM (fun w hC => r_nilCheck hl rfl) rfl ?_
                    clear hl a; intro a hl
                    refine d_take (i := 2) hl rfl (by kernel_rfl) (by kernel_rfl) (by kernel_rfl) (by kernel_rfl) (by kernel_rfl) rfl trivial (fun _ _ _ h => h) hM (fun w hC => r_field hl rfl fld82_3) rfl ?_
                    clear hl a; intro a hl
                    refine d_take (i := 3) hl rfl (by kernel_rfl) (by kernel_rfl) (by kernel_rfl) (by kernel_rfl) (by kernel_rfl) rfl trivial (fun _ _ _ h => h) hM (fun w hC => r_loadC hl rfl one74 hC (by repeat (first | exact find_head | apply find_tail | apply find_skip)) (by first | exact mdc_ep _ | exact mdc_a _ | exact mdc_n _ | exact mdc_i _ | exact mdc_ph _ | exact mdc_fid _ | exact mdc_vd _ | exact mdc_up _ | exact mdc_q _ | exact mdc_rf _ | exact mdc_tk _ | exact mdc_au _ | exact mdc_fl _ | exact mdc_fu _ | exact mdc_kp _ | exact duc_ep _ | exact duc_a _ | exact duc_n _ | exact duc_i _ | exact duc_ph _ | exact duc_fid _ | exact duc_vd _ | rfl)) rfl ?_
                    clear hl a; intro a hl
                    rw [hrb] at hl
                    refine d_take (i := 4) hl rfl (by kernel_rfl) (by kernel_rfl) (by kernel_rfl) (by kernel_rfl) (by kernel_rfl) rfl trivial (fun _ _ _ h => h) hM (fun w hC => r_field hl rfl fld141_0) rfl ?_
                    clear hl a; intro a hl
                    refine d_take (i := 5) hl rfl (by kernel_rfl) (by kernel_rfl) (by kernel_rfl) (by kernel_rfl) (by kernel_rfl) rfl trivial (fun _ _ _ h => h) hM (fun w hC => r_loadC hl rfl one36 hC (by repeat (first | exact find_head | apply find_tail | apply find_skip)) (by first | exact mdc_ep _ | exact mdc_a _ | exact mdc_n _ | exact mdc_i _ | exact mdc_ph _ | exact mdc_fid _ | exact mdc_vd _ | exact mdc_up _ | exact mdc_q _ | exact mdc_rf _ | exact mdc_tk _ | exact mdc_au _ | exact mdc_fl _ | exact mdc_fu _ | exact mdc_kp _ | exact duc_ep _ | exact duc_a _ | exact duc_n _ | exact duc_i _ | exact duc_ph _ | exact duc_fid _ | exact duc_vd _ | rfl)) rfl ?_
                    clear hl a; intro a hl
                    refine d_one (i := 6) (by kernel_rfl) rfl ?_
                    try clear hM
                    refine id (w_mapUpdG kd36 (keyInt Tryz.underlying36) Tryz.underlying74 hl hh trivial rfl rfl rfl (by repeat (first | exact find_head | apply find_tail | apply find_skip)) ?_)
                    clear hh w; intro w hh
                    refine d_step (fun h => absurd h (by decide)) ?_
                    refine d_done (by kernel_rfl) ?_
                    try clear hM
                    have hl2 := hl.nil; clear hl; have hl := hl2; clear hl2
                    refine then_normal ?_
                    refine c_seq ?_
                    refine c_region ?_
                    refine wl (wl_val hl rfl trivial (r_assign hl rfl) ?_)
                    clear hl a; intro a hl
                    refine w_nil ?_
                    have hl2 := hl.add (t := 2) (hl.nil) rfl; clear hl; have hl := hl2; clear hl2
                    refine then_normal ?_
                    refine wp_ret ?_
                    refine blk_ret ?_
                    refine then_ret ?_
                    rw [← mdc_rE { m with q := qs, qp := p9, qc := m.qc - 1, qE := [(b1, C l1 141)] } [(rb, MD (kInt .u32) (dput rl x.id (.int .u8 11) rn).1 (dput rl x.id (.int .u8 11) rn).2)]] at hh
                    simp only at hh
                    refine f_ret1 (F' := (mb, C (MdV.c { m with q := qs, qp := p9, qc := m.qc - 1, qE := [(b1, C l1 141)], rE := [(rb, MD (kInt .u32) (dput rl x.id (.int .u8 11) rn).1 (dput rl x.id (.int .u8 11) rn).2)] }) 82) :: ((m.d.aE ++ (m.d.nE ++ (m.d.iE ++ [(m.d.vb, MO (kInt .u32) m.d.vd)]))) ++ ((b1, C l1 141) :: ((rb, MD (kInt .u32) (dput rl x.id (.int .u8 11) rn).1 (dput rl x.id (.int .u8 11) rn).2) :: (Z ++ G9))))) hl hh rfl rfl (by repeat (first | exact keeps_nil | apply keeps_cons (by repeat (first | exact find_head | apply find_tail | apply find_skip)) (by first  | rfl) | exact keeps_self | exact keeps_left | apply keeps_app | apply keeps_mv | apply keeps_skip)) ?_
                    have hsx := (tk_0 (l := l) hI.on hp).trans (sx_1 hqp hv0 hap3 (show (admitP l (stNx g (btP x).1 n2.pl)).2 = 1 by rw [← hpl, hr]))
                    rw [← hpl, hr] at hsx
                    refine MdS.nil (by rw [hsx]; exact hI.o) (MdO.grow (G := G9) (m' := { m with q := qs, qp := p9, qc := m.qc - 1, qE := [(b1, C l1 141)], rE := [(rb, MD (kInt .u32) (dput rl x.id (.int .u8 11) rn).1 (dput rl x.id (.int .u8 11) rn).2)] }) (by rw [hsx]; exact ⟨hm.dok.app, hm.d, hm.up, hRO, (fun z hz => (hm.qo z (by rw [hqx]; exact List.mem_cons_of_mem _ hz)).app), rfl, ⟨rb, _, _, hrb, rfl, ru_ok hrv x.id (by omega), dput_ky hrk, ru_pl hrf x.id 11⟩, hm.ys, hm.dn, hm.tk, hm.au, hm.fl, hm.fu, hm.kp, hm.fb⟩) (by simp only [MF, DuV.E_eq, hrE, List.append_assoc, List.cons_append, List.nil_append]))
                  ·
                    try simp only [List.cons_append, List.nil_append, List.append_nil] at hh
                    try simp only [List.append_assoc, List.cons_append, List.nil_append] at hh
                    refine w_nil ?_
                    have hl2 := hl.add (t := 0) (hl.add (t := 3) (hl.add (t := 116) (hl.nil) rfl) rfl) rfl; clear hl; have hl := hl2; clear hl2
                    refine then_normal ?_
                    refine wp_block ?_
                    refine c_seq ?_
                    refine c_region ?_
                    refine wl (wl_val hl rfl trivial (r_eql hl rfl rfl) ?_)
                    clear hl a; intro a hl
                    refine wl (wl_val hl rfl trivial (r_assign hl rfl) ?_)
                    clear hl a; intro a hl
                    refine w_nil ?_
                    have hl2 := hl.add (t := 0) (hl.add (t := 3) (hl.add (t := 116) (hl.add (t := 117) (hl.nil) rfl) rfl) rfl) rfl; clear hl; have hl := hl2; clear hl2
                    refine then_normal ?_
                    refine c_condF hl rfl ?_
                    refine c_seq ?_
                    refine c_region ?_
                    refine wl (wl_val hl rfl trivial (r_eql hl rfl rfl) ?_)
                    clear hl a; intro a hl
                    refine wl (wl_val hl rfl trivial (r_assign hl rfl) ?_)
                    clear hl a; intro a hl
                    refine w_nil ?_
                    have hl2 := hl.add (t := 0) (hl.add (t := 125) (hl.nil) rfl) rfl; clear hl; have hl := hl2; clear hl2
                    refine then_normal ?_
                    refine c_condT hl rfl ?_
                    refine c_seq ?_
                    refine c_region ?_
                    refine wl (wl_val hl rfl trivial (r_assign hl rfl) ?_)
                    clear hl a; intro a hl
                    refine w_nil ?_
                    have hl2 := hl.add (t := 2) (hl.nil) rfl; clear hl; have hl := hl2; clear hl2
                    refine then_normal ?_
                    refine wp_ret ?_
                    refine blk_ret ?_
                    refine then_ret ?_
                    first
                    | (have hsx := (tk_0 (l := l) hI.on hp).trans (sx_2 hqp hv0 hap3 (show (admitP l (stNx g (btP x).1 n2.pl)).2 = 2 by rw [← hpl, hr])); rw [← hpl, hr] at hsx; refine f_ret1 (F' := (mb, C (MdV.c { m with q := qs, qp := p9, qc := m.qc - 1, qE := [(b1, C l1 141)], d := { s1 with ph := 1, fid := x.id, fn := n2 }, fu := 0, up := false }) 82) :: ((s1.aE ++ (s1.nE ++ (s1.iE ++ [(s1.vb, MO (kInt .u32) s1.vd)]))) ++ ((b1, C l1 141) :: ((rb, MD (kInt .u32) rl rn) :: (Z ++ G9))))) hl hh rfl rfl (by repeat (first | exact keeps_nil | apply keeps_cons (by repeat (first | exact find_head | apply find_tail | apply find_skip)) (by first  | rfl) | exact keeps_self | exact keeps_left | apply keeps_app | apply keeps_mv | apply keeps_skip)) ?_; exact MdS.nil (by rw [hsx]; rfl) (MdO.grow (G := G9) (m' := { m with q := qs, qp := p9, qc := m.qc - 1, qE := [(b1, C l1 141)], d := { s1 with ph := 1, fid := x.id, fn := n2 }, fu := 0, up := false }) (by rw [hsx]; exact ⟨hso, rfl, rfl, hRO, (fun z hz => (hm.qo z (by rw [hqx]; exact List.mem_cons_of_mem _ hz)).app), rfl, hm.r, hm.ys, hm.dn, hm.tk, hm.au, hm.fl, rfl, hm.kp, (by simp)⟩) (by simp only [MF, DuV.E_eq, hrE, List.append_assoc, List.cons_append, List.nil_append])))
                    | (have hsx := (tk_0 (l := l) hI.on hp).trans (sx_2 hqp hv0 hap3 (show (admitP l (stNx g (btP x).1 n2.pl)).2 = 2 by rw [← hpl, hr])); rw [← hpl, hr] at hsx; refine f_ret1 (F' := (mb, C (MdV.c { m with q := qs, qp := p9, qc := m.qc - 1, qE := [(b1, C l1 141)], fu := 0, up := false }) 82) :: ((m.d.aE ++ (m.d.nE ++ (m.d.iE ++ [(m.d.vb, MO (kInt .u32) m.d.vd)]))) ++ ((b1, C l1 141) :: ((rb, MD (kInt .u32) rl rn) :: (Z ++ G9))))) hl hh rfl rfl (by repeat (first | exact keeps_nil | apply keeps_cons (by repeat (first | exact find_head | apply find_tail | apply find_skip)) (by first  | rfl) | exact keeps_self | exact keeps_left | apply keeps_app | apply keeps_mv | apply keeps_skip)) ?_; exact MdS.nil (by rw [hsx]; rfl) (MdO.grow (G := G9) (m' := { m with q := qs, qp := p9, qc := m.qc - 1, qE := [(b1, C l1 141)], fu := 0, up := false }) (by rw [hsx]; exact ⟨hm.dok.app, hm.d, rfl, hRO, (fun z hz => (hm.qo z (by rw [hqx]; exact List.mem_cons_of_mem _ hz)).app), rfl, hm.r, hm.ys, hm.dn, hm.tk, hm.au, hm.fl, rfl, hm.kp, (by simp)⟩) (by simp only [MF, DuV.E_eq, hrE, List.append_assoc, List.cons_append, List.nil_append])))
                  ·
                    try simp only [List.cons_append, List.nil_append, List.append_nil] at hh
                    try simp only [List.append_assoc, List.cons_append, List.nil_append] at hh
                    refine w_nil ?_
                    have hl2 := hl.add (t := 0) (hl.add (t := 3) (hl.add (t := 116) (hl.nil) rfl) rfl) rfl; clear hl; have hl := hl2; clear hl2
                    refine then_normal ?_
                    refine wp_block ?_
                    refine c_seq ?_
                    refine c_region ?_
                    refine wl (wl_val hl rfl trivial (r_eql hl rfl rfl) ?_)
                    clear hl a; intro a hl
                    refine wl (wl_val hl rfl trivial (r_assign hl rfl) ?_)
                    clear hl a; intro a hl
                    refine w_nil ?_
                    have hl2 := hl.add (t := 0) (hl.add (t := 3) (hl.add (t := 116) (hl.add (t := 117) (hl.nil) rfl) rfl) rfl) rfl; clear hl; have hl := hl2; clear hl2
                    refine then_normal ?_
                    refine c_condF hl rfl ?_
                    refine c_seq ?_
                    refine c_region ?_
                    refine wl (wl_val hl rfl trivial (r_eql hl rfl rfl) ?_)
                    clear hl a; intro a hl
                    refine wl (wl_val hl rfl trivial (r_assign hl rfl) ?_)
                    clear hl a; intro a hl
                    refine w_nil ?_
                    have hl2 := hl.add (t := 0) (hl.add (t := 125) (hl.nil) rfl) rfl; clear hl; have hl := hl2; clear hl2
                    refine then_normal ?_
                    refine c_condT hl rfl ?_
                    refine c_seq ?_
                    refine c_region ?_
                    refine wl (wl_val hl rfl trivial (r_assign hl rfl) ?_)
                    clear hl a; intro a hl
                    refine w_nil ?_
                    have hl2 := hl.add (t := 2) (hl.nil) rfl; clear hl; have hl := hl2; clear hl2
                    refine then_normal ?_
                    refine wp_ret ?_
                    refine blk_ret ?_
                    refine then_ret ?_
                    first
                    | (have hsx := (tk_0 (l := l) hI.on hp).trans (sx_2 hqp hv0 hap3 (show (admitP l (stNx g (btP x).1 n2.pl)).2 = 2 by rw [← hpl, hr])); rw [← hpl, hr] at hsx; refine f_ret1 (F' := (mb, C (MdV.c { m with q := qs, qp := p9, qc := m.qc - 1, qE := [(b1, C l1 141)], d := { s1 with ph := 1, fid := x.id, fn := n2 }, fu := 0, up := false }) 82) :: ((s1.aE ++ (s1.nE ++ (s1.iE ++ [(s1.vb, MO (kInt .u32) s1.vd)]))) ++ ((b1, C l1 141) :: ((rb, MD (kInt .u32) rl rn) :: (Z ++ G9))))) hl hh rfl rfl (by repeat (first | exact keeps_nil | apply keeps_cons (by repeat (first | exact find_head | apply find_tail | apply find_skip)) (by first  | rfl) | exact keeps_self | exact keeps_left | apply keeps_app | apply keeps_mv | apply keeps_skip)) ?_; exact MdS.nil (by rw [hsx]; rfl) (MdO.grow (G := G9) (m' := { m with q := qs, qp := p9, qc := m.qc - 1, qE := [(b1, C l1 141)], d := { s1 with ph := 1, fid := x.id, fn := n2 }, fu := 0, up := false }) (by rw [hsx]; exact ⟨hso, rfl, rfl, hRO, (fun z hz => (hm.qo z (by rw [hqx]; exact List.mem_cons_of_mem _ hz)).app), rfl, hm.r, hm.ys, hm.dn, hm.tk, hm.au, hm.fl, rfl, hm.kp, (by simp)⟩) (by simp only [MF, DuV.E_eq, hrE, List.append_assoc, List.cons_append, List.nil_append])))
                    | (have hsx := (tk_0 (l := l) hI.on hp).trans (sx_2 hqp hv0 hap3 (show (admitP l (stNx g (btP x).1 n2.pl)).2 = 2 by rw [← hpl, hr])); rw [← hpl, hr] at hsx; refine f_ret1 (F' := (mb, C (MdV.c { m with q := qs, qp := p9, qc := m.qc - 1, qE := [(b1, C l1 141)], fu := 0, up := false }) 82) :: ((m.d.aE ++ (m.d.nE ++ (m.d.iE ++ [(m.d.vb, MO (kInt .u32) m.d.vd)]))) ++ ((b1, C l1 141) :: ((rb, MD (kInt .u32) rl rn) :: (Z ++ G9))))) hl hh rfl rfl (by repeat (first | exact keeps_nil | apply keeps_cons (by repeat (first | exact find_head | apply find_tail | apply find_skip)) (by first  | rfl) | exact keeps_self | exact keeps_left | apply keeps_app | apply keeps_mv | apply keeps_skip)) ?_; exact MdS.nil (by rw [hsx]; rfl) (MdO.grow (G := G9) (m' := { m with q := qs, qp := p9, qc := m.qc - 1, qE := [(b1, C l1 141)], fu := 0, up := false }) (by rw [hsx]; exact ⟨hm.dok.app, hm.d, rfl, hRO, (fun z hz => (hm.qo z (by rw [hqx]; exact List.mem_cons_of_mem _ hz)).app), rfl, hm.r, hm.ys, hm.dn, hm.tk, hm.au, hm.fl, rfl, hm.kp, (by simp)⟩) (by simp only [MF, DuV.E_eq, hrE, List.append_assoc, List.cons_append, List.nil_append])))
            ·
              try clear hM
              refine id (w_alloc hl hh rfl trivial zero66 rfl ?_)
              clear hl hh a w; intro k4 a w hl hh
              have hM : Mem [(mb, C (MdV.c { m with q := qs, qp := p9, qc := m.qc - 1, qE := [(b1, C l1 141)] }) 82), (k3, C (btc x) 141)] w := (memK hh (by repeat (first | exact keeps_nil | apply keeps_cons (by repeat (first | exact find_head | apply find_tail | apply find_skip)) (by first  | rfl) | exact keeps_self | exact keeps_left | apply keeps_app | apply keeps_mv | apply keeps_skip)))
              refine d_step (fun _ => hM) ?_
              refine d_one (i := 15) (by kernel_rfl) rfl ?_
              try clear hM
              refine id (w_call hl hh rfl trivial rfl cal66 rfl (apply2 Z y.n hyo.1 x hxo) (by repeat (first | exact keeps_nil | apply keeps_cons (by repeat (first | exact find_head | apply find_tail | apply find_skip)) (by first  | rfl) | exact keeps_self | exact keeps_left | apply keeps_app | apply keeps_mv | apply keeps_skip)) (memK hh (by repeat (first | exact keeps_nil | apply keeps_cons (by repeat (first | exact find_head | apply find_tail | apply find_skip)) (by first  | rfl) | exact keeps_self | exact keeps_left | apply keeps_app | apply keeps_mv | apply keeps_skip))) ?_)
              clear hl hh a w; intro vc Fc a w hR hl hh
              obtain ⟨n2, bo, hn2, hap, rfl⟩ := hR
              try simp only [List.cons_append, List.nil_append, List.append_assoc, List.append_nil] at hh
              rw [← hlast] at hap
              generalize Fc = G9 at hh hn2
              replace hh := hh.comm
              simp only [List.cons_append, List.nil_append, List.append_nil, List.append_assoc] at hh
              have hM : Mem [(mb, C (MdV.c { m with q := qs, qp := p9, qc := m.qc - 1, qE := [(b1, C l1 141)] }) 82), (k3, C (btc x) 141)] w := (memK hh (by repeat (first | exact keeps_nil | apply keeps_cons (by repeat (first | exact find_head | apply find_tail | apply find_skip)) (by first  | rfl) | exact keeps_self | exact keeps_left | apply keeps_app | apply keeps_mv | apply keeps_skip)))
              refine d_step (fun _ => hM) ?_
              refine d_take (i := 16) hl rfl (by kernel_rfl) (by kernel_rfl) (by kernel_rfl) (by kernel_rfl) (by kernel_rfl) rfl trivial (fun _ _ _ h => h) hM (fun w hC => r_move hl rfl) rfl ?_
              clear hl a; intro a hl
              refine d_take (i := 17) hl rfl (by kernel_rfl) (by kernel_rfl) (by kernel_rfl) (by kernel_rfl) (by kernel_rfl) rfl trivial (fun _ _ _ h => h) hM (fun w hC => r_extract hl rfl (by simp only [List.getElem?_toArray, List.getElem?_cons_zero, List.getElem?_cons_succ]; rfl)) rfl ?_
              clear hl a; intro a hl
              refine d_take (i := 18) hl rfl (by kernel_rfl) (by kernel_rfl) (by kernel_rfl) (by kernel_rfl) (by kernel_rfl) rfl trivial (fun _ _ _ h => h) hM (fun w hC => r_extract hl rfl (by simp only [List.getElem?_toArray, List.getElem?_cons_zero, List.getElem?_cons_succ]; rfl)) rfl ?_
              clear hl a; intro a hl
              refine d_one (i := 20) (by kernel_rfl) rfl ?_
              try clear hM
              refine id (w_storeA hl hh trivial agg66 rfl rfl (by repeat (first | exact find_head | apply find_tail | apply find_skip)) (by first | exact NtV.len hn2 | exact ntk_len _) (by first | exact Nat.le_refl 64 | (rw [duc_len]; omega)) (by first | exact NtV.one | exact ntk_one _) (by first | exact setL_all (show 64 = _ from (NtV.len hn2).symm) | exact duc_sfn _ _) ?_)
              clear hh w; intro w hh
              have hM : Mem [(mb, C (MdV.c { m with q := qs, qp := p9, qc := m.qc - 1, qE := [(b1, C l1 141)] }) 82), (k3, C (btc x) 141)] w := (memK hh (by repeat (first | exact keeps_nil | apply keeps_cons (by repeat (first | exact find_head | apply find_tail | apply find_skip)) (by first  | rfl) | exact keeps_self | exact keeps_left | apply keeps_app | apply keeps_mv | apply keeps_skip)))
              refine d_step (fun _ => hM) ?_
              refine d_takeL (i := 21) hl rfl (by kernel_rfl) (by kernel_rfl) (by kernel_rfl) (by kernel_rfl) (by kernel_rfl) rfl trivial (fun _ _ _ h => h) (fun w => r_assign hl rfl) rfl ?_
              clear hl a; intro a hl
              refine d_done (by kernel_rfl) ?_
              try clear hM
              have hl2 := hl.add (t := 0) (hl.add (t := 3) (hl.add (t := 4) (hl.add (t := 5) (hl.nil) rfl) rfl) rfl) rfl; clear hl; have hl := hl2; clear hl2
              refine then_normal ?_
              refine c_seq ?_
              refine c_seq ?_
              refine c_region ?_
              refine wl (wl_val hl rfl trivial (r_move hl rfl) ?_)
              clear hl a; intro a hl
              refine wl (wl_val hl rfl trivial (r_not hl rfl) ?_)
              clear hl a; intro a hl
              refine w_nil ?_
              have hl2 := hl.add (t := 0) (hl.add (t := 3) (hl.add (t := 4) (hl.add (t := 82) (hl.nil) rfl) rfl) rfl) rfl; clear hl; have hl := hl2; clear hl2
              refine then_normal ?_
              refine c_cond hl rfl ?_ ?_
              · intro hc4
                try simp only [decide_eq_true_eq, decide_eq_false_iff_not, Bool.not_eq_true', Bool.not_eq_false', Bool.not_eq_true, Bool.not_eq_false, Bool.and_eq_true, Bool.or_eq_true, Bool.and_eq_false_iff, Bool.or_eq_false_iff, Bool.not_not, ne_eq, Int.not_lt, Int.not_le, Decidable.not_not, beq_iff_eq, bne_iff_ne] at hc4
                have hvc := vc_9 (g := g) (cs := x.cs) (by rw [hap, hc4]; rfl)
                refine c_seq ?_
                refine c_draw [(mb, C (MdV.c { m with q := qs, qp := p9, qc := m.qc - 1, qE := [(b1, C l1 141)] }) 82), (k3, C (btc x) 141)] [6] mixed hh ?_
                clear hh w; intro w hh
                have hM : Mem [(mb, C (MdV.c { m with q := qs, qp := p9, qc := m.qc - 1, qE := [(b1, C l1 141)] }) 82), (k3, C (btc x) 141)] w := (memK hh (by repeat (first | exact keeps_nil | apply keeps_cons (by repeat (first | exact find_head | apply find_tail | apply find_skip)) (by first  | rfl) | exact keeps_self | exact keeps_left | apply keeps_app | apply keeps_mv | apply keeps_skip)))
                refine d_take (i := 0) hl rfl (by kernel_rfl) (by kernel_rfl) (by kernel_rfl) (by kernel_rfl) (by kernel_rfl) rfl trivial (fun _ _ _ h => h) hM (fun w hC => r_move hl rfl) rfl ?_
                clear hl a; intro a hl
                refine d_take (i := 1) hl rfl (by kernel_rfl) (by kernel_rfl) (by kernel_rfl) (by kernel_rfl) (by kernel_rfl) rfl trivial (fun _ _ _ h => h) hM (fun w hC => r_nilCheck hl rfl) rfl ?_
                clear hl a; intro a hl
                refine d_take (i := 2) hl rfl (by kernel_rfl) (by kernel_rfl) (by kernel_rfl) (by kernel_rfl) (by kernel_rfl) rfl trivial (fun _ _ _ h => h) hM (fun w hC => r_field hl rfl fld82_3) rfl ?_
                clear hl a; intro a hl
                refine d_take (i := 3) hl rfl (by kernel_rfl) (by kernel_rfl) (by kernel_rfl) (by kernel_rfl) (by kernel_rfl) rfl trivial (fun _ _ _ h => h) hM (fun w hC => r_loadC hl rfl one74 hC (by repeat (first | exact find_head | apply find_tail | apply find_skip)) (by first | exact mdc_ep _ | exact mdc_a _ | exact mdc_n _ | exact mdc_i _ | exact mdc_ph _ | exact mdc_fid _ | exact mdc_vd _ | exact mdc_up _ | exact mdc_q _ | exact mdc_rf _ | exact mdc_tk _ | exact mdc_au _ | exact mdc_fl _ | exact mdc_fu _ | exact mdc_kp _ | exact duc_ep _ | exact duc_a _ | exact duc_n _ | exact duc_i _ | exact duc_ph _ | exact duc_fid _ | exact duc_vd _ | rfl)) rfl ?_
                clear hl a; intro a hl
                rw [hrb] at hl
                refine d_take (i := 4) hl rfl (by kernel_rfl) (by kernel_rfl) (by kernel_rfl) (by kernel_rfl) (by kernel_rfl) rfl trivial (fun _ _ _ h => h) hM (fun w hC => r_field hl rfl fld141_0) rfl ?_
                clear hl a; intro a hl
                refine d_take (i := 5) hl rfl (by kernel_rfl) (by kernel_rfl) (by kernel_rfl) (by kernel_rfl) (by kernel_rfl) rfl trivial (fun _ _ _ h => h) hM (fun w hC => r_loadC hl rfl one36 hC (by repeat (first | exact find_head | apply find_tail | apply find_skip)) (by first | exact mdc_ep _ | exact mdc_a _ | exact mdc_n _ | exact mdc_i _ | exact mdc_ph _ | exact mdc_fid _ | exact mdc_vd _ | exact mdc_up _ | exact mdc_q _ | exact mdc_rf _ | exact mdc_tk _ | exact mdc_au _ | exact mdc_fl _ | exact mdc_fu _ | exact mdc_kp _ | exact duc_ep _ | exact duc_a _ | exact duc_n _ | exact duc_i _ | exact duc_ph _ | exact duc_fid _ | exact duc_vd _ | rfl)) rfl ?_
                clear hl a; intro a hl
                refine d_one (i := 6) (by kernel_rfl) rfl ?_
                try clear hM
                refine id (w_mapUpdG kd36 (keyInt Tryz.underlying36) Tryz.underlying74 hl hh trivial rfl rfl rfl (by repeat (first | exact find_head | apply find_tail | apply find_skip)) ?_)
                clear hh w; intro w hh
                refine d_step (fun h => absurd h (by decide)) ?_
                refine d_done (by kernel_rfl) ?_
                try clear hM
                have hl2 := hl.nil; clear hl; have hl := hl2; clear hl2
                refine then_normal ?_
                refine c_seq ?_
                refine c_region ?_
                refine wl (wl_val hl rfl trivial (r_assign hl rfl) ?_)
                clear hl a; intro a hl
                refine w_nil ?_
                have hl2 := hl.add (t := 2) (hl.nil) rfl; clear hl; have hl := hl2; clear hl2
                refine then_normal ?_
                refine wp_ret ?_
                refine then_ret ?_
                rw [← mdc_rE { m with q := qs, qp := p9, qc := m.qc - 1, qE := [(b1, C l1 141)] } [(rb, MD (kInt .u32) (dput rl x.id (.int .u8 9) rn).1 (dput rl x.id (.int .u8 9) rn).2)]] at hh
                simp only at hh
                refine f_ret1 (F' := (mb, C (MdV.c { m with q := qs, qp := p9, qc := m.qc - 1, qE := [(b1, C l1 141)], rE := [(rb, MD (kInt .u32) (dput rl x.id (.int .u8 9) rn).1 (dput rl x.id (.int .u8 9) rn).2)] }) 82) :: ((m.d.aE ++ (m.d.nE ++ (m.d.iE ++ [(m.d.vb, MO (kInt .u32) m.d.vd)]))) ++ ((b1, C l1 141) :: ((rb, MD (kInt .u32) (dput rl x.id (.int .u8 9) rn).1 (dput rl x.id (.int .u8 9) rn).2) :: (Z ++ G9))))) hl hh rfl rfl (by repeat (first | exact keeps_nil | apply keeps_cons (by repeat (first | exact find_head | apply find_tail | apply find_skip)) (by first  | rfl) | exact keeps_self | exact keeps_left | apply keeps_app | apply keeps_mv | apply keeps_skip)) ?_
                have hsx := (tk_0 (l := l) hI.on hp).trans (sx_r hqp (show ¬ vcP g x.cs = 0 by omega))
                rw [show vcP g (btP x).2 = 9 from hvc] at hsx
                refine MdS.nil (by rw [hsx]; exact hI.o) (MdO.grow (G := G9) (m' := { m with q := qs, qp := p9, qc := m.qc - 1, qE := [(b1, C l1 141)], rE := [(rb, MD (kInt .u32) (dput rl x.id (.int .u8 9) rn).1 (dput rl x.id (.int .u8 9) rn).2)] }) (by rw [hsx]; exact ⟨hm.dok.app, hm.d, hm.up, hRO, (fun z hz => (hm.qo z (by rw [hqx]; exact List.mem_cons_of_mem _ hz)).app), rfl, ⟨rb, _, _, hrb, rfl, ru_ok hrv x.id (by omega), dput_ky hrk, ru_pl hrf x.id 9⟩, hm.ys, hm.dn, hm.tk, hm.au, hm.fl, hm.fu, hm.kp, hm.fb⟩) (by simp only [MF, DuV.E_eq, hrE, List.append_assoc, List.cons_append, List.nil_append]))
              · intro hc4
                try simp only [decide_eq_true_eq, decide_eq_false_iff_not, Bool.not_eq_true', Bool.not_eq_false', Bool.not_eq_true, Bool.not_eq_false, Bool.and_eq_true, Bool.or_eq_true, Bool.and_eq_false_iff, Bool.or_eq_false_iff, Bool.not_not, ne_eq, Int.not_lt, Int.not_le, Decidable.not_not, beq_iff_eq, bne_iff_ne] at hc4
                have hap2 : apP (lastV g) x.cs = some n2.pl := by rw [hap, hc4]; rfl
                have hap3 : apP (lastV g) (btP x).2 = some n2.pl := hap2
                refine wp_skip ?_
                refine then_normal ?_
                refine c_seq ?_
                refine c_seq ?_
                refine c_draw [(mb, C (MdV.c { m with q := qs, qp := p9, qc := m.qc - 1, qE := [(b1, C l1 141)] }) 82), (k4, C n2.c 66)] [6, 7] mixed hh ?_
                clear hh w; intro w hh
                have hM : Mem [(mb, C (MdV.c { m with q := qs, qp := p9, qc := m.qc - 1, qE := [(b1, C l1 141)] }) 82), (k4, C n2.c 66)] w := (memK hh (by repeat (first | exact keeps_nil | apply keeps_cons (by repeat (first | exact find_head | apply find_tail | apply find_skip)) (by first  | rfl) | exact keeps_self | exact keeps_left | apply keeps_app | apply keeps_mv | apply keeps_skip)))
                refine d_take (i := 0) hl rfl (by kernel_rfl) (by kernel_rfl) (by kernel_rfl) (by kernel_rfl) (by kernel_rfl) rfl trivial (fun _ _ _ h => h) hM (fun w hC => r_loadCA hl rfl agg66 hC (by repeat (first | exact find_head | apply find_tail | apply find_skip)) (by first | exact NtV.whole hn2 | exact hyn) (by first | exact NtV.len hn2 | exact ntk_len _)) rfl ?_
                clear hl a; intro a hl
                refine d_take (i := 1) hl rfl (by kernel_rfl) (by kernel_rfl) (by kernel_rfl) (by kernel_rfl) (by kernel_rfl) rfl trivial (fun _ _ _ h => h) hM (fun w hC => r_move hl rfl) rfl ?_
                clear hl a; intro a hl
                refine d_take (i := 2) hl rfl (by kernel_rfl) (by kernel_rfl) (by kernel_rfl) (by kernel_rfl) (by kernel_rfl) rfl trivial (fun _ _ _ h => h) hM (fun w hC => r_nilCheck hl rfl) rfl ?_
                clear hl a; intro a hl
                refine d_take (i := 3) hl rfl (by kernel_rfl) (by kernel_rfl) (by kernel_rfl) (by kernel_rfl) (by kernel_rfl) rfl trivial (fun _ _ _ h => h) hM (fun w hC => r_field hl rfl fld82_0) rfl ?_
                clear hl a; intro a hl
                refine d_take (i := 4) hl rfl (by kernel_rfl) (by kernel_rfl) (by kernel_rfl) (by kernel_rfl) (by kernel_rfl) rfl trivial (fun _ _ _ h => h) hM (fun w hC => r_field hl rfl fld78_3) rfl ?_
                clear hl a; intro a hl
                refine d_take (i := 5) hl rfl (by kernel_rfl) (by kernel_rfl) (by kernel_rfl) (by kernel_rfl) (by kernel_rfl) rfl trivial (fun _ _ _ h => h) hM (fun w hC => r_loadC hl rfl one75 hC (by repeat (first | exact find_head | apply find_tail | apply find_skip)) (by first | exact mdc_ep _ | exact mdc_a _ | exact mdc_n _ | exact mdc_i _ | exact mdc_ph _ | exact mdc_fid _ | exact mdc_vd _ | exact mdc_up _ | exact mdc_q _ | exact mdc_rf _ | exact mdc_tk _ | exact mdc_au _ | exact mdc_fl _ | exact mdc_fu _ | exact mdc_kp _ | exact duc_ep _ | exact duc_a _ | exact duc_n _ | exact duc_i _ | exact duc_ph _ | exact duc_fid _ | exact duc_vd _ | rfl)) rfl ?_
                clear hl a; intro a hl
                refine d_one (i := 6) (by kernel_rfl) rfl ?_
                try clear hM
                refine id (w_call hl hh rfl trivial rfl cal58 rfl (check_spec (Z ++ G9) n2 hn2 m.d.is hm.dok.io m.d.ip m.d.ic m.d.iE hm.dok.i (by omega)) (by repeat (first | exact keeps_nil | apply keeps_cons (by repeat (first | exact find_head | apply find_tail | apply find_skip)) (by first  | rfl) | exact keeps_self | exact keeps_left | apply keeps_app | apply keeps_mv | apply keeps_skip)) ⟨(fun b o mz => (by rcases List.mem_append.1 mz with mz | mz; exact memK (E := Z) hh (by repeat (first | exact keeps_nil | apply keeps_cons (by repeat (first | exact find_head | apply find_tail | apply find_skip)) (by first  | rfl) | exact keeps_self | exact keeps_left | apply keeps_app | apply keeps_mv | apply keeps_skip)) b o mz; exact memK (E := G9) hh (by repeat (first | exact keeps_nil | apply keeps_cons (by repeat (first | exact find_head | apply find_tail | apply find_skip)) (by first  | rfl) | exact keeps_self | exact keeps_left | apply keeps_app | apply keeps_mv | apply keeps_skip)) b o mz)), memK (E := m.d.iE) hh (by repeat (first | exact keeps_nil | apply keeps_cons (by repeat (first | exact find_head | apply find_tail | apply find_skip)) (by first  | rfl) | exact keeps_self | exact keeps_left | apply keeps_app | apply keeps_mv | apply keeps_skip))⟩ ?_)
                clear hl hh a w; intro vc Fc a w hR hl hh
                obtain ⟨rfl, rfl⟩ := hR
                try simp only [List.cons_append, List.nil_append, List.append_assoc, List.append_nil] at hh
                refine d_step (fun h => absurd h (by decide)) ?_
                refine d_takeL (i := 7) hl rfl (by kernel_rfl) (by kernel_rfl) (by kernel_rfl) (by kernel_rfl) (by kernel_rfl) rfl trivial (fun _ _ _ h => h) (fun w => r_not hl rfl) rfl ?_
                clear hl a; intro a hl
                refine d_done (by kernel_rfl) ?_
                try clear hM
                have hl2 := hl.add (t := 0) (hl.add (t := 3) (hl.add (t := 4) (hl.add (t := 96) (hl.nil) rfl) rfl) rfl) rfl; clear hl; have hl := hl2; clear hl2
                refine then_normal ?_
                refine c_cond hl rfl ?_ ?_
                · intro hc5
                  try simp only [decide_eq_true_eq, decide_eq_false_iff_not, Bool.not_eq_true', Bool.not_eq_false', Bool.not_eq_true, Bool.not_eq_false, Bool.and_eq_true, Bool.or_eq_true, Bool.and_eq_false_iff, Bool.or_eq_false_iff, Bool.not_not, ne_eq, Int.not_lt, Int.not_le, Decidable.not_not, beq_iff_eq, bne_iff_ne] at hc5
                  have hvc := vc_10 (g := g) hap2 (by rw [← show m.d.is = g.st.is from congrArg StP.is hst]; simpa using hc5)
                  refine c_seq ?_
                  refine c_draw [(mb, C (MdV.c { m with q := qs, qp := p9, qc := m.qc - 1, qE := [(b1, C l1 141)] }) 82), (k3, C (btc x) 141)] [6] mixed hh ?_
                  clear hh w; intro w hh
                  have hM : Mem [(mb, C (MdV.c { m with q := qs, qp := p9, qc := m.qc - 1, qE := [(b1, C l1 141)] }) 82), (k3, C (btc x) 141)] w := (memK hh (by repeat (first | exact keeps_nil | apply keeps_cons (by repeat (first | exact find_head | apply find_tail | apply find_skip)) (by first  | rfl) | exact keeps_self | exact keeps_left | apply keeps_app | apply keeps_mv | apply keeps_skip)))
                  refine d_take (i := 0) hl rfl (by kernel_rfl) (by kernel_rfl) (by kernel_rfl) (by kernel_rfl) (by kernel_rfl) rfl trivial (fun _ _ _ h => h) hM (fun w hC => r_move hl rfl) rfl ?_
                  clear hl a; intro a hl
                  refine d_take (i := 1) hl rfl (by kernel_rfl) (by kernel_rfl) (by kernel_rfl) (by kernel_rfl) (by kernel_rfl) rfl trivial (fun _ _ _ h => h) hM (fun w hC => r_nilCheck hl rfl) rfl ?_
                  clear hl a; intro a hl
                  refine d_take (i := 2) hl rfl (by kernel_rfl) (by kernel_rfl) (by kernel_rfl) (by kernel_rfl) (by kernel_rfl) rfl trivial (fun _ _ _ h => h) hM (fun w hC => r_field hl rfl fld82_3) rfl ?_
                  clear hl a; intro a hl
                  refine d_take (i := 3) hl rfl (by kernel_rfl) (by kernel_rfl) (by kernel_rfl) (by kernel_rfl) (by kernel_rfl) rfl trivial (fun _ _ _ h => h) hM (fun w hC => r_loadC hl rfl one74 hC (by repeat (first | exact find_head | apply find_tail | apply find_skip)) (by first | exact mdc_ep _ | exact mdc_a _ | exact mdc_n _ | exact mdc_i _ | exact mdc_ph _ | exact mdc_fid _ | exact mdc_vd _ | exact mdc_up _ | exact mdc_q _ | exact mdc_rf _ | exact mdc_tk _ | exact mdc_au _ | exact mdc_fl _ | exact mdc_fu _ | exact mdc_kp _ | exact duc_ep _ | exact duc_a _ | exact duc_n _ | exact duc_i _ | exact duc_ph _ | exact duc_fid _ | exact duc_vd _ | rfl)) rfl ?_
                  clear hl a; intro a hl
                  rw [hrb] at hl
                  refine d_take (i := 4) hl rfl (by kernel_rfl) (by kernel_rfl) (by kernel_rfl) (by kernel_rfl) (by kernel_rfl) rfl trivial (fun _ _ _ h => h) hM (fun w hC => r_field hl rfl fld141_0) rfl ?_
                  clear hl a; intro a hl
                  refine d_take (i := 5) hl rfl (by kernel_rfl) (by kernel_rfl) (by kernel_rfl) (by kernel_rfl) (by kernel_rfl) rfl trivial (fun _ _ _ h => h) hM (fun w hC => r_loadC hl rfl one36 hC (by repeat (first | exact find_head | apply find_tail | apply find_skip)) (by first | exact mdc_ep _ | exact mdc_a _ | exact mdc_n _ | exact mdc_i _ | exact mdc_ph _ | exact mdc_fid _ | exact mdc_vd _ | exact mdc_up _ | exact mdc_q _ | exact mdc_rf _ | exact mdc_tk _ | exact mdc_au _ | exact mdc_fl _ | exact mdc_fu _ | exact mdc_kp _ | exact duc_ep _ | exact duc_a _ | exact duc_n _ | exact duc_i _ | exact duc_ph _ | exact duc_fid _ | exact duc_vd _ | rfl)) rfl ?_
                  clear hl a; intro a hl
                  refine d_one (i := 6) (by kernel_rfl) rfl ?_
                  try clear hM
                  refine id (w_mapUpdG kd36 (keyInt Tryz.underlying36) Tryz.underlying74 hl hh trivial rfl rfl rfl (by repeat (first | exact find_head | apply find_tail | apply find_skip)) ?_)
                  clear hh w; intro w hh
                  refine d_step (fun h => absurd h (by decide)) ?_
                  refine d_done (by kernel_rfl) ?_
                  try clear hM
                  have hl2 := hl.nil; clear hl; have hl := hl2; clear hl2
                  refine then_normal ?_
                  refine c_seq ?_
                  refine c_region ?_
                  refine wl (wl_val hl rfl trivial (r_assign hl rfl) ?_)
                  clear hl a; intro a hl
                  refine w_nil ?_
                  have hl2 := hl.add (t := 2) (hl.nil) rfl; clear hl; have hl := hl2; clear hl2
                  refine then_normal ?_
                  refine wp_ret ?_
                  refine then_ret ?_
                  rw [← mdc_rE { m with q := qs, qp := p9, qc := m.qc - 1, qE := [(b1, C l1 141)] } [(rb, MD (kInt .u32) (dput rl x.id (.int .u8 10) rn).1 (dput rl x.id (.int .u8 10) rn).2)]] at hh
                  simp only at hh
                  refine f_ret1 (F' := (mb, C (MdV.c { m with q := qs, qp := p9, qc := m.qc - 1, qE := [(b1, C l1 141)], rE := [(rb, MD (kInt .u32) (dput rl x.id (.int .u8 10) rn).1 (dput rl x.id (.int .u8 10) rn).2)] }) 82) :: ((m.d.aE ++ (m.d.nE ++ (m.d.iE ++ [(m.d.vb, MO (kInt .u32) m.d.vd)]))) ++ ((b1, C l1 141) :: ((rb, MD (kInt .u32) (dput rl x.id (.int .u8 10) rn).1 (dput rl x.id (.int .u8 10) rn).2) :: (Z ++ G9))))) hl hh rfl rfl (by repeat (first | exact keeps_nil | apply keeps_cons (by repeat (first | exact find_head | apply find_tail | apply find_skip)) (by first  | rfl) | exact keeps_self | exact keeps_left | apply keeps_app | apply keeps_mv | apply keeps_skip)) ?_
                  have hsx := (tk_0 (l := l) hI.on hp).trans (sx_r hqp (show ¬ vcP g x.cs = 0 by omega))
                  rw [show vcP g (btP x).2 = 10 from hvc] at hsx
                  refine MdS.nil (by rw [hsx]; exact hI.o) (MdO.grow (G := G9) (m' := { m with q := qs, qp := p9, qc := m.qc - 1, qE := [(b1, C l1 141)], rE := [(rb, MD (kInt .u32) (dput rl x.id (.int .u8 10) rn).1 (dput rl x.id (.int .u8 10) rn).2)] }) (by rw [hsx]; exact ⟨hm.dok.app, hm.d, hm.up, hRO, (fun z hz => (hm.qo z (by rw [hqx]; exact List.mem_cons_of_mem _ hz)).app), rfl, ⟨rb, _, _, hrb, rfl, ru_ok hrv x.id (by omega), dput_ky hrk, ru_pl hrf x.id 10⟩, hm.ys, hm.dn, hm.tk, hm.au, hm.fl, hm.fu, hm.kp, hm.fb⟩) (by simp only [MF, DuV.E_eq, hrE, List.append_assoc, List.cons_append, List.nil_append]))
                · intro hc5
                  try simp only [decide_eq_true_eq, decide_eq_false_iff_not, Bool.not_eq_true', Bool.not_eq_false', Bool.not_eq_true, Bool.not_eq_false, Bool.and_eq_true, Bool.or_eq_true, Bool.and_eq_false_iff, Bool.or_eq_false_iff, Bool.not_not, ne_eq, Int.not_lt, Int.not_le, Decidable.not_not, beq_iff_eq, bne_iff_ne] at hc5
                  have hv0 : vcP g (btP x).2 = 0 := vc_0 (g := g) hap2 (by rw [← show m.d.is = g.st.is from congrArg StP.is hst]; simpa using hc5)
                  refine wp_skip ?_
                  refine then_normal ?_
                  refine c_seq ?_
                  refine c_region ?_
                  refine wl (wl_val hl rfl trivial (r_move hl rfl) ?_)
                  clear hl a; intro a hl
                  refine wl (wl_val hl rfl trivial (r_nilCheck hl rfl) ?_)
                  clear hl a; intro a hl
                  refine wl (wl_val hl rfl trivial (r_field hl rfl fld82_0) ?_)
                  clear hl a; intro a hl
                  first | refine wl (w_loadA hl hh rfl trivial agg78 rfl (by repeat (first | exact find_head | apply find_tail | apply find_skip)) (by first | exact duc_all _ | exact mdc_d _) (by exact duc_len _) ?_) | refine wl (wl_val hl rfl trivial (r_loadA hl rfl agg78 (hh.mem _ _ (by repeat (first | exact hmem2 | exact List.mem_append_left _ hmem2 | apply List.mem_cons_of_mem | apply List.mem_append_right))) hyn (ntk_len _)) ?_)
                  clear hl a; intro a hl
                  refine wl (w_call hl hh rfl trivial rfl cal115 rfl (cpy2 (Z ++ G9) m.d hm.dok.app) (by repeat (first | exact keeps_nil | apply keeps_cons (by repeat (first | exact find_head | apply find_tail | apply find_skip)) (by first  | rfl) | exact keeps_self | exact keeps_left | apply keeps_app | apply keeps_mv | apply keeps_skip)) trivial ?_)
                  clear hl hh a w; intro vc Fc a w hR hl hh
                  obtain ⟨s1, hs1, hps1, rfl, rfl⟩ := hR
                  try simp only [List.cons_append, List.nil_append, List.append_assoc, List.append_nil] at hh
                  rw [DuV.E_eq s1] at hh
                  try simp only [List.append_assoc, List.cons_append, List.nil_append] at hh
                  have hs9 : s1.pl = g.st := hps1.trans hst
                  have hso : DuV.ok (Z ++ G9) { s1 with ph := 1, fid := x.id, fn := n2 } := du_fliok hs1 hxo.id (by omega) hn2
                  have hpl : DuV.pl { s1 with ph := 1, fid := x.id, fn := n2 } = stNx g (btP x).1 n2.pl := du_flipl hs9 x.id n2
                  refine wl (w_alloc hl hh rfl trivial zero78 rfl ?_)
                  clear hl hh a w; intro k6 a w hl hh
                  refine wl (w_storeA hl hh trivial agg78 rfl rfl (by repeat (first | exact find_head | apply find_tail | apply find_skip)) (by exact duc_len _) (by first | exact Nat.le_refl 71 | (rw [mdc_len]; omega)) (by exact duc_one _) (by first | exact setL_all (show 71 = _ from (duc_len _).symm) | exact mdc_sd _ _) ?_)
                  clear hh w; intro w hh
                  refine w_nil ?_
                  have hl2 := hl.add (t := 0) (hl.add (t := 3) (hl.add (t := 4) (hl.add (t := 6) (hl.nil) rfl) rfl) rfl) rfl; clear hl; have hl := hl2; clear hl2
                  refine then_normal ?_
                  refine c_seq ?_
                  refine c_draw [(k3, C (btc x) 141), (k4, C n2.c 66)] [7, 8] mixed hh ?_
                  clear hh w; intro w hh
                  have hM : Mem [(k3, C (btc x) 141), (k4, C n2.c 66)] w := (memK hh (by repeat (first | exact keeps_nil | apply keeps_cons (by repeat (first | exact find_head | apply find_tail | apply find_skip)) (by first  | rfl) | exact keeps_self | exact keeps_left | apply keeps_app | apply keeps_mv | apply keeps_skip)))
                  refine d_take (i := 0) hl rfl (by kernel_rfl) (by kernel_rfl) (by kernel_rfl) (by kernel_rfl) (by kernel_rfl) rfl trivial (fun _ _ _ h => h) hM (fun w hC => r_field hl rfl fld141_0) rfl ?_
                  clear hl a; intro a hl
                  refine d_take (i := 1) hl rfl (by kernel_rfl) (by kernel_rfl) (by kernel_rfl) (by kernel_rfl) (by kernel_rfl) rfl trivial (fun _ _ _ h => h) hM (fun w hC => r_loadC hl rfl one36 hC (by repeat (first | exact find_head | apply find_tail | apply find_skip)) (by first | exact mdc_ep _ | exact mdc_a _ | exact mdc_n _ | exact mdc_i _ | exact mdc_ph _ | exact mdc_fid _ | exact mdc_vd _ | exact mdc_up _ | exact mdc_q _ | exact mdc_rf _ | exact mdc_tk _ | exact mdc_au _ | exact mdc_fl _ | exact mdc_fu _ | exact mdc_kp _ | exact duc_ep _ | exact duc_a _ | exact duc_n _ | exact duc_i _ | exact duc_ph _ | exact duc_fid _ | exact duc_vd _ | rfl)) rfl ?_
                  clear hl a; intro a hl
                  refine d_take (i := 2) hl rfl (by kernel_rfl) (by kernel_rfl) (by kernel_rfl) (by kernel_rfl) (by kernel_rfl) rfl trivial (fun _ _ _ h => h) hM (fun w hC => r_loadCA hl rfl agg66 hC (by repeat (first | exact find_head | apply find_tail | apply find_skip)) (by first | exact NtV.whole hn2 | exact hyn) (by first | exact NtV.len hn2 | exact ntk_len _)) rfl ?_
                  clear hl a; intro a hl
                  rw [← ntk_eq hn2] at hl
                  refine d_take (i := 3) hl rfl (by kernel_rfl) (by kernel_rfl) (by kernel_rfl) (by kernel_rfl) (by kernel_rfl) rfl trivial (fun _ _ _ h => h) hM (fun w hC => r_field hl rfl fld78_4) rfl ?_
                  clear hl a; intro a hl
                  refine d_one (i := 4) (by kernel_rfl) rfl ?_
                  try clear hM
                  refine id (w_store hl hh trivial one76 rfl rfl (by repeat (first | exact find_head | apply find_tail | apply find_skip)) (by first | (simp; done) | (simp; omega) | (rw [mdc_len]; omega) | (rw [mdc_len]; simp; done) | (rw [duc_len]; omega) | (rw [duc_len]; simp; done)) (by first | rfl | assumption | (apply Row.one; assumption)) (by first | exact mdc_sup _ _ | exact mdc_stk _ _ | exact mdc_sau _ _ | exact mdc_sfl _ _ | exact mdc_sfu _ _ | exact mdc_skp _ _ | exact mdc_sq _ p9 qs (m.qc - 1) [(b1, C l1 141)] | exact duc_sph _ _ | exact duc_sfid _ _ | (simp only [setL, List.getElem?_cons_zero, List.getElem?_cons_succ, Value.cells, List.take_zero, List.take_succ_cons, List.take_nil, List.drop_zero, List.drop_succ_cons, List.drop_nil, List.length_cons, List.length_nil, List.cons_append, List.nil_append, List.append_nil, Nat.zero_add, Nat.add_zero, Nat.reduceAdd, Nat.reduceBEq, Nat.reduceEqDiff, Nat.ble, BEq.rfl, Bool.and_true, Bool.and_self, cond_true, beq_self_eq_true]; rfl)) ?_)
                  clear hh w; intro w hh
                  have hM : Mem [(k3, C (btc x) 141), (k4, C n2.c 66)] w := (memK hh (by repeat (first | exact keeps_nil | apply keeps_cons (by repeat (first | exact find_head | apply find_tail | apply find_skip)) (by first  | rfl) | exact keeps_self | exact keeps_left | apply keeps_app | apply keeps_mv | apply keeps_skip)))
                  refine d_step (fun _ => hM) ?_
                  refine d_take (i := 5) hl rfl (by kernel_rfl) (by kernel_rfl) (by kernel_rfl) (by kernel_rfl) (by kernel_rfl) rfl trivial (fun _ _ _ h => h) hM (fun w hC => r_field hl rfl fld78_5) rfl ?_
                  clear hl a; intro a hl
                  refine d_one (i := 6) (by kernel_rfl) rfl ?_
                  try clear hM
                  refine id (w_store hl hh trivial one36 rfl rfl (by repeat (first | exact find_head | apply find_tail | apply find_skip)) (by first | (simp; done) | (simp; omega) | (rw [mdc_len]; omega) | (rw [mdc_len]; simp; done) | (rw [duc_len]; omega) | (rw [duc_len]; simp; done)) (by first | rfl | assumption | (apply Row.one; assumption)) (by first | exact mdc_sup _ _ | exact mdc_stk _ _ | exact mdc_sau _ _ | exact mdc_sfl _ _ | exact mdc_sfu _ _ | exact mdc_skp _ _ | exact mdc_sq _ p9 qs (m.qc - 1) [(b1, C l1 141)] | exact duc_sph _ _ | exact duc_sfid _ _ | (simp only [setL, List.getElem?_cons_zero, List.getElem?_cons_succ, Value.cells, List.take_zero, List.take_succ_cons, List.take_nil, List.drop_zero, List.drop_succ_cons, List.drop_nil, List.length_cons, List.length_nil, List.cons_append, List.nil_append, List.append_nil, Nat.zero_add, Nat.add_zero, Nat.reduceAdd, Nat.reduceBEq, Nat.reduceEqDiff, Nat.ble, BEq.rfl, Bool.and_true, Bool.and_self, cond_true, beq_self_eq_true]; rfl)) ?_)
                  clear hh w; intro w hh
                  have hM : Mem [(k3, C (btc x) 141), (k4, C n2.c 66)] w := (memK hh (by repeat (first | exact keeps_nil | apply keeps_cons (by repeat (first | exact find_head | apply find_tail | apply find_skip)) (by first  | rfl) | exact keeps_self | exact keeps_left | apply keeps_app | apply keeps_mv | apply keeps_skip)))
                  refine d_step (fun _ => hM) ?_
                  refine d_takeL (i := 7) hl rfl (by kernel_rfl) (by kernel_rfl) (by kernel_rfl) (by kernel_rfl) (by kernel_rfl) rfl trivial (fun _ _ _ h => h) (fun w => r_field hl rfl fld78_6) rfl ?_
                  clear hl a; intro a hl
                  refine d_one (i := 8) (by kernel_rfl) rfl ?_
                  try clear hM
                  refine id (w_storeA hl hh trivial agg66 rfl rfl (by repeat (first | exact find_head | apply find_tail | apply find_skip)) (by first | exact NtV.len hn2 | exact ntk_len _) (by first | exact Nat.le_refl 64 | (rw [duc_len]; omega)) (by first | exact NtV.one | exact ntk_one _) (by first | exact setL_all (show 64 = _ from (NtV.len hn2).symm) | exact duc_sfn _ _) ?_)
                  clear hh w; intro w hh
                  refine d_step (fun h => absurd h (by decide)) ?_
                  refine d_done (by kernel_rfl) ?_
                  try clear hM
                  have hl2 := hl.add (t := 0) (hl.add (t := 3) (hl.add (t := 6) (hl.nil) rfl) rfl) rfl; clear hl; have hl := hl2; clear hl2
                  refine then_normal ?_
                  refine c_seq ?_
                  refine c_seq ?_
                  refine c_region ?_
                  refine wl (wl_val hl rfl trivial (r_move hl rfl) ?_)
                  clear hl a; intro a hl
                  first | refine wl (w_loadA hl hh rfl trivial agg78 rfl (by repeat (first | exact find_head | apply find_tail | apply find_skip)) (by first | exact duc_all _ | exact mdc_d _) (by exact duc_len _) ?_) | refine wl (wl_val hl rfl trivial (r_loadA hl rfl agg78 (hh.mem _ _ (by repeat (first | exact hmem2 | exact List.mem_append_left _ hmem2 | apply List.mem_cons_of_mem | apply List.mem_append_right))) hyn (ntk_len _)) ?_)
                  clear hl a; intro a hl
                  refine wl (w_call hl hh rfl trivial rfl cal116 rfl (write4 mb { m with q := qs, qp := p9, qc := m.qc - 1, qE := [(b1, C l1 141)] } { s1 with ph := 1, fid := x.id, fn := n2 } l hdn hm.fl hm.fu hm.kp hm.d hm.fb) (by repeat (first | exact keeps_nil | apply keeps_cons (by repeat (first | exact find_head | apply find_tail | apply find_skip)) (by first  | rfl) | exact keeps_self | exact keeps_left | apply keeps_app | apply keeps_mv | apply keeps_skip)) trivial ?_)
                  clear hl hh a w; intro vc Fc a w hR hl hh
                  rcases hR with ⟨f, hr, hf, rfl, rfl⟩ | ⟨hr, rfl, rfl⟩ | ⟨hr, rfl, rfl⟩ | ⟨hr, rfl, rfl⟩
                  ·
                    try simp only [List.cons_append, List.nil_append, List.append_nil] at hh
                    try simp only [List.append_assoc, List.cons_append, List.nil_append] at hh
                    refine w_nil ?_
                    have hl2 := hl.add (t := 0) (hl.add (t := 3) (hl.add (t := 116) (hl.nil) rfl) rfl) rfl; clear hl; have hl := hl2; clear hl2
                    refine then_normal ?_
                    refine wp_block ?_
                    refine c_seq ?_
                    refine c_region ?_
                    refine wl (wl_val hl rfl trivial (r_eql hl rfl rfl) ?_)
                    clear hl a; intro a hl
                    refine wl (wl_val hl rfl trivial (r_assign hl rfl) ?_)
                    clear hl a; intro a hl
                    refine w_nil ?_
                    have hl2 := hl.add (t := 0) (hl.add (t := 3) (hl.add (t := 116) (hl.add (t := 117) (hl.nil) rfl) rfl) rfl) rfl; clear hl; have hl := hl2; clear hl2
                    refine then_normal ?_
                    refine c_condF hl rfl ?_
                    refine c_seq ?_
                    refine c_region ?_
                    refine wl (wl_val hl rfl trivial (r_eql hl rfl rfl) ?_)
                    clear hl a; intro a hl
                    refine wl (wl_val hl rfl trivial (r_assign hl rfl) ?_)
                    clear hl a; intro a hl
                    refine w_nil ?_
                    have hl2 := hl.add (t := 0) (hl.add (t := 125) (hl.nil) rfl) rfl; clear hl; have hl := hl2; clear hl2
                    refine then_normal ?_
                    refine c_condF hl rfl ?_
                    refine wp_skip ?_
                    refine blk_normal ?_
                    refine then_normal ?_
                    refine c_seq ?_
                    refine c_region ?_
                    refine wl (wl_val hl rfl trivial (r_move hl rfl) ?_)
                    clear hl a; intro a hl
                    refine wl (wl_val hl rfl trivial (r_build hl rfl zero80 bld80 (by simp only [fillL, setL, List.getElem?_cons_zero, List.getElem?_cons_succ, Value.cells, List.take_zero, List.take_succ_cons, List.take_nil, List.drop_zero, List.drop_succ_cons, List.drop_nil, List.length_cons, List.length_nil, List.cons_append, List.nil_append, List.append_nil, Nat.zero_add, Nat.add_zero, Nat.reduceAdd, Nat.reduceBEq, Nat.reduceEqDiff, Nat.ble, BEq.rfl, Bool.and_true, Bool.and_self, cond_true, beq_self_eq_true]; rfl)) ?_)
                    clear hl a; intro a hl
                    refine wl (wl_val hl rfl trivial (r_nilCheck hl rfl) ?_)
                    clear hl a; intro a hl
                    refine wl (wl_val hl rfl trivial (r_field hl rfl fld82_4) ?_)
                    clear hl a; intro a hl
                    refine wl (w_storeA hl hh trivial agg80 rfl rfl (by repeat (first | exact find_head | apply find_tail | apply find_skip)) (by rfl) (by first | (rw [mdc_len]; omega) | exact Nat.le_refl 16) (by rfl) (by first | exact mdc_sy _ (fun _ => false) | exact mdc_sdf _ (fun _ => false) | exact setL_all rfl) ?_)
                    clear hh w; intro w hh
                    refine w_nil ?_
                    have hl2 := hl.add (t := 0) (hl.nil) rfl; clear hl; have hl := hl2; clear hl2
                    refine then_normal ?_
                    refine c_seq ?_
                    refine c_region ?_
                    refine wl (wl_val hl rfl trivial (r_move hl rfl) ?_)
                    clear hl a; intro a hl
                    refine wl (wl_val hl rfl trivial (r_build hl rfl zero80 bld80 (by simp only [fillL, setL, List.getElem?_cons_zero, List.getElem?_cons_succ, Value.cells, List.take_zero, List.take_succ_cons, List.take_nil, List.drop_zero, List.drop_succ_cons, List.drop_nil, List.length_cons, List.length_nil, List.cons_append, List.nil_append, List.append_nil, Nat.zero_add, Nat.add_zero, Nat.reduceAdd, Nat.reduceBEq, Nat.reduceEqDiff, Nat.ble, BEq.rfl, Bool.and_true, Bool.and_self, cond_true, beq_self_eq_true]; rfl)) ?_)
                    clear hl a; intro a hl
                    refine wl (wl_val hl rfl trivial (r_nilCheck hl rfl) ?_)
                    clear hl a; intro a hl
                    refine wl (wl_val hl rfl trivial (r_field hl rfl fld82_5) ?_)
                    clear hl a; intro a hl
                    refine wl (w_storeA hl hh trivial agg80 rfl rfl (by repeat (first | exact find_head | apply find_tail | apply find_skip)) (by rfl) (by first | (rw [mdc_len]; omega) | exact Nat.le_refl 16) (by rfl) (by first | exact mdc_sy _ (fun _ => false) | exact mdc_sdf _ (fun _ => false) | exact setL_all rfl) ?_)
                    clear hh w; intro w hh
                    refine w_nil ?_
                    have hl2 := hl.add (t := 0) (hl.nil) rfl; clear hl; have hl := hl2; clear hl2
                    refine then_normal ?_
                    refine c_seq ?_
                    refine c_region ?_
                    refine wl (wl_val hl rfl trivial (r_move hl rfl) ?_)
                    clear hl a; intro a hl
                    refine wl (wl_val hl rfl trivial (r_nilCheck hl rfl) ?_)
                    clear hl a; intro a hl
                    refine wl (wl_val hl rfl trivial (r_field hl rfl fld82_6) ?_)
                    clear hl a; intro a hl
                    refine wl (w_store hl hh trivial one3 rfl rfl (by repeat (first | exact find_head | apply find_tail | apply find_skip)) (by first | (simp; done) | (simp; omega) | (rw [mdc_len]; omega) | (rw [mdc_len]; simp; done) | (rw [duc_len]; omega) | (rw [duc_len]; simp; done)) (by first | rfl | assumption | (apply Row.one; assumption)) (by first | exact mdc_sup _ _ | exact mdc_stk _ _ | exact mdc_sau _ _ | exact mdc_sfl _ _ | exact mdc_sfu _ _ | exact mdc_skp _ _ | exact mdc_sq _ p9 qs (m.qc - 1) [(b1, C l1 141)] | exact duc_sph _ _ | exact duc_sfid _ _ | (simp only [setL, List.getElem?_cons_zero, List.getElem?_cons_succ, Value.cells, List.take_zero, List.take_succ_cons, List.take_nil, List.drop_zero, List.drop_succ_cons, List.drop_nil, List.length_cons, List.length_nil, List.cons_append, List.nil_append, List.append_nil, Nat.zero_add, Nat.add_zero, Nat.reduceAdd, Nat.reduceBEq, Nat.reduceEqDiff, Nat.ble, BEq.rfl, Bool.and_true, Bool.and_self, cond_true, beq_self_eq_true]; rfl)) ?_)
                    clear hh w; intro w hh
                    refine w_nil ?_
                    have hl2 := hl.add (t := 0) (hl.nil) rfl; clear hl; have hl := hl2; clear hl2
                    refine then_normal ?_
                    refine c_seq ?_
                    refine c_region ?_
                    refine wl (wl_val hl rfl trivial (r_move hl rfl) ?_)
                    clear hl a; intro a hl
                    refine wl (wl_val hl rfl trivial (r_nilCheck hl rfl) ?_)
                    clear hl a; intro a hl
                    refine wl (wl_val hl rfl trivial (r_field hl rfl fld82_7) ?_)
                    clear hl a; intro a hl
                    refine wl (w_store hl hh trivial one4 rfl rfl (by repeat (first | exact find_head | apply find_tail | apply find_skip)) (by first | (simp; done) | (simp; omega) | (rw [mdc_len]; omega) | (rw [mdc_len]; simp; done) | (rw [duc_len]; omega) | (rw [duc_len]; simp; done)) (by first | rfl | assumption | (apply Row.one; assumption)) (by first | exact mdc_sup _ _ | exact mdc_stk _ _ | exact mdc_sau _ _ | exact mdc_sfl _ _ | exact mdc_sfu _ _ | exact mdc_skp _ _ | exact mdc_sq _ p9 qs (m.qc - 1) [(b1, C l1 141)] | exact duc_sph _ _ | exact duc_sfid _ _ | (simp only [setL, List.getElem?_cons_zero, List.getElem?_cons_succ, Value.cells, List.take_zero, List.take_succ_cons, List.take_nil, List.drop_zero, List.drop_succ_cons, List.drop_nil, List.length_cons, List.length_nil, List.cons_append, List.nil_append, List.append_nil, Nat.zero_add, Nat.add_zero, Nat.reduceAdd, Nat.reduceBEq, Nat.reduceEqDiff, Nat.ble, BEq.rfl, Bool.and_true, Bool.and_self, cond_true, beq_self_eq_true]; rfl)) ?_)
                    clear hh w; intro w hh
                    refine w_nil ?_
                    have hl2 := hl.add (t := 0) (hl.nil) rfl; clear hl; have hl := hl2; clear hl2
                    refine then_normal ?_
                    refine c_seq ?_
                    refine c_region ?_
                    refine wl (wl_val hl rfl trivial (r_move hl rfl) ?_)
                    clear hl a; intro a hl
                    refine wl (w_call hl hh rfl trivial rfl cal117 rfl (due_spec (Z ++ G9) mb { m with q := qs, qp := p9, qc := m.qc - 1, qE := [(b1, C l1 141)], d := { s1 with ph := 1, fid := x.id, fn := n2 }, fu := f, yf := fun _ => false, df := fun _ => false, tk := 0, au := false } hso.fn hso.ph) (by repeat (first | exact keeps_nil | apply keeps_cons (by repeat (first | exact find_head | apply find_tail | apply find_skip)) (by first  | rfl) | exact keeps_self | exact keeps_left | apply keeps_app | apply keeps_mv | apply keeps_skip)) trivial ?_)
                    clear hl hh a w; intro vc Fc a w hR hl hh
                    obtain ⟨p6, c6, E6, hR6, rfl, rfl⟩ := hR
                    try simp only [List.cons_append, List.nil_append, List.append_assoc, List.append_nil] at hh
                    refine wl (wl_val hl rfl trivial (r_assign hl rfl) ?_)
                    clear hl a; intro a hl
                    refine w_nil ?_
                    have hl2 := hl.add (t := 2) (hl.nil) rfl; clear hl; have hl := hl2; clear hl2
                    refine then_normal ?_
                    refine wp_ret ?_
                    refine f_ret1 (F' := E6 ++ ((mb, C (MdV.c { m with q := qs, qp := p9, qc := m.qc - 1, qE := [(b1, C l1 141)], d := { s1 with ph := 1, fid := x.id, fn := n2 }, fu := f, yf := fun _ => false, df := fun _ => false, tk := 0, au := false }) 82) :: ((s1.aE ++ (s1.nE ++ (s1.iE ++ [(s1.vb, MO (kInt .u32) s1.vd)]))) ++ ((b1, C l1 141) :: ((rb, MD (kInt .u32) rl rn) :: (Z ++ G9)))))) hl hh rfl rfl (by repeat (first | exact keeps_nil | apply keeps_cons (by repeat (first | exact find_head | apply find_tail | apply find_skip)) (by first  | rfl) | exact keeps_self | exact keeps_left | apply keeps_app | apply keeps_mv | apply keeps_skip)) ?_
                    have hsx := (tk_0 (l := l) hI.on hp).trans (sx_y hqp hv0 hap3 (show (admitP l (stNx g (btP x).1 n2.pl)).2 = 0 by rw [← hpl, hr]))
                    rw [← hpl, hr] at hsx
                    have hdu : dueM { m with q := qs, qp := p9, qc := m.qc - 1, qE := [(b1, C l1 141)], d := { s1 with ph := 1, fid := x.id, fn := n2 }, fu := f, yf := fun _ => false, df := fun _ => false, tk := 0, au := false } = pushP { g with q := qs.map btP, st := stNx g (btP x).1 n2.pl, sl := slF g.sl n2.pl 16, ys := 0, dn := 0, tk := 0, au := false } := due_push hpl (fun d hd => (bit0 d hd).symm) (fun d hd => (bit0 d hd).symm) rfl (fun _ d hd => slF_16 hd)
                    exact MdS.ofG (G := G9) (m' := { m with q := qs, qp := p9, qc := m.qc - 1, qE := [(b1, C l1 141)], d := { s1 with ph := 1, fid := x.id, fn := n2 }, fu := f, yf := fun _ => false, df := fun _ => false, tk := 0, au := false }) (by rw [hsx, hdu, hI.o, hpl]; rfl) hR6 (due_sz hso.fn) (by rw [hsx]; exact ⟨hso, rfl, hm.up, hRO, (fun z hz => (hm.qo z (by rw [hqx]; exact List.mem_cons_of_mem _ hz)).app), rfl, hm.r, (fun d hd => (bit0 d hd).symm), (fun d hd => (bit0 d hd).symm), rfl, rfl, hm.fl, rfl, hm.kp, hf⟩) (by simp only [MF, DuV.E_eq, hrE, List.append_assoc, List.cons_append, List.nil_append])
                  ·
                    try simp only [List.cons_append, List.nil_append, List.append_nil] at hh
                    try simp only [List.append_assoc, List.cons_append, List.nil_append] at hh
                    refine w_nil ?_
                    have hl2 := hl.add (t := 0) (hl.add (t := 3) (hl.add (t := 116) (hl.nil) rfl) rfl) rfl; clear hl; have hl := hl2; clear hl2
                    refine then_normal ?_
                    refine wp_block ?_
                    refine c_seq ?_
                    refine c_region ?_
                    refine wl (wl_val hl rfl trivial (r_eql hl rfl rfl) ?_)
                    clear hl a; intro a hl
                    refine wl (wl_val hl rfl trivial (r_assign hl rfl) ?_)
                    clear hl a; intro a hl
                    refine w_nil ?_
                    have hl2 := hl.add (t := 0) (hl.add (t := 3) (hl.add (t := 116) (hl.add (t := 117) (hl.nil) rfl) rfl) rfl) rfl; clear hl; have hl := hl2; clear hl2
                    refine then_normal ?_
                    refine c_condT hl rfl ?_
                    refine c_seq ?_
                    refine c_draw [(mb, C (MdV.c { m with q := qs, qp := p9, qc := m.qc - 1, qE := [(b1, C l1 141)] }) 82), (k3, C (btc x) 141)] [6] mixed hh ?_
                    clear hh w; intro w hh
                    have hM : Mem [(mb, C (MdV.c { m with q := qs, qp := p9, qc := m.qc - 1, qE := [(b1, C l1 141)] }) 82), (k3, C (btc x) 141)] w := (memK hh (by repeat (first | exact keeps_nil | apply keeps_cons (by repeat (first | exact find_head | apply find_tail | apply find_skip)) (by first  | rfl) | exact keeps_self | exact keeps_left | apply keeps_app | apply keeps_mv | apply keeps_skip)))
                    refine d_take (i := 0) hl rfl (by kernel_rfl) (by kernel_rfl) (by kernel_rfl) (by kernel_rfl) (by kernel_rfl) rfl trivial (fun _ _ _ h => h) hM (fun w hC => r_move hl rfl) rfl ?_
                    clear hl a; intro a hl
                    refine d_take (i := 1) hl rfl (by kernel_rfl) (by kernel_rfl) (by kernel_rfl) (by kernel_rfl) (by kernel_rfl) rfl trivial (fun _ _ _ h => h) hM (fun w hC => r_nilCheck hl rfl) rfl ?_
                    clear hl a; intro a hl
                    refine d_take (i := 2) hl rfl (by kernel_rfl) (by kernel_rfl) (by kernel_rfl) (by kernel_rfl) (by kernel_rfl) rfl trivial (fun _ _ _ h => h) hM (fun w hC => r_field hl rfl fld82_3) rfl ?_
                    clear hl a; intro a hl
                    refine d_take (i := 3) hl rfl (by kernel_rfl) (by kernel_rfl) (by kernel_rfl) (by kernel_rfl) (by kernel_rfl) rfl trivial (fun _ _ _ h => h) hM (fun w hC => r_loadC hl rfl one74 hC (by repeat (first | exact find_head | apply find_tail | apply find_skip)) (by first | exact mdc_ep _ | exact mdc_a _ | exact mdc_n _ | exact mdc_i _ | exact mdc_ph _ | exact mdc_fid _ | exact mdc_vd _ | exact mdc_up _ | exact mdc_q _ | exact mdc_rf _ | exact mdc_tk _ | exact mdc_au _ | exact mdc_fl _ | exact mdc_fu _ | exact mdc_kp _ | exact duc_ep _ | exact duc_a _ | exact duc_n _ | exact duc_i _ | exact duc_ph _ | exact duc_fid _ | exact duc_vd _ | rfl)) rfl ?_
                    clear hl a; intro a hl
                    rw [hrb] at hl
                    refine d_take (i := 4) hl rfl (by kernel_rfl) (by kernel_rfl) (by kernel_rfl) (by kernel_rfl) (by kernel_rfl) rfl trivial (fun _ _ _ h => h) hM (fun w hC => r_field hl rfl fld141_0) rfl ?_
                    clear hl a; intro a hl
                    refine d_take (i := 5) hl rfl (by kernel_rfl) (by kernel_rfl) (by kernel_rfl) (by kernel_rfl) (by kernel_rfl) rfl trivial (fun _ _ _ h => h) hM (fun w hC => r_loadC hl rfl one36 hC (by repeat (first | exact find_head | apply find_tail | apply find_skip)) (by first | exact mdc_ep _ | exact mdc_a _ | exact mdc_n _ | exact mdc_i _ | exact mdc_ph _ | exact mdc_fid _ | exact mdc_vd _ | exact mdc_up _ | exact mdc_q _ | exact mdc_rf _ | exact mdc_tk _ | exact mdc_au _ | exact mdc_fl _ | exact mdc_fu _ | exact mdc_kp _ | exact duc_ep _ | exact duc_a _ | exact duc_n _ | exact duc_i _ | exact duc_ph _ | exact duc_fid _ | exact duc_vd _ | rfl)) rfl ?_
                    clear hl a; intro a hl
                    refine d_one (i := 6) (by kernel_rfl) rfl ?_
                    try clear hM
                    refine id (w_mapUpdG kd36 (keyInt Tryz.underlying36) Tryz.underlying74 hl hh trivial rfl rfl rfl (by repeat (first | exact find_head | apply find_tail | apply find_skip)) ?_)
                    clear hh w; intro w hh
                    refine d_step (fun h => absurd h (by decide)) ?_
                    refine d_done (by kernel_rfl) ?_
                    try clear hM
                    have hl2 := hl.nil; clear hl; have hl := hl2; clear hl2
                    refine then_normal ?_
                    refine c_seq ?_
                    refine c_region ?_
                    refine wl (wl_val hl rfl trivial (r_assign hl rfl) ?_)
                    clear hl a; intro a hl
                    refine w_nil ?_
                    have hl2 := hl.add (t := 2) (hl.nil) rfl; clear hl; have hl := hl2; clear hl2
                    refine then_normal ?_
                    refine wp_ret ?_
                    refine blk_ret ?_
                    refine then_ret ?_
                    rw [← mdc_rE { m with q := qs, qp := p9, qc := m.qc - 1, qE := [(b1, C l1 141)] } [(rb, MD (kInt .u32) (dput rl x.id (.int .u8 11) rn).1 (dput rl x.id (.int .u8 11) rn).2)]] at hh
                    simp only at hh
                    refine f_ret1 (F' := (mb, C (MdV.c { m with q := qs, qp := p9, qc := m.qc - 1, qE := [(b1, C l1 141)], rE := [(rb, MD (kInt .u32) (dput rl x.id (.int .u8 11) rn).1 (dput rl x.id (.int .u8 11) rn).2)] }) 82) :: ((m.d.aE ++ (m.d.nE ++ (m.d.iE ++ [(m.d.vb, MO (kInt .u32) m.d.vd)]))) ++ ((b1, C l1 141) :: ((rb, MD (kInt .u32) (dput rl x.id (.int .u8 11) rn).1 (dput rl x.id (.int .u8 11) rn).2) :: (Z ++ G9))))) hl hh rfl rfl (by repeat (first | exact keeps_nil | apply keeps_cons (by repeat (first | exact find_head | apply find_tail | apply find_skip)) (by first  | rfl) | exact keeps_self | exact keeps_left | apply keeps_app | apply keeps_mv | apply keeps_skip)) ?_
                    have hsx := (tk_0 (l := l) hI.on hp).trans (sx_1 hqp hv0 hap3 (show (admitP l (stNx g (btP x).1 n2.pl)).2 = 1 by rw [← hpl, hr]))
                    rw [← hpl, hr] at hsx
                    refine MdS.nil (by rw [hsx]; exact hI.o) (MdO.grow (G := G9) (m' := { m with q := qs, qp := p9, qc := m.qc - 1, qE := [(b1, C l1 141)], rE := [(rb, MD (kInt .u32) (dput rl x.id (.int .u8 11) rn).1 (dput rl x.id (.int .u8 11) rn).2)] }) (by rw [hsx]; exact ⟨hm.dok.app, hm.d, hm.up, hRO, (fun z hz => (hm.qo z (by rw [hqx]; exact List.mem_cons_of_mem _ hz)).app), rfl, ⟨rb, _, _, hrb, rfl, ru_ok hrv x.id (by omega), dput_ky hrk, ru_pl hrf x.id 11⟩, hm.ys, hm.dn, hm.tk, hm.au, hm.fl, hm.fu, hm.kp, hm.fb⟩) (by simp only [MF, DuV.E_eq, hrE, List.append_assoc, List.cons_append, List.nil_append]))
                  ·
                    try simp only [List.cons_append, List.nil_append, List.append_nil] at hh
                    try simp only [List.append_assoc, List.cons_append, List.nil_append] at hh
                    refine w_nil ?_
                    have hl2 := hl.add (t := 0) (hl.add (t := 3) (hl.add (t := 116) (hl.nil) rfl) rfl) rfl; clear hl; have hl := hl2; clear hl2
                    refine then_normal ?_
                    refine wp_block ?_
                    refine c_seq ?_
                    refine c_region ?_
                    refine wl (wl_val hl rfl trivial (r_eql hl rfl rfl) ?_)
                    clear hl a; intro a hl
                    refine wl (wl_val hl rfl trivial (r_assign hl rfl) ?_)
                    clear hl a; intro a hl
                    refine w_nil ?_
                    have hl2 := hl.add (t := 0) (hl.add (t := 3) (hl.add (t := 116) (hl.add (t := 117) (hl.nil) rfl) rfl) rfl) rfl; clear hl; have hl := hl2; clear hl2
                    refine then_normal ?_
                    refine c_condF hl rfl ?_
                    refine c_seq ?_
                    refine c_region ?_
                    refine wl (wl_val hl rfl trivial (r_eql hl rfl rfl) ?_)
                    clear hl a; intro a hl
                    refine wl (wl_val hl rfl trivial (r_assign hl rfl) ?_)
                    clear hl a; intro a hl
                    refine w_nil ?_
                    have hl2 := hl.add (t := 0) (hl.add (t := 125) (hl.nil) rfl) rfl; clear hl; have hl := hl2; clear hl2
                    refine then_normal ?_
                    refine c_condT hl rfl ?_
                    refine c_seq ?_
                    refine c_region ?_
                    refine wl (wl_val hl rfl trivial (r_assign hl rfl) ?_)
                    clear hl a; intro a hl
                    refine w_nil ?_
                    have hl2 := hl.add (t := 2) (hl.nil) rfl; clear hl; have hl := hl2; clear hl2
                    refine then_normal ?_
                    refine wp_ret ?_
                    refine blk_ret ?_
                    refine then_ret ?_
                    first
                    | (have hsx := (tk_0 (l := l) hI.on hp).trans (sx_2 hqp hv0 hap3 (show (admitP l (stNx g (btP x).1 n2.pl)).2 = 2 by rw [← hpl, hr])); rw [← hpl, hr] at hsx; refine f_ret1 (F' := (mb, C (MdV.c { m with q := qs, qp := p9, qc := m.qc - 1, qE := [(b1, C l1 141)], d := { s1 with ph := 1, fid := x.id, fn := n2 }, fu := 0, up := false }) 82) :: ((s1.aE ++ (s1.nE ++ (s1.iE ++ [(s1.vb, MO (kInt .u32) s1.vd)]))) ++ ((b1, C l1 141) :: ((rb, MD (kInt .u32) rl rn) :: (Z ++ G9))))) hl hh rfl rfl (by repeat (first | exact keeps_nil | apply keeps_cons (by repeat (first | exact find_head | apply find_tail | apply find_skip)) (by first  | rfl) | exact keeps_self | exact keeps_left | apply keeps_app | apply keeps_mv | apply keeps_skip)) ?_; exact MdS.nil (by rw [hsx]; rfl) (MdO.grow (G := G9) (m' := { m with q := qs, qp := p9, qc := m.qc - 1, qE := [(b1, C l1 141)], d := { s1 with ph := 1, fid := x.id, fn := n2 }, fu := 0, up := false }) (by rw [hsx]; exact ⟨hso, rfl, rfl, hRO, (fun z hz => (hm.qo z (by rw [hqx]; exact List.mem_cons_of_mem _ hz)).app), rfl, hm.r, hm.ys, hm.dn, hm.tk, hm.au, hm.fl, rfl, hm.kp, (by simp)⟩) (by simp only [MF, DuV.E_eq, hrE, List.append_assoc, List.cons_append, List.nil_append])))
                    | (have hsx := (tk_0 (l := l) hI.on hp).trans (sx_2 hqp hv0 hap3 (show (admitP l (stNx g (btP x).1 n2.pl)).2 = 2 by rw [← hpl, hr])); rw [← hpl, hr] at hsx; refine f_ret1 (F' := (mb, C (MdV.c { m with q := qs, qp := p9, qc := m.qc - 1, qE := [(b1, C l1 141)], fu := 0, up := false }) 82) :: ((m.d.aE ++ (m.d.nE ++ (m.d.iE ++ [(m.d.vb, MO (kInt .u32) m.d.vd)]))) ++ ((b1, C l1 141) :: ((rb, MD (kInt .u32) rl rn) :: (Z ++ G9))))) hl hh rfl rfl (by repeat (first | exact keeps_nil | apply keeps_cons (by repeat (first | exact find_head | apply find_tail | apply find_skip)) (by first  | rfl) | exact keeps_self | exact keeps_left | apply keeps_app | apply keeps_mv | apply keeps_skip)) ?_; exact MdS.nil (by rw [hsx]; rfl) (MdO.grow (G := G9) (m' := { m with q := qs, qp := p9, qc := m.qc - 1, qE := [(b1, C l1 141)], fu := 0, up := false }) (by rw [hsx]; exact ⟨hm.dok.app, hm.d, rfl, hRO, (fun z hz => (hm.qo z (by rw [hqx]; exact List.mem_cons_of_mem _ hz)).app), rfl, hm.r, hm.ys, hm.dn, hm.tk, hm.au, hm.fl, rfl, hm.kp, (by simp)⟩) (by simp only [MF, DuV.E_eq, hrE, List.append_assoc, List.cons_append, List.nil_append])))
                  ·
                    try simp only [List.cons_append, List.nil_append, List.append_nil] at hh
                    try simp only [List.append_assoc, List.cons_append, List.nil_append] at hh
                    refine w_nil ?_
                    have hl2 := hl.add (t := 0) (hl.add (t := 3) (hl.add (t := 116) (hl.nil) rfl) rfl) rfl; clear hl; have hl := hl2; clear hl2
                    refine then_normal ?_
                    refine wp_block ?_
                    refine c_seq ?_
                    refine c_region ?_
                    refine wl (wl_val hl rfl trivial (r_eql hl rfl rfl) ?_)
                    clear hl a; intro a hl
                    refine wl (wl_val hl rfl trivial (r_assign hl rfl) ?_)
                    clear hl a; intro a hl
                    refine w_nil ?_
                    have hl2 := hl.add (t := 0) (hl.add (t := 3) (hl.add (t := 116) (hl.add (t := 117) (hl.nil) rfl) rfl) rfl) rfl; clear hl; have hl := hl2; clear hl2
                    refine then_normal ?_
                    refine c_condF hl rfl ?_
                    refine c_seq ?_
                    refine c_region ?_
                    refine wl (wl_val hl rfl trivial (r_eql hl rfl rfl) ?_)
                    clear hl a; intro a hl
                    refine wl (wl_val hl rfl trivial (r_assign hl rfl) ?_)
                    clear hl a; intro a hl
                    refine w_nil ?_
                    have hl2 := hl.add (t := 0) (hl.add (t := 125) (hl.nil) rfl) rfl; clear hl; have hl := hl2; clear hl2
                    refine then_normal ?_
                    refine c_condT hl rfl ?_
                    refine c_seq ?_
                    refine c_region ?_
                    refine wl (wl_val hl rfl trivial (r_assign hl rfl) ?_)
                    clear hl a; intro a hl
                    refine w_nil ?_
                    have hl2 := hl.add (t := 2) (hl.nil) rfl; clear hl; have hl := hl2; clear hl2
                    refine then_normal ?_
                    refine wp_ret ?_
                    refine blk_ret ?_
                    refine then_ret ?_
                    first
                    | (have hsx := (tk_0 (l := l) hI.on hp).trans (sx_2 hqp hv0 hap3 (show (admitP l (stNx g (btP x).1 n2.pl)).2 = 2 by rw [← hpl, hr])); rw [← hpl, hr] at hsx; refine f_ret1 (F' := (mb, C (MdV.c { m with q := qs, qp := p9, qc := m.qc - 1, qE := [(b1, C l1 141)], d := { s1 with ph := 1, fid := x.id, fn := n2 }, fu := 0, up := false }) 82) :: ((s1.aE ++ (s1.nE ++ (s1.iE ++ [(s1.vb, MO (kInt .u32) s1.vd)]))) ++ ((b1, C l1 141) :: ((rb, MD (kInt .u32) rl rn) :: (Z ++ G9))))) hl hh rfl rfl (by repeat (first | exact keeps_nil | apply keeps_cons (by repeat (first | exact find_head | apply find_tail | apply find_skip)) (by first  | rfl) | exact keeps_self | exact keeps_left | apply keeps_app | apply keeps_mv | apply keeps_skip)) ?_; exact MdS.nil (by rw [hsx]; rfl) (MdO.grow (G := G9) (m' := { m with q := qs, qp := p9, qc := m.qc - 1, qE := [(b1, C l1 141)], d := { s1 with ph := 1, fid := x.id, fn := n2 }, fu := 0, up := false }) (by rw [hsx]; exact ⟨hso, rfl, rfl, hRO, (fun z hz => (hm.qo z (by rw [hqx]; exact List.mem_cons_of_mem _ hz)).app), rfl, hm.r, hm.ys, hm.dn, hm.tk, hm.au, hm.fl, rfl, hm.kp, (by simp)⟩) (by simp only [MF, DuV.E_eq, hrE, List.append_assoc, List.cons_append, List.nil_append])))
                    | (have hsx := (tk_0 (l := l) hI.on hp).trans (sx_2 hqp hv0 hap3 (show (admitP l (stNx g (btP x).1 n2.pl)).2 = 2 by rw [← hpl, hr])); rw [← hpl, hr] at hsx; refine f_ret1 (F' := (mb, C (MdV.c { m with q := qs, qp := p9, qc := m.qc - 1, qE := [(b1, C l1 141)], fu := 0, up := false }) 82) :: ((m.d.aE ++ (m.d.nE ++ (m.d.iE ++ [(m.d.vb, MO (kInt .u32) m.d.vd)]))) ++ ((b1, C l1 141) :: ((rb, MD (kInt .u32) rl rn) :: (Z ++ G9))))) hl hh rfl rfl (by repeat (first | exact keeps_nil | apply keeps_cons (by repeat (first | exact find_head | apply find_tail | apply find_skip)) (by first  | rfl) | exact keeps_self | exact keeps_left | apply keeps_app | apply keeps_mv | apply keeps_skip)) ?_; exact MdS.nil (by rw [hsx]; rfl) (MdO.grow (G := G9) (m' := { m with q := qs, qp := p9, qc := m.qc - 1, qE := [(b1, C l1 141)], fu := 0, up := false }) (by rw [hsx]; exact ⟨hm.dok.app, hm.d, rfl, hRO, (fun z hz => (hm.qo z (by rw [hqx]; exact List.mem_cons_of_mem _ hz)).app), rfl, hm.r, hm.ys, hm.dn, hm.tk, hm.au, hm.fl, rfl, hm.kp, (by simp)⟩) (by simp only [MF, DuV.E_eq, hrE, List.append_assoc, List.cons_append, List.nil_append])))
          ·
            try clear hM
            refine id (w_alloc hl hh rfl trivial zero66 rfl ?_)
            clear hl hh a w; intro k4 a w hl hh
            have hM : Mem [(mb, C (MdV.c { m with q := qs, qp := p9, qc := m.qc - 1, qE := [(b1, C l1 141)] }) 82), (k3, C (btc x) 141)] w := (memK hh (by repeat (first | exact keeps_nil | apply keeps_cons (by repeat (first | exact find_head | apply find_tail | apply find_skip)) (by first  | rfl) | exact keeps_self | exact keeps_left | apply keeps_app | apply keeps_mv | apply keeps_skip)))
            refine d_step (fun _ => hM) ?_
            refine d_one (i := 13) (by kernel_rfl) rfl ?_
            try clear hM
            first | refine id (w_loadA hl hh rfl trivial agg66 rfl (by repeat (first | exact find_head | apply find_tail | apply find_skip)) (by first | exact NtV.whole hn2 | exact hyn) (by first | exact NtV.len hn2 | exact ntk_len _) ?_) | refine id (wl_val hl rfl trivial (r_loadA hl rfl agg66 (hh.mem _ _ (by repeat (first | exact hmem2 | exact List.mem_append_left _ hmem2 | apply List.mem_cons_of_mem | apply List.mem_append_right))) hyn (ntk_len _)) ?_)
            clear hl a; intro a hl
            rw [show ntc y = _ from ntk_eq hyo.1] at hl
            have hM : Mem [(mb, C (MdV.c { m with q := qs, qp := p9, qc := m.qc - 1, qE := [(b1, C l1 141)] }) 82), (k3, C (btc x) 141)] w := (memK hh (by repeat (first | exact keeps_nil | apply keeps_cons (by repeat (first | exact find_head | apply find_tail | apply find_skip)) (by first  | rfl) | exact keeps_self | exact keeps_left | apply keeps_app | apply keeps_mv | apply keeps_skip)))
            refine d_step (fun _ => hM) ?_
            refine d_one (i := 15) (by kernel_rfl) rfl ?_
            try clear hM
            refine id (w_call hl hh rfl trivial rfl cal66 rfl (apply2 Z y.n hyo.1 x hxo) (by repeat (first | exact keeps_nil | apply keeps_cons (by repeat (first | exact find_head | apply find_tail | apply find_skip)) (by first  | rfl) | exact keeps_self | exact keeps_left | apply keeps_app | apply keeps_mv | apply keeps_skip)) (memK hh (by repeat (first | exact keeps_nil | apply keeps_cons (by repeat (first | exact find_head | apply find_tail | apply find_skip)) (by first  | rfl) | exact keeps_self | exact keeps_left | apply keeps_app | apply keeps_mv | apply keeps_skip))) ?_)
            clear hl hh a w; intro vc Fc a w hR hl hh
            obtain ⟨n2, bo, hn2, hap, rfl⟩ := hR
            try simp only [List.cons_append, List.nil_append, List.append_assoc, List.append_nil] at hh
            rw [← hlast] at hap
            generalize Fc = G9 at hh hn2
            replace hh := hh.comm
            simp only [List.cons_append, List.nil_append, List.append_nil, List.append_assoc] at hh
            have hM : Mem [(mb, C (MdV.c { m with q := qs, qp := p9, qc := m.qc - 1, qE := [(b1, C l1 141)] }) 82), (k3, C (btc x) 141)] w := (memK hh (by repeat (first | exact keeps_nil | apply keeps_cons (by repeat (first | exact find_head | apply find_tail | apply find_skip)) (by first  | rfl) | exact keeps_self | exact keeps_left | apply keeps_app | apply keeps_mv | apply keeps_skip)))
            refine d_step (fun _ => hM) ?_
            refine d_take (i := 16) hl rfl (by kernel_rfl) (by kernel_rfl) (by kernel_rfl) (by kernel_rfl) (by kernel_rfl) rfl trivial (fun _ _ _ h => h) hM (fun w hC => r_move hl rfl) rfl ?_
            clear hl a; intro a hl
            refine d_take (i := 17) hl rfl (by kernel_rfl) (by kernel_rfl) (by kernel_rfl) (by kernel_rfl) (by kernel_rfl) rfl trivial (fun _ _ _ h => h) hM (fun w hC => r_extract hl rfl (by simp only [List.getElem?_toArray, List.getElem?_cons_zero, List.getElem?_cons_succ]; rfl)) rfl ?_
            clear hl a; intro a hl
            refine d_take (i := 18) hl rfl (by kernel_rfl) (by kernel_rfl) (by kernel_rfl) (by kernel_rfl) (by kernel_rfl) rfl trivial (fun _ _ _ h => h) hM (fun w hC => r_extract hl rfl (by simp only [List.getElem?_toArray, List.getElem?_cons_zero, List.getElem?_cons_succ]; rfl)) rfl ?_
            clear hl a; intro a hl
            refine d_one (i := 20) (by kernel_rfl) rfl ?_
            try clear hM
            refine id (w_storeA hl hh trivial agg66 rfl rfl (by repeat (first | exact find_head | apply find_tail | apply find_skip)) (by first | exact NtV.len hn2 | exact ntk_len _) (by first | exact Nat.le_refl 64 | (rw [duc_len]; omega)) (by first | exact NtV.one | exact ntk_one _) (by first | exact setL_all (show 64 = _ from (NtV.len hn2).symm) | exact duc_sfn _ _) ?_)
            clear hh w; intro w hh
            have hM : Mem [(mb, C (MdV.c { m with q := qs, qp := p9, qc := m.qc - 1, qE := [(b1, C l1 141)] }) 82), (k3, C (btc x) 141)] w := (memK hh (by repeat (first | exact keeps_nil | apply keeps_cons (by repeat (first | exact find_head | apply find_tail | apply find_skip)) (by first  | rfl) | exact keeps_self | exact keeps_left | apply keeps_app | apply keeps_mv | apply keeps_skip)))
            refine d_step (fun _ => hM) ?_
            refine d_takeL (i := 21) hl rfl (by kernel_rfl) (by kernel_rfl) (by kernel_rfl) (by kernel_rfl) (by kernel_rfl) rfl trivial (fun _ _ _ h => h) (fun w => r_assign hl rfl) rfl ?_
            clear hl a; intro a hl
            refine d_done (by kernel_rfl) ?_
            try clear hM
            have hl2 := hl.add (t := 0) (hl.add (t := 3) (hl.add (t := 4) (hl.add (t := 5) (hl.nil) rfl) rfl) rfl) rfl; clear hl; have hl := hl2; clear hl2
            refine then_normal ?_
            refine c_seq ?_
            refine c_seq ?_
            refine c_region ?_
            refine wl (wl_val hl rfl trivial (r_move hl rfl) ?_)
            clear hl a; intro a hl
            refine wl (wl_val hl rfl trivial (r_not hl rfl) ?_)
            clear hl a; intro a hl
            refine w_nil ?_
            have hl2 := hl.add (t := 0) (hl.add (t := 3) (hl.add (t := 4) (hl.add (t := 82) (hl.nil) rfl) rfl) rfl) rfl; clear hl; have hl := hl2; clear hl2
            refine then_normal ?_
            refine c_cond hl rfl ?_ ?_
            · intro hc4
              try simp only [decide_eq_true_eq, decide_eq_false_iff_not, Bool.not_eq_true', Bool.not_eq_false', Bool.not_eq_true, Bool.not_eq_false, Bool.and_eq_true, Bool.or_eq_true, Bool.and_eq_false_iff, Bool.or_eq_false_iff, Bool.not_not, ne_eq, Int.not_lt, Int.not_le, Decidable.not_not, beq_iff_eq, bne_iff_ne] at hc4
              have hvc := vc_9 (g := g) (cs := x.cs) (by rw [hap, hc4]; rfl)
              refine c_seq ?_
              refine c_draw [(mb, C (MdV.c { m with q := qs, qp := p9, qc := m.qc - 1, qE := [(b1, C l1 141)] }) 82), (k3, C (btc x) 141)] [6] mixed hh ?_
              clear hh w; intro w hh
              have hM : Mem [(mb, C (MdV.c { m with q := qs, qp := p9, qc := m.qc - 1, qE := [(b1, C l1 141)] }) 82), (k3, C (btc x) 141)] w := (memK hh (by repeat (first | exact keeps_nil | apply keeps_cons (by repeat (first | exact find_head | apply find_tail | apply find_skip)) (by first  | rfl) | exact keeps_self | exact keeps_left | apply keeps_app | apply keeps_mv | apply keeps_skip)))
              refine d_take (i := 0) hl rfl (by kernel_rfl) (by kernel_rfl) (by kernel_rfl) (by kernel_rfl) (by kernel_rfl) rfl trivial (fun _ _ _ h => h) hM (fun w hC => r_move hl rfl) rfl ?_
              clear hl a; intro a hl
              refine d_take (i := 1) hl rfl (by kernel_rfl) (by kernel_rfl) (by kernel_rfl) (by kernel_rfl) (by kernel_rfl) rfl trivial (fun _ _ _ h => h) hM (fun w hC => r_nilCheck hl rfl) rfl ?_
              clear hl a; intro a hl
              refine d_take (i := 2) hl rfl (by kernel_rfl) (by kernel_rfl) (by kernel_rfl) (by kernel_rfl) (by kernel_rfl) rfl trivial (fun _ _ _ h => h) hM (fun w hC => r_field hl rfl fld82_3) rfl ?_
              clear hl a; intro a hl
              refine d_take (i := 3) hl rfl (by kernel_rfl) (by kernel_rfl) (by kernel_rfl) (by kernel_rfl) (by kernel_rfl) rfl trivial (fun _ _ _ h => h) hM (fun w hC => r_loadC hl rfl one74 hC (by repeat (first | exact find_head | apply find_tail | apply find_skip)) (by first | exact mdc_ep _ | exact mdc_a _ | exact mdc_n _ | exact mdc_i _ | exact mdc_ph _ | exact mdc_fid _ | exact mdc_vd _ | exact mdc_up _ | exact mdc_q _ | exact mdc_rf _ | exact mdc_tk _ | exact mdc_au _ | exact mdc_fl _ | exact mdc_fu _ | exact mdc_kp _ | exact duc_ep _ | exact duc_a _ | exact duc_n _ | exact duc_i _ | exact duc_ph _ | exact duc_fid _ | exact duc_vd _ | rfl)) rfl ?_
              clear hl a; intro a hl
              rw [hrb] at hl
              refine d_take (i := 4) hl rfl (by kernel_rfl) (by kernel_rfl) (by kernel_rfl) (by kernel_rfl) (by kernel_rfl) rfl trivial (fun _ _ _ h => h) hM (fun w hC => r_field hl rfl fld141_0) rfl ?_
              clear hl a; intro a hl
              refine d_take (i := 5) hl rfl (by kernel_rfl) (by kernel_rfl) (by kernel_rfl) (by kernel_rfl) (by kernel_rfl) rfl trivial (fun _ _ _ h => h) hM (fun w hC => r_loadC hl rfl one36 hC (by repeat (first | exact find_head | apply find_tail | apply find_skip)) (by first | exact mdc_ep _ | exact mdc_a _ | exact mdc_n _ | exact mdc_i _ | exact mdc_ph _ | exact mdc_fid _ | exact mdc_vd _ | exact mdc_up _ | exact mdc_q _ | exact mdc_rf _ | exact mdc_tk _ | exact mdc_au _ | exact mdc_fl _ | exact mdc_fu _ | exact mdc_kp _ | exact duc_ep _ | exact duc_a _ | exact duc_n _ | exact duc_i _ | exact duc_ph _ | exact duc_fid _ | exact duc_vd _ | rfl)) rfl ?_
              clear hl a; intro a hl
              refine d_one (i := 6) (by kernel_rfl) rfl ?_
              try clear hM
              refine id (w_mapUpdG kd36 (keyInt Tryz.underlying36) Tryz.underlying74 hl hh trivial rfl rfl rfl (by repeat (first | exact find_head | apply find_tail | apply find_skip)) ?_)
              clear hh w; intro w hh
              refine d_step (fun h => absurd h (by decide)) ?_
              refine d_done (by kernel_rfl) ?_
              try clear hM
              have hl2 := hl.nil; clear hl; have hl := hl2; clear hl2
              refine then_normal ?_
              refine c_seq ?_
              refine c_region ?_
              refine wl (wl_val hl rfl trivial (r_assign hl rfl) ?_)
              clear hl a; intro a hl
              refine w_nil ?_
              have hl2 := hl.add (t := 2) (hl.nil) rfl; clear hl; have hl := hl2; clear hl2
              refine then_normal ?_
              refine wp_ret ?_
              refine then_ret ?_
              rw [← mdc_rE { m with q := qs, qp := p9, qc := m.qc - 1, qE := [(b1, C l1 141)] } [(rb, MD (kInt .u32) (dput rl x.id (.int .u8 9) rn).1 (dput rl x.id (.int .u8 9) rn).2)]] at hh
              simp only at hh
              refine f_ret1 (F' := (mb, C (MdV.c { m with q := qs, qp := p9, qc := m.qc - 1, qE := [(b1, C l1 141)], rE := [(rb, MD (kInt .u32) (dput rl x.id (.int .u8 9) rn).1 (dput rl x.id (.int .u8 9) rn).2)] }) 82) :: ((m.d.aE ++ (m.d.nE ++ (m.d.iE ++ [(m.d.vb, MO (kInt .u32) m.d.vd)]))) ++ ((b1, C l1 141) :: ((rb, MD (kInt .u32) (dput rl x.id (.int .u8 9) rn).1 (dput rl x.id (.int .u8 9) rn).2) :: (Z ++ G9))))) hl hh rfl rfl (by repeat (first | exact keeps_nil | apply keeps_cons (by repeat (first | exact find_head | apply find_tail | apply find_skip)) (by first  | rfl) | exact keeps_self | exact keeps_left | apply keeps_app | apply keeps_mv | apply keeps_skip)) ?_
              have hsx := (tk_0 (l := l) hI.on hp).trans (sx_r hqp (show ¬ vcP g x.cs = 0 by omega))
              rw [show vcP g (btP x).2 = 9 from hvc] at hsx
              refine MdS.nil (by rw [hsx]; exact hI.o) (MdO.grow (G := G9) (m' := { m with q := qs, qp := p9, qc := m.qc - 1, qE := [(b1, C l1 141)], rE := [(rb, MD (kInt .u32) (dput rl x.id (.int .u8 9) rn).1 (dput rl x.id (.int .u8 9) rn).2)] }) (by rw [hsx]; exact ⟨hm.dok.app, hm.d, hm.up, hRO, (fun z hz => (hm.qo z (by rw [hqx]; exact List.mem_cons_of_mem _ hz)).app), rfl, ⟨rb, _, _, hrb, rfl, ru_ok hrv x.id (by omega), dput_ky hrk, ru_pl hrf x.id 9⟩, hm.ys, hm.dn, hm.tk, hm.au, hm.fl, hm.fu, hm.kp, hm.fb⟩) (by simp only [MF, DuV.E_eq, hrE, List.append_assoc, List.cons_append, List.nil_append]))
            · intro hc4
              try simp only [decide_eq_true_eq, decide_eq_false_iff_not, Bool.not_eq_true', Bool.not_eq_false', Bool.not_eq_true, Bool.not_eq_false, Bool.and_eq_true, Bool.or_eq_true, Bool.and_eq_false_iff, Bool.or_eq_false_iff, Bool.not_not, ne_eq, Int.not_lt, Int.not_le, Decidable.not_not, beq_iff_eq, bne_iff_ne] at hc4
              have hap2 : apP (lastV g) x.cs = some n2.pl := by rw [hap, hc4]; rfl
              have hap3 : apP (lastV g) (btP x).2 = some n2.pl := hap2
              refine wp_skip ?_
              refine then_normal ?_
              refine c_seq ?_
              refine c_seq ?_
              refine c_draw [(mb, C (MdV.c { m with q := qs, qp := p9, qc := m.qc - 1, qE := [(b1, C l1 141)] }) 82), (k4, C n2.c 66)] [6, 7] mixed hh ?_
              clear hh w; intro w hh
              have hM : Mem [(mb, C (MdV.c { m with q := qs, qp := p9, qc := m.qc - 1, qE := [(b1, C l1 141)] }) 82), (k4, C n2.c 66)] w := (memK hh (by repeat (first | exact keeps_nil | apply keeps_cons (by repeat (first | exact find_head | apply find_tail | apply find_skip)) (by first  | rfl) | exact keeps_self | exact keeps_left | apply keeps_app | apply keeps_mv | apply keeps_skip)))
              refine d_take (i := 0) hl rfl (by kernel_rfl) (by kernel_rfl) (by kernel_rfl) (by kernel_rfl) (by kernel_rfl) rfl trivial (fun _ _ _ h => h) hM (fun w hC => r_loadCA hl rfl agg66 hC (by repeat (first | exact find_head | apply find_tail | apply find_skip)) (by first | exact NtV.whole hn2 | exact hyn) (by first | exact NtV.len hn2 | exact ntk_len _)) rfl ?_
              clear hl a; intro a hl
              refine d_take (i := 1) hl rfl (by kernel_rfl) (by kernel_rfl) (by kernel_rfl) (by kernel_rfl) (by kernel_rfl) rfl trivial (fun _ _ _ h => h) hM (fun w hC => r_move hl rfl) rfl ?_
              clear hl a; intro a hl
              refine d_take (i := 2) hl rfl (by kernel_rfl) (by kernel_rfl) (by kernel_rfl) (by kernel_rfl) (by kernel_rfl) rfl trivial (fun _ _ _ h => h) hM (fun w hC => r_nilCheck hl rfl) rfl ?_
              clear hl a; intro a hl
              refine d_take (i := 3) hl rfl (by kernel_rfl) (by kernel_rfl) (by kernel_rfl) (by kernel_rfl) (by kernel_rfl) rfl trivial (fun _ _ _ h => h) hM (fun w hC => r_field hl rfl fld82_0) rfl ?_
              clear hl a; intro a hl
              refine d_take (i := 4) hl rfl (by kernel_rfl) (by kernel_rfl) (by kernel_rfl) (by kernel_rfl) (by kernel_rfl) rfl trivial (fun _ _ _ h => h) hM (fun w hC => r_field hl rfl fld78_3) rfl ?_
              clear hl a; intro a hl
              refine d_take (i := 5) hl rfl (by kernel_rfl) (by kernel_rfl) (by kernel_rfl) (by kernel_rfl) (by kernel_rfl) rfl trivial (fun _ _ _ h => h) hM (fun w hC => r_loadC hl rfl one75 hC (by repeat (first | exact find_head | apply find_tail | apply find_skip)) (by first | exact mdc_ep _ | exact mdc_a _ | exact mdc_n _ | exact mdc_i _ | exact mdc_ph _ | exact mdc_fid _ | exact mdc_vd _ | exact mdc_up _ | exact mdc_q _ | exact mdc_rf _ | exact mdc_tk _ | exact mdc_au _ | exact mdc_fl _ | exact mdc_fu _ | exact mdc_kp _ | exact duc_ep _ | exact duc_a _ | exact duc_n _ | exact duc_i _ | exact duc_ph _ | exact duc_fid _ | exact duc_vd _ | rfl)) rfl ?_
              clear hl a; intro a hl
              refine d_one (i := 6) (by kernel_rfl) rfl ?_
              try clear hM
              refine id (w_call hl hh rfl trivial rfl cal58 rfl (check_spec (Z ++ G9) n2 hn2 m.d.is hm.dok.io m.d.ip m.d.ic m.d.iE hm.dok.i (by omega)) (by repeat (first | exact keeps_nil | apply keeps_cons (by repeat (first | exact find_head | apply find_tail | apply find_skip)) (by first  | rfl) | exact keeps_self | exact keeps_left | apply keeps_app | apply keeps_mv | apply keeps_skip)) ⟨(fun b o mz => (by rcases List.mem_append.1 mz with mz | mz; exact memK (E := Z) hh (by repeat (first | exact keeps_nil | apply keeps_cons (by repeat (first | exact find_head | apply find_tail | apply find_skip)) (by first  | rfl) | exact keeps_self | exact keeps_left | apply keeps_app | apply keeps_mv | apply keeps_skip)) b o mz; exact memK (E := G9) hh (by repeat (first | exact keeps_nil | apply keeps_cons (by repeat (first | exact find_head | apply find_tail | apply find_skip)) (by first  | rfl) | exact keeps_self | exact keeps_left | apply keeps_app | apply keeps_mv | apply keeps_skip)) b o mz)), memK (E := m.d.iE) hh (by repeat (first | exact keeps_nil | apply keeps_cons (by repeat (first | exact find_head | apply find_tail | apply find_skip)) (by first  | rfl) | exact keeps_self | exact keeps_left | apply keeps_app | apply keeps_mv | apply keeps_skip))⟩ ?_)
              clear hl hh a w; intro vc Fc a w hR hl hh
              obtain ⟨rfl, rfl⟩ := hR
              try simp only [List.cons_append, List.nil_append, List.append_assoc, List.append_nil] at hh
              refine d_step (fun h => absurd h (by decide)) ?_
              refine d_takeL (i := 7) hl rfl (by kernel_rfl) (by kernel_rfl) (by kernel_rfl) (by kernel_rfl) (by kernel_rfl) rfl trivial (fun _ _ _ h => h) (fun w => r_not hl rfl) rfl ?_
              clear hl a; intro a hl
              refine d_done (by kernel_rfl) ?_
              try clear hM
              have hl2 := hl.add (t := 0) (hl.add (t := 3) (hl.add (t := 4) (hl.add (t := 96) (hl.nil) rfl) rfl) rfl) rfl; clear hl; have hl := hl2; clear hl2
              refine then_normal ?_
              refine c_cond hl rfl ?_ ?_
              · intro hc5
                try simp only [decide_eq_true_eq, decide_eq_false_iff_not, Bool.not_eq_true', Bool.not_eq_false', Bool.not_eq_true, Bool.not_eq_false, Bool.and_eq_true, Bool.or_eq_true, Bool.and_eq_false_iff, Bool.or_eq_false_iff, Bool.not_not, ne_eq, Int.not_lt, Int.not_le, Decidable.not_not, beq_iff_eq, bne_iff_ne] at hc5
                have hvc := vc_10 (g := g) hap2 (by rw [← show m.d.is = g.st.is from congrArg StP.is hst]; simpa using hc5)
                refine c_seq ?_
                refine c_draw [(mb, C (MdV.c { m with q := qs, qp := p9, qc := m.qc - 1, qE := [(b1, C l1 141)] }) 82), (k3, C (btc x) 141)] [6] mixed hh ?_
                clear hh w; intro w hh
                have hM : Mem [(mb, C (MdV.c { m with q := qs, qp := p9, qc := m.qc - 1, qE := [(b1, C l1 141)] }) 82), (k3, C (btc x) 141)] w := (memK hh (by repeat (first | exact keeps_nil | apply keeps_cons (by repeat (first | exact find_head | apply find_tail | apply find_skip)) (by first  | rfl) | exact keeps_self | exact keeps_left | apply keeps_app | apply keeps_mv | apply keeps_skip)))
                refine d_take (i := 0) hl rfl (by kernel_rfl) (by kernel_rfl) (by kernel_rfl) (by kernel_rfl) (by kernel_rfl) rfl trivial (fun _ _ _ h => h) hM (fun w hC => r_move hl rfl) rfl ?_
                clear hl a; intro a hl
                refine d_take (i := 1) hl rfl (by kernel_rfl) (by kernel_rfl) (by kernel_rfl) (by kernel_rfl) (by kernel_rfl) rfl trivial (fun _ _ _ h => h) hM (fun w hC => r_nilCheck hl rfl) rfl ?_
                clear hl a; intro a hl
                refine d_take (i := 2) hl rfl (by kernel_rfl) (by kernel_rfl) (by kernel_rfl) (by kernel_rfl) (by kernel_rfl) rfl trivial (fun _ _ _ h => h) hM (fun w hC => r_field hl rfl fld82_3) rfl ?_
                clear hl a; intro a hl
                refine d_take (i := 3) hl rfl (by kernel_rfl) (by kernel_rfl) (by kernel_rfl) (by kernel_rfl) (by kernel_rfl) rfl trivial (fun _ _ _ h => h) hM (fun w hC => r_loadC hl rfl one74 hC (by repeat (first | exact find_head | apply find_tail | apply find_skip)) (by first | exact mdc_ep _ | exact mdc_a _ | exact mdc_n _ | exact mdc_i _ | exact mdc_ph _ | exact mdc_fid _ | exact mdc_vd _ | exact mdc_up _ | exact mdc_q _ | exact mdc_rf _ | exact mdc_tk _ | exact mdc_au _ | exact mdc_fl _ | exact mdc_fu _ | exact mdc_kp _ | exact duc_ep _ | exact duc_a _ | exact duc_n _ | exact duc_i _ | exact duc_ph _ | exact duc_fid _ | exact duc_vd _ | rfl)) rfl ?_
                clear hl a; intro a hl
                rw [hrb] at hl
                refine d_take (i := 4) hl rfl (by kernel_rfl) (by kernel_rfl) (by kernel_rfl) (by kernel_rfl) (by kernel_rfl) rfl trivial (fun _ _ _ h => h) hM (fun w hC => r_field hl rfl fld141_0) rfl ?_
                clear hl a; intro a hl
                refine d_take (i := 5) hl rfl (by kernel_rfl) (by kernel_rfl) (by kernel_rfl) (by kernel_rfl) (by kernel_rfl) rfl trivial (fun _ _ _ h => h) hM (fun w hC => r_loadC hl rfl one36 hC (by repeat (first | exact find_head | apply find_tail | apply find_skip)) (by first | exact mdc_ep _ | exact mdc_a _ | exact mdc_n _ | exact mdc_i _ | exact mdc_ph _ | exact mdc_fid _ | exact mdc_vd _ | exact mdc_up _ | exact mdc_q _ | exact mdc_rf _ | exact mdc_tk _ | exact mdc_au _ | exact mdc_fl _ | exact mdc_fu _ | exact mdc_kp _ | exact duc_ep _ | exact duc_a _ | exact duc_n _ | exact duc_i _ | exact duc_ph _ | exact duc_fid _ | exact duc_vd _ | rfl)) rfl ?_
                clear hl a; intro a hl
                refine d_one (i := 6) (by kernel_rfl) rfl ?_
                try clear hM
                refine id (w_mapUpdG kd36 (keyInt Tryz.underlying36) Tryz.underlying74 hl hh trivial rfl rfl rfl (by repeat (first | exact find_head | apply find_tail | apply find_skip)) ?_)
                clear hh w; intro w hh
                refine d_step (fun h => absurd h (by decide)) ?_
                refine d_done (by kernel_rfl) ?_
                try clear hM
                have hl2 := hl.nil; clear hl; have hl := hl2; clear hl2
                refine then_normal ?_
                refine c_seq ?_
                refine c_region ?_
                refine wl (wl_val hl rfl trivial (r_assign hl rfl) ?_)
                clear hl a; intro a hl
                refine w_nil ?_
                have hl2 := hl.add (t := 2) (hl.nil) rfl; clear hl; have hl := hl2; clear hl2
                refine then_normal ?_
                refine wp_ret ?_
                refine then_ret ?_
                rw [← mdc_rE { m with q := qs, qp := p9, qc := m.qc - 1, qE := [(b1, C l1 141)] } [(rb, MD (kInt .u32) (dput rl x.id (.int .u8 10) rn).1 (dput rl x.id (.int .u8 10) rn).2)]] at hh
                simp only at hh
                refine f_ret1 (F' := (mb, C (MdV.c { m with q := qs, qp := p9, qc := m.qc - 1, qE := [(b1, C l1 141)], rE := [(rb, MD (kInt .u32) (dput rl x.id (.int .u8 10) rn).1 (dput rl x.id (.int .u8 10) rn).2)] }) 82) :: ((m.d.aE ++ (m.d.nE ++ (m.d.iE ++ [(m.d.vb, MO (kInt .u32) m.d.vd)]))) ++ ((b1, C l1 141) :: ((rb, MD (kInt .u32) (dput rl x.id (.int .u8 10) rn).1 (dput rl x.id (.int .u8 10) rn).2) :: (Z ++ G9))))) hl hh rfl rfl (by repeat (first | exact keeps_nil | apply keeps_cons (by repeat (first | exact find_head | apply find_tail | apply find_skip)) (by first  | rfl) | exact keeps_self | exact keeps_left | apply keeps_app | apply keeps_mv | apply keeps_skip)) ?_
                have hsx := (tk_0 (l := l) hI.on hp).trans (sx_r hqp (show ¬ vcP g x.cs = 0 by omega))
                rw [show vcP g (btP x).2 = 10 from hvc] at hsx
                refine MdS.nil (by rw [hsx]; exact hI.o) (MdO.grow (G := G9) (m' := { m with q := qs, qp := p9, qc := m.qc - 1, qE := [(b1, C l1 141)], rE := [(rb, MD (kInt .u32) (dput rl x.id (.int .u8 10) rn).1 (dput rl x.id (.int .u8 10) rn).2)] }) (by rw [hsx]; exact ⟨hm.dok.app, hm.d, hm.up, hRO, (fun z hz => (hm.qo z (by rw [hqx]; exact List.mem_cons_of_mem _ hz)).app), rfl, ⟨rb, _, _, hrb, rfl, ru_ok hrv x.id (by omega), dput_ky hrk, ru_pl hrf x.id 10⟩, hm.ys, hm.dn, hm.tk, hm.au, hm.fl, hm.fu, hm.kp, hm.fb⟩) (by simp only [MF, DuV.E_eq, hrE, List.append_assoc, List.cons_append, List.nil_append]))
              · intro hc5
                try simp only [decide_eq_true_eq, decide_eq_false_iff_not, Bool.not_eq_true', Bool.not_eq_false', Bool.not_eq_true, Bool.not_eq_false, Bool.and_eq_true, Bool.or_eq_true, Bool.and_eq_false_iff, Bool.or_eq_false_iff, Bool.not_not, ne_eq, Int.not_lt, Int.not_le, Decidable.not_not, beq_iff_eq, bne_iff_ne] at hc5
                have hv0 : vcP g (btP x).2 = 0 := vc_0 (g := g) hap2 (by rw [← show m.d.is = g.st.is from congrArg StP.is hst]; simpa using hc5)
                refine wp_skip ?_
                refine then_normal ?_
                refine c_seq ?_
                refine c_region ?_
                refine wl (wl_val hl rfl trivial (r_move hl rfl) ?_)
                clear hl a; intro a hl
                refine wl (wl_val hl rfl trivial (r_nilCheck hl rfl) ?_)
                clear hl a; intro a hl
                refine wl (wl_val hl rfl trivial (r_field hl rfl fld82_0) ?_)
                clear hl a; intro a hl
                first | refine wl (w_loadA hl hh rfl trivial agg78 rfl (by repeat (first | exact find_head | apply find_tail | apply find_skip)) (by first | exact duc_all _ | exact mdc_d _) (by exact duc_len _) ?_) | refine wl (wl_val hl rfl trivial (r_loadA hl rfl agg78 (hh.mem _ _ (by repeat (first | exact hmem2 | exact List.mem_append_left _ hmem2 | apply List.mem_cons_of_mem | apply List.mem_append_right))) hyn (ntk_len _)) ?_)
                clear hl a; intro a hl
                refine wl (w_call hl hh rfl trivial rfl cal115 rfl (cpy2 (Z ++ G9) m.d hm.dok.app) (by repeat (first | exact keeps_nil | apply keeps_cons (by repeat (first | exact find_head | apply find_tail | apply find_skip)) (by first  | rfl) | exact keeps_self | exact keeps_left | apply keeps_app | apply keeps_mv | apply keeps_skip)) trivial ?_)
                clear hl hh a w; intro vc Fc a w hR hl hh
                obtain ⟨s1, hs1, hps1, rfl, rfl⟩ := hR
                try simp only [List.cons_append, List.nil_append, List.append_assoc, List.append_nil] at hh
                rw [DuV.E_eq s1] at hh
                try simp only [List.append_assoc, List.cons_append, List.nil_append] at hh
                have hs9 : s1.pl = g.st := hps1.trans hst
                have hso : DuV.ok (Z ++ G9) { s1 with ph := 1, fid := x.id, fn := n2 } := du_fliok hs1 hxo.id (by omega) hn2
                have hpl : DuV.pl { s1 with ph := 1, fid := x.id, fn := n2 } = stNx g (btP x).1 n2.pl := du_flipl hs9 x.id n2
                refine wl (w_alloc hl hh rfl trivial zero78 rfl ?_)
                clear hl hh a w; intro k6 a w hl hh
                refine wl (w_storeA hl hh trivial agg78 rfl rfl (by repeat (first | exact find_head | apply find_tail | apply find_skip)) (by exact duc_len _) (by first | exact Nat.le_refl 71 | (rw [mdc_len]; omega)) (by exact duc_one _) (by first | exact setL_all (show 71 = _ from (duc_len _).symm) | exact mdc_sd _ _) ?_)
                clear hh w; intro w hh
                refine w_nil ?_
                have hl2 := hl.add (t := 0) (hl.add (t := 3) (hl.add (t := 4) (hl.add (t := 6) (hl.nil) rfl) rfl) rfl) rfl; clear hl; have hl := hl2; clear hl2
                refine then_normal ?_
                refine c_seq ?_
                refine c_draw [(k3, C (btc x) 141), (k4, C n2.c 66)] [7, 8] mixed hh ?_
                clear hh w; intro w hh
                have hM : Mem [(k3, C (btc x) 141), (k4, C n2.c 66)] w := (memK hh (by repeat (first | exact keeps_nil | apply keeps_cons (by repeat (first | exact find_head | apply find_tail | apply find_skip)) (by first  | rfl) | exact keeps_self | exact keeps_left | apply keeps_app | apply keeps_mv | apply keeps_skip)))
                refine d_take (i := 0) hl rfl (by kernel_rfl) (by kernel_rfl) (by kernel_rfl) (by kernel_rfl) (by kernel_rfl) rfl trivial (fun _ _ _ h => h) hM (fun w hC => r_field hl rfl fld141_0) rfl ?_
                clear hl a; intro a hl
                refine d_take (i := 1) hl rfl (by kernel_rfl) (by kernel_rfl) (by kernel_rfl) (by kernel_rfl) (by kernel_rfl) rfl trivial (fun _ _ _ h => h) hM (fun w hC => r_loadC hl rfl one36 hC (by repeat (first | exact find_head | apply find_tail | apply find_skip)) (by first | exact mdc_ep _ | exact mdc_a _ | exact mdc_n _ | exact mdc_i _ | exact mdc_ph _ | exact mdc_fid _ | exact mdc_vd _ | exact mdc_up _ | exact mdc_q _ | exact mdc_rf _ | exact mdc_tk _ | exact mdc_au _ | exact mdc_fl _ | exact mdc_fu _ | exact mdc_kp _ | exact duc_ep _ | exact duc_a _ | exact duc_n _ | exact duc_i _ | exact duc_ph _ | exact duc_fid _ | exact duc_vd _ | rfl)) rfl ?_
                clear hl a; intro a hl
                refine d_take (i := 2) hl rfl (by kernel_rfl) (by kernel_rfl) (by kernel_rfl) (by kernel_rfl) (by kernel_rfl) rfl trivial (fun _ _ _ h => h) hM (fun w hC => r_loadCA hl rfl agg66 hC (by repeat (first | exact find_head | apply find_tail | apply find_skip)) (by first | exact NtV.whole hn2 | exact hyn) (by first | exact NtV.len hn2 | exact ntk_len _)) rfl ?_
                clear hl a; intro a hl
                rw [← ntk_eq hn2] at hl
                refine d_take (i := 3) hl rfl (by kernel_rfl) (by kernel_rfl) (by kernel_rfl) (by kernel_rfl) (by kernel_rfl) rfl trivial (fun _ _ _ h => h) hM (fun w hC => r_field hl rfl fld78_4) rfl ?_
                clear hl a; intro a hl
                refine d_one (i := 4) (by kernel_rfl) rfl ?_
                try clear hM
                refine id (w_store hl hh trivial one76 rfl rfl (by repeat (first | exact find_head | apply find_tail | apply find_skip)) (by first | (simp; done) | (simp; omega) | (rw [mdc_len]; omega) | (rw [mdc_len]; simp; done) | (rw [duc_len]; omega) | (rw [duc_len]; simp; done)) (by first | rfl | assumption | (apply Row.one; assumption)) (by first | exact mdc_sup _ _ | exact mdc_stk _ _ | exact mdc_sau _ _ | exact mdc_sfl _ _ | exact mdc_sfu _ _ | exact mdc_skp _ _ | exact mdc_sq _ p9 qs (m.qc - 1) [(b1, C l1 141)] | exact duc_sph _ _ | exact duc_sfid _ _ | (simp only [setL, List.getElem?_cons_zero, List.getElem?_cons_succ, Value.cells, List.take_zero, List.take_succ_cons, List.take_nil, List.drop_zero, List.drop_succ_cons, List.drop_nil, List.length_cons, List.length_nil, List.cons_append, List.nil_append, List.append_nil, Nat.zero_add, Nat.add_zero, Nat.reduceAdd, Nat.reduceBEq, Nat.reduceEqDiff, Nat.ble, BEq.rfl, Bool.and_true, Bool.and_self, cond_true, beq_self_eq_true]; rfl)) ?_)
                clear hh w; intro w hh
                have hM : Mem [(k3, C (btc x) 141), (k4, C n2.c 66)] w := (memK hh (by repeat (first | exact keeps_nil | apply keeps_cons (by repeat (first | exact find_head | apply find_tail | apply find_skip)) (by first  | rfl) | exact keeps_self | exact keeps_left | apply keeps_app | apply keeps_mv | apply keeps_skip)))
                refine d_step (fun _ => hM) ?_
                refine d_take (i := 5) hl rfl (by kernel_rfl) (by kernel_rfl) (by kernel_rfl) (by kernel_rfl) (by kernel_rfl) rfl trivial (fun _ _ _ h => h) hM (fun w hC => r_field hl rfl fld78_5) rfl ?_
                clear hl a; intro a hl
                refine d_one (i := 6) (by kernel_rfl) rfl ?_
                try clear hM
                refine id (w_store hl hh trivial one36 rfl rfl (by repeat (first | exact find_head | apply find_tail | apply find_skip)) (by first | (simp; done) | (simp; omega) | (rw [mdc_len]; omega) | (rw [mdc_len]; simp; done) | (rw [duc_len]; omega) | (rw [duc_len]; simp; done)) (by first | rfl | assumption | (apply Row.one; assumption)) (by first | exact mdc_sup _ _ | exact mdc_stk _ _ | exact mdc_sau _ _ | exact mdc_sfl _ _ | exact mdc_sfu _ _ | exact mdc_skp _ _ | exact mdc_sq _ p9 qs (m.qc - 1) [(b1, C l1 141)] | exact duc_sph _ _ | exact duc_sfid _ _ | (simp only [setL, List.getElem?_cons_zero, List.getElem?_cons_succ, Value.cells, List.take_zero, List.take_succ_cons, List.take_nil, List.drop_zero, List.drop_succ_cons, List.drop_nil, List.length_cons, List.length_nil, List.cons_append, List.nil_append, List.append_nil, Nat.zero_add, Nat.add_zero, Nat.reduceAdd, Nat.reduceBEq, Nat.reduceEqDiff, Nat.ble, BEq.rfl, Bool.and_true, Bool.and_self, cond_true, beq_self_eq_true]; rfl)) ?_)
                clear hh w; intro w hh
                have hM : Mem [(k3, C (btc x) 141), (k4, C n2.c 66)] w := (memK hh (by repeat (first | exact keeps_nil | apply keeps_cons (by repeat (first | exact find_head | apply find_tail | apply find_skip)) (by first  | rfl) | exact keeps_self | exact keeps_left | apply keeps_app | apply keeps_mv | apply keeps_skip)))
                refine d_step (fun _ => hM) ?_
                refine d_takeL (i := 7) hl rfl (by kernel_rfl) (by kernel_rfl) (by kernel_rfl) (by kernel_rfl) (by kernel_rfl) rfl trivial (fun _ _ _ h => h) (fun w => r_field hl rfl fld78_6) rfl ?_
                clear hl a; intro a hl
                refine d_one (i := 8) (by kernel_rfl) rfl ?_
                try clear hM
                refine id (w_storeA hl hh trivial agg66 rfl rfl (by repeat (first | exact find_head | apply find_tail | apply find_skip)) (by first | exact NtV.len hn2 | exact ntk_len _) (by first | exact Nat.le_refl 64 | (rw [duc_len]; omega)) (by first | exact NtV.one | exact ntk_one _) (by first | exact setL_all (show 64 = _ from (NtV.len hn2).symm) | exact duc_sfn _ _) ?_)
                clear hh w; intro w hh
                refine d_step (fun h => absurd h (by decide)) ?_
                refine d_done (by kernel_rfl) ?_
                try clear hM
                have hl2 := hl.add (t := 0) (hl.add (t := 3) (hl.add (t := 6) (hl.nil) rfl) rfl) rfl; clear hl; have hl := hl2; clear hl2
                refine then_normal ?_
                refine c_seq ?_
                refine c_seq ?_
                refine c_region ?_
                refine wl (wl_val hl rfl trivial (r_move hl rfl) ?_)
                clear hl a; intro a hl
                first | refine wl (w_loadA hl hh rfl trivial agg78 rfl (by repeat (first | exact find_head | apply find_tail | apply find_skip)) (by first | exact duc_all _ | exact mdc_d _) (by exact duc_len _) ?_) | refine wl (wl_val hl rfl trivial (r_loadA hl rfl agg78 (hh.mem _ _ (by repeat (first | exact hmem2 | exact List.mem_append_left _ hmem2 | apply List.mem_cons_of_mem | apply List.mem_append_right))) hyn (ntk_len _)) ?_)
                clear hl a; intro a hl
                refine wl (w_call hl hh rfl trivial rfl cal116 rfl (write4 mb { m with q := qs, qp := p9, qc := m.qc - 1, qE := [(b1, C l1 141)] } { s1 with ph := 1, fid := x.id, fn := n2 } l hdn hm.fl hm.fu hm.kp hm.d hm.fb) (by repeat (first | exact keeps_nil | apply keeps_cons (by repeat (first | exact find_head | apply find_tail | apply find_skip)) (by first  | rfl) | exact keeps_self | exact keeps_left | apply keeps_app | apply keeps_mv | apply keeps_skip)) trivial ?_)
                clear hl hh a w; intro vc Fc a w hR hl hh
                rcases hR with ⟨f, hr, hf, rfl, rfl⟩ | ⟨hr, rfl, rfl⟩ | ⟨hr, rfl, rfl⟩ | ⟨hr, rfl, rfl⟩
                ·
                  try simp only [List.cons_append, List.nil_append, List.append_nil] at hh
                  try simp only [List.append_assoc, List.cons_append, List.nil_append] at hh
                  refine w_nil ?_
                  have hl2 := hl.add (t := 0) (hl.add (t := 3) (hl.add (t := 116) (hl.nil) rfl) rfl) rfl; clear hl; have hl := hl2; clear hl2
                  refine then_normal ?_
                  refine wp_block ?_
                  refine c_seq ?_
                  refine c_region ?_
                  refine wl (wl_val hl rfl trivial (r_eql hl rfl rfl) ?_)
                  clear hl a; intro a hl
                  refine wl (wl_val hl rfl trivial (r_assign hl rfl) ?_)
                  clear hl a; intro a hl
                  refine w_nil ?_
                  have hl2 := hl.add (t := 0) (hl.add (t := 3) (hl.add (t := 116) (hl.add (t := 117) (hl.nil) rfl) rfl) rfl) rfl; clear hl; have hl := hl2; clear hl2
                  refine then_normal ?_
                  refine c_condF hl rfl ?_
                  refine c_seq ?_
                  refine c_region ?_
                  refine wl (wl_val hl rfl trivial (r_eql hl rfl rfl) ?_)
                  clear hl a; intro a hl
                  refine wl (wl_val hl rfl trivial (r_assign hl rfl) ?_)
                  clear hl a; intro a hl
                  refine w_nil ?_
                  have hl2 := hl.add (t := 0) (hl.add (t := 125) (hl.nil) rfl) rfl; clear hl; have hl := hl2; clear hl2
                  refine then_normal ?_
                  refine c_condF hl rfl ?_
                  refine wp_skip ?_
                  refine blk_normal ?_
                  refine then_normal ?_
                  refine c_seq ?_
                  refine c_region ?_
                  refine wl (wl_val hl rfl trivial (r_move hl rfl) ?_)
                  clear hl a; intro a hl
                  refine wl (wl_val hl rfl trivial (r_build hl rfl zero80 bld80 (by simp only [fillL, setL, List.getElem?_cons_zero, List.getElem?_cons_succ, Value.cells, List.take_zero, List.take_succ_cons, List.take_nil, List.drop_zero, List.drop_succ_cons, List.drop_nil, List.length_cons, List.length_nil, List.cons_append, List.nil_append, List.append_nil, Nat.zero_add, Nat.add_zero, Nat.reduceAdd, Nat.reduceBEq, Nat.reduceEqDiff, Nat.ble, BEq.rfl, Bool.and_true, Bool.and_self, cond_true, beq_self_eq_true]; rfl)) ?_)
                  clear hl a; intro a hl
                  refine wl (wl_val hl rfl trivial (r_nilCheck hl rfl) ?_)
                  clear hl a; intro a hl
                  refine wl (wl_val hl rfl trivial (r_field hl rfl fld82_4) ?_)
                  clear hl a; intro a hl
                  refine wl (w_storeA hl hh trivial agg80 rfl rfl (by repeat (first | exact find_head | apply find_tail | apply find_skip)) (by rfl) (by first | (rw [mdc_len]; omega) | exact Nat.le_refl 16) (by rfl) (by first | exact mdc_sy _ (fun _ => false) | exact mdc_sdf _ (fun _ => false) | exact setL_all rfl) ?_)
                  clear hh w; intro w hh
                  refine w_nil ?_
                  have hl2 := hl.add (t := 0) (hl.nil) rfl; clear hl; have hl := hl2; clear hl2
                  refine then_normal ?_
                  refine c_seq ?_
                  refine c_region ?_
                  refine wl (wl_val hl rfl trivial (r_move hl rfl) ?_)
                  clear hl a; intro a hl
                  refine wl (wl_val hl rfl trivial (r_build hl rfl zero80 bld80 (by simp only [fillL, setL, List.getElem?_cons_zero, List.getElem?_cons_succ, Value.cells, List.take_zero, List.take_succ_cons, List.take_nil, List.drop_zero, List.drop_succ_cons, List.drop_nil, List.length_cons, List.length_nil, List.cons_append, List.nil_append, List.append_nil, Nat.zero_add, Nat.add_zero, Nat.reduceAdd, Nat.reduceBEq, Nat.reduceEqDiff, Nat.ble, BEq.rfl, Bool.and_true, Bool.and_self, cond_true, beq_self_eq_true]; rfl)) ?_)
                  clear hl a; intro a hl
                  refine wl (wl_val hl rfl trivial (r_nilCheck hl rfl) ?_)
                  clear hl a; intro a hl
                  refine wl (wl_val hl rfl trivial (r_field hl rfl fld82_5) ?_)
                  clear hl a; intro a hl
                  refine wl (w_storeA hl hh trivial agg80 rfl rfl (by repeat (first | exact find_head | apply find_tail | apply find_skip)) (by rfl) (by first | (rw [mdc_len]; omega) | exact Nat.le_refl 16) (by rfl) (by first | exact mdc_sy _ (fun _ => false) | exact mdc_sdf _ (fun _ => false) | exact setL_all rfl) ?_)
                  clear hh w; intro w hh
                  refine w_nil ?_
                  have hl2 := hl.add (t := 0) (hl.nil) rfl; clear hl; have hl := hl2; clear hl2
                  refine then_normal ?_
                  refine c_seq ?_
                  refine c_region ?_
                  refine wl (wl_val hl rfl trivial (r_move hl rfl) ?_)
                  clear hl a; intro a hl
                  refine wl (wl_val hl rfl trivial (r_nilCheck hl rfl) ?_)
                  clear hl a; intro a hl
                  refine wl (wl_val hl rfl trivial (r_field hl rfl fld82_6) ?_)
                  clear hl a; intro a hl
                  refine wl (w_store hl hh trivial one3 rfl rfl (by repeat (first | exact find_head | apply find_tail | apply find_skip)) (by first | (simp; done) | (simp; omega) | (rw [mdc_len]; omega) | (rw [mdc_len]; simp; done) | (rw [duc_len]; omega) | (rw [duc_len]; simp; done)) (by first | rfl | assumption | (apply Row.one; assumption)) (by first | exact mdc_sup _ _ | exact mdc_stk _ _ | exact mdc_sau _ _ | exact mdc_sfl _ _ | exact mdc_sfu _ _ | exact mdc_skp _ _ | exact mdc_sq _ p9 qs (m.qc - 1) [(b1, C l1 141)] | exact duc_sph _ _ | exact duc_sfid _ _ | (simp only [setL, List.getElem?_cons_zero, List.getElem?_cons_succ, Value.cells, List.take_zero, List.take_succ_cons, List.take_nil, List.drop_zero, List.drop_succ_cons, List.drop_nil, List.length_cons, List.length_nil, List.cons_append, List.nil_append, List.append_nil, Nat.zero_add, Nat.add_zero, Nat.reduceAdd, Nat.reduceBEq, Nat.reduceEqDiff, Nat.ble, BEq.rfl, Bool.and_true, Bool.and_self, cond_true, beq_self_eq_true]; rfl)) ?_)
                  clear hh w; intro w hh
                  refine w_nil ?_
                  have hl2 := hl.add (t := 0) (hl.nil) rfl; clear hl; have hl := hl2; clear hl2
                  refine then_normal ?_
                  refine c_seq ?_
                  refine c_region ?_
                  refine wl (wl_val hl rfl trivial (r_move hl rfl) ?_)
                  clear hl a; intro a hl
                  refine wl (wl_val hl rfl trivial (r_nilCheck hl rfl) ?_)
                  clear hl a; intro a hl
                  refine wl (wl_val hl rfl trivial (r_field hl rfl fld82_7) ?_)
                  clear hl a; intro a hl
                  refine wl (w_store hl hh trivial one4 rfl rfl (by repeat (first | exact find_head | apply find_tail | apply find_skip)) (by first | (simp; done) | (simp; omega) | (rw [mdc_len]; omega) | (rw [mdc_len]; simp; done) | (rw [duc_len]; omega) | (rw [duc_len]; simp; done)) (by first | rfl | assumption | (apply Row.one; assumption)) (by first | exact mdc_sup _ _ | exact mdc_stk _ _ | exact mdc_sau _ _ | exact mdc_sfl _ _ | exact mdc_sfu _ _ | exact mdc_skp _ _ | exact mdc_sq _ p9 qs (m.qc - 1) [(b1, C l1 141)] | exact duc_sph _ _ | exact duc_sfid _ _ | (simp only [setL, List.getElem?_cons_zero, List.getElem?_cons_succ, Value.cells, List.take_zero, List.take_succ_cons, List.take_nil, List.drop_zero, List.drop_succ_cons, List.drop_nil, List.length_cons, List.length_nil, List.cons_append, List.nil_append, List.append_nil, Nat.zero_add, Nat.add_zero, Nat.reduceAdd, Nat.reduceBEq, Nat.reduceEqDiff, Nat.ble, BEq.rfl, Bool.and_true, Bool.and_self, cond_true, beq_self_eq_true]; rfl)) ?_)
                  clear hh w; intro w hh
                  refine w_nil ?_
                  have hl2 := hl.add (t := 0) (hl.nil) rfl; clear hl; have hl := hl2; clear hl2
                  refine then_normal ?_
                  refine c_seq ?_
                  refine c_region ?_
                  refine wl (wl_val hl rfl trivial (r_move hl rfl) ?_)
                  clear hl a; intro a hl
                  refine wl (w_call hl hh rfl trivial rfl cal117 rfl (due_spec (Z ++ G9) mb { m with q := qs, qp := p9, qc := m.qc - 1, qE := [(b1, C l1 141)], d := { s1 with ph := 1, fid := x.id, fn := n2 }, fu := f, yf := fun _ => false, df := fun _ => false, tk := 0, au := false } hso.fn hso.ph) (by repeat (first | exact keeps_nil | apply keeps_cons (by repeat (first | exact find_head | apply find_tail | apply find_skip)) (by first  | rfl) | exact keeps_self | exact keeps_left | apply keeps_app | apply keeps_mv | apply keeps_skip)) trivial ?_)
                  clear hl hh a w; intro vc Fc a w hR hl hh
                  obtain ⟨p6, c6, E6, hR6, rfl, rfl⟩ := hR
                  try simp only [List.cons_append, List.nil_append, List.append_assoc, List.append_nil] at hh
                  refine wl (wl_val hl rfl trivial (r_assign hl rfl) ?_)
                  clear hl a; intro a hl
                  refine w_nil ?_
                  have hl2 := hl.add (t := 2) (hl.nil) rfl; clear hl; have hl := hl2; clear hl2
                  refine then_normal ?_
                  refine wp_ret ?_
                  refine f_ret1 (F' := E6 ++ ((mb, C (MdV.c { m with q := qs, qp := p9, qc := m.qc - 1, qE := [(b1, C l1 141)], d := { s1 with ph := 1, fid := x.id, fn := n2 }, fu := f, yf := fun _ => false, df := fun _ => false, tk := 0, au := false }) 82) :: ((s1.aE ++ (s1.nE ++ (s1.iE ++ [(s1.vb, MO (kInt .u32) s1.vd)]))) ++ ((b1, C l1 141) :: ((rb, MD (kInt .u32) rl rn) :: (Z ++ G9)))))) hl hh rfl rfl (by repeat (first | exact keeps_nil | apply keeps_cons (by repeat (first | exact find_head | apply find_tail | apply find_skip)) (by first  | rfl) | exact keeps_self | exact keeps_left | apply keeps_app | apply keeps_mv | apply keeps_skip)) ?_
                  have hsx := (tk_0 (l := l) hI.on hp).trans (sx_y hqp hv0 hap3 (show (admitP l (stNx g (btP x).1 n2.pl)).2 = 0 by rw [← hpl, hr]))
                  rw [← hpl, hr] at hsx
                  have hdu : dueM { m with q := qs, qp := p9, qc := m.qc - 1, qE := [(b1, C l1 141)], d := { s1 with ph := 1, fid := x.id, fn := n2 }, fu := f, yf := fun _ => false, df := fun _ => false, tk := 0, au := false } = pushP { g with q := qs.map btP, st := stNx g (btP x).1 n2.pl, sl := slF g.sl n2.pl 16, ys := 0, dn := 0, tk := 0, au := false } := due_push hpl (fun d hd => (bit0 d hd).symm) (fun d hd => (bit0 d hd).symm) rfl (fun _ d hd => slF_16 hd)
                  exact MdS.ofG (G := G9) (m' := { m with q := qs, qp := p9, qc := m.qc - 1, qE := [(b1, C l1 141)], d := { s1 with ph := 1, fid := x.id, fn := n2 }, fu := f, yf := fun _ => false, df := fun _ => false, tk := 0, au := false }) (by rw [hsx, hdu, hI.o, hpl]; rfl) hR6 (due_sz hso.fn) (by rw [hsx]; exact ⟨hso, rfl, hm.up, hRO, (fun z hz => (hm.qo z (by rw [hqx]; exact List.mem_cons_of_mem _ hz)).app), rfl, hm.r, (fun d hd => (bit0 d hd).symm), (fun d hd => (bit0 d hd).symm), rfl, rfl, hm.fl, rfl, hm.kp, hf⟩) (by simp only [MF, DuV.E_eq, hrE, List.append_assoc, List.cons_append, List.nil_append])
                ·
                  try simp only [List.cons_append, List.nil_append, List.append_nil] at hh
                  try simp only [List.append_assoc, List.cons_append, List.nil_append] at hh
                  refine w_nil ?_
                  have hl2 := hl.add (t := 0) (hl.add (t := 3) (hl.add (t := 116) (hl.nil) rfl) rfl) rfl; clear hl; have hl := hl2; clear hl2
                  refine then_normal ?_
                  refine wp_block ?_
                  refine c_seq ?_
                  refine c_region ?_
                  refine wl (wl_val hl rfl trivial (r_eql hl rfl rfl) ?_)
                  clear hl a; intro a hl
                  refine wl (wl_val hl rfl trivial (r_assign hl rfl) ?_)
                  clear hl a; intro a hl
                  refine w_nil ?_
                  have hl2 := hl.add (t := 0) (hl.add (t := 3) (hl.add (t := 116) (hl.add (t := 117) (hl.nil) rfl) rfl) rfl) rfl; clear hl; have hl := hl2; clear hl2
                  refine then_normal ?_
                  refine c_condT hl rfl ?_
                  refine c_seq ?_
                  refine c_draw [(mb, C (MdV.c { m with q := qs, qp := p9, qc := m.qc - 1, qE := [(b1, C l1 141)] }) 82), (k3, C (btc x) 141)] [6] mixed hh ?_
                  clear hh w; intro w hh
                  have hM : Mem [(mb, C (MdV.c { m with q := qs, qp := p9, qc := m.qc - 1, qE := [(b1, C l1 141)] }) 82), (k3, C (btc x) 141)] w := (memK hh (by repeat (first | exact keeps_nil | apply keeps_cons (by repeat (first | exact find_head | apply find_tail | apply find_skip)) (by first  | rfl) | exact keeps_self | exact keeps_left | apply keeps_app | apply keeps_mv | apply keeps_skip)))
                  refine d_take (i := 0) hl rfl (by kernel_rfl) (by kernel_rfl) (by kernel_rfl) (by kernel_rfl) (by kernel_rfl) rfl trivial (fun _ _ _ h => h) hM (fun w hC => r_move hl rfl) rfl ?_
                  clear hl a; intro a hl
                  refine d_take (i := 1) hl rfl (by kernel_rfl) (by kernel_rfl) (by kernel_rfl) (by kernel_rfl) (by kernel_rfl) rfl trivial (fun _ _ _ h => h) hM (fun w hC => r_nilCheck hl rfl) rfl ?_
                  clear hl a; intro a hl
                  refine d_take (i := 2) hl rfl (by kernel_rfl) (by kernel_rfl) (by kernel_rfl) (by kernel_rfl) (by kernel_rfl) rfl trivial (fun _ _ _ h => h) hM (fun w hC => r_field hl rfl fld82_3) rfl ?_
                  clear hl a; intro a hl
                  refine d_take (i := 3) hl rfl (by kernel_rfl) (by kernel_rfl) (by kernel_rfl) (by kernel_rfl) (by kernel_rfl) rfl trivial (fun _ _ _ h => h) hM (fun w hC => r_loadC hl rfl one74 hC (by repeat (first | exact find_head | apply find_tail | apply find_skip)) (by first | exact mdc_ep _ | exact mdc_a _ | exact mdc_n _ | exact mdc_i _ | exact mdc_ph _ | exact mdc_fid _ | exact mdc_vd _ | exact mdc_up _ | exact mdc_q _ | exact mdc_rf _ | exact mdc_tk _ | exact mdc_au _ | exact mdc_fl _ | exact mdc_fu _ | exact mdc_kp _ | exact duc_ep _ | exact duc_a _ | exact duc_n _ | exact duc_i _ | exact duc_ph _ | exact duc_fid _ | exact duc_vd _ | rfl)) rfl ?_
                  clear hl a; intro a hl
                  rw [hrb] at hl
                  refine d_take (i := 4) hl rfl (by kernel_rfl) (by kernel_rfl) (by kernel_rfl) (by kernel_rfl) (by kernel_rfl) rfl trivial (fun _ _ _ h => h) hM (fun w hC => r_field hl rfl fld141_0) rfl ?_
                  clear hl a; intro a hl
                  refine d_take (i := 5) hl rfl (by kernel_rfl) (by kernel_rfl) (by kernel_rfl) (by kernel_rfl) (by kernel_rfl) rfl trivial (fun _ _ _ h => h) hM (fun w hC => r_loadC hl rfl one36 hC (by repeat (first | exact find_head | apply find_tail | apply find_skip)) (by first | exact mdc_ep _ | exact mdc_a _ | exact mdc_n _ | exact mdc_i _ | exact mdc_ph _ | exact mdc_fid _ | exact mdc_vd _ | exact mdc_up _ | exact mdc_q _ | exact mdc_rf _ | exact mdc_tk _ | exact mdc_au _ | exact mdc_fl _ | exact mdc_fu _ | exact mdc_kp _ | exact duc_ep _ | exact duc_a _ | exact duc_n _ | exact duc_i _ | exact duc_ph _ | exact duc_fid _ | exact duc_vd _ | rfl)) rfl ?_
                  clear hl a; intro a hl
                  refine d_one (i := 6) (by kernel_rfl) rfl ?_
                  try clear hM
                  refine id (w_mapUpdG kd36 (keyInt Tryz.underlying36) Tryz.underlying74 hl hh trivial rfl rfl rfl (by repeat (first | exact find_head | apply find_tail | apply find_skip)) ?_)
                  clear hh w; intro w hh
                  refine d_step (fun h => absurd h (by decide)) ?_
                  refine d_done (by kernel_rfl) ?_
                  try clear hM
                  have hl2 := hl.nil; clear hl; have hl := hl2; clear hl2
                  refine then_normal ?_
                  refine c_seq ?_
                  refine c_region ?_
                  refine wl (wl_val hl rfl trivial (r_assign hl rfl) ?_)
                  clear hl a; intro a hl
                  refine w_nil ?_
                  have hl2 := hl.add (t := 2) (hl.nil) rfl; clear hl; have hl := hl2; clear hl2
                  refine then_normal ?_
                  refine wp_ret ?_
                  refine blk_ret ?_
                  refine then_ret ?_
                  rw [← mdc_rE { m with q := qs, qp := p9, qc := m.qc - 1, qE := [(b1, C l1 141)] } [(rb, MD (kInt .u32) (dput rl x.id (.int .u8 11) rn).1 (dput rl x.id (.int .u8 11) rn).2)]] at hh
                  simp only at hh
                  refine f_ret1 (F' := (mb, C (MdV.c { m with q := qs, qp := p9, qc := m.qc - 1, qE := [(b1, C l1 141)], rE := [(rb, MD (kInt .u32) (dput rl x.id (.int .u8 11) rn).1 (dput rl x.id (.int .u8 11) rn).2)] }) 82) :: ((m.d.aE ++ (m.d.nE ++ (m.d.iE ++ [(m.d.vb, MO (kInt .u32) m.d.vd)]))) ++ ((b1, C l1 141) :: ((rb, MD (kInt .u32) (dput rl x.id (.int .u8 11) rn).1 (dput rl x.id (.int .u8 11) rn).2) :: (Z ++ G9))))) hl hh rfl rfl (by repeat (first | exact keeps_nil | apply keeps_cons (by repeat (first | exact find_head | apply find_tail | apply find_skip)) (by first  | rfl) | exact keeps_self | exact keeps_left | apply keeps_app | apply keeps_mv | apply keeps_skip)) ?_
                  have hsx := (tk_0 (l := l) hI.on hp).trans (sx_1 hqp hv0 hap3 (show (admitP l (stNx g (btP x).1 n2.pl)).2 = 1 by rw [← hpl, hr]))
                  rw [← hpl, hr] at hsx
                  refine MdS.nil (by rw [hsx]; exact hI.o) (MdO.grow (G := G9) (m' := { m with q := qs, qp := p9, qc := m.qc - 1, qE := [(b1, C l1 141)], rE := [(rb, MD (kInt .u32) (dput rl x.id (.int .u8 11) rn).1 (dput rl x.id (.int .u8 11) rn).2)] }) (by rw [hsx]; exact ⟨hm.dok.app, hm.d, hm.up, hRO, (fun z hz => (hm.qo z (by rw [hqx]; exact List.mem_cons_of_mem _ hz)).app), rfl, ⟨rb, _, _, hrb, rfl, ru_ok hrv x.id (by omega), dput_ky hrk, ru_pl hrf x.id 11⟩, hm.ys, hm.dn, hm.tk, hm.au, hm.fl, hm.fu, hm.kp, hm.fb⟩) (by simp only [MF, DuV.E_eq, hrE, List.append_assoc, List.cons_append, List.nil_append]))
                ·
                  try simp only [List.cons_append, List.nil_append, List.append_nil] at hh
                  try simp only [List.append_assoc, List.cons_append, List.nil_append] at hh
                  refine w_nil ?_
                  have hl2 := hl.add (t := 0) (hl.add (t := 3) (hl.add (t := 116) (hl.nil) rfl) rfl) rfl; clear hl; have hl := hl2; clear hl2
                  refine then_normal ?_
                  refine wp_block ?_
                  refine c_seq ?_
                  refine c_region ?_
                  refine wl (wl_val hl rfl trivial (r_eql hl rfl rfl) ?_)
                  clear hl a; intro a hl
                  refine wl (wl_val hl rfl trivial (r_assign hl rfl) ?_)
                  clear hl a; intro a hl
                  refine w_nil ?_
                  have hl2 := hl.add (t := 0) (hl.add (t := 3) (hl.add (t := 116) (hl.add (t := 117) (hl.nil) rfl) rfl) rfl) rfl; clear hl; have hl := hl2; clear hl2
                  refine then_normal ?_
                  refine c_condF hl rfl ?_
                  refine c_seq ?_
                  refine c_region ?_
                  refine wl (wl_val hl rfl trivial (r_eql hl rfl rfl) ?_)
                  clear hl a; intro a hl
                  refine wl (wl_val hl rfl trivial (r_assign hl rfl) ?_)
                  clear hl a; intro a hl
                  refine w_nil ?_
                  have hl2 := hl.add (t := 0) (hl.add (t := 125) (hl.nil) rfl) rfl; clear hl; have hl := hl2; clear hl2
                  refine then_normal ?_
                  refine c_condT hl rfl ?_
                  refine c_seq ?_
                  refine c_region ?_
                  refine wl (wl_val hl rfl trivial (r_assign hl rfl) ?_)
                  clear hl a; intro a hl
                  refine w_nil ?_
                  have hl2 := hl.add (t := 2) (hl.nil) rfl; clear hl; have hl := hl2; clear hl2
                  refine then_normal ?_
                  refine wp_ret ?_
                  refine blk_ret ?_
                  refine then_ret ?_
                  first
                  | (have hsx := (tk_0 (l := l) hI.on hp).trans (sx_2 hqp hv0 hap3 (show (admitP l (stNx g (btP x).1 n2.pl)).2 = 2 by rw [← hpl, hr])); rw [← hpl, hr] at hsx; refine f_ret1 (F' := (mb, C (MdV.c { m with q := qs, qp := p9, qc := m.qc - 1, qE := [(b1, C l1 141)], d := { s1 with ph := 1, fid := x.id, fn := n2 }, fu := 0, up := false }) 82) :: ((s1.aE ++ (s1.nE ++ (s1.iE ++ [(s1.vb, MO (kInt .u32) s1.vd)]))) ++ ((b1, C l1 141) :: ((rb, MD (kInt .u32) rl rn) :: (Z ++ G9))))) hl hh rfl rfl (by repeat (first | exact keeps_nil | apply keeps_cons (by repeat (first | exact find_head | apply find_tail | apply find_skip)) (by first  | rfl) | exact keeps_self | exact keeps_left | apply keeps_app | apply keeps_mv | apply keeps_skip)) ?_; exact MdS.nil (by rw [hsx]; rfl) (MdO.grow (G := G9) (m' := { m with q := qs, qp := p9, qc := m.qc - 1, qE := [(b1, C l1 141)], d := { s1 with ph := 1, fid := x.id, fn := n2 }, fu := 0, up := false }) (by rw [hsx]; exact ⟨hso, rfl, rfl, hRO, (fun z hz => (hm.qo z (by rw [hqx]; exact List.mem_cons_of_mem _ hz)).app), rfl, hm.r, hm.ys, hm.dn, hm.tk, hm.au, hm.fl, rfl, hm.kp, (by simp)⟩) (by simp only [MF, DuV.E_eq, hrE, List.append_assoc, List.cons_append, List.nil_append])))
                  | (have hsx := (tk_0 (l := l) hI.on hp).trans (sx_2 hqp hv0 hap3 (show (admitP l (stNx g (btP x).1 n2.pl)).2 = 2 by rw [← hpl, hr])); rw [← hpl, hr] at hsx; refine f_ret1 (F' := (mb, C (MdV.c { m with q := qs, qp := p9, qc := m.qc - 1, qE := [(b1, C l1 141)], fu := 0, up := false }) 82) :: ((m.d.aE ++ (m.d.nE ++ (m.d.iE ++ [(m.d.vb, MO (kInt .u32) m.d.vd)]))) ++ ((b1, C l1 141) :: ((rb, MD (kInt .u32) rl rn) :: (Z ++ G9))))) hl hh rfl rfl (by repeat (first | exact keeps_nil | apply keeps_cons (by repeat (first | exact find_head | apply find_tail | apply find_skip)) (by first  | rfl) | exact keeps_self | exact keeps_left | apply keeps_app | apply keeps_mv | apply keeps_skip)) ?_; exact MdS.nil (by rw [hsx]; rfl) (MdO.grow (G := G9) (m' := { m with q := qs, qp := p9, qc := m.qc - 1, qE := [(b1, C l1 141)], fu := 0, up := false }) (by rw [hsx]; exact ⟨hm.dok.app, hm.d, rfl, hRO, (fun z hz => (hm.qo z (by rw [hqx]; exact List.mem_cons_of_mem _ hz)).app), rfl, hm.r, hm.ys, hm.dn, hm.tk, hm.au, hm.fl, rfl, hm.kp, (by simp)⟩) (by simp only [MF, DuV.E_eq, hrE, List.append_assoc, List.cons_append, List.nil_append])))
                ·
                  try simp only [List.cons_append, List.nil_append, List.append_nil] at hh
                  try simp only [List.append_assoc, List.cons_append, List.nil_append] at hh
                  refine w_nil ?_
                  have hl2 := hl.add (t := 0) (hl.add (t := 3) (hl.add (t := 116) (hl.nil) rfl) rfl) rfl; clear hl; have hl := hl2; clear hl2
                  refine then_normal ?_
                  refine wp_block ?_
                  refine c_seq ?_
                  refine c_region ?_
                  refine wl (wl_val hl rfl trivial (r_eql hl rfl rfl) ?_)
                  clear hl a; intro a hl
                  refine wl (wl_val hl rfl trivial (r_assign hl rfl) ?_)
                  clear hl a; intro a hl
                  refine w_nil ?_
                  have hl2 := hl.add (t := 0) (hl.add (t := 3) (hl.add (t := 116) (hl.add (t := 117) (hl.nil) rfl) rfl) rfl) rfl; clear hl; have hl := hl2; clear hl2
                  refine then_normal ?_
                  refine c_condF hl rfl ?_
                  refine c_seq ?_
                  refine c_region ?_
                  refine wl (wl_val hl rfl trivial (r_eql hl rfl rfl) ?_)
                  clear hl a; intro a hl
                  refine wl (wl_val hl rfl trivial (r_assign hl rfl) ?_)
                  clear hl a; intro a hl
                  refine w_nil ?_
                  have hl2 := hl.add (t := 0) (hl.add (t := 125) (hl.nil) rfl) rfl; clear hl; have hl := hl2; clear hl2
                  refine then_normal ?_
                  refine c_condT hl rfl ?_
                  refine c_seq ?_
                  refine c_region ?_
                  refine wl (wl_val hl rfl trivial (r_assign hl rfl) ?_)
                  clear hl a; intro a hl
                  refine w_nil ?_
                  have hl2 := hl.add (t := 2) (hl.nil) rfl; clear hl; have hl := hl2; clear hl2
                  refine then_normal ?_
                  refine wp_ret ?_
                  refine blk_ret ?_
                  refine then_ret ?_
                  first
                  | (have hsx := (tk_0 (l := l) hI.on hp).trans (sx_2 hqp hv0 hap3 (show (admitP l (stNx g (btP x).1 n2.pl)).2 = 2 by rw [← hpl, hr])); rw [← hpl, hr] at hsx; refine f_ret1 (F' := (mb, C (MdV.c { m with q := qs, qp := p9, qc := m.qc - 1, qE := [(b1, C l1 141)], d := { s1 with ph := 1, fid := x.id, fn := n2 }, fu := 0, up := false }) 82) :: ((s1.aE ++ (s1.nE ++ (s1.iE ++ [(s1.vb, MO (kInt .u32) s1.vd)]))) ++ ((b1, C l1 141) :: ((rb, MD (kInt .u32) rl rn) :: (Z ++ G9))))) hl hh rfl rfl (by repeat (first | exact keeps_nil | apply keeps_cons (by repeat (first | exact find_head | apply find_tail | apply find_skip)) (by first  | rfl) | exact keeps_self | exact keeps_left | apply keeps_app | apply keeps_mv | apply keeps_skip)) ?_; exact MdS.nil (by rw [hsx]; rfl) (MdO.grow (G := G9) (m' := { m with q := qs, qp := p9, qc := m.qc - 1, qE := [(b1, C l1 141)], d := { s1 with ph := 1, fid := x.id, fn := n2 }, fu := 0, up := false }) (by rw [hsx]; exact ⟨hso, rfl, rfl, hRO, (fun z hz => (hm.qo z (by rw [hqx]; exact List.mem_cons_of_mem _ hz)).app), rfl, hm.r, hm.ys, hm.dn, hm.tk, hm.au, hm.fl, rfl, hm.kp, (by simp)⟩) (by simp only [MF, DuV.E_eq, hrE, List.append_assoc, List.cons_append, List.nil_append])))
                  | (have hsx := (tk_0 (l := l) hI.on hp).trans (sx_2 hqp hv0 hap3 (show (admitP l (stNx g (btP x).1 n2.pl)).2 = 2 by rw [← hpl, hr])); rw [← hpl, hr] at hsx; refine f_ret1 (F' := (mb, C (MdV.c { m with q := qs, qp := p9, qc := m.qc - 1, qE := [(b1, C l1 141)], fu := 0, up := false }) 82) :: ((m.d.aE ++ (m.d.nE ++ (m.d.iE ++ [(m.d.vb, MO (kInt .u32) m.d.vd)]))) ++ ((b1, C l1 141) :: ((rb, MD (kInt .u32) rl rn) :: (Z ++ G9))))) hl hh rfl rfl (by repeat (first | exact keeps_nil | apply keeps_cons (by repeat (first | exact find_head | apply find_tail | apply find_skip)) (by first  | rfl) | exact keeps_self | exact keeps_left | apply keeps_app | apply keeps_mv | apply keeps_skip)) ?_; exact MdS.nil (by rw [hsx]; rfl) (MdO.grow (G := G9) (m' := { m with q := qs, qp := p9, qc := m.qc - 1, qE := [(b1, C l1 141)], fu := 0, up := false }) (by rw [hsx]; exact ⟨hm.dok.app, hm.d, rfl, hRO, (fun z hz => (hm.qo z (by rw [hqx]; exact List.mem_cons_of_mem _ hz)).app), rfl, hm.r, hm.ys, hm.dn, hm.tk, hm.au, hm.fl, rfl, hm.kp, (by simp)⟩) (by simp only [MF, DuV.E_eq, hrE, List.append_assoc, List.cons_append, List.nil_append])))
end Go.Proofs.Qxb6500908aGreat

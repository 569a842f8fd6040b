import Derived.Test.Qxb6500908aGreatZ9
namespace Go.Proofs.Qxb6500908aGreat
open Go.Eng
set_option linter.unusedVariables false
set_option linter.unusedSimpArgs false
theorem cal121 : callable Tryz.prog 121 = true := by kernel_rfl
theorem du_isok {Z : List (Nat × Obj)} {s : DuV} (h : s.ok Z) {is : List Iv} {p : Option Addr} {c : Nat} {E : List (Nat × Obj)} (hR : Row (.slice p is.length c) is.length (fl ivc is) 6 43 E) (ho : ∀ x, x ∈ is → x.ok) (hl : is.length ≤ 16) : DuV.ok Z { s with is := is, ip := p, ic := c, iE := E } := ⟨h.ep, h.a, h.n, h.e, h.vo, h.vl, h.v1, hR, ho, hl, h.fid, h.ph, h.fn, h.vd, h.vk⟩
theorem du_ispl {s1 : DuV} {s : StP} (h : s1.pl = s) (is : List Iv) (p : Option Addr) (c : Nat) (E : List (Nat × Obj)) : DuV.pl { s1 with is := is, ip := p, ic := c, iE := E } = { s with is := is } := by subst h; rfl
def rstI (v : Iv) (q : List Iv) (i : Nat) : List Iv := (q.take i).filter (fun b => decide (¬ b = v))
theorem rsi_y {v : Iv} {q : List Iv} {i : Nat} {x : Iv} (h : q[i]? = some x) (hx : ¬ x = v) : rstI v q (i + 1) = rstI v q i ++ [x] := by
  unfold rstI
  rw [tk_snoc h, List.filter_append, List.filter_cons_of_pos (by simpa using hx)]; rfl
theorem rsi_n {v : Iv} {q : List Iv} {i : Nat} {x : Iv} (h : q[i]? = some x) (hx : x = v) : rstI v q (i + 1) = rstI v q i := by
  unfold rstI
  rw [tk_snoc h, List.filter_append, List.filter_cons_of_neg (by simpa using hx), List.filter_nil, List.append_nil]
theorem rsi_len (v : Iv) (q : List Iv) (i : Nat) : (rstI v q i).length ≤ q.length := by
  unfold rstI
  refine Nat.le_trans (List.length_filter_le _ _) ?_
  rw [List.length_take]; omega
theorem rsi_mem {v : Iv} {q : List Iv} {i : Nat} {x : Iv} (h : x ∈ rstI v q i) : x ∈ q := List.mem_of_mem_take (List.mem_filter.1 h).1
theorem rsi_del {v : Iv} {q : List Iv} (hn : q.Nodup) (h : 0 ≤ hix q v) : rstI v q q.length = delP q (hix q v).toNat := by
  have hb := hix_in h
  generalize hk : (hix q v).toNat = k at hb
  have hs := split_at hb
  have hd := delP_ne (f := fun x : Iv => x) (q := q) (by rw [List.map_id']; exact hn) hb
  unfold rstI
  rw [List.take_length]
  unfold delP at hd ⊢
  conv => lhs; rw [hs]
  rw [List.filter_append, List.filter_cons_of_neg (by simp)]
  have f1 : (q.take k).filter (fun b => decide (¬ b = v)) = q.take k := by
    rw [List.filter_eq_self]
    intro c hc
    exact decide_eq_true (fun e9 => hd c (List.mem_append_left _ hc) e9)
  have f2 : (q.drop (k + 1)).filter (fun b => decide (¬ b = v)) = q.drop (k + 1) := by
    rw [List.filter_eq_self]
    intro c hc
    exact decide_eq_true (fun e9 => hd c (List.mem_append_right _ hc) e9)
  rw [f1, f2]


attribute [local irreducible] NtV.k StV.c LdV.c StV.E GtV.c GtV.t DuV.c DuV.E MdV.c MdV.t

theorem cpy2 (Z : List (Nat × Obj)) (s : DuV) (hs : s.ok Z) : Sp Tryz.prog 115 #[.agg ⟨s.c⟩] (s.aE ++ (s.nE ++ (s.iE ++ [(s.vb, MO (kInt .u32) s.vd)]))) (fun v F' => ∃ s' : DuV, s'.ok Z ∧ s'.pl = s.pl ∧ v = .agg ⟨s'.c⟩ ∧ F' = s'.E ++ (s.aE ++ (s.nE ++ (s.iE ++ [(s.vb, MO (kInt .u32) s.vd)])))) := by
  have h := copy_spec Z s hs
  rw [DuV.E_eq s] at h
  exact h

set_option maxHeartbeats 4000000 in
theorem madd_spec (Z : List (Nat × Obj)) (mb : Nat) (m : MdV) (g : GtP) (l : LdP) (hm : MdR Z m g l) (hI : GtI g) (hsd : g.st = l.d) (hdn : l.dn = false) (v : Iv) (hv : v.ok) : Sp Tryz.prog 108 #[.pointer (some ⟨mb, 0, none⟩), .agg ⟨ivc v⟩] (MF mb m Z) (fun u F' => u = .int .u8 (addP g l v).2 ∧ MdO mb (addP g l v).1 Z F') := by
  refine f_enter (args := [.pointer (some ⟨mb, 0, none⟩), .agg ⟨ivc v⟩]) Tryz.func108 rfl Tryz.ntmps108 rfl ?_
  intro w0 w a hpre hl hh
  have hst : m.d.pl = g.st := hm.d.trans hsd.symm
  have hup : m.up = true := by rw [hm.up, hI.on]; rfl
  have hph : m.d.ph = g.st.ph := congrArg StP.ph hst
  have hfi : m.d.fid = g.st.fid := congrArg StP.fid hst
  have hep : m.d.ep = g.st.ep := congrArg StP.ep hst
  have hqg := hm.qp
  have hql : m.q.length ≤ 8 := by have h9 := hI.ql; rw [← hqg, List.length_map] at h9; exact h9
  obtain ⟨rb, rl, rn, hrb, hrE, hrv, hrk, hrf⟩ := hm.r
  generalize hDD : List.map Prod.fst (MF mb m Z) = D at hh ⊢
  simp only [MF, DuV.E_eq m.d, List.append_assoc, List.cons_append, List.nil_append] at hh
  have his : m.d.is = g.st.is := congrArg StP.is hst
  have hil := hm.dok.il
  simp only [slotsFrom, Nat.reduceAdd] at hl
  refine c_seq ?_
  refine c_region ?_
  refine wl (w_box hl hh rfl trivial rfl rfl ?_)
  clear hl hh a w; intro k3 a w hl hh
  refine wl (wl_val hl rfl trivial (r_assign hl rfl) ?_)
  clear hl a; intro a hl
  refine w_nil ?_
  have hl2 := hl.add (t := 0) (hl.add (t := 3) (hl.nil) rfl) rfl; clear hl; have hl := hl2; clear hl2
  refine then_normal ?_
  refine c_seq ?_
  refine c_seq ?_
  refine c_region ?_
  refine wl (wl_val hl rfl trivial (r_move hl rfl) ?_)
  clear hl a; intro a hl
  refine wl (wl_val hl rfl trivial (r_nilCheck hl rfl) ?_)
  clear hl a; intro a hl
  refine wl (wl_val hl rfl trivial (r_field hl rfl fld82_1) ?_)
  clear hl a; intro a hl
  refine wl (w_load hl hh rfl trivial one4 rfl (by repeat (first | exact find_head | apply find_tail | apply find_skip)) (by first | exact mdc_ep _ | exact mdc_a _ | exact mdc_n _ | exact mdc_i _ | exact mdc_ph _ | exact mdc_fid _ | exact mdc_vd _ | exact mdc_up _ | exact mdc_q _ | exact mdc_rf _ | exact mdc_tk _ | exact mdc_au _ | exact mdc_fl _ | exact mdc_fu _ | exact mdc_kp _ | exact duc_ep _ | exact duc_a _ | exact duc_n _ | exact duc_i _ | exact duc_ph _ | exact duc_fid _ | exact duc_vd _ | rfl) ?_)
  clear hl a; intro a hl
  refine wl (wl_val hl rfl trivial (r_not hl rfl) ?_)
  clear hl a; intro a hl
  refine w_nil ?_
  have hl2 := hl.add (t := 0) (hl.add (t := 3) (hl.add (t := 10) (hl.nil) rfl) rfl) rfl; clear hl; have hl := hl2; clear hl2
  refine then_normal ?_
  refine c_cond hl rfl ?_ ?_
  · intro hc0
    try simp only [decide_eq_true_eq, decide_eq_false_iff_not, Bool.not_eq_true', Bool.not_eq_false', Bool.not_eq_true, Bool.not_eq_false, Bool.and_eq_true, Bool.or_eq_true, Bool.and_eq_false_iff, Bool.or_eq_false_iff, Bool.not_not, ne_eq, Int.not_lt, Int.not_le, Decidable.not_not, beq_iff_eq, bne_iff_ne] at hc0
    exfalso; first | contradiction | omega | (simp_all; done)
  · intro hc0
    try simp only [decide_eq_true_eq, decide_eq_false_iff_not, Bool.not_eq_true', Bool.not_eq_false', Bool.not_eq_true, Bool.not_eq_false, Bool.and_eq_true, Bool.or_eq_true, Bool.and_eq_false_iff, Bool.or_eq_false_iff, Bool.not_not, ne_eq, Int.not_lt, Int.not_le, Decidable.not_not, beq_iff_eq, bne_iff_ne] at hc0
    refine wp_skip ?_
    refine then_normal ?_
    refine c_seq ?_
    refine c_seq ?_
    refine c_region ?_
    refine wl (w_loadA hl hh rfl trivial agg43 rfl (by repeat (first | exact find_head | apply find_tail | apply find_skip)) (by rfl) (by rfl) ?_)
    clear hl a; intro a hl
    refine wl (w_call hl hh rfl trivial rfl cal48 rfl (wellf_spec v hv) (by repeat (first | exact keeps_nil | apply keeps_cons (by repeat (first | exact find_head | apply find_tail | apply find_skip)) (by first  | rfl) | exact keeps_self | exact keeps_left | apply keeps_app | apply keeps_mv | apply keeps_skip)) trivial ?_)
    clear hl hh a w; intro vc Fc a w hR hl hh
    obtain ⟨rfl, rfl⟩ := hR
    try simp only [List.cons_append, List.nil_append, List.append_assoc, List.append_nil] at hh
    refine wl (wl_val hl rfl trivial (r_not hl rfl) ?_)
    clear hl a; intro a hl
    refine w_nil ?_
    have hl2 := hl.add (t := 0) (hl.add (t := 3) (hl.add (t := 13) (hl.nil) rfl) rfl) rfl; clear hl; have hl := hl2; clear hl2
    refine then_normal ?_
    refine c_cond hl rfl ?_ ?_
    · intro hc1
      try simp only [decide_eq_true_eq, decide_eq_false_iff_not, Bool.not_eq_true', Bool.not_eq_false', Bool.not_eq_true, Bool.not_eq_false, Bool.and_eq_true, Bool.or_eq_true, Bool.and_eq_false_iff, Bool.or_eq_false_iff, Bool.not_not, ne_eq, Int.not_lt, Int.not_le, Decidable.not_not, beq_iff_eq, bne_iff_ne] at hc1
      have hab := ad_w (g := g) (l := l) (v := v) hI.on (by simpa using hc1)
      refine c_seq ?_
      refine c_region ?_
      refine wl (wl_val hl rfl trivial (r_assign hl rfl) ?_)
      clear hl a; intro a hl
      refine w_nil ?_
      have hl2 := hl.add (t := 4) (hl.nil) rfl; clear hl; have hl := hl2; clear hl2
      refine then_normal ?_
      refine wp_ret ?_
      refine then_ret ?_
      refine f_ret1 (F' := (mb, C (MdV.c m) 82) :: (m.d.aE ++ (m.d.nE ++ (m.d.iE ++ ((m.d.vb, MO (kInt .u32) m.d.vd) :: (m.qE ++ (m.rE ++ Z))))))) hl hh rfl rfl (by repeat (first | exact keeps_nil | apply keeps_cons (by repeat (first | exact find_head | apply find_tail | apply find_skip)) (by first  | rfl) | exact keeps_self | exact keeps_left | apply keeps_app | apply keeps_mv | apply keeps_skip)) ?_
      exact ⟨by rw [hab], MdO.same (by rw [hab]; exact hm) (by simp only [MF, DuV.E_eq, List.append_assoc, List.cons_append, List.nil_append])⟩
    · intro hc1
      try simp only [decide_eq_true_eq, decide_eq_false_iff_not, Bool.not_eq_true', Bool.not_eq_false', Bool.not_eq_true, Bool.not_eq_false, Bool.and_eq_true, Bool.or_eq_true, Bool.and_eq_false_iff, Bool.or_eq_false_iff, Bool.not_not, ne_eq, Int.not_lt, Int.not_le, Decidable.not_not, beq_iff_eq, bne_iff_ne] at hc1
      have hw1 : wfI v = true := by simpa using hc1
      refine wp_skip ?_
      refine then_normal ?_
      refine c_seq ?_
      refine c_seq ?_
      refine c_region ?_
      refine wl (wl_val hl rfl trivial (r_move hl rfl) ?_)
      clear hl a; intro a hl
      refine wl (w_loadA hl hh rfl trivial agg43 rfl (by repeat (first | exact find_head | apply find_tail | apply find_skip)) (by rfl) (by rfl) ?_)
      clear hl a; intro a hl
      refine wl (w_call hl hh rfl trivial rfl cal121 rfl (hasM_spec Z mb m hm.dok v hv) (by repeat (first | exact keeps_nil | apply keeps_cons (by repeat (first | exact find_head | apply find_tail | apply find_skip)) (by first  | rfl) | exact keeps_self | exact keeps_left | apply keeps_app | apply keeps_mv | apply keeps_skip)) trivial ?_)
      clear hl hh a w; intro vc Fc a w hR hl hh
      obtain ⟨rfl, rfl⟩ := hR
      try simp only [List.cons_append, List.nil_append, List.append_assoc, List.append_nil] at hh
      try simp only [List.append_assoc, List.cons_append, List.nil_append] at hh
      rw [his] at hl
      refine w_nil ?_
      have hl2 := hl.add (t := 0) (hl.add (t := 3) (hl.add (t := 16) (hl.nil) rfl) rfl) rfl; clear hl; have hl := hl2; clear hl2
      refine then_normal ?_
      refine c_cond hl rfl ?_ ?_
      · intro hc2
        try simp only [decide_eq_true_eq, decide_eq_false_iff_not, Bool.not_eq_true', Bool.not_eq_false', Bool.not_eq_true, Bool.not_eq_false, Bool.and_eq_true, Bool.or_eq_true, Bool.and_eq_false_iff, Bool.or_eq_false_iff, Bool.not_not, ne_eq, Int.not_lt, Int.not_le, Decidable.not_not, beq_iff_eq, bne_iff_ne] at hc2
        have hab := ad_h (g := g) (l := l) (v := v) hI.on hw1 (by simpa using hc2)
        refine c_seq ?_
        refine c_region ?_
        refine wl (wl_val hl rfl trivial (r_assign hl rfl) ?_)
        clear hl a; intro a hl
        refine w_nil ?_
        have hl2 := hl.add (t := 4) (hl.nil) rfl; clear hl; have hl := hl2; clear hl2
        refine then_normal ?_
        refine wp_ret ?_
        refine then_ret ?_
        refine f_ret1 (F' := (mb, C (MdV.c m) 82) :: (m.d.aE ++ (m.d.nE ++ (m.d.iE ++ ((m.d.vb, MO (kInt .u32) m.d.vd) :: (m.qE ++ (m.rE ++ Z))))))) hl hh rfl rfl (by repeat (first | exact keeps_nil | apply keeps_cons (by repeat (first | exact find_head | apply find_tail | apply find_skip)) (by first  | rfl) | exact keeps_self | exact keeps_left | apply keeps_app | apply keeps_mv | apply keeps_skip)) ?_
        exact ⟨by rw [hab], MdO.same (by rw [hab]; exact hm) (by simp only [MF, DuV.E_eq, List.append_assoc, List.cons_append, List.nil_append])⟩
      · intro hc2
        try simp only [decide_eq_true_eq, decide_eq_false_iff_not, Bool.not_eq_true', Bool.not_eq_false', Bool.not_eq_true, Bool.not_eq_false, Bool.and_eq_true, Bool.or_eq_true, Bool.and_eq_false_iff, Bool.or_eq_false_iff, Bool.not_not, ne_eq, Int.not_lt, Int.not_le, Decidable.not_not, beq_iff_eq, bne_iff_ne] at hc2
        have hh2 : ¬ 0 ≤ hix g.st.is v := by simpa using hc2
        refine wp_skip ?_
        refine then_normal ?_
        refine c_seq ?_
        refine c_seq ?_
        refine c_region ?_
        refine wl (wl_val hl rfl trivial (r_move hl rfl) ?_)
        clear hl a; intro a hl
        refine wl (wl_val hl rfl trivial (r_nilCheck hl rfl) ?_)
        clear hl a; intro a hl
        refine wl (wl_val hl rfl trivial (r_field hl rfl fld82_0) ?_)
        clear hl a; intro a hl
        refine wl (wl_val hl rfl trivial (r_field hl rfl fld78_3) ?_)
        clear hl a; intro a hl
        refine wl (w_load hl hh rfl trivial one75 rfl (by repeat (first | exact find_head | apply find_tail | apply find_skip)) (by first | exact mdc_ep _ | exact mdc_a _ | exact mdc_n _ | exact mdc_i _ | exact mdc_ph _ | exact mdc_fid _ | exact mdc_vd _ | exact mdc_up _ | exact mdc_q _ | exact mdc_rf _ | exact mdc_tk _ | exact mdc_au _ | exact mdc_fl _ | exact mdc_fu _ | exact mdc_kp _ | exact duc_ep _ | exact duc_a _ | exact duc_n _ | exact duc_i _ | exact duc_ph _ | exact duc_fid _ | exact duc_vd _ | rfl) ?_)
        clear hl a; intro a hl
        refine wl (wl_val hl rfl trivial (r_lenS hl rfl slc75) ?_)
        clear hl a; intro a hl
        refine wl (wl_val hl rfl trivial (r_eql hl rfl rfl) ?_)
        clear hl a; intro a hl
        refine w_nil ?_
        have hl2 := hl.add (t := 0) (hl.add (t := 3) (hl.add (t := 23) (hl.nil) rfl) rfl) rfl; clear hl; have hl := hl2; clear hl2
        refine then_normal ?_
        refine c_cond hl rfl ?_ ?_
        · intro hc3
          try simp only [decide_eq_true_eq, decide_eq_false_iff_not, Bool.not_eq_true', Bool.not_eq_false', Bool.not_eq_true, Bool.not_eq_false, Bool.and_eq_true, Bool.or_eq_true, Bool.and_eq_false_iff, Bool.or_eq_false_iff, Bool.not_not, ne_eq, Int.not_lt, Int.not_le, Decidable.not_not, beq_iff_eq, bne_iff_ne] at hc3
          have hab := ad_m (g := g) (l := l) (v := v) hI.on hw1 hh2 (by rw [← his]; omega)
          refine c_seq ?_
          refine c_region ?_
          refine wl (wl_val hl rfl trivial (r_assign hl rfl) ?_)
          clear hl a; intro a hl
          refine w_nil ?_
          have hl2 := hl.add (t := 4) (hl.nil) rfl; clear hl; have hl := hl2; clear hl2
          refine then_normal ?_
          refine wp_ret ?_
          refine then_ret ?_
          refine f_ret1 (F' := (mb, C (MdV.c m) 82) :: (m.d.aE ++ (m.d.nE ++ (m.d.iE ++ ((m.d.vb, MO (kInt .u32) m.d.vd) :: (m.qE ++ (m.rE ++ Z))))))) hl hh rfl rfl (by repeat (first | exact keeps_nil | apply keeps_cons (by repeat (first | exact find_head | apply find_tail | apply find_skip)) (by first  | rfl) | exact keeps_self | exact keeps_left | apply keeps_app | apply keeps_mv | apply keeps_skip)) ?_
          exact ⟨by rw [hab], MdO.same (by rw [hab]; exact hm) (by simp only [MF, DuV.E_eq, List.append_assoc, List.cons_append, List.nil_append])⟩
        · intro hc3
          try simp only [decide_eq_true_eq, decide_eq_false_iff_not, Bool.not_eq_true', Bool.not_eq_false', Bool.not_eq_true, Bool.not_eq_false, Bool.and_eq_true, Bool.or_eq_true, Bool.and_eq_false_iff, Bool.or_eq_false_iff, Bool.not_not, ne_eq, Int.not_lt, Int.not_le, Decidable.not_not, beq_iff_eq, bne_iff_ne] at hc3
          have hat := ad_t (g := g) (l := l) (v := v) hI.on hw1 hh2 (by rw [← his]; omega)
          refine wp_skip ?_
          refine then_normal ?_
          refine c_seq ?_
          refine c_region ?_
          refine wl (wl_val hl rfl trivial (r_move hl rfl) ?_)
          clear hl a; intro a hl
          refine wl (wl_val hl rfl trivial (r_nilCheck hl rfl) ?_)
          clear hl a; intro a hl
          refine wl (wl_val hl rfl trivial (r_field hl rfl fld82_0) ?_)
          clear hl a; intro a hl
          refine wl (w_loadA hl hh rfl trivial agg78 rfl (by repeat (first | exact find_head | apply find_tail | apply find_skip)) (by first | exact duc_all _ | exact mdc_d _) (by exact duc_len _) ?_)
          clear hl a; intro a hl
          refine wl (w_call hl hh rfl trivial rfl cal115 rfl (cpy2 Z m.d hm.dok) (by repeat (first | exact keeps_nil | apply keeps_cons (by repeat (first | exact find_head | apply find_tail | apply find_skip)) (by first  | rfl) | exact keeps_self | exact keeps_left | apply keeps_app | apply keeps_mv | apply keeps_skip)) trivial ?_)
          clear hl hh a w; intro vc Fc a w hR hl hh
          obtain ⟨s1, hs1, hps1, rfl, rfl⟩ := hR
          try simp only [List.cons_append, List.nil_append, List.append_assoc, List.append_nil] at hh
          rw [DuV.E_eq s1] at hh
          try simp only [List.append_assoc, List.cons_append, List.nil_append] at hh
          have hs9 : s1.pl = g.st := hps1.trans hst
          have hil1 : s1.is = g.st.is := congrArg StP.is hs9
          refine wl (w_alloc hl hh rfl trivial zero78 rfl ?_)
          clear hl hh a w; intro k5 a w hl hh
          refine wl (w_storeA hl hh trivial agg78 rfl rfl (by repeat (first | exact find_head | apply find_tail | apply find_skip)) (by exact duc_len _) (by first | exact Nat.le_refl 71 | (rw [mdc_len]; omega)) (by exact duc_one _) (by first | exact setL_all (show 71 = _ from (duc_len _).symm) | exact mdc_sd _ _) ?_)
          clear hh w; intro w hh
          refine w_nil ?_
          have hl2 := hl.add (t := 0) (hl.add (t := 3) (hl.add (t := 5) (hl.nil) rfl) rfl) rfl; clear hl; have hl := hl2; clear hl2
          refine then_normal ?_
          refine c_seq ?_
          refine c_region ?_
          refine wl (wl_val hl rfl trivial (r_field hl rfl fld78_3) ?_)
          clear hl a; intro a hl
          refine wl (w_load hl hh rfl trivial one75 rfl (by repeat (first | exact find_head | apply find_tail | apply find_skip)) (by first | exact mdc_ep _ | exact mdc_a _ | exact mdc_n _ | exact mdc_i _ | exact mdc_ph _ | exact mdc_fid _ | exact mdc_vd _ | exact mdc_up _ | exact mdc_q _ | exact mdc_rf _ | exact mdc_tk _ | exact mdc_au _ | exact mdc_fl _ | exact mdc_fu _ | exact mdc_kp _ | exact duc_ep _ | exact duc_a _ | exact duc_n _ | exact duc_i _ | exact duc_ph _ | exact duc_fid _ | exact duc_vd _ | rfl) ?_)
          clear hl a; intro a hl
          refine wl (w_loadA hl hh rfl trivial agg43 rfl (by repeat (first | exact find_head | apply find_tail | apply find_skip)) (by rfl) (by rfl) ?_)
          clear hl a; intro a hl
          refine wl (w_buildSlice hl hh rfl trivial app75 zero43 rfl rfl rfl rfl rfl (fill1 rfl (ivc_len _)) ?_)
          clear hl hh a w; intro k32 a w hl hh
          refine wl (w_append (news := (ivc v)) hl hh rfl trivial app75 rfl rfl rfl hs1.i (by repeat (first | exact keeps_nil | apply keeps_cons (by repeat (first | exact find_head | apply find_tail | apply find_skip)) (by first  | rfl) | exact keeps_self | exact keeps_left | apply keeps_app | apply keeps_mv | apply keeps_skip)) (hh.mem _ _ (Find.mem (by repeat (first | exact find_head | apply find_tail | apply find_skip)))) (by rw [List.drop_zero]; exact List.take_length) rfl (ivc_one _) (by omega) (by rw [hil1, ← his]; omega) (by rw [hil1, ← his]; omega) (by decide) ?_)
          clear hl hh a w; intro rv2 E2 a w hR2 hl hh
          have hh3 := hh.comm; clear hh; have hh := hh3; clear hh3
          try simp only [List.cons_append, List.nil_append, List.append_assoc, List.append_nil] at hh
          obtain ⟨p6, c6, hv6⟩ := row_val hR2
          rw [hv6] at hl hR2
          rw [show s1.is.length + 1 = (s1.is ++ [v]).length by simp] at hl hR2
          rw [show fl ivc s1.is ++ ivc v = fl ivc (s1.is ++ [v]) by rw [fl_app, fl_sing]] at hR2
          have hso : DuV.ok Z { s1 with is := s1.is ++ [v], ip := p6, ic := c6, iE := E2 } := du_isok hs1 hR2 (fun x hx => by rcases List.mem_append.1 hx with h9 | h9; exact hs1.io x h9; rw [List.mem_singleton.1 h9]; exact hv) (by rw [List.length_append, hil1, ← his, List.length_singleton]; omega)
          have hpl : DuV.pl { s1 with is := s1.is ++ [v], ip := p6, ic := c6, iE := E2 } = { g.st with is := g.st.is ++ [v] } := by rw [du_ispl hs9, hil1]
          refine wl (wl_val hl rfl trivial (r_field hl rfl fld78_3) ?_)
          clear hl a; intro a hl
          refine wl (w_store hl hh trivial one75 rfl rfl (by repeat (first | exact find_head | apply find_tail | apply find_skip)) (by first | (simp; done) | (simp; omega) | (rw [mdc_len]; omega) | (rw [mdc_len]; simp; done) | (rw [duc_len]; omega) | (rw [duc_len]; simp; done)) (by first | rfl | assumption | (apply Row.one; assumption)) (by first | exact mdc_sup _ _ | exact mdc_stk _ _ | exact mdc_sau _ _ | exact mdc_sfl _ _ | exact mdc_sfu _ _ | exact mdc_skp _ _ | exact duc_si _ _ _ _ E2 | (simp only [setL, List.getElem?_cons_zero, List.getElem?_cons_succ, Value.cells, List.take_zero, List.take_succ_cons, List.take_nil, List.drop_zero, List.drop_succ_cons, List.drop_nil, List.length_cons, List.length_nil, List.cons_append, List.nil_append, List.append_nil, Nat.zero_add, Nat.add_zero, Nat.reduceAdd, Nat.reduceBEq, Nat.reduceEqDiff, Nat.ble, BEq.rfl, Bool.and_true, Bool.and_self, cond_true, beq_self_eq_true]; rfl)) ?_)
          clear hh w; intro w hh
          refine w_nil ?_
          have hl2 := hl.add (t := 0) (hl.add (t := 5) (hl.nil) rfl) rfl; clear hl; have hl := hl2; clear hl2
          refine then_normal ?_
          refine c_seq ?_
          refine c_region ?_
          refine wl (wl_val hl rfl trivial (r_move hl rfl) ?_)
          clear hl a; intro a hl
          refine wl (w_loadA hl hh rfl trivial agg78 rfl (by repeat (first | exact find_head | apply find_tail | apply find_skip)) (by first | exact duc_all _ | exact mdc_d _) (by exact duc_len _) ?_)
          clear hl a; intro a hl
          refine wl (w_call hl hh rfl trivial rfl cal116 rfl (write4 mb m { s1 with is := s1.is ++ [v], ip := p6, ic := c6, iE := E2 } l hdn hm.fl hm.fu hm.kp hm.d hm.fb) (by repeat (first | exact keeps_nil | apply keeps_cons (by repeat (first | exact find_head | apply find_tail | apply find_skip)) (by first  | rfl) | exact keeps_self | exact keeps_left | apply keeps_app | apply keeps_mv | apply keeps_skip)) trivial ?_)
          clear hl hh a w; intro vc Fc a w hR hl hh
          rcases hR with ⟨f, hr, hf, rfl, rfl⟩ | ⟨hr, rfl, rfl⟩ | ⟨hr, rfl, rfl⟩ | ⟨hr, rfl, rfl⟩
          ·
            try simp only [List.cons_append, List.nil_append, List.append_nil] at hh
            try simp only [List.append_assoc, List.cons_append, List.nil_append] at hh
            refine wl (wl_val hl rfl trivial (r_assign hl rfl) ?_)
            clear hl a; intro a hl
            refine w_nil ?_
            have hl2 := hl.add (t := 4) (hl.nil) rfl; clear hl; have hl := hl2; clear hl2
            refine then_normal ?_
            refine wp_ret ?_
            first
            | (have hab := hat.trans (tx_0 (g := g) (show (admitP l _).2 = 0 by rw [← hpl, hr])); rw [← hpl, hr] at hab; refine f_ret1 (F' := (mb, C (MdV.c { m with d := { s1 with is := s1.is ++ [v], ip := p6, ic := c6, iE := E2 }, fu := f }) 82) :: ((s1.aE ++ (s1.nE ++ (E2 ++ [(s1.vb, MO (kInt .u32) s1.vd)]))) ++ (m.qE ++ (m.rE ++ Z)))) hl hh rfl rfl (by repeat (first | exact keeps_nil | apply keeps_cons (by repeat (first | exact find_head | apply find_tail | apply find_skip)) (by first  | rfl) | exact keeps_self | exact keeps_left | apply keeps_app | apply keeps_mv | apply keeps_skip)) ?_; exact ⟨by rw [hab], MdO.same (m' := { m with d := { s1 with is := s1.is ++ [v], ip := p6, ic := c6, iE := E2 }, fu := f }) (by rw [hab]; exact ⟨hso, rfl, hm.up, hm.qr, hm.qo, hm.qp, hm.r, hm.ys, hm.dn, hm.tk, hm.au, hm.fl, rfl, hm.kp, hf⟩) (by simp only [MF, DuV.E_eq, List.append_assoc, List.cons_append, List.nil_append])⟩)
            | (have hab := hat.trans (tx_1 (g := g) (show (admitP l _).2 = 1 by rw [← hpl, hr])); rw [← hpl, hr] at hab; refine f_ret1 (F' := (mb, C (MdV.c m) 82) :: (m.d.aE ++ (m.d.nE ++ (m.d.iE ++ ((m.d.vb, MO (kInt .u32) m.d.vd) :: (m.qE ++ (m.rE ++ Z))))))) hl hh rfl rfl (by repeat (first | exact keeps_nil | apply keeps_cons (by repeat (first | exact find_head | apply find_tail | apply find_skip)) (by first  | rfl) | exact keeps_self | exact keeps_left | apply keeps_app | apply keeps_mv | apply keeps_skip)) ?_; exact ⟨by rw [hab], MdO.same (m' := m) (by rw [hab]; exact hm) (by simp only [MF, DuV.E_eq, List.append_assoc, List.cons_append, List.nil_append])⟩)
            | (have hab := hat.trans (tx_2 (g := g) (show (admitP l _).2 = 2 by rw [← hpl, hr])); rw [← hpl, hr] at hab; refine f_ret1 (F' := (mb, C (MdV.c { m with d := { s1 with is := s1.is ++ [v], ip := p6, ic := c6, iE := E2 }, fu := 0, up := false }) 82) :: ((s1.aE ++ (s1.nE ++ (E2 ++ [(s1.vb, MO (kInt .u32) s1.vd)]))) ++ (m.qE ++ (m.rE ++ Z)))) hl hh rfl rfl (by repeat (first | exact keeps_nil | apply keeps_cons (by repeat (first | exact find_head | apply find_tail | apply find_skip)) (by first  | rfl) | exact keeps_self | exact keeps_left | apply keeps_app | apply keeps_mv | apply keeps_skip)) ?_; exact ⟨by rw [hab], MdO.same (m' := { m with d := { s1 with is := s1.is ++ [v], ip := p6, ic := c6, iE := E2 }, fu := 0, up := false }) (by rw [hab]; exact ⟨hso, rfl, rfl, hm.qr, hm.qo, hm.qp, hm.r, hm.ys, hm.dn, hm.tk, hm.au, hm.fl, rfl, hm.kp, (by simp)⟩) (by simp only [MF, DuV.E_eq, List.append_assoc, List.cons_append, List.nil_append])⟩)
            | (have hab := hat.trans (tx_2 (g := g) (show (admitP l _).2 = 2 by rw [← hpl, hr])); rw [← hpl, hr] at hab; refine f_ret1 (F' := (mb, C (MdV.c { m with fu := 0, up := false }) 82) :: (m.d.aE ++ (m.d.nE ++ (m.d.iE ++ ((m.d.vb, MO (kInt .u32) m.d.vd) :: (m.qE ++ (m.rE ++ Z))))))) hl hh rfl rfl (by repeat (first | exact keeps_nil | apply keeps_cons (by repeat (first | exact find_head | apply find_tail | apply find_skip)) (by first  | rfl) | exact keeps_self | exact keeps_left | apply keeps_app | apply keeps_mv | apply keeps_skip)) ?_; exact ⟨by rw [hab], MdO.same (m' := { m with fu := 0, up := false }) (by rw [hab]; exact ⟨hm.dok, hm.d, rfl, hm.qr, hm.qo, hm.qp, hm.r, hm.ys, hm.dn, hm.tk, hm.au, hm.fl, rfl, hm.kp, (by simp)⟩) (by simp only [MF, DuV.E_eq, List.append_assoc, List.cons_append, List.nil_append])⟩)
          ·
            try simp only [List.cons_append, List.nil_append, List.append_nil] at hh
            try simp only [List.append_assoc, List.cons_append, List.nil_append] at hh
            refine wl (wl_val hl rfl trivial (r_assign hl rfl) ?_)
            clear hl a; intro a hl
            refine w_nil ?_
            have hl2 := hl.add (t := 4) (hl.nil) rfl; clear hl; have hl := hl2; clear hl2
            refine then_normal ?_
            refine wp_ret ?_
            first
            | (have hab := hat.trans (tx_0 (g := g) (show (admitP l _).2 = 0 by rw [← hpl, hr])); rw [← hpl, hr] at hab; refine f_ret1 (F' := (mb, C (MdV.c { m with d := { s1 with is := s1.is ++ [v], ip := p6, ic := c6, iE := E2 }, fu := f }) 82) :: ((s1.aE ++ (s1.nE ++ (E2 ++ [(s1.vb, MO (kInt .u32) s1.vd)]))) ++ (m.qE ++ (m.rE ++ Z)))) hl hh rfl rfl (by repeat (first | exact keeps_nil | apply keeps_cons (by repeat (first | exact find_head | apply find_tail | apply find_skip)) (by first  | rfl) | exact keeps_self | exact keeps_left | apply keeps_app | apply keeps_mv | apply keeps_skip)) ?_; exact ⟨by rw [hab], MdO.same (m' := { m with d := { s1 with is := s1.is ++ [v], ip := p6, ic := c6, iE := E2 }, fu := f }) (by rw [hab]; exact ⟨hso, rfl, hm.up, hm.qr, hm.qo, hm.qp, hm.r, hm.ys, hm.dn, hm.tk, hm.au, hm.fl, rfl, hm.kp, hf⟩) (by simp only [MF, DuV.E_eq, List.append_assoc, List.cons_append, List.nil_append])⟩)
            | (have hab := hat.trans (tx_1 (g := g) (show (admitP l _).2 = 1 by rw [← hpl, hr])); rw [← hpl, hr] at hab; refine f_ret1 (F' := (mb, C (MdV.c m) 82) :: (m.d.aE ++ (m.d.nE ++ (m.d.iE ++ ((m.d.vb, MO (kInt .u32) m.d.vd) :: (m.qE ++ (m.rE ++ Z))))))) hl hh rfl rfl (by repeat (first | exact keeps_nil | apply keeps_cons (by repeat (first | exact find_head | apply find_tail | apply find_skip)) (by first  | rfl) | exact keeps_self | exact keeps_left | apply keeps_app | apply keeps_mv | apply keeps_skip)) ?_; exact ⟨by rw [hab], MdO.same (m' := m) (by rw [hab]; exact hm) (by simp only [MF, DuV.E_eq, List.append_assoc, List.cons_append, List.nil_append])⟩)
            | (have hab := hat.trans (tx_2 (g := g) (show (admitP l _).2 = 2 by rw [← hpl, hr])); rw [← hpl, hr] at hab; refine f_ret1 (F' := (mb, C (MdV.c { m with d := { s1 with is := s1.is ++ [v], ip := p6, ic := c6, iE := E2 }, fu := 0, up := false }) 82) :: ((s1.aE ++ (s1.nE ++ (E2 ++ [(s1.vb, MO (kInt .u32) s1.vd)]))) ++ (m.qE ++ (m.rE ++ Z)))) hl hh rfl rfl (by repeat (first | exact keeps_nil | apply keeps_cons (by repeat (first | exact find_head | apply find_tail | apply find_skip)) (by first  | rfl) | exact keeps_self | exact keeps_left | apply keeps_app | apply keeps_mv | apply keeps_skip)) ?_; exact ⟨by rw [hab], MdO.same (m' := { m with d := { s1 with is := s1.is ++ [v], ip := p6, ic := c6, iE := E2 }, fu := 0, up := false }) (by rw [hab]; exact ⟨hso, rfl, rfl, hm.qr, hm.qo, hm.qp, hm.r, hm.ys, hm.dn, hm.tk, hm.au, hm.fl, rfl, hm.kp, (by simp)⟩) (by simp only [MF, DuV.E_eq, List.append_assoc, List.cons_append, List.nil_append])⟩)
            | (have hab := hat.trans (tx_2 (g := g) (show (admitP l _).2 = 2 by rw [← hpl, hr])); rw [← hpl, hr] at hab; refine f_ret1 (F' := (mb, C (MdV.c { m with fu := 0, up := false }) 82) :: (m.d.aE ++ (m.d.nE ++ (m.d.iE ++ ((m.d.vb, MO (kInt .u32) m.d.vd) :: (m.qE ++ (m.rE ++ Z))))))) hl hh rfl rfl (by repeat (first | exact keeps_nil | apply keeps_cons (by repeat (first | exact find_head | apply find_tail | apply find_skip)) (by first  | rfl) | exact keeps_self | exact keeps_left | apply keeps_app | apply keeps_mv | apply keeps_skip)) ?_; exact ⟨by rw [hab], MdO.same (m' := { m with fu := 0, up := false }) (by rw [hab]; exact ⟨hm.dok, hm.d, rfl, hm.qr, hm.qo, hm.qp, hm.r, hm.ys, hm.dn, hm.tk, hm.au, hm.fl, rfl, hm.kp, (by simp)⟩) (by simp only [MF, DuV.E_eq, List.append_assoc, List.cons_append, List.nil_append])⟩)
          ·
            try simp only [List.cons_append, List.nil_append, List.append_nil] at hh
            try simp only [List.append_assoc, List.cons_append, List.nil_append] at hh
            refine wl (wl_val hl rfl trivial (r_assign hl rfl) ?_)
            clear hl a; intro a hl
            refine w_nil ?_
            have hl2 := hl.add (t := 4) (hl.nil) rfl; clear hl; have hl := hl2; clear hl2
            refine then_normal ?_
            refine wp_ret ?_
            first
            | (have hab := hat.trans (tx_0 (g := g) (show (admitP l _).2 = 0 by rw [← hpl, hr])); rw [← hpl, hr] at hab; refine f_ret1 (F' := (mb, C (MdV.c { m with d := { s1 with is := s1.is ++ [v], ip := p6, ic := c6, iE := E2 }, fu := f }) 82) :: ((s1.aE ++ (s1.nE ++ (E2 ++ [(s1.vb, MO (kInt .u32) s1.vd)]))) ++ (m.qE ++ (m.rE ++ Z)))) hl hh rfl rfl (by repeat (first | exact keeps_nil | apply keeps_cons (by repeat (first | exact find_head | apply find_tail | apply find_skip)) (by first  | rfl) | exact keeps_self | exact keeps_left | apply keeps_app | apply keeps_mv | apply keeps_skip)) ?_; exact ⟨by rw [hab], MdO.same (m' := { m with d := { s1 with is := s1.is ++ [v], ip := p6, ic := c6, iE := E2 }, fu := f }) (by rw [hab]; exact ⟨hso, rfl, hm.up, hm.qr, hm.qo, hm.qp, hm.r, hm.ys, hm.dn, hm.tk, hm.au, hm.fl, rfl, hm.kp, hf⟩) (by simp only [MF, DuV.E_eq, List.append_assoc, List.cons_append, List.nil_append])⟩)
            | (have hab := hat.trans (tx_1 (g := g) (show (admitP l _).2 = 1 by rw [← hpl, hr])); rw [← hpl, hr] at hab; refine f_ret1 (F' := (mb, C (MdV.c m) 82) :: (m.d.aE ++ (m.d.nE ++ (m.d.iE ++ ((m.d.vb, MO (kInt .u32) m.d.vd) :: (m.qE ++ (m.rE ++ Z))))))) hl hh rfl rfl (by repeat (first | exact keeps_nil | apply keeps_cons (by repeat (first | exact find_head | apply find_tail | apply find_skip)) (by first  | rfl) | exact keeps_self | exact keeps_left | apply keeps_app | apply keeps_mv | apply keeps_skip)) ?_; exact ⟨by rw [hab], MdO.same (m' := m) (by rw [hab]; exact hm) (by simp only [MF, DuV.E_eq, List.append_assoc, List.cons_append, List.nil_append])⟩)
            | (have hab := hat.trans (tx_2 (g := g) (show (admitP l _).2 = 2 by rw [← hpl, hr])); rw [← hpl, hr] at hab; refine f_ret1 (F' := (mb, C (MdV.c { m with d := { s1 with is := s1.is ++ [v], ip := p6, ic := c6, iE := E2 }, fu := 0, up := false }) 82) :: ((s1.aE ++ (s1.nE ++ (E2 ++ [(s1.vb, MO (kInt .u32) s1.vd)]))) ++ (m.qE ++ (m.rE ++ Z)))) hl hh rfl rfl (by repeat (first | exact keeps_nil | apply keeps_cons (by repeat (first | exact find_head | apply find_tail | apply find_skip)) (by first  | rfl) | exact keeps_self | exact keeps_left | apply keeps_app | apply keeps_mv | apply keeps_skip)) ?_; exact ⟨by rw [hab], MdO.same (m' := { m with d := { s1 with is := s1.is ++ [v], ip := p6, ic := c6, iE := E2 }, fu := 0, up := false }) (by rw [hab]; exact ⟨hso, rfl, rfl, hm.qr, hm.qo, hm.qp, hm.r, hm.ys, hm.dn, hm.tk, hm.au, hm.fl, rfl, hm.kp, (by simp)⟩) (by simp only [MF, DuV.E_eq, List.append_assoc, List.cons_append, List.nil_append])⟩)
            | (have hab := hat.trans (tx_2 (g := g) (show (admitP l _).2 = 2 by rw [← hpl, hr])); rw [← hpl, hr] at hab; refine f_ret1 (F' := (mb, C (MdV.c { m with fu := 0, up := false }) 82) :: (m.d.aE ++ (m.d.nE ++ (m.d.iE ++ ((m.d.vb, MO (kInt .u32) m.d.vd) :: (m.qE ++ (m.rE ++ Z))))))) hl hh rfl rfl (by repeat (first | exact keeps_nil | apply keeps_cons (by repeat (first | exact find_head | apply find_tail | apply find_skip)) (by first  | rfl) | exact keeps_self | exact keeps_left | apply keeps_app | apply keeps_mv | apply keeps_skip)) ?_; exact ⟨by rw [hab], MdO.same (m' := { m with fu := 0, up := false }) (by rw [hab]; exact ⟨hm.dok, hm.d, rfl, hm.qr, hm.qo, hm.qp, hm.r, hm.ys, hm.dn, hm.tk, hm.au, hm.fl, rfl, hm.kp, (by simp)⟩) (by simp only [MF, DuV.E_eq, List.append_assoc, List.cons_append, List.nil_append])⟩)
          ·
            try simp only [List.cons_append, List.nil_append, List.append_nil] at hh
            try simp only [List.append_assoc, List.cons_append, List.nil_append] at hh
            refine wl (wl_val hl rfl trivial (r_assign hl rfl) ?_)
            clear hl a; intro a hl
            refine w_nil ?_
            have hl2 := hl.add (t := 4) (hl.nil) rfl; clear hl; have hl := hl2; clear hl2
            refine then_normal ?_
            refine wp_ret ?_
            first
            | (have hab := hat.trans (tx_0 (g := g) (show (admitP l _).2 = 0 by rw [← hpl, hr])); rw [← hpl, hr] at hab; refine f_ret1 (F' := (mb, C (MdV.c { m with d := { s1 with is := s1.is ++ [v], ip := p6, ic := c6, iE := E2 }, fu := f }) 82) :: ((s1.aE ++ (s1.nE ++ (E2 ++ [(s1.vb, MO (kInt .u32) s1.vd)]))) ++ (m.qE ++ (m.rE ++ Z)))) hl hh rfl rfl (by repeat (first | exact keeps_nil | apply keeps_cons (by repeat (first | exact find_head | apply find_tail | apply find_skip)) (by first  | rfl) | exact keeps_self | exact keeps_left | apply keeps_app | apply keeps_mv | apply keeps_skip)) ?_; exact ⟨by rw [hab], MdO.same (m' := { m with d := { s1 with is := s1.is ++ [v], ip := p6, ic := c6, iE := E2 }, fu := f }) (by rw [hab]; exact ⟨hso, rfl, hm.up, hm.qr, hm.qo, hm.qp, hm.r, hm.ys, hm.dn, hm.tk, hm.au, hm.fl, rfl, hm.kp, hf⟩) (by simp only [MF, DuV.E_eq, List.append_assoc, List.cons_append, List.nil_append])⟩)
            | (have hab := hat.trans (tx_1 (g := g) (show (admitP l _).2 = 1 by rw [← hpl, hr])); rw [← hpl, hr] at hab; refine f_ret1 (F' := (mb, C (MdV.c m) 82) :: (m.d.aE ++ (m.d.nE ++ (m.d.iE ++ ((m.d.vb, MO (kInt .u32) m.d.vd) :: (m.qE ++ (m.rE ++ Z))))))) hl hh rfl rfl (by repeat (first | exact keeps_nil | apply keeps_cons (by repeat (first | exact find_head | apply find_tail | apply find_skip)) (by first  | rfl) | exact keeps_self | exact keeps_left | apply keeps_app | apply keeps_mv | apply keeps_skip)) ?_; exact ⟨by rw [hab], MdO.same (m' := m) (by rw [hab]; exact hm) (by simp only [MF, DuV.E_eq, List.append_assoc, List.cons_append, List.nil_append])⟩)
            | (have hab := hat.trans (tx_2 (g := g) (show (admitP l _).2 = 2 by rw [← hpl, hr])); rw [← hpl, hr] at hab; refine f_ret1 (F' := (mb, C (MdV.c { m with d := { s1 with is := s1.is ++ [v], ip := p6, ic := c6, iE := E2 }, fu := 0, up := false }) 82) :: ((s1.aE ++ (s1.nE ++ (E2 ++ [(s1.vb, MO (kInt .u32) s1.vd)]))) ++ (m.qE ++ (m.rE ++ Z)))) hl hh rfl rfl (by repeat (first | exact keeps_nil | apply keeps_cons (by repeat (first | exact find_head | apply find_tail | apply find_skip)) (by first  | rfl) | exact keeps_self | exact keeps_left | apply keeps_app | apply keeps_mv | apply keeps_skip)) ?_; exact ⟨by rw [hab], MdO.same (m' := { m with d := { s1 with is := s1.is ++ [v], ip := p6, ic := c6, iE := E2 }, fu := 0, up := false }) (by rw [hab]; exact ⟨hso, rfl, rfl, hm.qr, hm.qo, hm.qp, hm.r, hm.ys, hm.dn, hm.tk, hm.au, hm.fl, rfl, hm.kp, (by simp)⟩) (by simp only [MF, DuV.E_eq, List.append_assoc, List.cons_append, List.nil_append])⟩)
            | (have hab := hat.trans (tx_2 (g := g) (show (admitP l _).2 = 2 by rw [← hpl, hr])); rw [← hpl, hr] at hab; refine f_ret1 (F' := (mb, C (MdV.c { m with fu := 0, up := false }) 82) :: (m.d.aE ++ (m.d.nE ++ (m.d.iE ++ ((m.d.vb, MO (kInt .u32) m.d.vd) :: (m.qE ++ (m.rE ++ Z))))))) hl hh rfl rfl (by repeat (first | exact keeps_nil | apply keeps_cons (by repeat (first | exact find_head | apply find_tail | apply find_skip)) (by first  | rfl) | exact keeps_self | exact keeps_left | apply keeps_app | apply keeps_mv | apply keeps_skip)) ?_; exact ⟨by rw [hab], MdO.same (m' := { m with fu := 0, up := false }) (by rw [hab]; exact ⟨hm.dok, hm.d, rfl, hm.qr, hm.qo, hm.qp, hm.r, hm.ys, hm.dn, hm.tk, hm.au, hm.fl, rfl, hm.kp, (by simp)⟩) (by simp only [MF, DuV.E_eq, List.append_assoc, List.cons_append, List.nil_append])⟩)
end Go.Proofs.Qxb6500908aGreat

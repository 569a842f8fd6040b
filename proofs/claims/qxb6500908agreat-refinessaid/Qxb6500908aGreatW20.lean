import Derived.Test.Qxb6500908aGreatW19
namespace Go.Proofs.Qxb6500908aGreat
open Go.Eng
set_option linter.unusedVariables false
set_option linter.unusedSimpArgs false
theorem cal48 : callable Tryz.prog 48 = true := by kernel_rfl
theorem cal49 : callable Tryz.prog 49 = true := by kernel_rfl
theorem ad_pl {s1 : StV} {s : StP} (h : s1.pl = s) (v : Iv) (p : Option Addr) (c : Nat) (E : List (Nat × Obj)) : StV.pl { s1 with is := s1.is ++ [v], ip := p, ic := c, iE := E } = { s with is := s.is ++ [v] } := by subst h; rfl
theorem dr_pl {s1 : StV} {s : StP} (h : s1.pl = s) (i : Nat) (p : Option Addr) (c : Nat) (E : List (Nat × Obj)) : StV.pl { s1 with is := delP s1.is i, ip := p, ic := c, iE := E } = { s with is := delP s.is ((i : Nat) : Int).toNat } := by subst h; rfl
theorem st_pl {g : GtV} {s : StV} {s' : StP} (h : s.pl = s') : GtV.pl { g with st := s } = { g.pl with st := s' } := by subst h; rfl
theorem is_eq {s1 s2 : StV} (h : s1.pl = s2.pl) : s1.is = s2.is := congrArg StP.is h

attribute [local irreducible] NtV.k StV.c LdV.c StV.E GtV.c GtV.t orB sh1

set_option maxHeartbeats 4000000 in
theorem addI_spec (Z : List (Nat × Obj)) (gb : Nat) (g : GtV) (l : LdV) (hg : g.ok Z) (hl9 : l.ok Z) (v : Iv) (hv : v.ok) : Sp Tryz.prog 35 #[.pointer (some ⟨gb, 0, none⟩), .agg ⟨ivc v⟩] (GF gb g l Z) (fun u F' => u = .int .u8 (addP g.pl l.pl v).2 ∧ GO gb g.led (addP g.pl l.pl v).1 Z F') := by
  refine f_enter (args := [.pointer (some ⟨gb, 0, none⟩), .agg ⟨ivc v⟩]) Tryz.func35 rfl Tryz.ntmps35 rfl ?_
  intro w0 w a hpre hl hh
  generalize hDD : List.map Prod.fst (GF gb g l Z) = D at hh ⊢
  simp only [GF] at hh
  have hil := hg.st.il
  simp only [slotsFrom, Nat.reduceAdd] at hl
  refine c_seq ?_
  refine c_region ?_
  refine wl (w_box hl hh rfl trivial rfl rfl ?_)
  clear hl hh a w; intro k3 a w hl hh
  refine wl (wl_val hl rfl trivial (r_assign hl rfl) ?_)
  clear hl a; intro a hl
  refine w_nil ?_
  have hl2 := hl.add (t := 0) (hl.add (t := 3) (hl.nil) rfl) rfl; clear hl; have hl := hl2; clear hl2
  refine then_normal ?_
  refine c_seq ?_
  refine c_seq ?_
  refine c_region ?_
  refine wl (wl_val hl rfl trivial (r_move hl rfl) ?_)
  clear hl a; intro a hl
  refine wl (wl_val hl rfl trivial (r_nilCheck hl rfl) ?_)
  clear hl a; intro a hl
  refine wl (wl_val hl rfl trivial (r_field hl rfl fld127_10) ?_)
  clear hl a; intro a hl
  refine wl (w_load hl hh rfl trivial one4 rfl (by repeat (first | exact find_head | apply find_tail | apply find_skip)) (by first | exact gtc_led _ | exact gtc_ep _ | exact gtc_vs _ | exact gtc_is _ | exact gtc_fid _ | exact gtc_ph _ | exact gtc_vd _ | exact gtc_q _ | exact gtc_rf _ | exact gtc_ys _ | exact gtc_dn _ | exact gtc_tk _ | exact gtc_au _ | exact gtc_o _ | exact gtc_off _ | exact stc_ph' _ | exact stc_fid' _ | exact stc_vd' _ | exact stc_ep' _ | exact stc_vs' _ | exact stc_is' _ | rfl) ?_)
  clear hl a; intro a hl
  refine w_nil ?_
  have hl2 := hl.add (t := 0) (hl.add (t := 3) (hl.add (t := 9) (hl.nil) rfl) rfl) rfl; clear hl; have hl := hl2; clear hl2
  refine then_normal ?_
  refine c_cond hl rfl ?_ ?_
  · intro hc0
    try simp only [decide_eq_true_eq, decide_eq_false_iff_not, Bool.not_eq_true', Bool.not_eq_false', Bool.not_eq_true, Bool.not_eq_false, Bool.and_eq_true, Bool.or_eq_true, Bool.and_eq_false_iff, Bool.or_eq_false_iff, Bool.not_not, ne_eq, Int.not_lt, Int.not_le, Decidable.not_not, beq_iff_eq, bne_iff_ne] at hc0
    have hab := ad_off (g := g.pl) (l := l.pl) (v := v) hc0
    refine c_seq ?_
    refine c_region ?_
    refine wl (wl_val hl rfl trivial (r_assign hl rfl) ?_)
    clear hl a; intro a hl
    refine w_nil ?_
    have hl2 := hl.add (t := 4) (hl.nil) rfl; clear hl; have hl := hl2; clear hl2
    refine then_normal ?_
    refine wp_ret ?_
    refine then_ret ?_
    refine f_ret1 (F' := (gb, C (GtV.c g) 127) :: (g.st.E ++ (g.qE ++ ((g.rb, MD (kInt .u32) g.rl g.rn) :: (g.oE ++ ((g.led, C (LdV.c l) 91) :: (l.d.E ++ Z))))))) hl hh rfl rfl (by repeat (first | exact keeps_nil | apply keeps_cons (by repeat (first | exact find_head | apply find_tail | apply find_skip)) (by first  | rfl) | exact keeps_self | exact keeps_left | apply keeps_app | apply keeps_mv | apply keeps_skip)) ?_
    exact ⟨by rw [hab], GO.same hg hl9 (by rw [hab]) (by rw [hab]) rfl⟩
  · intro hc0
    try simp only [decide_eq_true_eq, decide_eq_false_iff_not, Bool.not_eq_true', Bool.not_eq_false', Bool.not_eq_true, Bool.not_eq_false, Bool.and_eq_true, Bool.or_eq_true, Bool.and_eq_false_iff, Bool.or_eq_false_iff, Bool.not_not, ne_eq, Int.not_lt, Int.not_le, Decidable.not_not, beq_iff_eq, bne_iff_ne] at hc0
    refine wp_skip ?_
    refine then_normal ?_
    refine c_seq ?_
    refine c_seq ?_
    refine c_region ?_
    refine wl (w_loadA hl hh rfl trivial agg43 rfl (by repeat (first | exact find_head | apply find_tail | apply find_skip)) (by rfl) (by rfl) ?_)
    clear hl a; intro a hl
    refine wl (w_call hl hh rfl trivial rfl cal48 rfl (wellf_spec v hv) (by repeat (first | exact keeps_nil | apply keeps_cons (by repeat (first | exact find_head | apply find_tail | apply find_skip)) (by first  | rfl) | exact keeps_self | exact keeps_left | apply keeps_app | apply keeps_mv | apply keeps_skip)) trivial ?_)
    clear hl hh a w; intro vc Fc a w hR hl hh
    obtain ⟨rfl, rfl⟩ := hR
    try simp only [List.cons_append, List.nil_append, List.append_assoc, List.append_nil] at hh
    refine wl (wl_val hl rfl trivial (r_not hl rfl) ?_)
    clear hl a; intro a hl
    refine w_nil ?_
    have hl2 := hl.add (t := 0) (hl.add (t := 3) (hl.add (t := 12) (hl.nil) rfl) rfl) rfl; clear hl; have hl := hl2; clear hl2
    refine then_normal ?_
    refine c_cond hl rfl ?_ ?_
    · intro hc1
      try simp only [decide_eq_true_eq, decide_eq_false_iff_not, Bool.not_eq_true', Bool.not_eq_false', Bool.not_eq_true, Bool.not_eq_false, Bool.and_eq_true, Bool.or_eq_true, Bool.and_eq_false_iff, Bool.or_eq_false_iff, Bool.not_not, ne_eq, Int.not_lt, Int.not_le, Decidable.not_not, beq_iff_eq, bne_iff_ne] at hc1
      have hab := ad_w (g := g.pl) (l := l.pl) (v := v) hc0 (by simpa using hc1)
      refine c_seq ?_
      refine c_region ?_
      refine wl (wl_val hl rfl trivial (r_assign hl rfl) ?_)
      clear hl a; intro a hl
      refine w_nil ?_
      have hl2 := hl.add (t := 4) (hl.nil) rfl; clear hl; have hl := hl2; clear hl2
      refine then_normal ?_
      refine wp_ret ?_
      refine then_ret ?_
      refine f_ret1 (F' := (gb, C (GtV.c g) 127) :: (g.st.E ++ (g.qE ++ ((g.rb, MD (kInt .u32) g.rl g.rn) :: (g.oE ++ ((g.led, C (LdV.c l) 91) :: (l.d.E ++ Z))))))) hl hh rfl rfl (by repeat (first | exact keeps_nil | apply keeps_cons (by repeat (first | exact find_head | apply find_tail | apply find_skip)) (by first  | rfl) | exact keeps_self | exact keeps_left | apply keeps_app | apply keeps_mv | apply keeps_skip)) ?_
      exact ⟨by rw [hab], GO.same hg hl9 (by rw [hab]) (by rw [hab]) rfl⟩
    · intro hc1
      try simp only [decide_eq_true_eq, decide_eq_false_iff_not, Bool.not_eq_true', Bool.not_eq_false', Bool.not_eq_true, Bool.not_eq_false, Bool.and_eq_true, Bool.or_eq_true, Bool.and_eq_false_iff, Bool.or_eq_false_iff, Bool.not_not, ne_eq, Int.not_lt, Int.not_le, Decidable.not_not, beq_iff_eq, bne_iff_ne] at hc1
      have hw1 : wfI v = true := by simpa using hc1
      refine wp_skip ?_
      refine then_normal ?_
      refine c_seq ?_
      refine c_seq ?_
      refine c_region ?_
      refine wl (wl_val hl rfl trivial (r_move hl rfl) ?_)
      clear hl a; intro a hl
      refine wl (w_loadA hl hh rfl trivial agg43 rfl (by repeat (first | exact find_head | apply find_tail | apply find_skip)) (by rfl) (by rfl) ?_)
      clear hl a; intro a hl
      refine wl (w_call hl hh rfl trivial rfl cal49 rfl (has_spec Z gb g hg v hv) (by repeat (first | exact keeps_nil | apply keeps_cons (by repeat (first | exact find_head | apply find_tail | apply find_skip)) (by first  | rfl) | exact keeps_self | exact keeps_left | apply keeps_app | apply keeps_mv | apply keeps_skip)) trivial ?_)
      clear hl hh a w; intro vc Fc a w hR hl hh
      obtain ⟨rfl, rfl⟩ := hR
      try simp only [List.cons_append, List.nil_append, List.append_assoc, List.append_nil] at hh
      try simp only [List.append_assoc, List.cons_append, List.nil_append] at hh
      refine wl (wl_val hl rfl trivial (r_geq hl rfl rfl) ?_)
      clear hl a; intro a hl
      refine w_nil ?_
      have hl2 := hl.add (t := 0) (hl.add (t := 3) (hl.add (t := 16) (hl.nil) rfl) rfl) rfl; clear hl; have hl := hl2; clear hl2
      refine then_normal ?_
      refine c_cond hl rfl ?_ ?_
      · intro hc2
        try simp only [decide_eq_true_eq, decide_eq_false_iff_not, Bool.not_eq_true', Bool.not_eq_false', Bool.not_eq_true, Bool.not_eq_false, Bool.and_eq_true, Bool.or_eq_true, Bool.and_eq_false_iff, Bool.or_eq_false_iff, Bool.not_not, ne_eq, Int.not_lt, Int.not_le, Decidable.not_not, beq_iff_eq, bne_iff_ne] at hc2
        have hab := ad_h (g := g.pl) (l := l.pl) (v := v) hc0 hw1 hc2
        refine c_seq ?_
        refine c_region ?_
        refine wl (wl_val hl rfl trivial (r_assign hl rfl) ?_)
        clear hl a; intro a hl
        refine w_nil ?_
        have hl2 := hl.add (t := 4) (hl.nil) rfl; clear hl; have hl := hl2; clear hl2
        refine then_normal ?_
        refine wp_ret ?_
        refine then_ret ?_
        refine f_ret1 (F' := (gb, C (GtV.c g) 127) :: (g.st.E ++ (g.qE ++ ((g.rb, MD (kInt .u32) g.rl g.rn) :: (g.oE ++ ((g.led, C (LdV.c l) 91) :: (l.d.E ++ Z))))))) hl hh rfl rfl (by repeat (first | exact keeps_nil | apply keeps_cons (by repeat (first | exact find_head | apply find_tail | apply find_skip)) (by first  | rfl) | exact keeps_self | exact keeps_left | apply keeps_app | apply keeps_mv | apply keeps_skip)) ?_
        exact ⟨by rw [hab], GO.same hg hl9 (by rw [hab]) (by rw [hab]) rfl⟩
      · intro hc2
        try simp only [decide_eq_true_eq, decide_eq_false_iff_not, Bool.not_eq_true', Bool.not_eq_false', Bool.not_eq_true, Bool.not_eq_false, Bool.and_eq_true, Bool.or_eq_true, Bool.and_eq_false_iff, Bool.or_eq_false_iff, Bool.not_not, ne_eq, Int.not_lt, Int.not_le, Decidable.not_not, beq_iff_eq, bne_iff_ne] at hc2
        have hh2 : ¬ 0 ≤ hix g.pl.st.is v := by omega
        refine wp_skip ?_
        refine then_normal ?_
        refine c_seq ?_
        refine c_seq ?_
        refine c_region ?_
        refine wl (wl_val hl rfl trivial (r_move hl rfl) ?_)
        clear hl a; intro a hl
        refine wl (wl_val hl rfl trivial (r_nilCheck hl rfl) ?_)
        clear hl a; intro a hl
        refine wl (wl_val hl rfl trivial (r_field hl rfl fld127_1) ?_)
        clear hl a; intro a hl
        refine wl (wl_val hl rfl trivial (r_field hl rfl fld89_2) ?_)
        clear hl a; intro a hl
        refine wl (w_load hl hh rfl trivial one75 rfl (by repeat (first | exact find_head | apply find_tail | apply find_skip)) (by first | exact gtc_led _ | exact gtc_ep _ | exact gtc_vs _ | exact gtc_is _ | exact gtc_fid _ | exact gtc_ph _ | exact gtc_vd _ | exact gtc_q _ | exact gtc_rf _ | exact gtc_ys _ | exact gtc_dn _ | exact gtc_tk _ | exact gtc_au _ | exact gtc_o _ | exact gtc_off _ | exact stc_ph' _ | exact stc_fid' _ | exact stc_vd' _ | exact stc_ep' _ | exact stc_vs' _ | exact stc_is' _ | rfl) ?_)
        clear hl a; intro a hl
        refine wl (wl_val hl rfl trivial (r_lenS hl rfl slc75) ?_)
        clear hl a; intro a hl
        refine wl (wl_val hl rfl trivial (r_geq hl rfl rfl) ?_)
        clear hl a; intro a hl
        refine w_nil ?_
        have hl2 := hl.add (t := 0) (hl.add (t := 3) (hl.add (t := 23) (hl.nil) rfl) rfl) rfl; clear hl; have hl := hl2; clear hl2
        refine then_normal ?_
        refine c_cond hl rfl ?_ ?_
        · intro hc3
          try simp only [decide_eq_true_eq, decide_eq_false_iff_not, Bool.not_eq_true', Bool.not_eq_false', Bool.not_eq_true, Bool.not_eq_false, Bool.and_eq_true, Bool.or_eq_true, Bool.and_eq_false_iff, Bool.or_eq_false_iff, Bool.not_not, ne_eq, Int.not_lt, Int.not_le, Decidable.not_not, beq_iff_eq, bne_iff_ne] at hc3
          have hab := ad_m (g := g.pl) (l := l.pl) (v := v) hc0 hw1 hh2 (show 16 ≤ g.st.is.length by omega)
          refine c_seq ?_
          refine c_region ?_
          refine wl (wl_val hl rfl trivial (r_assign hl rfl) ?_)
          clear hl a; intro a hl
          refine w_nil ?_
          have hl2 := hl.add (t := 4) (hl.nil) rfl; clear hl; have hl := hl2; clear hl2
          refine then_normal ?_
          refine wp_ret ?_
          refine then_ret ?_
          refine f_ret1 (F' := (gb, C (GtV.c g) 127) :: (g.st.E ++ (g.qE ++ ((g.rb, MD (kInt .u32) g.rl g.rn) :: (g.oE ++ ((g.led, C (LdV.c l) 91) :: (l.d.E ++ Z))))))) hl hh rfl rfl (by repeat (first | exact keeps_nil | apply keeps_cons (by repeat (first | exact find_head | apply find_tail | apply find_skip)) (by first  | rfl) | exact keeps_self | exact keeps_left | apply keeps_app | apply keeps_mv | apply keeps_skip)) ?_
          exact ⟨by rw [hab], GO.same hg hl9 (by rw [hab]) (by rw [hab]) rfl⟩
        · intro hc3
          try simp only [decide_eq_true_eq, decide_eq_false_iff_not, Bool.not_eq_true', Bool.not_eq_false', Bool.not_eq_true, Bool.not_eq_false, Bool.and_eq_true, Bool.or_eq_true, Bool.and_eq_false_iff, Bool.or_eq_false_iff, Bool.not_not, ne_eq, Int.not_lt, Int.not_le, Decidable.not_not, beq_iff_eq, bne_iff_ne] at hc3
          have hat := ad_t (g := g.pl) (l := l.pl) (v := v) hc0 hw1 hh2 (show ¬ 16 ≤ g.st.is.length by omega)
          refine wp_skip ?_
          refine then_normal ?_
          refine c_seq ?_
          refine c_region ?_
          refine wl (wl_val hl rfl trivial (r_move hl rfl) ?_)
          clear hl a; intro a hl
          refine wl (wl_val hl rfl trivial (r_nilCheck hl rfl) ?_)
          clear hl a; intro a hl
          refine wl (wl_val hl rfl trivial (r_field hl rfl fld127_1) ?_)
          clear hl a; intro a hl
          refine wl (w_loadA hl hh rfl trivial agg89 rfl (by repeat (first | exact find_head | apply find_tail | apply find_skip)) (by first | exact gtc_st _ | exact stc_all _) (by exact stc_len _) ?_)
          clear hl a; intro a hl
          refine wl (w_call hl hh rfl trivial rfl cal27 rfl (cln_spec Z g.st hg.st) (by repeat (first | exact keeps_nil | apply keeps_cons (by repeat (first | exact find_head | apply find_tail | apply find_skip)) (by first  | rfl) | exact keeps_self | exact keeps_left | apply keeps_app | apply keeps_mv | apply keeps_skip)) trivial ?_)
          clear hl hh a w; intro vc Fc a w hR hl hh
          obtain ⟨s1, hs1, hps1, rfl, rfl⟩ := hR
          try simp only [List.cons_append, List.nil_append, List.append_assoc, List.append_nil] at hh
          rw [StV.E_eq s1] at hh
          try simp only [List.append_assoc, List.cons_append, List.nil_append] at hh
          have hil1 : s1.is = g.st.is := is_eq hps1
          have hil2 : s1.is.length = g.st.is.length := by rw [hil1]
          refine wl (w_alloc hl hh rfl trivial zero89 rfl ?_)
          clear hl hh a w; intro k5 a w hl hh
          refine wl (w_storeA hl hh trivial agg89 rfl rfl (by repeat (first | exact find_head | apply find_tail | apply find_skip)) (by exact stc_len _) (by first | exact Nat.le_refl 70 | (rw [gtc_len]; omega)) (by exact stc_one _) (by first | exact setL_all (show 70 = _ from (stc_len _).symm) | exact gtc_sst _ _) ?_)
          clear hh w; intro w hh
          refine w_nil ?_
          have hl2 := hl.add (t := 0) (hl.add (t := 3) (hl.add (t := 5) (hl.nil) rfl) rfl) rfl; clear hl; have hl := hl2; clear hl2
          refine then_normal ?_
          refine c_seq ?_
          refine c_region ?_
          refine wl (wl_val hl rfl trivial (r_field hl rfl fld89_2) ?_)
          clear hl a; intro a hl
          refine wl (w_load hl hh rfl trivial one75 rfl (by repeat (first | exact find_head | apply find_tail | apply find_skip)) (by first | exact gtc_led _ | exact gtc_ep _ | exact gtc_vs _ | exact gtc_is _ | exact gtc_fid _ | exact gtc_ph _ | exact gtc_vd _ | exact gtc_q _ | exact gtc_rf _ | exact gtc_ys _ | exact gtc_dn _ | exact gtc_tk _ | exact gtc_au _ | exact gtc_o _ | exact gtc_off _ | exact stc_ph' _ | exact stc_fid' _ | exact stc_vd' _ | exact stc_ep' _ | exact stc_vs' _ | exact stc_is' _ | rfl) ?_)
          clear hl a; intro a hl
          refine wl (w_loadA hl hh rfl trivial agg43 rfl (by repeat (first | exact find_head | apply find_tail | apply find_skip)) (by rfl) (by rfl) ?_)
          clear hl a; intro a hl
          refine wl (w_buildSlice hl hh rfl trivial app75 zero43 rfl rfl rfl rfl rfl (fill1 rfl (ivc_len _)) ?_)
          clear hl hh a w; intro k32 a w hl hh
          refine wl (w_append (news := (ivc v)) hl hh rfl trivial app75 rfl rfl rfl hs1.i (by repeat (first | exact keeps_nil | apply keeps_cons (by repeat (first | exact find_head | apply find_tail | apply find_skip)) (by first  | rfl) | exact keeps_self | exact keeps_left | apply keeps_app | apply keeps_mv | apply keeps_skip)) (hh.mem _ _ (Find.mem (by repeat (first | exact find_head | apply find_tail | apply find_skip)))) (by rw [List.drop_zero]; exact List.take_length) rfl (ivc_one _) (by omega) (by omega) (by omega) (by decide) ?_)
          clear hl hh a w; intro rv2 E2 a w hR2 hl hh
          have hh3 := hh.comm; clear hh; have hh := hh3; clear hh3
          try simp only [List.cons_append, List.nil_append, List.append_assoc, List.append_nil] at hh
          obtain ⟨p6, c6, hv6⟩ := row_val hR2
          rw [hv6] at hl hR2
          rw [show s1.is.length + 1 = (s1.is ++ [v]).length by simp] at hl hR2
          rw [show fl ivc s1.is ++ ivc v = fl ivc (s1.is ++ [v]) by rw [fl_app, fl_sing]] at hR2
          have hso := is_ok hs1 hR2 (fun x hx => by rcases List.mem_append.1 hx with h9 | h9; exact hs1.io x h9; rw [List.mem_singleton.1 h9]; exact hv) (by rw [List.length_append, hil1, List.length_singleton]; omega)
          have hrs := ad_pl hps1 v p6 c6 E2
          refine wl (wl_val hl rfl trivial (r_field hl rfl fld89_2) ?_)
          clear hl a; intro a hl
          refine wl (w_store hl hh trivial one75 rfl rfl (by repeat (first | exact find_head | apply find_tail | apply find_skip)) (by first | (simp; done) | (simp; omega) | (rw [gtc_len]; omega) | (rw [gtc_len]; simp; done) | (rw [stc_len]; omega) | (rw [stc_len]; simp; done)) (by first | rfl | assumption | (apply Row.one; assumption)) (by first | exact gtc_sys _ _ | exact gtc_sdn _ _ | exact gtc_stk _ _ | exact gtc_sau _ _ | exact gtc_soff _ _ | exact stc_sis _ _ _ _ E2 | (simp only [setL, List.getElem?_cons_zero, List.getElem?_cons_succ, Value.cells, List.take_zero, List.take_succ_cons, List.take_nil, List.drop_zero, List.drop_succ_cons, List.drop_nil, List.length_cons, List.length_nil, List.cons_append, List.nil_append, List.append_nil, Nat.zero_add, Nat.add_zero, Nat.reduceAdd, Nat.reduceBEq, Nat.reduceEqDiff, Nat.ble, BEq.rfl, Bool.and_true, Bool.and_self, cond_true, beq_self_eq_true]; rfl)) ?_)
          clear hh w; intro w hh
          refine w_nil ?_
          have hl2 := hl.add (t := 0) (hl.add (t := 5) (hl.nil) rfl) rfl; clear hl; have hl := hl2; clear hl2
          refine then_normal ?_
          refine c_seq ?_
          refine c_region ?_
          refine wl (wl_val hl rfl trivial (r_move hl rfl) ?_)
          clear hl a; intro a hl
          refine wl (w_loadA hl hh rfl trivial agg89 rfl (by repeat (first | exact find_head | apply find_tail | apply find_skip)) (by first | exact gtc_st _ | exact stc_all _) (by exact stc_len _) ?_)
          clear hl a; intro a hl
          refine wl (w_call hl hh rfl trivial rfl cal46 rfl (gstore3 Z gb g l hl9 { s1 with is := s1.is ++ [v], ip := p6, ic := c6, iE := E2 } hso true) (by repeat (first | exact keeps_nil | apply keeps_cons (by repeat (first | exact find_head | apply find_tail | apply find_skip)) (by first  | rfl) | exact keeps_self | exact keeps_left | apply keeps_app | apply keeps_mv | apply keeps_skip)) trivial ?_)
          clear hl hh a w; intro vc Fc a w hR hl hh
          rcases hR with ⟨l', hr, hl', hp', rfl, rfl⟩ | ⟨l', hr, hl', hp', rfl, rfl⟩ | ⟨l', hr, hl', hp', rfl, rfl⟩
          ·
            try simp only [List.cons_append, List.nil_append, List.append_nil] at hh
            try simp only [List.append_assoc, List.cons_append, List.nil_append] at hh
            have href := ref_0
            refine wl (w_call hl hh rfl trivial rfl cal45 rfl (href) (by repeat (first | exact keeps_nil | apply keeps_cons (by repeat (first | exact find_head | apply find_tail | apply find_skip)) (by first  | rfl) | exact keeps_self | exact keeps_left | apply keeps_app | apply keeps_mv | apply keeps_skip)) trivial ?_)
            clear hl hh a w; intro vc Fc a w hR hl hh
            obtain ⟨rfl, rfl⟩ := hR
            try simp only [List.cons_append, List.nil_append, List.append_assoc, List.append_nil] at hh
            refine wl (wl_val hl rfl trivial (r_assign hl rfl) ?_)
            clear hl a; intro a hl
            refine w_nil ?_
            have hl2 := hl.add (t := 4) (hl.nil) rfl; clear hl; have hl := hl2; clear hl2
            refine then_normal ?_
            refine wp_ret ?_
            first
            | (have hab := (hat).trans (tx_0 (hrs ▸ hr)); refine f_ret1 (F' := (gb, C (GtV.c { g with st := { s1 with is := s1.is ++ [v], ip := p6, ic := c6, iE := E2 } }) 127) :: ((StV.E { s1 with is := s1.is ++ [v], ip := p6, ic := c6, iE := E2 }) ++ (g.qE ++ ((g.rb, MD (kInt .u32) g.rl g.rn) :: (g.oE ++ ((g.led, C (LdV.c l') 91) :: (l'.d.E ++ Z))))))) hl hh rfl rfl (by repeat (first | exact keeps_nil | apply keeps_cons (by repeat (first | exact find_head | apply find_tail | apply find_skip)) (by first  | rfl) | exact keeps_self | exact keeps_left | apply keeps_app | apply keeps_mv | apply keeps_skip)) ?_; exact ⟨by rw [hab], GO.same (g' := { g with st := { s1 with is := s1.is ++ [v], ip := p6, ic := c6, iE := E2 } }) (st_ok hg hso) hl' (by rw [hab]; exact st_pl hrs) (by rw [hab, hp', hrs]; rfl) rfl⟩)
            | (have hab := (hat).trans (tx_1 (hrs ▸ hr)); refine f_ret1 (F' := (gb, C (GtV.c g) 127) :: (g.st.E ++ (g.qE ++ ((g.rb, MD (kInt .u32) g.rl g.rn) :: (g.oE ++ ((g.led, C (LdV.c l') 91) :: (l'.d.E ++ Z))))))) hl hh rfl rfl (by repeat (first | exact keeps_nil | apply keeps_cons (by repeat (first | exact find_head | apply find_tail | apply find_skip)) (by first  | rfl) | exact keeps_self | exact keeps_left | apply keeps_app | apply keeps_mv | apply keeps_skip)) ?_; exact ⟨by rw [hab], GO.same (g' := g) hg hl' (by rw [hab]) (by rw [hab, hp', hrs]; rfl) rfl⟩)
            | (have hab := (hat).trans (tx_2 (hrs ▸ hr)); refine f_ret1 (F' := (gb, C (GtV.c g.offd) 127) :: (g.st.E ++ (g.qE ++ ((g.rb, MD (kInt .u32) g.rl g.rn) :: ([] ++ ((g.led, C (LdV.c l') 91) :: (l'.d.E ++ Z))))))) hl hh rfl rfl (by repeat (first | exact keeps_nil | apply keeps_cons (by repeat (first | exact find_head | apply find_tail | apply find_skip)) (by first  | rfl) | exact keeps_self | exact keeps_left | apply keeps_app | apply keeps_mv | apply keeps_skip)) ?_; exact ⟨by rw [hab], GO.same (g' := g.offd) (offd_ok hg) hl' (by rw [hab]; rfl) (by rw [hab, hp', hrs]; rfl) rfl⟩)
          ·
            try simp only [List.cons_append, List.nil_append, List.append_nil] at hh
            try simp only [List.append_assoc, List.cons_append, List.nil_append] at hh
            have href := ref_1
            refine wl (w_call hl hh rfl trivial rfl cal45 rfl (href) (by repeat (first | exact keeps_nil | apply keeps_cons (by repeat (first | exact find_head | apply find_tail | apply find_skip)) (by first  | rfl) | exact keeps_self | exact keeps_left | apply keeps_app | apply keeps_mv | apply keeps_skip)) trivial ?_)
            clear hl hh a w; intro vc Fc a w hR hl hh
            obtain ⟨rfl, rfl⟩ := hR
            try simp only [List.cons_append, List.nil_append, List.append_assoc, List.append_nil] at hh
            refine wl (wl_val hl rfl trivial (r_assign hl rfl) ?_)
            clear hl a; intro a hl
            refine w_nil ?_
            have hl2 := hl.add (t := 4) (hl.nil) rfl; clear hl; have hl := hl2; clear hl2
            refine then_normal ?_
            refine wp_ret ?_
            first
            | (have hab := (hat).trans (tx_0 (hrs ▸ hr)); refine f_ret1 (F' := (gb, C (GtV.c { g with st := { s1 with is := s1.is ++ [v], ip := p6, ic := c6, iE := E2 } }) 127) :: ((StV.E { s1 with is := s1.is ++ [v], ip := p6, ic := c6, iE := E2 }) ++ (g.qE ++ ((g.rb, MD (kInt .u32) g.rl g.rn) :: (g.oE ++ ((g.led, C (LdV.c l') 91) :: (l'.d.E ++ Z))))))) hl hh rfl rfl (by repeat (first | exact keeps_nil | apply keeps_cons (by repeat (first | exact find_head | apply find_tail | apply find_skip)) (by first  | rfl) | exact keeps_self | exact keeps_left | apply keeps_app | apply keeps_mv | apply keeps_skip)) ?_; exact ⟨by rw [hab], GO.same (g' := { g with st := { s1 with is := s1.is ++ [v], ip := p6, ic := c6, iE := E2 } }) (st_ok hg hso) hl' (by rw [hab]; exact st_pl hrs) (by rw [hab, hp', hrs]; rfl) rfl⟩)
            | (have hab := (hat).trans (tx_1 (hrs ▸ hr)); refine f_ret1 (F' := (gb, C (GtV.c g) 127) :: (g.st.E ++ (g.qE ++ ((g.rb, MD (kInt .u32) g.rl g.rn) :: (g.oE ++ ((g.led, C (LdV.c l') 91) :: (l'.d.E ++ Z))))))) hl hh rfl rfl (by repeat (first | exact keeps_nil | apply keeps_cons (by repeat (first | exact find_head | apply find_tail | apply find_skip)) (by first  | rfl) | exact keeps_self | exact keeps_left | apply keeps_app | apply keeps_mv | apply keeps_skip)) ?_; exact ⟨by rw [hab], GO.same (g' := g) hg hl' (by rw [hab]) (by rw [hab, hp', hrs]; rfl) rfl⟩)
            | (have hab := (hat).trans (tx_2 (hrs ▸ hr)); refine f_ret1 (F' := (gb, C (GtV.c g.offd) 127) :: (g.st.E ++ (g.qE ++ ((g.rb, MD (kInt .u32) g.rl g.rn) :: ([] ++ ((g.led, C (LdV.c l') 91) :: (l'.d.E ++ Z))))))) hl hh rfl rfl (by repeat (first | exact keeps_nil | apply keeps_cons (by repeat (first | exact find_head | apply find_tail | apply find_skip)) (by first  | rfl) | exact keeps_self | exact keeps_left | apply keeps_app | apply keeps_mv | apply keeps_skip)) ?_; exact ⟨by rw [hab], GO.same (g' := g.offd) (offd_ok hg) hl' (by rw [hab]; rfl) (by rw [hab, hp', hrs]; rfl) rfl⟩)
          ·
            try simp only [List.cons_append, List.nil_append, List.append_nil] at hh
            try simp only [List.append_assoc, List.cons_append, List.nil_append] at hh
            have href := ref_2
            refine wl (w_call hl hh rfl trivial rfl cal45 rfl (href) (by repeat (first | exact keeps_nil | apply keeps_cons (by repeat (first | exact find_head | apply find_tail | apply find_skip)) (by first  | rfl) | exact keeps_self | exact keeps_left | apply keeps_app | apply keeps_mv | apply keeps_skip)) trivial ?_)
            clear hl hh a w; intro vc Fc a w hR hl hh
            obtain ⟨rfl, rfl⟩ := hR
            try simp only [List.cons_append, List.nil_append, List.append_assoc, List.append_nil] at hh
            refine wl (wl_val hl rfl trivial (r_assign hl rfl) ?_)
            clear hl a; intro a hl
            refine w_nil ?_
            have hl2 := hl.add (t := 4) (hl.nil) rfl; clear hl; have hl := hl2; clear hl2
            refine then_normal ?_
            refine wp_ret ?_
            first
            | (have hab := (hat).trans (tx_0 (hrs ▸ hr)); refine f_ret1 (F' := (gb, C (GtV.c { g with st := { s1 with is := s1.is ++ [v], ip := p6, ic := c6, iE := E2 } }) 127) :: ((StV.E { s1 with is := s1.is ++ [v], ip := p6, ic := c6, iE := E2 }) ++ (g.qE ++ ((g.rb, MD (kInt .u32) g.rl g.rn) :: (g.oE ++ ((g.led, C (LdV.c l') 91) :: (l'.d.E ++ Z))))))) hl hh rfl rfl (by repeat (first | exact keeps_nil | apply keeps_cons (by repeat (first | exact find_head | apply find_tail | apply find_skip)) (by first  | rfl) | exact keeps_self | exact keeps_left | apply keeps_app | apply keeps_mv | apply keeps_skip)) ?_; exact ⟨by rw [hab], GO.same (g' := { g with st := { s1 with is := s1.is ++ [v], ip := p6, ic := c6, iE := E2 } }) (st_ok hg hso) hl' (by rw [hab]; exact st_pl hrs) (by rw [hab, hp', hrs]; rfl) rfl⟩)
            | (have hab := (hat).trans (tx_1 (hrs ▸ hr)); refine f_ret1 (F' := (gb, C (GtV.c g) 127) :: (g.st.E ++ (g.qE ++ ((g.rb, MD (kInt .u32) g.rl g.rn) :: (g.oE ++ ((g.led, C (LdV.c l') 91) :: (l'.d.E ++ Z))))))) hl hh rfl rfl (by repeat (first | exact keeps_nil | apply keeps_cons (by repeat (first | exact find_head | apply find_tail | apply find_skip)) (by first  | rfl) | exact keeps_self | exact keeps_left | apply keeps_app | apply keeps_mv | apply keeps_skip)) ?_; exact ⟨by rw [hab], GO.same (g' := g) hg hl' (by rw [hab]) (by rw [hab, hp', hrs]; rfl) rfl⟩)
            | (have hab := (hat).trans (tx_2 (hrs ▸ hr)); refine f_ret1 (F' := (gb, C (GtV.c g.offd) 127) :: (g.st.E ++ (g.qE ++ ((g.rb, MD (kInt .u32) g.rl g.rn) :: ([] ++ ((g.led, C (LdV.c l') 91) :: (l'.d.E ++ Z))))))) hl hh rfl rfl (by repeat (first | exact keeps_nil | apply keeps_cons (by repeat (first | exact find_head | apply find_tail | apply find_skip)) (by first  | rfl) | exact keeps_self | exact keeps_left | apply keeps_app | apply keeps_mv | apply keeps_skip)) ?_; exact ⟨by rw [hab], GO.same (g' := g.offd) (offd_ok hg) hl' (by rw [hab]; rfl) (by rw [hab, hp', hrs]; rfl) rfl⟩)

set_option maxHeartbeats 4000000 in
theorem dropI_spec (Z : List (Nat × Obj)) (gb : Nat) (g : GtV) (l : LdV) (hg : g.ok Z) (hl9 : l.ok Z) (v : Iv) (hv : v.ok) : Sp Tryz.prog 36 #[.pointer (some ⟨gb, 0, none⟩), .agg ⟨ivc v⟩] (GF gb g l Z) (fun u F' => u = .int .u8 (dropP g.pl l.pl v).2 ∧ GO gb g.led (dropP g.pl l.pl v).1 Z F') := by
  refine f_enter (args := [.pointer (some ⟨gb, 0, none⟩), .agg ⟨ivc v⟩]) Tryz.func36 rfl Tryz.ntmps36 rfl ?_
  intro w0 w a hpre hl hh
  generalize hDD : List.map Prod.fst (GF gb g l Z) = D at hh ⊢
  simp only [GF] at hh
  have hil := hg.st.il
  simp only [slotsFrom, Nat.reduceAdd] at hl
  refine c_seq ?_
  refine c_region ?_
  refine wl (w_box hl hh rfl trivial rfl rfl ?_)
  clear hl hh a w; intro k3 a w hl hh
  refine wl (wl_val hl rfl trivial (r_assign hl rfl) ?_)
  clear hl a; intro a hl
  refine w_nil ?_
  have hl2 := hl.add (t := 0) (hl.add (t := 3) (hl.nil) rfl) rfl; clear hl; have hl := hl2; clear hl2
  refine then_normal ?_
  refine c_seq ?_
  refine c_seq ?_
  refine c_region ?_
  refine wl (wl_val hl rfl trivial (r_move hl rfl) ?_)
  clear hl a; intro a hl
  refine wl (wl_val hl rfl trivial (r_nilCheck hl rfl) ?_)
  clear hl a; intro a hl
  refine wl (wl_val hl rfl trivial (r_field hl rfl fld127_10) ?_)
  clear hl a; intro a hl
  refine wl (w_load hl hh rfl trivial one4 rfl (by repeat (first | exact find_head | apply find_tail | apply find_skip)) (by first | exact gtc_led _ | exact gtc_ep _ | exact gtc_vs _ | exact gtc_is _ | exact gtc_fid _ | exact gtc_ph _ | exact gtc_vd _ | exact gtc_q _ | exact gtc_rf _ | exact gtc_ys _ | exact gtc_dn _ | exact gtc_tk _ | exact gtc_au _ | exact gtc_o _ | exact gtc_off _ | exact stc_ph' _ | exact stc_fid' _ | exact stc_vd' _ | exact stc_ep' _ | exact stc_vs' _ | exact stc_is' _ | rfl) ?_)
  clear hl a; intro a hl
  refine w_nil ?_
  have hl2 := hl.add (t := 0) (hl.add (t := 3) (hl.add (t := 10) (hl.nil) rfl) rfl) rfl; clear hl; have hl := hl2; clear hl2
  refine then_normal ?_
  refine c_cond hl rfl ?_ ?_
  · intro hc0
    try simp only [decide_eq_true_eq, decide_eq_false_iff_not, Bool.not_eq_true', Bool.not_eq_false', Bool.not_eq_true, Bool.not_eq_false, Bool.and_eq_true, Bool.or_eq_true, Bool.and_eq_false_iff, Bool.or_eq_false_iff, Bool.not_not, ne_eq, Int.not_lt, Int.not_le, Decidable.not_not, beq_iff_eq, bne_iff_ne] at hc0
    have hab := dr_off (g := g.pl) (l := l.pl) (v := v) hc0
    refine c_seq ?_
    refine c_region ?_
    refine wl (wl_val hl rfl trivial (r_assign hl rfl) ?_)
    clear hl a; intro a hl
    refine w_nil ?_
    have hl2 := hl.add (t := 4) (hl.nil) rfl; clear hl; have hl := hl2; clear hl2
    refine then_normal ?_
    refine wp_ret ?_
    refine then_ret ?_
    refine f_ret1 (F' := (gb, C (GtV.c g) 127) :: (g.st.E ++ (g.qE ++ ((g.rb, MD (kInt .u32) g.rl g.rn) :: (g.oE ++ ((g.led, C (LdV.c l) 91) :: (l.d.E ++ Z))))))) hl hh rfl rfl (by repeat (first | exact keeps_nil | apply keeps_cons (by repeat (first | exact find_head | apply find_tail | apply find_skip)) (by first  | rfl) | exact keeps_self | exact keeps_left | apply keeps_app | apply keeps_mv | apply keeps_skip)) ?_
    exact ⟨by rw [hab], GO.same hg hl9 (by rw [hab]) (by rw [hab]) rfl⟩
  · intro hc0
    try simp only [decide_eq_true_eq, decide_eq_false_iff_not, Bool.not_eq_true', Bool.not_eq_false', Bool.not_eq_true, Bool.not_eq_false, Bool.and_eq_true, Bool.or_eq_true, Bool.and_eq_false_iff, Bool.or_eq_false_iff, Bool.not_not, ne_eq, Int.not_lt, Int.not_le, Decidable.not_not, beq_iff_eq, bne_iff_ne] at hc0
    refine wp_skip ?_
    refine then_normal ?_
    refine c_seq ?_
    refine c_region ?_
    refine wl (wl_val hl rfl trivial (r_move hl rfl) ?_)
    clear hl a; intro a hl
    refine wl (w_loadA hl hh rfl trivial agg43 rfl (by repeat (first | exact find_head | apply find_tail | apply find_skip)) (by rfl) (by rfl) ?_)
    clear hl a; intro a hl
    refine wl (w_call hl hh rfl trivial rfl cal49 rfl (has_spec Z gb g hg v hv) (by repeat (first | exact keeps_nil | apply keeps_cons (by repeat (first | exact find_head | apply find_tail | apply find_skip)) (by first  | rfl) | exact keeps_self | exact keeps_left | apply keeps_app | apply keeps_mv | apply keeps_skip)) trivial ?_)
    clear hl hh a w; intro vc Fc a w hR hl hh
    obtain ⟨rfl, rfl⟩ := hR
    try simp only [List.cons_append, List.nil_append, List.append_assoc, List.append_nil] at hh
    try simp only [List.append_assoc, List.cons_append, List.nil_append] at hh
    refine wl (wl_val hl rfl trivial (r_assign hl rfl) ?_)
    clear hl a; intro a hl
    refine w_nil ?_
    have hl2 := hl.add (t := 0) (hl.add (t := 5) (hl.nil) rfl) rfl; clear hl; have hl := hl2; clear hl2
    refine then_normal ?_
    refine c_seq ?_
    refine c_seq ?_
    refine c_region ?_
    refine wl (wl_val hl rfl trivial (r_move hl rfl) ?_)
    clear hl a; intro a hl
    refine wl (wl_val hl rfl trivial (r_lss hl rfl rfl) ?_)
    clear hl a; intro a hl
    refine w_nil ?_
    have hl2 := hl.add (t := 0) (hl.add (t := 5) (hl.add (t := 15) (hl.nil) rfl) rfl) rfl; clear hl; have hl := hl2; clear hl2
    refine then_normal ?_
    refine c_cond hl rfl ?_ ?_
    · intro hc1
      try simp only [decide_eq_true_eq, decide_eq_false_iff_not, Bool.not_eq_true', Bool.not_eq_false', Bool.not_eq_true, Bool.not_eq_false, Bool.and_eq_true, Bool.or_eq_true, Bool.and_eq_false_iff, Bool.or_eq_false_iff, Bool.not_not, ne_eq, Int.not_lt, Int.not_le, Decidable.not_not, beq_iff_eq, bne_iff_ne] at hc1
      have hab := dr_n (g := g.pl) (l := l.pl) (v := v) hc0 hc1
      refine c_seq ?_
      refine c_region ?_
      refine wl (wl_val hl rfl trivial (r_assign hl rfl) ?_)
      clear hl a; intro a hl
      refine w_nil ?_
      have hl2 := hl.add (t := 4) (hl.nil) rfl; clear hl; have hl := hl2; clear hl2
      refine then_normal ?_
      refine wp_ret ?_
      refine then_ret ?_
      refine f_ret1 (F' := (gb, C (GtV.c g) 127) :: (g.st.E ++ (g.qE ++ ((g.rb, MD (kInt .u32) g.rl g.rn) :: (g.oE ++ ((g.led, C (LdV.c l) 91) :: (l.d.E ++ Z))))))) hl hh rfl rfl (by repeat (first | exact keeps_nil | apply keeps_cons (by repeat (first | exact find_head | apply find_tail | apply find_skip)) (by first  | rfl) | exact keeps_self | exact keeps_left | apply keeps_app | apply keeps_mv | apply keeps_skip)) ?_
      exact ⟨by rw [hab], GO.same hg hl9 (by rw [hab]) (by rw [hab]) rfl⟩
    · intro hc1
      try simp only [decide_eq_true_eq, decide_eq_false_iff_not, Bool.not_eq_true', Bool.not_eq_false', Bool.not_eq_true, Bool.not_eq_false, Bool.and_eq_true, Bool.or_eq_true, Bool.and_eq_false_iff, Bool.or_eq_false_iff, Bool.not_not, ne_eq, Int.not_lt, Int.not_le, Decidable.not_not, beq_iff_eq, bne_iff_ne] at hc1
      obtain ⟨i, hie, hil9⟩ : ∃ i : Nat, hix g.pl.st.is v = (i : Int) ∧ i < g.st.is.length := by
        rcases hix_b g.pl.st.is v with h9 | ⟨i, h9, h8⟩
        · omega
        · exact ⟨i, h9, h8⟩
      have hat := dr_t (g := g.pl) (l := l.pl) (v := v) hc0 (by omega)
      rw [hie] at hl hat
      refine wp_skip ?_
      refine then_normal ?_
      refine c_seq ?_
      refine c_region ?_
      refine wl (wl_val hl rfl trivial (r_move hl rfl) ?_)
      clear hl a; intro a hl
      refine wl (wl_val hl rfl trivial (r_nilCheck hl rfl) ?_)
      clear hl a; intro a hl
      refine wl (wl_val hl rfl trivial (r_field hl rfl fld127_1) ?_)
      clear hl a; intro a hl
      refine wl (w_loadA hl hh rfl trivial agg89 rfl (by repeat (first | exact find_head | apply find_tail | apply find_skip)) (by first | exact gtc_st _ | exact stc_all _) (by exact stc_len _) ?_)
      clear hl a; intro a hl
      refine wl (w_call hl hh rfl trivial rfl cal27 rfl (cln_spec Z g.st hg.st) (by repeat (first | exact keeps_nil | apply keeps_cons (by repeat (first | exact find_head | apply find_tail | apply find_skip)) (by first  | rfl) | exact keeps_self | exact keeps_left | apply keeps_app | apply keeps_mv | apply keeps_skip)) trivial ?_)
      clear hl hh a w; intro vc Fc a w hR hl hh
      obtain ⟨s1, hs1, hps1, rfl, rfl⟩ := hR
      try simp only [List.cons_append, List.nil_append, List.append_assoc, List.append_nil] at hh
      rw [StV.E_eq s1] at hh
      try simp only [List.append_assoc, List.cons_append, List.nil_append] at hh
      have hil1 : s1.is = g.st.is := is_eq hps1
      have hil2 : s1.is.length = g.st.is.length := by rw [hil1]
      have hq3 : i < s1.is.length := by omega
      obtain ⟨b9, j9, hq9, hjl9, hjc9, hE9⟩ := row_pos hs1.i (by omega)
      rw [hE9] at hh
      try simp only [List.cons_append, List.nil_append, List.append_assoc, List.append_nil] at hh
      refine wl (w_alloc hl hh rfl trivial zero89 rfl ?_)
      clear hl hh a w; intro k6 a w hl hh
      refine wl (w_storeA hl hh trivial agg89 rfl rfl (by repeat (first | exact find_head | apply find_tail | apply find_skip)) (by exact stc_len _) (by first | exact Nat.le_refl 70 | (rw [gtc_len]; omega)) (by exact stc_one _) (by first | exact setL_all (show 70 = _ from (stc_len _).symm) | exact gtc_sst _ _) ?_)
      clear hh w; intro w hh
      refine w_nil ?_
      have hl2 := hl.add (t := 0) (hl.add (t := 5) (hl.add (t := 6) (hl.nil) rfl) rfl) rfl; clear hl; have hl := hl2; clear hl2
      refine then_normal ?_
      refine c_seq ?_
      refine c_draw [(k6, C s1.c 89)] [9, 10, 11] mixed hh ?_
      clear hh w; intro w hh
      have hM : Mem [(k6, C s1.c 89)] w := (memK hh (by repeat (first | exact keeps_nil | apply keeps_cons (by repeat (first | exact find_head | apply find_tail | apply find_skip)) (by first  | rfl) | exact keeps_self | exact keeps_left | apply keeps_app | apply keeps_mv | apply keeps_skip)))
      refine d_take (i := 0) hl rfl (by kernel_rfl) (by kernel_rfl) (by kernel_rfl) (by kernel_rfl) (by kernel_rfl) rfl trivial (fun _ _ _ h => h) hM (fun w hC => r_field hl rfl fld89_2) rfl ?_
      clear hl a; intro a hl
      refine d_take (i := 1) hl rfl (by kernel_rfl) (by kernel_rfl) (by kernel_rfl) (by kernel_rfl) (by kernel_rfl) rfl trivial (fun _ _ _ h => h) hM (fun w hC => r_loadC hl rfl one75 hC (by repeat (first | exact find_head | apply find_tail | apply find_skip)) (by first | exact gtc_led _ | exact gtc_ep _ | exact gtc_vs _ | exact gtc_is _ | exact gtc_fid _ | exact gtc_ph _ | exact gtc_vd _ | exact gtc_q _ | exact gtc_rf _ | exact gtc_ys _ | exact gtc_dn _ | exact gtc_tk _ | exact gtc_au _ | exact gtc_o _ | exact gtc_off _ | exact stc_ph' _ | exact stc_fid' _ | exact stc_vd' _ | exact stc_ep' _ | exact stc_vs' _ | exact stc_is' _ | rfl)) rfl ?_
      clear hl a; intro a hl
      rw [hq9] at hl
      refine d_take (i := 2) hl rfl (by kernel_rfl) (by kernel_rfl) (by kernel_rfl) (by kernel_rfl) (by kernel_rfl) rfl trivial (fun _ _ _ h => h) hM (fun w hC => r_move hl rfl) rfl ?_
      clear hl a; intro a hl
      refine d_take (i := 3) hl rfl (by kernel_rfl) (by kernel_rfl) (by kernel_rfl) (by kernel_rfl) (by kernel_rfl) rfl trivial (fun _ _ _ h => h) hM (fun w hC => r_sliceS01 (by intro q e; first | (cases e; rfl) | (cases e; done)) hl rfl rfl slc75 (by omega) (by first | (simp only [Int.reduceToNat]; rfl) | exact toNat_add1 _ | exact toNat_add2 _ _ | exact toNat_emod _ _ | exact Int.toNat_natCast _ | rfl)) rfl ?_
      clear hl a; intro a hl
      refine d_take (i := 4) hl rfl (by kernel_rfl) (by kernel_rfl) (by kernel_rfl) (by kernel_rfl) (by kernel_rfl) rfl trivial (fun _ _ _ h => h) hM (fun w hC => r_field hl rfl fld89_2) rfl ?_
      clear hl a; intro a hl
      refine d_take (i := 5) hl rfl (by kernel_rfl) (by kernel_rfl) (by kernel_rfl) (by kernel_rfl) (by kernel_rfl) rfl trivial (fun _ _ _ h => h) hM (fun w hC => r_loadC hl rfl one75 hC (by repeat (first | exact find_head | apply find_tail | apply find_skip)) (by first | exact gtc_led _ | exact gtc_ep _ | exact gtc_vs _ | exact gtc_is _ | exact gtc_fid _ | exact gtc_ph _ | exact gtc_vd _ | exact gtc_q _ | exact gtc_rf _ | exact gtc_ys _ | exact gtc_dn _ | exact gtc_tk _ | exact gtc_au _ | exact gtc_o _ | exact gtc_off _ | exact stc_ph' _ | exact stc_fid' _ | exact stc_vd' _ | exact stc_ep' _ | exact stc_vs' _ | exact stc_is' _ | rfl)) rfl ?_
      clear hl a; intro a hl
      rw [hq9] at hl
      refine d_take (i := 6) hl rfl (by kernel_rfl) (by kernel_rfl) (by kernel_rfl) (by kernel_rfl) (by kernel_rfl) rfl trivial (fun _ _ _ h => h) hM (fun w hC => r_move hl rfl) rfl ?_
      clear hl a; intro a hl
      first | refine d_take (i := 7) hl rfl (by kernel_rfl) (by kernel_rfl) (by kernel_rfl) (by kernel_rfl) (by kernel_rfl) rfl trivial (fun _ _ _ h => h) hM (fun w hC => r_add hl rfl rfl (by simp only [Fits]; omega)) rfl ?_ | refine d_take (i := 7) hl rfl (by kernel_rfl) (by kernel_rfl) (by kernel_rfl) (by kernel_rfl) (by kernel_rfl) rfl trivial (fun _ _ _ h => h) hM (fun w hC => r_addW hl rfl rfl) rfl ?_
      clear hl a; intro a hl
      refine d_take (i := 8) hl rfl (by kernel_rfl) (by kernel_rfl) (by kernel_rfl) (by kernel_rfl) (by kernel_rfl) rfl trivial (fun _ _ _ h => h) hM (fun w hC => r_sliceS10x hl rfl rfl slc75 (by omega) (by first | (simp only [Int.reduceToNat]; rfl) | exact toNat_add1 _ | exact toNat_add2 _ _ | exact toNat_emod _ _ | exact Int.toNat_natCast _ | rfl)) rfl ?_
      clear hl a; intro a hl
      obtain ⟨o2, ho1, ho2, hodv⟩ := from_of b9 s1.ic (i + 1) 6
      rw [hodv] at hl
      obtain ⟨m, hmv⟩ : ∃ m, m = s1.is.length - (i + 1) := ⟨_, rfl⟩
      rw [← hmv] at hl
      refine d_one (i := 9) (by kernel_rfl) rfl ?_
      try clear hM
      refine id (w_appendCut hl hh rfl trivial app75 rfl rfl (by repeat (first | exact find_head | apply find_tail | apply find_skip)) (by omega) hjl9 (by rw [hjl9]; omega) (fl_take_one ivc_len ivc_one _ _ _ _ (by omega)) rfl ?_)
      clear hl hh a w; intro a w hl hh
      obtain ⟨j6, hj1, hj2⟩ := del_set ivc_len s1.is j9 i o2 m hq3 (by omega) (by omega)
      rw [hj1] at hh
      rw [show i + m = (delP s1.is i).length by rw [delP_len hq3]; omega] at hl
      have hso := is_ok (is := delP s1.is i) (p := some ⟨b9, 0, none⟩) (c := s1.ic) (E := [(b9, C (fl ivc (delP s1.is i) ++ j6) 43)]) hs1 (.inr ⟨b9, s1.ic, j6, rfl, by rw [fl_len ivc_len], hj2.trans hjl9, by rw [delP_len hq3]; omega, rfl⟩) (fun x hx => hs1.io x (delP_mem hx)) (by rw [delP_len hq3]; omega)
      have hrs := dr_pl hps1 i (some ⟨b9, 0, none⟩) s1.ic [(b9, C (fl ivc (delP s1.is i) ++ j6) 43)]
      refine d_step (fun h => absurd h (by decide)) ?_
      refine d_takeL (i := 10) hl rfl (by kernel_rfl) (by kernel_rfl) (by kernel_rfl) (by kernel_rfl) (by kernel_rfl) rfl trivial (fun _ _ _ h => h) (fun w => r_field hl rfl fld89_2) rfl ?_
      clear hl a; intro a hl
      refine d_one (i := 11) (by kernel_rfl) rfl ?_
      try clear hM
      refine id (w_store hl hh trivial one75 rfl rfl (by repeat (first | exact find_head | apply find_tail | apply find_skip)) (by first | (simp; done) | (simp; omega) | (rw [gtc_len]; omega) | (rw [gtc_len]; simp; done) | (rw [stc_len]; omega) | (rw [stc_len]; simp; done)) (by first | rfl | assumption | (apply Row.one; assumption)) (by first | exact gtc_sys _ _ | exact gtc_sdn _ _ | exact gtc_stk _ _ | exact gtc_sau _ _ | exact gtc_soff _ _ | exact stc_sis _ _ _ _ [(b9, C (fl ivc (delP s1.is i) ++ j6) 43)] | (simp only [setL, List.getElem?_cons_zero, List.getElem?_cons_succ, Value.cells, List.take_zero, List.take_succ_cons, List.take_nil, List.drop_zero, List.drop_succ_cons, List.drop_nil, List.length_cons, List.length_nil, List.cons_append, List.nil_append, List.append_nil, Nat.zero_add, Nat.add_zero, Nat.reduceAdd, Nat.reduceBEq, Nat.reduceEqDiff, Nat.ble, BEq.rfl, Bool.and_true, Bool.and_self, cond_true, beq_self_eq_true]; rfl)) ?_)
      clear hh w; intro w hh
      refine d_step (fun h => absurd h (by decide)) ?_
      refine d_done (by kernel_rfl) ?_
      try clear hM
      have hl2 := hl.add (t := 0) (hl.add (t := 6) (hl.nil) rfl) rfl; clear hl; have hl := hl2; clear hl2
      refine then_normal ?_
      refine c_seq ?_
      refine c_region ?_
      refine wl (wl_val hl rfl trivial (r_move hl rfl) ?_)
      clear hl a; intro a hl
      refine wl (w_loadA hl hh rfl trivial agg89 rfl (by repeat (first | exact find_head | apply find_tail | apply find_skip)) (by first | exact gtc_st _ | exact stc_all _) (by exact stc_len _) ?_)
      clear hl a; intro a hl
      refine wl (w_call hl hh rfl trivial rfl cal46 rfl (gstore3 Z gb g l hl9 { s1 with is := delP s1.is i, ip := some ⟨b9, 0, none⟩, iE := [(b9, C (fl ivc (delP s1.is i) ++ j6) 43)] } hso true) (by repeat (first | exact keeps_nil | apply keeps_cons (by repeat (first | exact find_head | apply find_tail | apply find_skip)) (by first  | rfl) | exact keeps_self | exact keeps_left | apply keeps_app | apply keeps_mv | apply keeps_skip)) trivial ?_)
      clear hl hh a w; intro vc Fc a w hR hl hh
      rcases hR with ⟨l', hr, hl', hp', rfl, rfl⟩ | ⟨l', hr, hl', hp', rfl, rfl⟩ | ⟨l', hr, hl', hp', rfl, rfl⟩
      ·
        try simp only [List.cons_append, List.nil_append, List.append_nil] at hh
        try simp only [List.append_assoc, List.cons_append, List.nil_append] at hh
        have href := ref_0
        refine wl (w_call hl hh rfl trivial rfl cal45 rfl (href) (by repeat (first | exact keeps_nil | apply keeps_cons (by repeat (first | exact find_head | apply find_tail | apply find_skip)) (by first  | rfl) | exact keeps_self | exact keeps_left | apply keeps_app | apply keeps_mv | apply keeps_skip)) trivial ?_)
        clear hl hh a w; intro vc Fc a w hR hl hh
        obtain ⟨rfl, rfl⟩ := hR
        try simp only [List.cons_append, List.nil_append, List.append_assoc, List.append_nil] at hh
        refine wl (wl_val hl rfl trivial (r_assign hl rfl) ?_)
        clear hl a; intro a hl
        refine w_nil ?_
        have hl2 := hl.add (t := 4) (hl.nil) rfl; clear hl; have hl := hl2; clear hl2
        refine then_normal ?_
        refine wp_ret ?_
        first
        | (have hab := (hat).trans (tx_0 (hrs ▸ hr)); refine f_ret1 (F' := (gb, C (GtV.c { g with st := { s1 with is := delP s1.is i, ip := some ⟨b9, 0, none⟩, iE := [(b9, C (fl ivc (delP s1.is i) ++ j6) 43)] } }) 127) :: ((StV.E { s1 with is := delP s1.is i, ip := some ⟨b9, 0, none⟩, iE := [(b9, C (fl ivc (delP s1.is i) ++ j6) 43)] }) ++ (g.qE ++ ((g.rb, MD (kInt .u32) g.rl g.rn) :: (g.oE ++ ((g.led, C (LdV.c l') 91) :: (l'.d.E ++ Z))))))) hl hh rfl rfl (by repeat (first | exact keeps_nil | apply keeps_cons (by repeat (first | exact find_head | apply find_tail | apply find_skip)) (by first  | rfl) | exact keeps_self | exact keeps_left | apply keeps_app | apply keeps_mv | apply keeps_skip)) ?_; exact ⟨by rw [hab], GO.same (g' := { g with st := { s1 with is := delP s1.is i, ip := some ⟨b9, 0, none⟩, iE := [(b9, C (fl ivc (delP s1.is i) ++ j6) 43)] } }) (st_ok hg hso) hl' (by rw [hab]; exact st_pl hrs) (by rw [hab, hp', hrs]; rfl) rfl⟩)
        | (have hab := (hat).trans (tx_1 (hrs ▸ hr)); refine f_ret1 (F' := (gb, C (GtV.c g) 127) :: (g.st.E ++ (g.qE ++ ((g.rb, MD (kInt .u32) g.rl g.rn) :: (g.oE ++ ((g.led, C (LdV.c l') 91) :: (l'.d.E ++ Z))))))) hl hh rfl rfl (by repeat (first | exact keeps_nil | apply keeps_cons (by repeat (first | exact find_head | apply find_tail | apply find_skip)) (by first  | rfl) | exact keeps_self | exact keeps_left | apply keeps_app | apply keeps_mv | apply keeps_skip)) ?_; exact ⟨by rw [hab], GO.same (g' := g) hg hl' (by rw [hab]) (by rw [hab, hp', hrs]; rfl) rfl⟩)
        | (have hab := (hat).trans (tx_2 (hrs ▸ hr)); refine f_ret1 (F' := (gb, C (GtV.c g.offd) 127) :: (g.st.E ++ (g.qE ++ ((g.rb, MD (kInt .u32) g.rl g.rn) :: ([] ++ ((g.led, C (LdV.c l') 91) :: (l'.d.E ++ Z))))))) hl hh rfl rfl (by repeat (first | exact keeps_nil | apply keeps_cons (by repeat (first | exact find_head | apply find_tail | apply find_skip)) (by first  | rfl) | exact keeps_self | exact keeps_left | apply keeps_app | apply keeps_mv | apply keeps_skip)) ?_; exact ⟨by rw [hab], GO.same (g' := g.offd) (offd_ok hg) hl' (by rw [hab]; rfl) (by rw [hab, hp', hrs]; rfl) rfl⟩)
      ·
        try simp only [List.cons_append, List.nil_append, List.append_nil] at hh
        try simp only [List.append_assoc, List.cons_append, List.nil_append] at hh
        have href := ref_1
        refine wl (w_call hl hh rfl trivial rfl cal45 rfl (href) (by repeat (first | exact keeps_nil | apply keeps_cons (by repeat (first | exact find_head | apply find_tail | apply find_skip)) (by first  | rfl) | exact keeps_self | exact keeps_left | apply keeps_app | apply keeps_mv | apply keeps_skip)) trivial ?_)
        clear hl hh a w; intro vc Fc a w hR hl hh
        obtain ⟨rfl, rfl⟩ := hR
        try simp only [List.cons_append, List.nil_append, List.append_assoc, List.append_nil] at hh
        refine wl (wl_val hl rfl trivial (r_assign hl rfl) ?_)
        clear hl a; intro a hl
        refine w_nil ?_
        have hl2 := hl.add (t := 4) (hl.nil) rfl; clear hl; have hl := hl2; clear hl2
        refine then_normal ?_
        refine wp_ret ?_
        first
        | (have hab := (hat).trans (tx_0 (hrs ▸ hr)); refine f_ret1 (F' := (gb, C (GtV.c { g with st := { s1 with is := delP s1.is i, ip := some ⟨b9, 0, none⟩, iE := [(b9, C (fl ivc (delP s1.is i) ++ j6) 43)] } }) 127) :: ((StV.E { s1 with is := delP s1.is i, ip := some ⟨b9, 0, none⟩, iE := [(b9, C (fl ivc (delP s1.is i) ++ j6) 43)] }) ++ (g.qE ++ ((g.rb, MD (kInt .u32) g.rl g.rn) :: (g.oE ++ ((g.led, C (LdV.c l') 91) :: (l'.d.E ++ Z))))))) hl hh rfl rfl (by repeat (first | exact keeps_nil | apply keeps_cons (by repeat (first | exact find_head | apply find_tail | apply find_skip)) (by first  | rfl) | exact keeps_self | exact keeps_left | apply keeps_app | apply keeps_mv | apply keeps_skip)) ?_; exact ⟨by rw [hab], GO.same (g' := { g with st := { s1 with is := delP s1.is i, ip := some ⟨b9, 0, none⟩, iE := [(b9, C (fl ivc (delP s1.is i) ++ j6) 43)] } }) (st_ok hg hso) hl' (by rw [hab]; exact st_pl hrs) (by rw [hab, hp', hrs]; rfl) rfl⟩)
        | (have hab := (hat).trans (tx_1 (hrs ▸ hr)); refine f_ret1 (F' := (gb, C (GtV.c g) 127) :: (g.st.E ++ (g.qE ++ ((g.rb, MD (kInt .u32) g.rl g.rn) :: (g.oE ++ ((g.led, C (LdV.c l') 91) :: (l'.d.E ++ Z))))))) hl hh rfl rfl (by repeat (first | exact keeps_nil | apply keeps_cons (by repeat (first | exact find_head | apply find_tail | apply find_skip)) (by first  | rfl) | exact keeps_self | exact keeps_left | apply keeps_app | apply keeps_mv | apply keeps_skip)) ?_; exact ⟨by rw [hab], GO.same (g' := g) hg hl' (by rw [hab]) (by rw [hab, hp', hrs]; rfl) rfl⟩)
        | (have hab := (hat).trans (tx_2 (hrs ▸ hr)); refine f_ret1 (F' := (gb, C (GtV.c g.offd) 127) :: (g.st.E ++ (g.qE ++ ((g.rb, MD (kInt .u32) g.rl g.rn) :: ([] ++ ((g.led, C (LdV.c l') 91) :: (l'.d.E ++ Z))))))) hl hh rfl rfl (by repeat (first | exact keeps_nil | apply keeps_cons (by repeat (first | exact find_head | apply find_tail | apply find_skip)) (by first  | rfl) | exact keeps_self | exact keeps_left | apply keeps_app | apply keeps_mv | apply keeps_skip)) ?_; exact ⟨by rw [hab], GO.same (g' := g.offd) (offd_ok hg) hl' (by rw [hab]; rfl) (by rw [hab, hp', hrs]; rfl) rfl⟩)
      ·
        try simp only [List.cons_append, List.nil_append, List.append_nil] at hh
        try simp only [List.append_assoc, List.cons_append, List.nil_append] at hh
        have href := ref_2
        refine wl (w_call hl hh rfl trivial rfl cal45 rfl (href) (by repeat (first | exact keeps_nil | apply keeps_cons (by repeat (first | exact find_head | apply find_tail | apply find_skip)) (by first  | rfl) | exact keeps_self | exact keeps_left | apply keeps_app | apply keeps_mv | apply keeps_skip)) trivial ?_)
        clear hl hh a w; intro vc Fc a w hR hl hh
        obtain ⟨rfl, rfl⟩ := hR
        try simp only [List.cons_append, List.nil_append, List.append_assoc, List.append_nil] at hh
        refine wl (wl_val hl rfl trivial (r_assign hl rfl) ?_)
        clear hl a; intro a hl
        refine w_nil ?_
        have hl2 := hl.add (t := 4) (hl.nil) rfl; clear hl; have hl := hl2; clear hl2
        refine then_normal ?_
        refine wp_ret ?_
        first
        | (have hab := (hat).trans (tx_0 (hrs ▸ hr)); refine f_ret1 (F' := (gb, C (GtV.c { g with st := { s1 with is := delP s1.is i, ip := some ⟨b9, 0, none⟩, iE := [(b9, C (fl ivc (delP s1.is i) ++ j6) 43)] } }) 127) :: ((StV.E { s1 with is := delP s1.is i, ip := some ⟨b9, 0, none⟩, iE := [(b9, C (fl ivc (delP s1.is i) ++ j6) 43)] }) ++ (g.qE ++ ((g.rb, MD (kInt .u32) g.rl g.rn) :: (g.oE ++ ((g.led, C (LdV.c l') 91) :: (l'.d.E ++ Z))))))) hl hh rfl rfl (by repeat (first | exact keeps_nil | apply keeps_cons (by repeat (first | exact find_head | apply find_tail | apply find_skip)) (by first  | rfl) | exact keeps_self | exact keeps_left | apply keeps_app | apply keeps_mv | apply keeps_skip)) ?_; exact ⟨by rw [hab], GO.same (g' := { g with st := { s1 with is := delP s1.is i, ip := some ⟨b9, 0, none⟩, iE := [(b9, C (fl ivc (delP s1.is i) ++ j6) 43)] } }) (st_ok hg hso) hl' (by rw [hab]; exact st_pl hrs) (by rw [hab, hp', hrs]; rfl) rfl⟩)
        | (have hab := (hat).trans (tx_1 (hrs ▸ hr)); refine f_ret1 (F' := (gb, C (GtV.c g) 127) :: (g.st.E ++ (g.qE ++ ((g.rb, MD (kInt .u32) g.rl g.rn) :: (g.oE ++ ((g.led, C (LdV.c l') 91) :: (l'.d.E ++ Z))))))) hl hh rfl rfl (by repeat (first | exact keeps_nil | apply keeps_cons (by repeat (first | exact find_head | apply find_tail | apply find_skip)) (by first  | rfl) | exact keeps_self | exact keeps_left | apply keeps_app | apply keeps_mv | apply keeps_skip)) ?_; exact ⟨by rw [hab], GO.same (g' := g) hg hl' (by rw [hab]) (by rw [hab, hp', hrs]; rfl) rfl⟩)
        | (have hab := (hat).trans (tx_2 (hrs ▸ hr)); refine f_ret1 (F' := (gb, C (GtV.c g.offd) 127) :: (g.st.E ++ (g.qE ++ ((g.rb, MD (kInt .u32) g.rl g.rn) :: ([] ++ ((g.led, C (LdV.c l') 91) :: (l'.d.E ++ Z))))))) hl hh rfl rfl (by repeat (first | exact keeps_nil | apply keeps_cons (by repeat (first | exact find_head | apply find_tail | apply find_skip)) (by first  | rfl) | exact keeps_self | exact keeps_left | apply keeps_app | apply keeps_mv | apply keeps_skip)) ?_; exact ⟨by rw [hab], GO.same (g' := g.offd) (offd_ok hg) hl' (by rw [hab]; rfl) (by rw [hab, hp', hrs]; rfl) rfl⟩)
end Go.Proofs.Qxb6500908aGreat

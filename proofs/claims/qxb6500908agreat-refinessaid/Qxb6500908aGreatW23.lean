import Derived.Test.Qxb6500908aGreatW22
namespace Go.Proofs.Qxb6500908aGreat
open Go.Eng
set_option linter.unusedVariables false
set_option linter.unusedSimpArgs false
theorem zero127 : zeroOk Tryz.prog 127 (.agg #[(.pointer none), (.int .u32 0), (.slice none 0 0), (.slice none 0 0), (.int .u32 0), (.int .u8 0), (.slice none 0 0), (.slice none 0 0), (.int .u16 0), (.slice none 0 0), (.slice none 0 0), (.int .u16 0), (.slice none 0 0), (.slice none 0 0), (.int .u16 0), (.slice none 0 0), (.slice none 0 0), (.int .u16 0), (.slice none 0 0), (.slice none 0 0), (.int .u16 0), (.slice none 0 0), (.slice none 0 0), (.int .u16 0), (.slice none 0 0), (.slice none 0 0), (.int .u16 0), (.slice none 0 0), (.slice none 0 0), (.int .u16 0), (.slice none 0 0), (.slice none 0 0), (.int .u16 0), (.slice none 0 0), (.slice none 0 0), (.int .u16 0), (.slice none 0 0), (.slice none 0 0), (.int .u16 0), (.slice none 0 0), (.slice none 0 0), (.int .u16 0), (.slice none 0 0), (.slice none 0 0), (.int .u16 0), (.slice none 0 0), (.slice none 0 0), (.int .u16 0), (.slice none 0 0), (.slice none 0 0), (.int .u16 0), (.slice none 0 0), (.slice none 0 0), (.int .u16 0), (.int .u16 0), (.int .u16 0), (.int .u16 0), (.int .u16 0), (.int .u16 0), (.int .u16 0), (.int .u16 0), (.int .u16 0), (.int .u16 0), (.int .u16 0), (.int .u16 0), (.int .u16 0), (.int .u16 0), (.int .u16 0), (.int .u16 0), (.int .u16 0), (.map none), (.slice none 0 0), (.map none), (.string ⟨#[]⟩), (.string ⟨#[]⟩), (.string ⟨#[]⟩), (.string ⟨#[]⟩), (.string ⟨#[]⟩), (.string ⟨#[]⟩), (.string ⟨#[]⟩), (.string ⟨#[]⟩), (.string ⟨#[]⟩), (.string ⟨#[]⟩), (.string ⟨#[]⟩), (.string ⟨#[]⟩), (.string ⟨#[]⟩), (.string ⟨#[]⟩), (.string ⟨#[]⟩), (.string ⟨#[]⟩), (.int .u16 0), (.int .u16 0), (.int .i64 0), (.bool false), (.slice none 0 0), (.bool false)]) := by unfold zeroOk; kernel_rfl
theorem bld127 : buildOk Tryz.prog 127 [(0, 1), (1, 70), (71, 1), (72, 1), (73, 16), (89, 1), (90, 1), (91, 1), (92, 1), (93, 1), (94, 1)] = true := by kernel_rfl
theorem cal28 : callable Tryz.prog 28 = true := by kernel_rfl
def z48 : List Value := [(.int .u32 0), (.slice none 0 0), (.slice none 0 0), (.int .u32 0), (.int .u8 0), (.slice none 0 0), (.slice none 0 0), (.int .u16 0), (.slice none 0 0), (.slice none 0 0), (.int .u16 0), (.slice none 0 0), (.slice none 0 0), (.int .u16 0), (.slice none 0 0), (.slice none 0 0), (.int .u16 0), (.slice none 0 0), (.slice none 0 0), (.int .u16 0), (.slice none 0 0), (.slice none 0 0), (.int .u16 0), (.slice none 0 0), (.slice none 0 0), (.int .u16 0), (.slice none 0 0), (.slice none 0 0), (.int .u16 0), (.slice none 0 0), (.slice none 0 0), (.int .u16 0), (.slice none 0 0), (.slice none 0 0), (.int .u16 0), (.slice none 0 0), (.slice none 0 0), (.int .u16 0), (.slice none 0 0), (.slice none 0 0), (.int .u16 0), (.slice none 0 0), (.slice none 0 0), (.int .u16 0), (.slice none 0 0), (.slice none 0 0), (.int .u16 0), (.slice none 0 0), (.slice none 0 0), (.int .u16 0), (.slice none 0 0), (.slice none 0 0), (.int .u16 0), (.int .u16 0), (.int .u16 0), (.int .u16 0), (.int .u16 0), (.int .u16 0), (.int .u16 0), (.int .u16 0), (.int .u16 0), (.int .u16 0), (.int .u16 0), (.int .u16 0), (.int .u16 0), (.int .u16 0), (.int .u16 0), (.int .u16 0), (.int .u16 0), (.map none)]

theorem fill131z (led : Nat) (s : StV) (rb : Nat) (au : Bool) (hau : au = !decide (s.ph = 0)) : fillL [(0, 1), (1, 70), (71, 1), (72, 1), (73, 16), (89, 1), (90, 1), (91, 1), (92, 1), (93, 1), (94, 1)] [(.pointer none), (.int .u32 0), (.slice none 0 0), (.slice none 0 0), (.int .u32 0), (.int .u8 0), (.slice none 0 0), (.slice none 0 0), (.int .u16 0), (.slice none 0 0), (.slice none 0 0), (.int .u16 0), (.slice none 0 0), (.slice none 0 0), (.int .u16 0), (.slice none 0 0), (.slice none 0 0), (.int .u16 0), (.slice none 0 0), (.slice none 0 0), (.int .u16 0), (.slice none 0 0), (.slice none 0 0), (.int .u16 0), (.slice none 0 0), (.slice none 0 0), (.int .u16 0), (.slice none 0 0), (.slice none 0 0), (.int .u16 0), (.slice none 0 0), (.slice none 0 0), (.int .u16 0), (.slice none 0 0), (.slice none 0 0), (.int .u16 0), (.slice none 0 0), (.slice none 0 0), (.int .u16 0), (.slice none 0 0), (.slice none 0 0), (.int .u16 0), (.slice none 0 0), (.slice none 0 0), (.int .u16 0), (.slice none 0 0), (.slice none 0 0), (.int .u16 0), (.slice none 0 0), (.slice none 0 0), (.int .u16 0), (.slice none 0 0), (.slice none 0 0), (.int .u16 0), (.int .u16 0), (.int .u16 0), (.int .u16 0), (.int .u16 0), (.int .u16 0), (.int .u16 0), (.int .u16 0), (.int .u16 0), (.int .u16 0), (.int .u16 0), (.int .u16 0), (.int .u16 0), (.int .u16 0), (.int .u16 0), (.int .u16 0), (.int .u16 0), (.map none), (.slice none 0 0), (.map none), (.string ⟨#[]⟩), (.string ⟨#[]⟩), (.string ⟨#[]⟩), (.string ⟨#[]⟩), (.string ⟨#[]⟩), (.string ⟨#[]⟩), (.string ⟨#[]⟩), (.string ⟨#[]⟩), (.string ⟨#[]⟩), (.string ⟨#[]⟩), (.string ⟨#[]⟩), (.string ⟨#[]⟩), (.string ⟨#[]⟩), (.string ⟨#[]⟩), (.string ⟨#[]⟩), (.string ⟨#[]⟩), (.int .u16 0), (.int .u16 0), (.int .i64 0), (.bool false), (.slice none 0 0), (.bool false)] [(0, .pointer (some ⟨led, 0, none⟩)), (1, .agg ⟨s.c⟩), (3, .map (some rb)), (8, .bool au)] = some (gv0 led s rb).c := fill131 (z70 := z48) rfl led s rb au hau

theorem gtc_one (g : GtV) : g.c.all (·.oneCell') = true := by
  unfold GtV.c
  rw [List.all_append, List.all_cons, stc_one]
  rfl
theorem store2 (Z : List (Nat × Obj)) (lb : Nat) (l : LdV) (hl9 : l.ok Z) (s : StV) (hs : s.ok Z) : Sp Tryz.prog 30 #[.pointer (some ⟨lb, 0, none⟩), .agg ⟨s.c⟩] ((lb, C l.c 91) :: (l.d.E ++ (s.vE ++ (s.iE ++ [(s.vb, MO (kInt .u32) s.vd)])))) (fun v F' =>
    (∃ l' : LdV, (storeP l.pl s.pl).2 = 0 ∧ l'.ok Z ∧ l'.pl = (storeP l.pl s.pl).1 ∧ v = .nilIface ∧ F' = (lb, C l'.c 91) :: (l'.d.E ++ s.E)) ∨
    (∃ l' : LdV, (storeP l.pl s.pl).2 = 2 ∧ l'.ok Z ∧ l'.pl = (storeP l.pl s.pl).1 ∧ v = .iface 105 (.int .u8 2) ∧ F' = (lb, C l'.c 91) :: (l'.d.E ++ s.E))) := by
  have h := store_spec Z lb l hl9 s hs
  rw [show LdV.F lb l ++ s.E = (lb, C l.c 91) :: (l.d.E ++ (s.vE ++ (s.iE ++ [(s.vb, MO (kInt .u32) s.vd)]))) by rw [StV.E_eq s]; rfl] at h
  refine sp_mono h fun v F ⟨l', h1, h2, h3, h4⟩ => ?_
  rcases storeP_b l.pl s.pl with e | e
  · exact .inl ⟨l', e, h1, h2, by rw [h3, e]; rfl, by rw [h4]; rfl⟩
  · exact .inr ⟨l', e, h1, h2, by rw [h3, e]; rfl, by rw [h4]; rfl⟩

attribute [local irreducible] NtV.k StV.c LdV.c StV.E GtV.c GtV.t orB sh1

set_option maxHeartbeats 4000000 in
theorem open_spec (Z : List (Nat × Obj)) (lb : Nat) (l : LdV) (hl9 : l.ok Z) (hd : l.dn = false) (hep : l.d.ep < 4294967295) : Sp Tryz.prog 15 #[.pointer (some ⟨lb, 0, none⟩)] (LdV.F lb l) (fun v F' => (∃ l' : LdV, (storeP l.pl (opS l.pl.d)).2 = 2 ∧ l'.ok Z ∧ l'.pl = (storeP l.pl (opS l.pl.d)).1 ∧ v = .tuple #[.pointer none, .iface 105 (.int .u8 2)] ∧ F' = LdV.F lb l') ∨ (∃ (gb : Nat) (g' : GtV) (l' : LdV), (storeP l.pl (opS l.pl.d)).2 = 0 ∧ g'.led = lb ∧ g'.ok Z ∧ l'.ok Z ∧ g'.pl = openG (opS l.pl.d) ∧ l'.pl = (storeP l.pl (opS l.pl.d)).1 ∧ v = .tuple #[.pointer (some ⟨gb, 0, none⟩), .nilIface] ∧ F' = GtV.F gb g' ++ LdV.F lb l')) := by
  refine f_enter (args := [.pointer (some ⟨lb, 0, none⟩)]) Tryz.func15 rfl Tryz.ntmps15 rfl ?_
  intro w0 w a hpre hl hh
  have hfu := hl9.fu
  generalize hDD : List.map Prod.fst (LdV.F lb l) = D at hh ⊢
  simp only [LdV.F] at hh
  simp only [slotsFrom, Nat.reduceAdd] at hl
  refine c_seq ?_
  refine c_region ?_
  refine wl (wl_val hl rfl trivial (r_assign hl rfl) ?_)
  clear hl a; intro a hl
  refine wl (wl_val hl rfl trivial (r_assign hl rfl) ?_)
  clear hl a; intro a hl
  refine w_nil ?_
  have hl2 := hl.add (t := 0) (hl.nil) rfl; clear hl; have hl := hl2; clear hl2
  refine then_normal ?_
  refine c_seq ?_
  refine c_region ?_
  refine wl (wl_val hl rfl trivial (r_move hl rfl) ?_)
  clear hl a; intro a hl
  refine wl (w_call hl hh rfl trivial rfl cal28 rfl (load_spec Z lb l hl9 hd) (by repeat (first | exact keeps_nil | apply keeps_cons (by repeat (first | exact find_head | apply find_tail | apply find_skip)) (by first  | rfl) | exact keeps_self | exact keeps_left | apply keeps_app | apply keeps_mv | apply keeps_skip)) trivial ?_)
  clear hl hh a w; intro vc Fc a w hR hl hh
  rcases hR with ⟨s1, hs1, hps1, rfl, rfl⟩
  ·
    try simp only [List.cons_append, List.nil_append, List.append_nil] at hh
    rw [StV.E_eq s1] at hh
    try simp only [LdV.F, List.append_assoc, List.cons_append, List.nil_append] at hh
    have hep1 : s1.ep = l.d.ep := congrArg StP.ep hps1
    have hep2 := hs1.ep
    refine wl (wl_val hl rfl trivial (r_move hl rfl) ?_)
    clear hl a; intro a hl
    refine wl (wl_val hl rfl trivial (r_extract hl rfl (by simp only [List.getElem?_toArray, List.getElem?_cons_zero, List.getElem?_cons_succ]; rfl)) ?_)
    clear hl a; intro a hl
    refine wl (wl_val hl rfl trivial (r_extract hl rfl (by simp only [List.getElem?_toArray, List.getElem?_cons_zero, List.getElem?_cons_succ]; rfl)) ?_)
    clear hl a; intro a hl
    refine wl (w_alloc hl hh rfl trivial zero89 rfl ?_)
    clear hl hh a w; intro k4 a w hl hh
    refine wl (w_storeA hl hh trivial agg89 rfl rfl (by repeat (first | exact find_head | apply find_tail | apply find_skip)) (by exact stc_len _) (by first | exact Nat.le_refl 70 | (rw [gtc_len]; omega)) (by exact stc_one _) (by first | exact setL_all (show 70 = _ from (stc_len _).symm) | exact gtc_sst _ _) ?_)
    clear hh w; intro w hh
    refine wl (wl_val hl rfl trivial (r_assign hl rfl) ?_)
    clear hl a; intro a hl
    refine w_nil ?_
    have hl2 := hl.add (t := 0) (hl.add (t := 4) (hl.add (t := 5) (hl.nil) rfl) rfl) rfl; clear hl; have hl := hl2; clear hl2
    refine then_normal ?_
    refine c_seq ?_
    refine c_seq ?_
    refine c_region ?_
    refine wl (wl_val hl rfl trivial (r_move hl rfl) ?_)
    clear hl a; intro a hl
    first | refine wl (wl_val hl rfl trivial (r_neq_ifcN hl rfl ifc102) ?_) | refine wl (wl_val hl rfl trivial (r_neq_ifcS hl rfl ifc102) ?_)
    clear hl a; intro a hl
    refine w_nil ?_
    have hl2 := hl.add (t := 0) (hl.add (t := 4) (hl.add (t := 5) (hl.add (t := 14) (hl.nil) rfl) rfl) rfl) rfl; clear hl; have hl := hl2; clear hl2
    refine then_normal ?_
    refine c_condF hl rfl ?_
    refine wp_skip ?_
    refine then_normal ?_
    refine c_seq ?_
    refine c_region ?_
    refine wl (wl_val hl rfl trivial (r_field hl rfl fld89_0) ?_)
    clear hl a; intro a hl
    refine wl (w_load hl hh rfl trivial one36 rfl (by repeat (first | exact find_head | apply find_tail | apply find_skip)) (by first | exact gtc_led _ | exact gtc_ep _ | exact gtc_vs _ | exact gtc_is _ | exact gtc_fid _ | exact gtc_ph _ | exact gtc_vd _ | exact gtc_q _ | exact gtc_rf _ | exact gtc_ys _ | exact gtc_dn _ | exact gtc_tk _ | exact gtc_au _ | exact gtc_o _ | exact gtc_off _ | exact stc_ph' _ | exact stc_fid' _ | exact stc_vd' _ | exact stc_ep' _ | exact stc_vs' _ | exact stc_is' _ | rfl) ?_)
    clear hl a; intro a hl
    first | refine wl (wl_val hl rfl trivial (r_add hl rfl rfl (by simp only [Fits]; omega)) ?_) | refine wl (wl_val hl rfl trivial (r_addW hl rfl rfl) ?_)
    clear hl a; intro a hl
    refine wl (wl_val hl rfl trivial (r_field hl rfl fld89_0) ?_)
    clear hl a; intro a hl
    refine wl (w_store hl hh trivial one36 rfl rfl (by repeat (first | exact find_head | apply find_tail | apply find_skip)) (by first | (simp; done) | (simp; omega) | (rw [gtc_len]; omega) | (rw [gtc_len]; simp; done) | (rw [stc_len]; omega) | (rw [stc_len]; simp; done)) (by first | rfl | assumption | (apply Row.one; assumption)) (by first | exact gtc_sys _ _ | exact gtc_sdn _ _ | exact gtc_stk _ _ | exact gtc_sau _ _ | exact gtc_soff _ _ | exact stc_sep _ _ | (simp only [setL, List.getElem?_cons_zero, List.getElem?_cons_succ, Value.cells, List.take_zero, List.take_succ_cons, List.take_nil, List.drop_zero, List.drop_succ_cons, List.drop_nil, List.length_cons, List.length_nil, List.cons_append, List.nil_append, List.append_nil, Nat.zero_add, Nat.add_zero, Nat.reduceAdd, Nat.reduceBEq, Nat.reduceEqDiff, Nat.ble, BEq.rfl, Bool.and_true, Bool.and_self, cond_true, beq_self_eq_true]; rfl)) ?_)
    clear hh w; intro w hh
    refine w_nil ?_
    have hl2 := hl.add (t := 0) (hl.add (t := 4) (hl.nil) rfl) rfl; clear hl; have hl := hl2; clear hl2
    refine then_normal ?_
    refine c_seq ?_
    refine c_seq ?_
    refine c_region ?_
    refine wl (wl_val hl rfl trivial (r_field hl rfl fld89_3) ?_)
    clear hl a; intro a hl
    refine wl (wl_val hl rfl trivial (r_field hl rfl fld87_1) ?_)
    clear hl a; intro a hl
    refine wl (w_load hl hh rfl trivial one76 rfl (by repeat (first | exact find_head | apply find_tail | apply find_skip)) (by first | exact gtc_led _ | exact gtc_ep _ | exact gtc_vs _ | exact gtc_is _ | exact gtc_fid _ | exact gtc_ph _ | exact gtc_vd _ | exact gtc_q _ | exact gtc_rf _ | exact gtc_ys _ | exact gtc_dn _ | exact gtc_tk _ | exact gtc_au _ | exact gtc_o _ | exact gtc_off _ | exact stc_ph' _ | exact stc_fid' _ | exact stc_vd' _ | exact stc_ep' _ | exact stc_vs' _ | exact stc_is' _ | rfl) ?_)
    clear hl a; intro a hl
    refine wl (wl_val hl rfl trivial (r_eql hl rfl rfl) ?_)
    clear hl a; intro a hl
    refine w_nil ?_
    have hl2 := hl.add (t := 0) (hl.add (t := 4) (hl.add (t := 23) (hl.nil) rfl) rfl) rfl; clear hl; have hl := hl2; clear hl2
    refine then_normal ?_
    refine c_cond hl rfl ?_ ?_
    · intro hc1
      try simp only [decide_eq_true_eq, decide_eq_false_iff_not, Bool.not_eq_true', Bool.not_eq_false', Bool.not_eq_true, Bool.not_eq_false, Bool.and_eq_true, Bool.or_eq_true, Bool.and_eq_false_iff, Bool.or_eq_false_iff, Bool.not_not, ne_eq, Int.not_lt, Int.not_le, Decidable.not_not, beq_iff_eq, bne_iff_ne] at hc1
      refine c_region ?_
      refine wl (w_call hl hh rfl trivial rfl cal29 rfl (settle_spec k4 { s1 with ep := s1.ep + 1 } false) (by repeat (first | exact keeps_nil | apply keeps_cons (by repeat (first | exact find_head | apply find_tail | apply find_skip)) (by first  | rfl) | exact keeps_self | exact keeps_left | apply keeps_app | apply keeps_mv | apply keeps_skip)) trivial ?_)
      clear hl hh a w; intro vc Fc a w hR hl hh
      obtain ⟨rfl, rfl⟩ := hR
      try simp only [List.cons_append, List.nil_append, List.append_assoc, List.append_nil] at hh
      obtain ⟨s2, hse⟩ : ∃ s2 : StV, s2 = StV.setl { s1 with ep := s1.ep + 1 } false := ⟨_, rfl⟩
      have h2o : s2.ok Z := by rw [hse]; exact setl_ok (ep_ok hs1 (by omega)) false
      have h2p : s2.pl = opS l.pl.d := by rw [hse, show l.pl.d = s1.pl from hps1.symm]; unfold opS; rw [if_pos (show s1.pl.ph = 1 from hc1), setl_pl]; rfl
      try simp only at hh
      rw [show StV.c (StV.setl { s1 with ep := s1.ep + 1 } false) = s2.c by rw [hse], show s1.vE = s2.vE by subst hse; rfl, show s1.iE = s2.iE by subst hse; rfl, show s1.vb = s2.vb by subst hse; rfl, show mput s1.vd s1.fid (.int .u8 (vdC false)) = s2.vd by subst hse; rfl] at hh
      refine w_nil ?_
      have hl2 := hl.add (t := 0) (hl.add (t := 4) (hl.nil) rfl) rfl; clear hl; have hl := hl2; clear hl2
      refine then_normal ?_
      refine c_seq ?_
      refine c_seq ?_
      refine c_region ?_
      refine wl (wl_val hl rfl trivial (r_move hl rfl) ?_)
      clear hl a; intro a hl
      refine wl (w_loadA hl hh rfl trivial agg89 rfl (by repeat (first | exact find_head | apply find_tail | apply find_skip)) (by first | exact gtc_st _ | exact stc_all _) (by exact stc_len _) ?_)
      clear hl a; intro a hl
      refine wl (w_call hl hh rfl trivial rfl cal30 rfl (store2 Z lb l hl9 s2 h2o) (by repeat (first | exact keeps_nil | apply keeps_cons (by repeat (first | exact find_head | apply find_tail | apply find_skip)) (by first  | rfl) | exact keeps_self | exact keeps_left | apply keeps_app | apply keeps_mv | apply keeps_skip)) trivial ?_)
      clear hl hh a w; intro vc Fc a w hR hl hh
      rcases hR with ⟨l', hr, hl', hp', rfl, rfl⟩ | ⟨l', hr, hl', hp', rfl, rfl⟩
      ·
        try simp only [List.cons_append, List.nil_append, List.append_nil] at hh
        try simp only [List.append_assoc, List.cons_append, List.nil_append] at hh
        refine wl (wl_val hl rfl trivial (r_assign hl rfl) ?_)
        clear hl a; intro a hl
        refine w_nil ?_
        have hl2 := hl.add (t := 0) (hl.add (t := 4) (hl.add (t := 6) (hl.nil) rfl) rfl) rfl; clear hl; have hl := hl2; clear hl2
        refine then_normal ?_
        refine c_seq ?_
        refine c_region ?_
        refine wl (wl_val hl rfl trivial (r_move hl rfl) ?_)
        clear hl a; intro a hl
        first | refine wl (wl_val hl rfl trivial (r_neq_ifcN hl rfl ifc102) ?_) | refine wl (wl_val hl rfl trivial (r_neq_ifcS hl rfl ifc102) ?_)
        clear hl a; intro a hl
        refine w_nil ?_
        have hl2 := hl.add (t := 0) (hl.add (t := 4) (hl.add (t := 6) (hl.add (t := 29) (hl.nil) rfl) rfl) rfl) rfl; clear hl; have hl := hl2; clear hl2
        refine then_normal ?_
        refine c_condF hl rfl ?_
        refine wp_skip ?_
        refine then_normal ?_
        refine c_seq ?_
        refine c_region ?_
        refine wl (wl_val hl rfl trivial (r_move hl rfl) ?_)
        clear hl a; intro a hl
        refine wl (w_loadA hl hh rfl trivial agg89 rfl (by repeat (first | exact find_head | apply find_tail | apply find_skip)) (by first | exact gtc_st _ | exact stc_all _) (by exact stc_len _) ?_)
        clear hl a; intro a hl
        refine wl (w_makeMap (kInt .u32) hl hh rfl trivial ?_)
        clear hl hh a w; intro k33 a w hl hh
        refine wl (wl_val hl rfl trivial (r_field hl rfl fld89_3) ?_)
        clear hl a; intro a hl
        refine wl (wl_val hl rfl trivial (r_field hl rfl fld87_1) ?_)
        clear hl a; intro a hl
        refine wl (w_load hl hh rfl trivial one76 rfl (by repeat (first | exact find_head | apply find_tail | apply find_skip)) (by first | exact gtc_led _ | exact gtc_ep _ | exact gtc_vs _ | exact gtc_is _ | exact gtc_fid _ | exact gtc_ph _ | exact gtc_vd _ | exact gtc_q _ | exact gtc_rf _ | exact gtc_ys _ | exact gtc_dn _ | exact gtc_tk _ | exact gtc_au _ | exact gtc_o _ | exact gtc_off _ | exact stc_ph' _ | exact stc_fid' _ | exact stc_vd' _ | exact stc_ep' _ | exact stc_vs' _ | exact stc_is' _ | rfl) ?_)
        clear hl a; intro a hl
        refine wl (wl_val hl rfl trivial (r_neq hl rfl rfl) ?_)
        clear hl a; intro a hl
        refine wl (wl_val hl rfl trivial (r_build (cs := GtV.c (gv0 lb s2 k33)) hl rfl zero127 bld127 (fill131z lb s2 k33 _ (by simp))) ?_)
        clear hl a; intro a hl
        refine wl (w_box hl hh rfl trivial rfl rfl ?_)
        clear hl hh a w; intro k39 a w hl hh
        refine wl (wl_val hl rfl trivial (r_assign hl rfl) ?_)
        clear hl a; intro a hl
        refine w_nil ?_
        have hl2 := hl.add (t := 7) (hl.nil) rfl; clear hl; have hl := hl2; clear hl2
        refine then_normal ?_
        refine c_seq ?_
        refine c_region ?_
        refine wl (wl_val hl rfl trivial (r_move hl rfl) ?_)
        clear hl a; intro a hl
        refine wl (w_call hl hh rfl trivial rfl cal31 rfl (push_spec k39 (gv0 lb s2 k33) (Row.nil _ _) (Nat.zero_le _) h2o.ph) (by repeat (first | exact keeps_nil | apply keeps_cons (by repeat (first | exact find_head | apply find_tail | apply find_skip)) (by first  | rfl) | exact keeps_self | exact keeps_left | apply keeps_app | apply keeps_mv | apply keeps_skip)) trivial ?_)
        clear hl hh a w; intro vc Fc a w hR hl hh
        obtain ⟨rfl, p6, c6, E6, hR6, rfl⟩ := hR
        try simp only [List.cons_append, List.nil_append, List.append_assoc, List.append_nil] at hh
        refine w_nil ?_
        have hl2 := hl.add (t := 7) (hl.nil) rfl; clear hl; have hl := hl2; clear hl2
        refine then_normal ?_
        refine c_seq ?_
        refine c_region ?_
        refine wl (wl_val hl rfl trivial (r_move hl rfl) ?_)
        clear hl a; intro a hl
        refine wl (wl_val hl rfl trivial (r_assign hl rfl) ?_)
        clear hl a; intro a hl
        refine wl (wl_val hl rfl trivial (r_assign hl rfl) ?_)
        clear hl a; intro a hl
        refine w_nil ?_
        have hl2 := hl.add (t := 2) (hl.add (t := 3) (hl.nil) rfl) rfl; clear hl; have hl := hl2; clear hl2
        refine then_normal ?_
        refine wp_ret ?_
        refine f_ret2 (F' := (k39, C (GtV.c { gv0 lb s2 k33 with out := [] ++ pushP (GtV.pl (gv0 lb s2 k33)), op := p6, oc := c6, oE := E6 }) 127) :: (s2.E ++ ((k33, MD (kInt .u32) [] 0) :: (E6 ++ ((lb, C l'.c 91) :: l'.d.E))))) hl hh rfl rfl rfl (by repeat (first | exact keeps_nil | apply keeps_cons (by repeat (first | exact find_head | apply find_tail | apply find_skip)) (by first  | rfl) | exact keeps_self | exact keeps_left | apply keeps_app | apply keeps_mv | apply keeps_skip)) ?_
        refine .inr ⟨k39, { gv0 lb s2 k33 with out := [] ++ pushP (GtV.pl (gv0 lb s2 k33)), op := p6, oc := c6, oE := E6 }, l', by rw [← h2p]; exact hr, rfl, ?_, hl', ?_, by rw [← h2p]; exact hp', rfl, ?_⟩
        · exact put_ok (gv0_ok h2o lb k33) h2o (by have := push_len (GtV.pl (gv0 lb s2 k33)); omega) (Nat.zero_le _) hR6 (push_ok h2o.ep h2o.fid) (by simp [gv0]) (by simp [gv0]) (by simp [gv0]) _ _
        · rw [← h2p]; rfl
        · simp only [GtV.F, LdV.F, gv0, List.append_assoc, List.cons_append, List.nil_append]
      ·
        try simp only [List.cons_append, List.nil_append, List.append_nil] at hh
        try simp only [List.append_assoc, List.cons_append, List.nil_append] at hh
        refine wl (wl_val hl rfl trivial (r_assign hl rfl) ?_)
        clear hl a; intro a hl
        refine w_nil ?_
        have hl2 := hl.add (t := 0) (hl.add (t := 4) (hl.add (t := 6) (hl.nil) rfl) rfl) rfl; clear hl; have hl := hl2; clear hl2
        refine then_normal ?_
        refine c_seq ?_
        refine c_region ?_
        refine wl (wl_val hl rfl trivial (r_move hl rfl) ?_)
        clear hl a; intro a hl
        first | refine wl (wl_val hl rfl trivial (r_neq_ifcN hl rfl ifc102) ?_) | refine wl (wl_val hl rfl trivial (r_neq_ifcS hl rfl ifc102) ?_)
        clear hl a; intro a hl
        refine w_nil ?_
        have hl2 := hl.add (t := 0) (hl.add (t := 4) (hl.add (t := 6) (hl.add (t := 29) (hl.nil) rfl) rfl) rfl) rfl; clear hl; have hl := hl2; clear hl2
        refine then_normal ?_
        refine c_condT hl rfl ?_
        refine c_seq ?_
        refine c_region ?_
        refine wl (wl_val hl rfl trivial (r_move hl rfl) ?_)
        clear hl a; intro a hl
        refine wl (wl_val hl rfl trivial (r_assign hl rfl) ?_)
        clear hl a; intro a hl
        refine wl (wl_val hl rfl trivial (r_assign hl rfl) ?_)
        clear hl a; intro a hl
        refine w_nil ?_
        have hl2 := hl.add (t := 2) (hl.add (t := 3) (hl.nil) rfl) rfl; clear hl; have hl := hl2; clear hl2
        refine then_normal ?_
        refine wp_ret ?_
        refine then_ret ?_
        refine f_ret2 (F' := (lb, C l'.c 91) :: l'.d.E) hl hh rfl rfl rfl (by repeat (first | exact keeps_nil | apply keeps_cons (by repeat (first | exact find_head | apply find_tail | apply find_skip)) (by first  | rfl) | exact keeps_self | exact keeps_left | apply keeps_app | apply keeps_mv | apply keeps_skip)) ?_
        exact .inl ⟨l', by rw [← h2p]; exact hr, hl', by rw [← h2p]; exact hp', rfl, rfl⟩
    · intro hc1
      try simp only [decide_eq_true_eq, decide_eq_false_iff_not, Bool.not_eq_true', Bool.not_eq_false', Bool.not_eq_true, Bool.not_eq_false, Bool.and_eq_true, Bool.or_eq_true, Bool.and_eq_false_iff, Bool.or_eq_false_iff, Bool.not_not, ne_eq, Int.not_lt, Int.not_le, Decidable.not_not, beq_iff_eq, bne_iff_ne] at hc1
      obtain ⟨s2, hse⟩ : ∃ s2 : StV, s2 = { s1 with ep := s1.ep + 1 } := ⟨_, rfl⟩
      have h2o : s2.ok Z := by rw [hse]; exact (ep_ok hs1 (by omega))
      have h2p : s2.pl = opS l.pl.d := by rw [hse, show l.pl.d = s1.pl from hps1.symm]; unfold opS; rw [if_neg (show ¬ s1.pl.ph = 1 from hc1)]; rfl
      try simp only at hh
      rw [show StV.c { s1 with ep := s1.ep + 1 } = s2.c by rw [hse], show s1.vE = s2.vE by subst hse; rfl, show s1.iE = s2.iE by subst hse; rfl, show s1.vb = s2.vb by subst hse; rfl, show s1.vd = s2.vd by subst hse; rfl] at hh
      refine wp_skip ?_
      refine then_normal ?_
      refine c_seq ?_
      refine c_seq ?_
      refine c_region ?_
      refine wl (wl_val hl rfl trivial (r_move hl rfl) ?_)
      clear hl a; intro a hl
      refine wl (w_loadA hl hh rfl trivial agg89 rfl (by repeat (first | exact find_head | apply find_tail | apply find_skip)) (by first | exact gtc_st _ | exact stc_all _) (by exact stc_len _) ?_)
      clear hl a; intro a hl
      refine wl (w_call hl hh rfl trivial rfl cal30 rfl (store2 Z lb l hl9 s2 h2o) (by repeat (first | exact keeps_nil | apply keeps_cons (by repeat (first | exact find_head | apply find_tail | apply find_skip)) (by first  | rfl) | exact keeps_self | exact keeps_left | apply keeps_app | apply keeps_mv | apply keeps_skip)) trivial ?_)
      clear hl hh a w; intro vc Fc a w hR hl hh
      rcases hR with ⟨l', hr, hl', hp', rfl, rfl⟩ | ⟨l', hr, hl', hp', rfl, rfl⟩
      ·
        try simp only [List.cons_append, List.nil_append, List.append_nil] at hh
        try simp only [List.append_assoc, List.cons_append, List.nil_append] at hh
        refine wl (wl_val hl rfl trivial (r_assign hl rfl) ?_)
        clear hl a; intro a hl
        refine w_nil ?_
        have hl2 := hl.add (t := 0) (hl.add (t := 4) (hl.add (t := 6) (hl.nil) rfl) rfl) rfl; clear hl; have hl := hl2; clear hl2
        refine then_normal ?_
        refine c_seq ?_
        refine c_region ?_
        refine wl (wl_val hl rfl trivial (r_move hl rfl) ?_)
        clear hl a; intro a hl
        first | refine wl (wl_val hl rfl trivial (r_neq_ifcN hl rfl ifc102) ?_) | refine wl (wl_val hl rfl trivial (r_neq_ifcS hl rfl ifc102) ?_)
        clear hl a; intro a hl
        refine w_nil ?_
        have hl2 := hl.add (t := 0) (hl.add (t := 4) (hl.add (t := 6) (hl.add (t := 29) (hl.nil) rfl) rfl) rfl) rfl; clear hl; have hl := hl2; clear hl2
        refine then_normal ?_
        refine c_condF hl rfl ?_
        refine wp_skip ?_
        refine then_normal ?_
        refine c_seq ?_
        refine c_region ?_
        refine wl (wl_val hl rfl trivial (r_move hl rfl) ?_)
        clear hl a; intro a hl
        refine wl (w_loadA hl hh rfl trivial agg89 rfl (by repeat (first | exact find_head | apply find_tail | apply find_skip)) (by first | exact gtc_st _ | exact stc_all _) (by exact stc_len _) ?_)
        clear hl a; intro a hl
        refine wl (w_makeMap (kInt .u32) hl hh rfl trivial ?_)
        clear hl hh a w; intro k33 a w hl hh
        refine wl (wl_val hl rfl trivial (r_field hl rfl fld89_3) ?_)
        clear hl a; intro a hl
        refine wl (wl_val hl rfl trivial (r_field hl rfl fld87_1) ?_)
        clear hl a; intro a hl
        refine wl (w_load hl hh rfl trivial one76 rfl (by repeat (first | exact find_head | apply find_tail | apply find_skip)) (by first | exact gtc_led _ | exact gtc_ep _ | exact gtc_vs _ | exact gtc_is _ | exact gtc_fid _ | exact gtc_ph _ | exact gtc_vd _ | exact gtc_q _ | exact gtc_rf _ | exact gtc_ys _ | exact gtc_dn _ | exact gtc_tk _ | exact gtc_au _ | exact gtc_o _ | exact gtc_off _ | exact stc_ph' _ | exact stc_fid' _ | exact stc_vd' _ | exact stc_ep' _ | exact stc_vs' _ | exact stc_is' _ | rfl) ?_)
        clear hl a; intro a hl
        refine wl (wl_val hl rfl trivial (r_neq hl rfl rfl) ?_)
        clear hl a; intro a hl
        refine wl (wl_val hl rfl trivial (r_build (cs := GtV.c (gv0 lb s2 k33)) hl rfl zero127 bld127 (fill131z lb s2 k33 _ (by simp))) ?_)
        clear hl a; intro a hl
        refine wl (w_box hl hh rfl trivial rfl rfl ?_)
        clear hl hh a w; intro k39 a w hl hh
        refine wl (wl_val hl rfl trivial (r_assign hl rfl) ?_)
        clear hl a; intro a hl
        refine w_nil ?_
        have hl2 := hl.add (t := 7) (hl.nil) rfl; clear hl; have hl := hl2; clear hl2
        refine then_normal ?_
        refine c_seq ?_
        refine c_region ?_
        refine wl (wl_val hl rfl trivial (r_move hl rfl) ?_)
        clear hl a; intro a hl
        refine wl (w_call hl hh rfl trivial rfl cal31 rfl (push_spec k39 (gv0 lb s2 k33) (Row.nil _ _) (Nat.zero_le _) h2o.ph) (by repeat (first | exact keeps_nil | apply keeps_cons (by repeat (first | exact find_head | apply find_tail | apply find_skip)) (by first  | rfl) | exact keeps_self | exact keeps_left | apply keeps_app | apply keeps_mv | apply keeps_skip)) trivial ?_)
        clear hl hh a w; intro vc Fc a w hR hl hh
        obtain ⟨rfl, p6, c6, E6, hR6, rfl⟩ := hR
        try simp only [List.cons_append, List.nil_append, List.append_assoc, List.append_nil] at hh
        refine w_nil ?_
        have hl2 := hl.add (t := 7) (hl.nil) rfl; clear hl; have hl := hl2; clear hl2
        refine then_normal ?_
        refine c_seq ?_
        refine c_region ?_
        refine wl (wl_val hl rfl trivial (r_move hl rfl) ?_)
        clear hl a; intro a hl
        refine wl (wl_val hl rfl trivial (r_assign hl rfl) ?_)
        clear hl a; intro a hl
        refine wl (wl_val hl rfl trivial (r_assign hl rfl) ?_)
        clear hl a; intro a hl
        refine w_nil ?_
        have hl2 := hl.add (t := 2) (hl.add (t := 3) (hl.nil) rfl) rfl; clear hl; have hl := hl2; clear hl2
        refine then_normal ?_
        refine wp_ret ?_
        refine f_ret2 (F' := (k39, C (GtV.c { gv0 lb s2 k33 with out := [] ++ pushP (GtV.pl (gv0 lb s2 k33)), op := p6, oc := c6, oE := E6 }) 127) :: (s2.E ++ ((k33, MD (kInt .u32) [] 0) :: (E6 ++ ((lb, C l'.c 91) :: l'.d.E))))) hl hh rfl rfl rfl (by repeat (first | exact keeps_nil | apply keeps_cons (by repeat (first | exact find_head | apply find_tail | apply find_skip)) (by first  | rfl) | exact keeps_self | exact keeps_left | apply keeps_app | apply keeps_mv | apply keeps_skip)) ?_
        refine .inr ⟨k39, { gv0 lb s2 k33 with out := [] ++ pushP (GtV.pl (gv0 lb s2 k33)), op := p6, oc := c6, oE := E6 }, l', by rw [← h2p]; exact hr, rfl, ?_, hl', ?_, by rw [← h2p]; exact hp', rfl, ?_⟩
        · exact put_ok (gv0_ok h2o lb k33) h2o (by have := push_len (GtV.pl (gv0 lb s2 k33)); omega) (Nat.zero_le _) hR6 (push_ok h2o.ep h2o.fid) (by simp [gv0]) (by simp [gv0]) (by simp [gv0]) _ _
        · rw [← h2p]; rfl
        · simp only [GtV.F, LdV.F, gv0, List.append_assoc, List.cons_append, List.nil_append]
      ·
        try simp only [List.cons_append, List.nil_append, List.append_nil] at hh
        try simp only [List.append_assoc, List.cons_append, List.nil_append] at hh
        refine wl (wl_val hl rfl trivial (r_assign hl rfl) ?_)
        clear hl a; intro a hl
        refine w_nil ?_
        have hl2 := hl.add (t := 0) (hl.add (t := 4) (hl.add (t := 6) (hl.nil) rfl) rfl) rfl; clear hl; have hl := hl2; clear hl2
        refine then_normal ?_
        refine c_seq ?_
        refine c_region ?_
        refine wl (wl_val hl rfl trivial (r_move hl rfl) ?_)
        clear hl a; intro a hl
        first | refine wl (wl_val hl rfl trivial (r_neq_ifcN hl rfl ifc102) ?_) | refine wl (wl_val hl rfl trivial (r_neq_ifcS hl rfl ifc102) ?_)
        clear hl a; intro a hl
        refine w_nil ?_
        have hl2 := hl.add (t := 0) (hl.add (t := 4) (hl.add (t := 6) (hl.add (t := 29) (hl.nil) rfl) rfl) rfl) rfl; clear hl; have hl := hl2; clear hl2
        refine then_normal ?_
        refine c_condT hl rfl ?_
        refine c_seq ?_
        refine c_region ?_
        refine wl (wl_val hl rfl trivial (r_move hl rfl) ?_)
        clear hl a; intro a hl
        refine wl (wl_val hl rfl trivial (r_assign hl rfl) ?_)
        clear hl a; intro a hl
        refine wl (wl_val hl rfl trivial (r_assign hl rfl) ?_)
        clear hl a; intro a hl
        refine w_nil ?_
        have hl2 := hl.add (t := 2) (hl.add (t := 3) (hl.nil) rfl) rfl; clear hl; have hl := hl2; clear hl2
        refine then_normal ?_
        refine wp_ret ?_
        refine then_ret ?_
        refine f_ret2 (F' := (lb, C l'.c 91) :: l'.d.E) hl hh rfl rfl rfl (by repeat (first | exact keeps_nil | apply keeps_cons (by repeat (first | exact find_head | apply find_tail | apply find_skip)) (by first  | rfl) | exact keeps_self | exact keeps_left | apply keeps_app | apply keeps_mv | apply keeps_skip)) ?_
        exact .inl ⟨l', by rw [← h2p]; exact hr, hl', by rw [← h2p]; exact hp', rfl, rfl⟩
end Go.Proofs.Qxb6500908aGreat

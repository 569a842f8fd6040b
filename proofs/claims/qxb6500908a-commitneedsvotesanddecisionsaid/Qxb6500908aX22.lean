import Derived.Test.Qxb6500908aX21
namespace Go.Proofs.Qxb6500908a
open Go.Eng
set_option linter.unusedVariables false
set_option linter.unusedSimpArgs false
theorem fld50_0 : fieldOk Try.prog 50 0 0 = true := by kernel_rfl
theorem fld50_1 : fieldOk Try.prog 50 1 1 = true := by kernel_rfl
theorem fld50_5 : fieldOk Try.prog 50 5 74 = true := by kernel_rfl
theorem cal103 : callable Try.prog 103 = true := by kernel_rfl
attribute [local irreducible] NtV.k StV.c LdV.c StV.E GtV.c GtV.t orB sh1 WoV.c wst postP voC

set_option maxHeartbeats 8000000 in
theorem vboot_spec (lb wb : Nat) (W : WoV) (Z : List (Nat × Obj)) (hW : W.ok Z) (s : StV) (hs : s.ok Z) (ok : Bool) (sent : List Ms) (q : Option Addr) (cq : Nat) (Es : List (Nat × Obj)) (hR : ROWB q sent cq Es) (hsl : sent.length ≤ 100) (V : VoM) (hV : V.ok Z) (hN : SntR W.l.pl.d V.pl.ys (cmU V.pl.cm 1 sent) (cmU V.pl.rl 2 sent) sent) (hP : ok = true → ¬ W.l.pl.d.ph = 1) : Sp Try.prog 98 #[.pointer (some ⟨lb, 0, none⟩), .agg ⟨s.c⟩, .bool ok, .slice q sent.length cq] (V.F lb wb ++ (s.E ++ (WoV.F wb W Z ++ Es))) (fun v F' => v = .bool true ∧ ∃ V' : VoM, V'.ok Z ∧ V'.pv.isSome = true ∧ V'.pl = V.pl.bt W.l.pl.d sent ∧ F' = V'.F lb wb ++ (WoV.F wb W Z ++ Es)) := by
  refine f_enter (args := [.pointer (some ⟨lb, 0, none⟩), .agg ⟨s.c⟩, .bool ok, .slice q sent.length cq]) Try.func98 rfl Try.ntmps98 rfl ?_
  intro w0 w a hpre hl hh
  generalize hDD : List.map Prod.fst (V.F lb wb ++ (s.E ++ (WoV.F wb W Z ++ Es))) = D at hh ⊢
  simp only [WoV.F, VoM.F, List.append_assoc, List.cons_append, List.nil_append] at hh
  have hcl := wc_led W
  simp only [slotsFrom, Nat.reduceAdd] at hl
  refine c_seq ?_
  refine c_region ?_
  refine wl (w_box hl hh rfl trivial rfl rfl ?_)
  clear hl hh a w; intro k5 a w hl hh
  refine wl (wl_val hl rfl trivial (r_assign hl rfl) ?_)
  clear hl a; intro a hl
  refine w_nil ?_
  have hl2 := hl.add (t := 0) (hl.add (t := 2) (hl.add (t := 3) (hl.nil) rfl) rfl) rfl; clear hl; have hl := hl2; clear hl2
  refine then_normal ?_
  refine c_seq ?_
  refine c_region ?_
  refine wl (wl_val hl rfl trivial (r_move hl rfl) ?_)
  clear hl a; intro a hl
  refine wl (wl_val hl rfl trivial (r_move hl rfl) ?_)
  clear hl a; intro a hl
  refine wl (wl_val hl rfl trivial (r_nilCheck hl rfl) ?_)
  clear hl a; intro a hl
  refine wl (wl_val hl rfl trivial (r_field hl rfl fld50_0) ?_)
  clear hl a; intro a hl
  refine wl (wl_val hl rfl trivial (r_field hl rfl fld30_0) ?_)
  clear hl a; intro a hl
  refine wl (w_load hl hh rfl trivial one28 rfl (by repeat (first | exact find_head | apply find_tail | apply find_skip)) (by first | exact hcl | exact voc_ph (wb := wb) (s := s1) rfl | exact voc_w _ _ | exact voc_y _ _ | exact voc_c _ _ | exact voc_r _ _ | exact voc_t _ _ | exact stc_ph' _ | exact stc_fid' _ | exact stc_vd' _ | exact stc_ep' _ | exact stc_vs' _ | exact stc_is' _ | rfl) ?_)
  clear hl a; intro a hl
  refine wl (wl_val hl rfl trivial (r_nilCheck hl rfl) ?_)
  clear hl a; intro a hl
  refine wl (wl_val hl rfl trivial (r_field hl rfl fld84_0) ?_)
  clear hl a; intro a hl
  refine wl (w_load hl hh rfl trivial one77 rfl (by repeat (first | exact find_head | apply find_tail | apply find_skip)) (by first | exact hcl | exact voc_ph (wb := wb) (s := s1) rfl | exact voc_w _ _ | exact voc_y _ _ | exact voc_c _ _ | exact voc_r _ _ | exact voc_t _ _ | exact stc_ph' _ | exact stc_fid' _ | exact stc_vd' _ | exact stc_ep' _ | exact stc_vs' _ | exact stc_is' _ | rfl) ?_)
  clear hl a; intro a hl
  refine wl (w_call hl hh rfl trivial rfl cal16 rfl (durW W Z hW) (by repeat (first | exact keeps_nil | apply keeps_cons (by repeat (first | exact find_head | apply find_tail | apply find_skip)) (by first  | rfl) | exact keeps_self | exact keeps_left | apply keeps_app | apply keeps_mv | apply keeps_skip)) trivial ?_)
  clear hl hh a w; intro vc Fc a w hR hl hh
  obtain ⟨s1, hs1, hps1, rfl, rfl⟩ := hR
  try simp only [List.cons_append, List.nil_append, List.append_assoc, List.append_nil] at hh
  try simp only [List.append_assoc] at hh
  have hphs1 : s1.ph = W.l.pl.d.ph := congrArg StP.ph hps1
  rw [StV.E_eq s1] at hh
  simp only [List.append_assoc, List.cons_append, List.nil_append] at hh
  have hV1 : VoM.ok Z { V with pv := some s1, tk := 0 } := ⟨fun t ht => (by injection ht with ht; rw [← ht]; exact hs1), hV.yv, hV.cv, hV.rv, by simp⟩
  refine wl (wl_val hl rfl trivial (r_nilCheck hl rfl) ?_)
  clear hl a; intro a hl
  refine wl (wl_val hl rfl trivial (r_field hl rfl fld50_1) ?_)
  clear hl a; intro a hl
  refine wl (w_storeA hl hh trivial agg48 rfl rfl (by repeat (first | exact find_head | apply find_tail | apply find_skip)) (by first | exact stc_len _ | exact vop_len _) (by first | exact Nat.le_refl 70 | (rw [voc_len]; omega)) (by first | exact stc_one _) (by first | exact setL_all (show 70 = _ from (stc_len _).symm) | exact voc_spv _ _ _) ?_)
  clear hh w; intro w hh
  refine w_nil ?_
  have hl2 := hl.add (t := 0) (hl.add (t := 2) (hl.add (t := 3) (hl.nil) rfl) rfl) rfl; clear hl; have hl := hl2; clear hl2
  refine then_normal ?_
  refine c_seq ?_
  refine c_region ?_
  refine wl (wl_val hl rfl trivial (r_move hl rfl) ?_)
  clear hl a; intro a hl
  refine wl (wl_val hl rfl trivial (r_nilCheck hl rfl) ?_)
  clear hl a; intro a hl
  refine wl (wl_val hl rfl trivial (r_field hl rfl fld50_5) ?_)
  clear hl a; intro a hl
  refine wl (w_store hl hh trivial one3 rfl rfl (by repeat (first | exact find_head | apply find_tail | apply find_skip)) (by first | (simp; done) | (simp; omega) | (rw [voc_len]; omega) | (rw [voc_len]; simp; done) | (rw [stc_len]; omega) | (rw [stc_len]; simp; done)) (by first | rfl | assumption | (apply Row.one; assumption)) (by first | exact voc_stk _ _ _ | (simp only [setL, List.getElem?_cons_zero, List.getElem?_cons_succ, Value.cells, List.take_zero, List.take_succ_cons, List.take_nil, List.drop_zero, List.drop_succ_cons, List.drop_nil, List.length_cons, List.length_nil, List.cons_append, List.nil_append, List.append_nil, Nat.zero_add, Nat.add_zero, Nat.reduceAdd, Nat.reduceBEq, Nat.reduceEqDiff, Nat.ble, BEq.rfl, Bool.and_true, Bool.and_self, cond_true, beq_self_eq_true]; rfl)) ?_)
  clear hh w; intro w hh
  refine w_nil ?_
  have hl2 := hl.add (t := 0) (hl.add (t := 2) (hl.add (t := 3) (hl.nil) rfl) rfl) rfl; clear hl; have hl := hl2; clear hl2
  refine then_normal ?_
  refine c_seq ?_
  refine c_region ?_
  refine wl (wl_val hl rfl trivial (r_move hl rfl) ?_)
  clear hl a; intro a hl
  refine wl (wl_val hl rfl trivial (r_move hl rfl) ?_)
  clear hl a; intro a hl
  refine wl (wl_val hl rfl trivial (r_nilCheck hl rfl) ?_)
  clear hl a; intro a hl
  refine wl (wl_val hl rfl trivial (r_field hl rfl fld50_1) ?_)
  clear hl a; intro a hl
  refine wl (w_loadA hl hh rfl trivial agg48 rfl (by repeat (first | exact find_head | apply find_tail | apply find_skip)) (by first | exact stc_all _ | exact (voc_pv wb _)) (by first | exact stc_len _ | exact vop_len _) ?_)
  clear hl a; intro a hl
  refine wl (wl_val hl rfl trivial (r_move hl rfl) ?_)
  clear hl a; intro a hl
  refine wl (w_call hl hh rfl trivial rfl cal103 rfl (sright_spec lb wb Z { V with pv := some s1, tk := 0 } hV1 s1 hs1 sent q cq Es hR hsl (by rw [hps1]; exact hN)) (by repeat (first | exact keeps_nil | apply keeps_cons (by repeat (first | exact find_head | apply find_tail | apply find_skip)) (by first  | rfl) | exact keeps_self | exact keeps_left | apply keeps_app | apply keeps_mv | apply keeps_skip)) trivial ?_)
  clear hl hh a w; intro vc Fc a w hR hl hh
  rcases hR with ⟨rfl, cm9, rm9, hco, hro, hce, hre, rfl⟩
  ·
    try simp only [List.cons_append, List.nil_append, List.append_nil] at hh
    try simp only [List.append_assoc, List.cons_append, List.nil_append] at hh
    refine wl (wl_val hl rfl trivial (r_move hl rfl) ?_)
    clear hl a; intro a hl
    refine wl (wl_val hl rfl ⟨_, _, rfl, rfl, rfl⟩ (r_move hl rfl) ?_)
    clear hl a; intro a hl
    refine wl (wl_val hl rfl ⟨_, _, rfl, rfl, rfl⟩ (r_not hl rfl) ?_)
    clear hl a; intro a hl
    refine wl (wl_val hl rfl ⟨_, _, rfl, rfl, rfl⟩ (r_move hl rfl) ?_)
    clear hl a; intro a hl
    refine sl_split (t := 34) hl rfl ?_ ?_
    · intro hg1; clear hl; intro hl
      try simp only [decide_eq_true_eq, decide_eq_false_iff_not, Bool.not_eq_true', Bool.not_eq_false', Bool.not_eq_true, Bool.not_eq_false, Bool.and_eq_true, Bool.or_eq_true, Bool.and_eq_false_iff, Bool.or_eq_false_iff, Bool.not_not, ne_eq, Int.not_lt, Int.not_le, Decidable.not_not, beq_iff_eq, bne_iff_ne] at hg1
      refine wl (wl_skip hl rfl ⟨_, _, rfl, rfl, rfl⟩ ?_)
      clear hl a; intro a hl
      refine wl (wl_skip hl rfl ⟨_, _, rfl, rfl, rfl⟩ ?_)
      clear hl a; intro a hl
      refine wl (wl_skip hl rfl ⟨_, _, rfl, rfl, rfl⟩ ?_)
      clear hl a; intro a hl
      refine wl (wl_skip hl rfl ⟨_, _, rfl, rfl, rfl⟩ ?_)
      clear hl a; intro a hl
      refine wl (wl_skip hl rfl ⟨_, _, rfl, rfl, rfl⟩ ?_)
      clear hl a; intro a hl
      refine wl (wl_skip hl rfl ⟨_, _, rfl, rfl, rfl⟩ ?_)
      clear hl a; intro a hl
      refine wl (wl_skip hl rfl ⟨_, _, rfl, rfl, rfl⟩ ?_)
      clear hl a; intro a hl
      refine wl (wl_val hl rfl ⟨_, _, rfl, rfl, rfl⟩ (r_pickT hl rfl rfl) ?_)
      clear hl a; intro a hl
      refine wl (wl_val hl rfl trivial (r_pickT hl rfl rfl) ?_)
      clear hl a; intro a hl
      refine wl (wl_val hl rfl trivial (r_assign hl rfl) ?_)
      clear hl a; intro a hl
      refine w_nil ?_
      have hl2 := hl.add (t := 8) (hl.nil) rfl; clear hl; have hl := hl2; clear hl2
      refine then_normal ?_
      refine wp_ret ?_
      rw [show voC wb { V with pv := some s1, tk := 0 } = voC wb { V with pv := some s1, tk := 0, cm := cm9, rm := rm9 } from voc_cg rfl rfl rfl rfl rfl] at hh
      refine f_ret1 (F' := (lb, C (voC wb { V with pv := some s1, tk := 0, cm := cm9, rm := rm9 }) 50) :: ((s1.vE ++ (s1.iE ++ [(s1.vb, MO (kInt .u32) s1.vd)])) ++ ((V.yb, MO (kInt .u32) V.ym) :: ((V.cb, MO (kInt .u32) cm9) :: ((V.rb, MO (kInt .u32) rm9) ::  (((wb, C W.c 84) :: (W.tE ++ (W.gE ++ (DsF W.ds ++ W.GF Z)))) ++ Es)))))) hl hh rfl rfl (by repeat (first | exact keeps_nil | apply keeps_cons (by repeat (first | exact find_head | apply find_tail | apply find_skip)) (by first  | rfl) | exact keeps_self | exact keeps_left | apply keeps_app | apply keeps_mv | apply keeps_skip)) ?_
      refine ⟨by first | rfl | exact congrArg Value.bool (decide_eq_true (show s1.ph ≠ 1 by rw [hphs1]; exact hP (by assumption))), { V with pv := some s1, tk := 0, cm := cm9, rm := rm9 }, ⟨fun t ht => (by injection ht with ht; rw [← ht]; exact hs1), hV.yv, hco, hro, by simp⟩, rfl, ?_, ?_⟩
      · show VoX.mk _ _ _ _ _ = VoX.mk _ _ _ _ _
        rw [VoX.mk.injEq]
        exact ⟨hps1, rfl, funext hce, funext hre, rfl⟩
      · simp only [VoM.F, VoM.pE, StV.E_eq s1, WoV.F, List.append_assoc, List.cons_append, List.nil_append]
    · intro hg1; clear hl; intro hl
      try simp only [decide_eq_true_eq, decide_eq_false_iff_not, Bool.not_eq_true', Bool.not_eq_false', Bool.not_eq_true, Bool.not_eq_false, Bool.and_eq_true, Bool.or_eq_true, Bool.and_eq_false_iff, Bool.or_eq_false_iff, Bool.not_not, ne_eq, Int.not_lt, Int.not_le, Decidable.not_not, beq_iff_eq, bne_iff_ne] at hg1
      refine wl (wl_val hl rfl ⟨_, _, rfl, rfl, rfl⟩ (r_move hl rfl) ?_)
      clear hl a; intro a hl
      refine wl (wl_val hl rfl ⟨_, _, rfl, rfl, rfl⟩ (r_nilCheck hl rfl) ?_)
      clear hl a; intro a hl
      refine wl (wl_val hl rfl ⟨_, _, rfl, rfl, rfl⟩ (r_field hl rfl fld50_1) ?_)
      clear hl a; intro a hl
      refine wl (wl_val hl rfl ⟨_, _, rfl, rfl, rfl⟩ (r_field hl rfl fld48_3) ?_)
      clear hl a; intro a hl
      refine wl (wl_val hl rfl ⟨_, _, rfl, rfl, rfl⟩ (r_field hl rfl fld45_1) ?_)
      clear hl a; intro a hl
      refine wl (w_load hl hh rfl ⟨_, _, rfl, rfl, rfl⟩ one34 rfl (by repeat (first | exact find_head | apply find_tail | apply find_skip)) (by first | exact hcl | exact voc_ph (wb := wb) (s := s1) rfl | exact voc_w _ _ | exact voc_y _ _ | exact voc_c _ _ | exact voc_r _ _ | exact voc_t _ _ | exact stc_ph' _ | exact stc_fid' _ | exact stc_vd' _ | exact stc_ep' _ | exact stc_vs' _ | exact stc_is' _ | rfl) ?_)
      clear hl a; intro a hl
      refine wl (wl_val hl rfl ⟨_, _, rfl, rfl, rfl⟩ (r_neq hl rfl rfl) ?_)
      clear hl a; intro a hl
      refine wl (wl_val hl rfl ⟨_, _, rfl, rfl, rfl⟩ (r_pickF hl rfl rfl) ?_)
      clear hl a; intro a hl
      refine wl (wl_val hl rfl trivial (r_pickT hl rfl rfl) ?_)
      clear hl a; intro a hl
      refine wl (wl_val hl rfl trivial (r_assign hl rfl) ?_)
      clear hl a; intro a hl
      refine w_nil ?_
      have hl2 := hl.add (t := 8) (hl.nil) rfl; clear hl; have hl := hl2; clear hl2
      refine then_normal ?_
      refine wp_ret ?_
      rw [show voC wb { V with pv := some s1, tk := 0 } = voC wb { V with pv := some s1, tk := 0, cm := cm9, rm := rm9 } from voc_cg rfl rfl rfl rfl rfl] at hh
      refine f_ret1 (F' := (lb, C (voC wb { V with pv := some s1, tk := 0, cm := cm9, rm := rm9 }) 50) :: ((s1.vE ++ (s1.iE ++ [(s1.vb, MO (kInt .u32) s1.vd)])) ++ ((V.yb, MO (kInt .u32) V.ym) :: ((V.cb, MO (kInt .u32) cm9) :: ((V.rb, MO (kInt .u32) rm9) ::  (((wb, C W.c 84) :: (W.tE ++ (W.gE ++ (DsF W.ds ++ W.GF Z)))) ++ Es)))))) hl hh rfl rfl (by repeat (first | exact keeps_nil | apply keeps_cons (by repeat (first | exact find_head | apply find_tail | apply find_skip)) (by first  | rfl) | exact keeps_self | exact keeps_left | apply keeps_app | apply keeps_mv | apply keeps_skip)) ?_
      refine ⟨by first | rfl | exact congrArg Value.bool (decide_eq_true (show s1.ph ≠ 1 by rw [hphs1]; exact hP (by assumption))), { V with pv := some s1, tk := 0, cm := cm9, rm := rm9 }, ⟨fun t ht => (by injection ht with ht; rw [← ht]; exact hs1), hV.yv, hco, hro, by simp⟩, rfl, ?_, ?_⟩
      · show VoX.mk _ _ _ _ _ = VoX.mk _ _ _ _ _
        rw [VoX.mk.injEq]
        exact ⟨hps1, rfl, funext hce, funext hre, rfl⟩
      · simp only [VoM.F, VoM.pE, StV.E_eq s1, WoV.F, List.append_assoc, List.cons_append, List.nil_append]
end Go.Proofs.Qxb6500908a

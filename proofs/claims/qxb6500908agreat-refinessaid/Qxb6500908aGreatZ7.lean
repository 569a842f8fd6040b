import Derived.Test.Qxb6500908aGreatZ6
namespace Go.Proofs.Qxb6500908aGreat
open Go.Eng
set_option linter.unusedVariables false
set_option linter.unusedSimpArgs false
theorem fld82_6 : fieldOk Tryz.prog 82 6 106 = true := by kernel_rfl
theorem du_epok {Z : List (Nat × Obj)} {s : DuV} (h : s.ok Z) (hx : s.ep < 4294967295) : DuV.ok Z { s with ep := s.ep + 1 } :=
  ⟨by have := h.ep; simp only; omega, h.a, h.n, h.e, h.vo, h.vl, h.v1, h.i, h.io, h.il, h.fid, h.ph, h.fn, h.vd, h.vk⟩
theorem du_ep {s1 : DuV} {st : StP} (h : s1.pl = st) : DuV.pl { s1 with ep := s1.ep + 1 } = { st with ep := st.ep + 1 } := by subst h; rfl
theorem ops_1 {s : StP} (h : s.ph = 1) : opS s = setlP { s with ep := s.ep + 1 } false := by unfold opS; rw [if_pos h]
theorem ops_n {s : StP} (h : ¬ s.ph = 1) : opS s = { s with ep := s.ep + 1 } := by unfold opS; rw [if_neg h]
/-- what a recovery of the model leaves -/
def BtO (mb : Nat) (l : LdP) (Z : List (Nat × Obj)) (v : Value) (F' : List (Nat × Obj)) : Prop :=
  ((bootP l).1 = some (openG (opS l.d)) ∧ MdS mb (openG (opS l.d), (bootP l).2) Z v F') ∨ ((bootP l).1 = none ∧ v = .slice none 0 0 ∧ ∃ m', MdD Z m' (bootP l).2 ∧ F' = MF mb m' Z)
theorem btp_0 {l : LdP} {s : StP} (hs : opS l.d = s) {r : LdP} (h : storeP (rebP l) s = (r, 0)) : bootP l = (some (openG s), r) := by unfold bootP; rw [hs, h]; rfl
theorem btp_2 {l : LdP} {s : StP} (hs : opS l.d = s) {r : LdP} (h : storeP (rebP l) s = (r, 2)) : bootP l = (none, r) := by unfold bootP; rw [hs, h]; rfl

attribute [local irreducible] NtV.k StV.c LdV.c StV.E GtV.c GtV.t DuV.c DuV.E MdV.c MdV.t

set_option maxHeartbeats 4000000 in
theorem mboot_spec (Z : List (Nat × Obj)) (mb : Nat) (m : MdV) (l : LdP) (hm : MdD Z m l) (hep : l.d.ep < 4294967295) : Sp Tryz.prog 100 #[.pointer (some ⟨mb, 0, none⟩)] (MF mb m Z) (BtO mb l Z) := by
  refine f_enter (args := [.pointer (some ⟨mb, 0, none⟩)]) Tryz.func100 rfl Tryz.ntmps100 rfl ?_
  intro w0 w a hpre hl hh
  generalize hDD : List.map Prod.fst (MF mb m Z) = D at hh ⊢
  simp only [MF] at hh
  have hep1 : m.d.ep = l.d.ep := congrArg StP.ep hm.d
  have hep2 := hm.dok.ep
  simp only [slotsFrom, Nat.reduceAdd] at hl
  refine c_seq ?_
  refine c_region ?_
  refine wl (wl_val hl rfl trivial (r_assign hl rfl) ?_)
  clear hl a; intro a hl
  refine w_nil ?_
  have hl2 := hl.add (t := 0) (hl.nil) rfl; clear hl; have hl := hl2; clear hl2
  refine then_normal ?_
  refine c_seq ?_
  refine c_region ?_
  refine wl (wl_val hl rfl trivial (r_move hl rfl) ?_)
  clear hl a; intro a hl
  refine wl (wl_val hl rfl trivial (r_nilCheck hl rfl) ?_)
  clear hl a; intro a hl
  refine wl (wl_val hl rfl trivial (r_field hl rfl fld82_2) ?_)
  clear hl a; intro a hl
  refine wl (w_store hl hh trivial one79 rfl rfl (by repeat (first | exact find_head | apply find_tail | apply find_skip)) (by first | (simp; done) | (simp; omega) | (rw [mdc_len]; omega) | (rw [mdc_len]; simp; done) | (rw [duc_len]; omega) | (rw [duc_len]; simp; done)) (by first | rfl | assumption | (apply Row.one; assumption)) (by first | exact mdc_sup _ _ | exact mdc_stk _ _ | exact mdc_sau _ _ | exact mdc_sfl _ _ | exact mdc_sfu _ _ | exact mdc_skp _ _ | exact mdc_sq _ none [] 0 [] | exact mdc_srf _ (some k8) [(k8, MD (kInt .u32) [] 0)] | exact duc_sep _ _ | exact duc_sph _ _ | (simp only [setL, List.getElem?_cons_zero, List.getElem?_cons_succ, Value.cells, List.take_zero, List.take_succ_cons, List.take_nil, List.drop_zero, List.drop_succ_cons, List.drop_nil, List.length_cons, List.length_nil, List.cons_append, List.nil_append, List.append_nil, Nat.zero_add, Nat.add_zero, Nat.reduceAdd, Nat.reduceBEq, Nat.reduceEqDiff, Nat.ble, BEq.rfl, Bool.and_true, Bool.and_self, cond_true, beq_self_eq_true]; rfl)) ?_)
  clear hh w; intro w hh
  refine w_nil ?_
  have hl2 := hl.add (t := 0) (hl.nil) rfl; clear hl; have hl := hl2; clear hl2
  refine then_normal ?_
  refine c_seq ?_
  refine c_region ?_
  refine wl (wl_val hl rfl trivial (r_move hl rfl) ?_)
  clear hl a; intro a hl
  refine wl (w_makeMapD (kInt .u32) hl hh rfl trivial ?_)
  clear hl hh a w; intro k8 a w hl hh
  refine wl (wl_val hl rfl trivial (r_nilCheck hl rfl) ?_)
  clear hl a; intro a hl
  refine wl (wl_val hl rfl trivial (r_field hl rfl fld82_3) ?_)
  clear hl a; intro a hl
  refine wl (w_store hl hh trivial one74 rfl rfl (by repeat (first | exact find_head | apply find_tail | apply find_skip)) (by first | (simp; done) | (simp; omega) | (rw [mdc_len]; omega) | (rw [mdc_len]; simp; done) | (rw [duc_len]; omega) | (rw [duc_len]; simp; done)) (by first | rfl | assumption | (apply Row.one; assumption)) (by first | exact mdc_sup _ _ | exact mdc_stk _ _ | exact mdc_sau _ _ | exact mdc_sfl _ _ | exact mdc_sfu _ _ | exact mdc_skp _ _ | exact mdc_sq _ none [] 0 [] | exact mdc_srf _ (some k8) [(k8, MD (kInt .u32) [] 0)] | exact duc_sep _ _ | exact duc_sph _ _ | (simp only [setL, List.getElem?_cons_zero, List.getElem?_cons_succ, Value.cells, List.take_zero, List.take_succ_cons, List.take_nil, List.drop_zero, List.drop_succ_cons, List.drop_nil, List.length_cons, List.length_nil, List.cons_append, List.nil_append, List.append_nil, Nat.zero_add, Nat.add_zero, Nat.reduceAdd, Nat.reduceBEq, Nat.reduceEqDiff, Nat.ble, BEq.rfl, Bool.and_true, Bool.and_self, cond_true, beq_self_eq_true]; rfl)) ?_)
  clear hh w; intro w hh
  refine w_nil ?_
  have hl2 := hl.add (t := 0) (hl.nil) rfl; clear hl; have hl := hl2; clear hl2
  refine then_normal ?_
  refine c_seq ?_
  refine c_region ?_
  refine wl (wl_val hl rfl trivial (r_move hl rfl) ?_)
  clear hl a; intro a hl
  refine wl (wl_val hl rfl trivial (r_build hl rfl zero80 bld80 (by simp only [fillL, setL, List.getElem?_cons_zero, List.getElem?_cons_succ, Value.cells, List.take_zero, List.take_succ_cons, List.take_nil, List.drop_zero, List.drop_succ_cons, List.drop_nil, List.length_cons, List.length_nil, List.cons_append, List.nil_append, List.append_nil, Nat.zero_add, Nat.add_zero, Nat.reduceAdd, Nat.reduceBEq, Nat.reduceEqDiff, Nat.ble, BEq.rfl, Bool.and_true, Bool.and_self, cond_true, beq_self_eq_true]; rfl)) ?_)
  clear hl a; intro a hl
  refine wl (wl_val hl rfl trivial (r_nilCheck hl rfl) ?_)
  clear hl a; intro a hl
  refine wl (wl_val hl rfl trivial (r_field hl rfl fld82_4) ?_)
  clear hl a; intro a hl
  refine wl (w_storeA hl hh trivial agg80 rfl rfl (by repeat (first | exact find_head | apply find_tail | apply find_skip)) (by rfl) (by first | (rw [mdc_len]; omega) | exact Nat.le_refl 16) (by rfl) (by first | exact mdc_sy _ (fun _ => false) | exact mdc_sdf _ (fun _ => false) | exact setL_all rfl) ?_)
  clear hh w; intro w hh
  refine w_nil ?_
  have hl2 := hl.add (t := 0) (hl.nil) rfl; clear hl; have hl := hl2; clear hl2
  refine then_normal ?_
  refine c_seq ?_
  refine c_region ?_
  refine wl (wl_val hl rfl trivial (r_move hl rfl) ?_)
  clear hl a; intro a hl
  refine wl (wl_val hl rfl trivial (r_build hl rfl zero80 bld80 (by simp only [fillL, setL, List.getElem?_cons_zero, List.getElem?_cons_succ, Value.cells, List.take_zero, List.take_succ_cons, List.take_nil, List.drop_zero, List.drop_succ_cons, List.drop_nil, List.length_cons, List.length_nil, List.cons_append, List.nil_append, List.append_nil, Nat.zero_add, Nat.add_zero, Nat.reduceAdd, Nat.reduceBEq, Nat.reduceEqDiff, Nat.ble, BEq.rfl, Bool.and_true, Bool.and_self, cond_true, beq_self_eq_true]; rfl)) ?_)
  clear hl a; intro a hl
  refine wl (wl_val hl rfl trivial (r_nilCheck hl rfl) ?_)
  clear hl a; intro a hl
  refine wl (wl_val hl rfl trivial (r_field hl rfl fld82_5) ?_)
  clear hl a; intro a hl
  refine wl (w_storeA hl hh trivial agg80 rfl rfl (by repeat (first | exact find_head | apply find_tail | apply find_skip)) (by rfl) (by first | (rw [mdc_len]; omega) | exact Nat.le_refl 16) (by rfl) (by first | exact mdc_sy _ (fun _ => false) | exact mdc_sdf _ (fun _ => false) | exact setL_all rfl) ?_)
  clear hh w; intro w hh
  refine w_nil ?_
  have hl2 := hl.add (t := 0) (hl.nil) rfl; clear hl; have hl := hl2; clear hl2
  refine then_normal ?_
  refine c_seq ?_
  refine c_region ?_
  refine wl (wl_val hl rfl trivial (r_move hl rfl) ?_)
  clear hl a; intro a hl
  refine wl (wl_val hl rfl trivial (r_nilCheck hl rfl) ?_)
  clear hl a; intro a hl
  refine wl (wl_val hl rfl trivial (r_field hl rfl fld82_6) ?_)
  clear hl a; intro a hl
  refine wl (w_store hl hh trivial one3 rfl rfl (by repeat (first | exact find_head | apply find_tail | apply find_skip)) (by first | (simp; done) | (simp; omega) | (rw [mdc_len]; omega) | (rw [mdc_len]; simp; done) | (rw [duc_len]; omega) | (rw [duc_len]; simp; done)) (by first | rfl | assumption | (apply Row.one; assumption)) (by first | exact mdc_sup _ _ | exact mdc_stk _ _ | exact mdc_sau _ _ | exact mdc_sfl _ _ | exact mdc_sfu _ _ | exact mdc_skp _ _ | exact mdc_sq _ none [] 0 [] | exact mdc_srf _ (some k8) [(k8, MD (kInt .u32) [] 0)] | exact duc_sep _ _ | exact duc_sph _ _ | (simp only [setL, List.getElem?_cons_zero, List.getElem?_cons_succ, Value.cells, List.take_zero, List.take_succ_cons, List.take_nil, List.drop_zero, List.drop_succ_cons, List.drop_nil, List.length_cons, List.length_nil, List.cons_append, List.nil_append, List.append_nil, Nat.zero_add, Nat.add_zero, Nat.reduceAdd, Nat.reduceBEq, Nat.reduceEqDiff, Nat.ble, BEq.rfl, Bool.and_true, Bool.and_self, cond_true, beq_self_eq_true]; rfl)) ?_)
  clear hh w; intro w hh
  refine w_nil ?_
  have hl2 := hl.add (t := 0) (hl.nil) rfl; clear hl; have hl := hl2; clear hl2
  refine then_normal ?_
  refine c_seq ?_
  refine c_region ?_
  refine wl (wl_val hl rfl trivial (r_move hl rfl) ?_)
  clear hl a; intro a hl
  refine wl (wl_val hl rfl trivial (r_nilCheck hl rfl) ?_)
  clear hl a; intro a hl
  refine wl (wl_val hl rfl trivial (r_field hl rfl fld82_0) ?_)
  clear hl a; intro a hl
  refine wl (w_loadA hl hh rfl trivial agg78 rfl (by repeat (first | exact find_head | apply find_tail | apply find_skip)) (by first | exact duc_all _ | exact mdc_d _) (by exact duc_len _) ?_)
  clear hl a; intro a hl
  refine wl (w_call hl hh rfl trivial rfl cal115 rfl (copy_spec Z m.d hm.dok) (by repeat (first | exact keeps_nil | apply keeps_cons (by repeat (first | exact find_head | apply find_tail | apply find_skip)) (by first  | rfl) | exact keeps_self | exact keeps_left | apply keeps_app | apply keeps_mv | apply keeps_skip)) trivial ?_)
  clear hl hh a w; intro vc Fc a w hR hl hh
  obtain ⟨s1, hs1, hps1, rfl, rfl⟩ := hR
  try simp only [List.cons_append, List.nil_append, List.append_assoc, List.append_nil] at hh
  rw [DuV.E_eq s1] at hh
  try simp only [List.append_assoc, List.cons_append, List.nil_append] at hh
  have hs9 : s1.pl = l.d := hps1.trans hm.d
  have hep3 : s1.ep = l.d.ep := congrArg StP.ep hs9
  refine wl (w_alloc hl hh rfl trivial zero78 rfl ?_)
  clear hl hh a w; intro k3 a w hl hh
  refine wl (w_storeA hl hh trivial agg78 rfl rfl (by repeat (first | exact find_head | apply find_tail | apply find_skip)) (by exact duc_len _) (by first | exact Nat.le_refl 71 | (rw [mdc_len]; omega)) (by exact duc_one _) (by first | exact setL_all (show 71 = _ from (duc_len _).symm) | exact mdc_sd _ _) ?_)
  clear hh w; intro w hh
  refine w_nil ?_
  have hl2 := hl.add (t := 0) (hl.add (t := 3) (hl.nil) rfl) rfl; clear hl; have hl := hl2; clear hl2
  refine then_normal ?_
  refine c_seq ?_
  refine c_region ?_
  refine wl (wl_val hl rfl trivial (r_field hl rfl fld78_0) ?_)
  clear hl a; intro a hl
  refine wl (w_load hl hh rfl trivial one36 rfl (by repeat (first | exact find_head | apply find_tail | apply find_skip)) (by first | exact mdc_ep _ | exact mdc_a _ | exact mdc_n _ | exact mdc_i _ | exact mdc_ph _ | exact mdc_fid _ | exact mdc_vd _ | exact mdc_up _ | exact mdc_q _ | exact mdc_rf _ | exact mdc_tk _ | exact mdc_au _ | exact mdc_fl _ | exact mdc_fu _ | exact mdc_kp _ | exact duc_ep _ | exact duc_a _ | exact duc_n _ | exact duc_i _ | exact duc_ph _ | exact duc_fid _ | exact duc_vd _ | rfl) ?_)
  clear hl a; intro a hl
  first | refine wl (wl_val hl rfl trivial (r_add hl rfl rfl (by simp only [Fits]; omega)) ?_) | refine wl (wl_val hl rfl trivial (r_addW hl rfl rfl) ?_)
  clear hl a; intro a hl
  refine wl (wl_val hl rfl trivial (r_field hl rfl fld78_0) ?_)
  clear hl a; intro a hl
  refine wl (w_store hl hh trivial one36 rfl rfl (by repeat (first | exact find_head | apply find_tail | apply find_skip)) (by first | (simp; done) | (simp; omega) | (rw [mdc_len]; omega) | (rw [mdc_len]; simp; done) | (rw [duc_len]; omega) | (rw [duc_len]; simp; done)) (by first | rfl | assumption | (apply Row.one; assumption)) (by first | exact mdc_sup _ _ | exact mdc_stk _ _ | exact mdc_sau _ _ | exact mdc_sfl _ _ | exact mdc_sfu _ _ | exact mdc_skp _ _ | exact mdc_sq _ none [] 0 [] | exact mdc_srf _ (some k8) [(k8, MD (kInt .u32) [] 0)] | exact duc_sep _ _ | exact duc_sph _ _ | (simp only [setL, List.getElem?_cons_zero, List.getElem?_cons_succ, Value.cells, List.take_zero, List.take_succ_cons, List.take_nil, List.drop_zero, List.drop_succ_cons, List.drop_nil, List.length_cons, List.length_nil, List.cons_append, List.nil_append, List.append_nil, Nat.zero_add, Nat.add_zero, Nat.reduceAdd, Nat.reduceBEq, Nat.reduceEqDiff, Nat.ble, BEq.rfl, Bool.and_true, Bool.and_self, cond_true, beq_self_eq_true]; rfl)) ?_)
  clear hh w; intro w hh
  refine w_nil ?_
  have hl2 := hl.add (t := 0) (hl.add (t := 3) (hl.nil) rfl) rfl; clear hl; have hl := hl2; clear hl2
  refine then_normal ?_
  refine c_seq ?_
  refine c_seq ?_
  refine c_region ?_
  refine wl (wl_val hl rfl trivial (r_field hl rfl fld78_4) ?_)
  clear hl a; intro a hl
  refine wl (w_load hl hh rfl trivial one76 rfl (by repeat (first | exact find_head | apply find_tail | apply find_skip)) (by first | exact mdc_ep _ | exact mdc_a _ | exact mdc_n _ | exact mdc_i _ | exact mdc_ph _ | exact mdc_fid _ | exact mdc_vd _ | exact mdc_up _ | exact mdc_q _ | exact mdc_rf _ | exact mdc_tk _ | exact mdc_au _ | exact mdc_fl _ | exact mdc_fu _ | exact mdc_kp _ | exact duc_ep _ | exact duc_a _ | exact duc_n _ | exact duc_i _ | exact duc_ph _ | exact duc_fid _ | exact duc_vd _ | rfl) ?_)
  clear hl a; intro a hl
  refine wl (wl_val hl rfl trivial (r_eql hl rfl rfl) ?_)
  clear hl a; intro a hl
  refine w_nil ?_
  have hl2 := hl.add (t := 0) (hl.add (t := 3) (hl.add (t := 33) (hl.nil) rfl) rfl) rfl; clear hl; have hl := hl2; clear hl2
  refine then_normal ?_
  refine c_cond hl rfl ?_ ?_
  · intro hc0
    try simp only [decide_eq_true_eq, decide_eq_false_iff_not, Bool.not_eq_true', Bool.not_eq_false', Bool.not_eq_true, Bool.not_eq_false, Bool.and_eq_true, Bool.or_eq_true, Bool.and_eq_false_iff, Bool.or_eq_false_iff, Bool.not_not, ne_eq, Int.not_lt, Int.not_le, Decidable.not_not, beq_iff_eq, bne_iff_ne] at hc0
    refine c_seq ?_
    refine c_region ?_
    refine wl (wl_val hl rfl trivial (r_field hl rfl fld78_4) ?_)
    clear hl a; intro a hl
    refine wl (w_store hl hh trivial one76 rfl rfl (by repeat (first | exact find_head | apply find_tail | apply find_skip)) (by first | (simp; done) | (simp; omega) | (rw [mdc_len]; omega) | (rw [mdc_len]; simp; done) | (rw [duc_len]; omega) | (rw [duc_len]; simp; done)) (by first | rfl | assumption | (apply Row.one; assumption)) (by first | exact mdc_sup _ _ | exact mdc_stk _ _ | exact mdc_sau _ _ | exact mdc_sfl _ _ | exact mdc_sfu _ _ | exact mdc_skp _ _ | exact mdc_sq _ none [] 0 [] | exact mdc_srf _ (some k8) [(k8, MD (kInt .u32) [] 0)] | exact duc_sep _ _ | exact duc_sph _ _ | (simp only [setL, List.getElem?_cons_zero, List.getElem?_cons_succ, Value.cells, List.take_zero, List.take_succ_cons, List.take_nil, List.drop_zero, List.drop_succ_cons, List.drop_nil, List.length_cons, List.length_nil, List.cons_append, List.nil_append, List.append_nil, Nat.zero_add, Nat.add_zero, Nat.reduceAdd, Nat.reduceBEq, Nat.reduceEqDiff, Nat.ble, BEq.rfl, Bool.and_true, Bool.and_self, cond_true, beq_self_eq_true]; rfl)) ?_)
    clear hh w; intro w hh
    refine w_nil ?_
    have hl2 := hl.add (t := 0) (hl.add (t := 3) (hl.nil) rfl) rfl; clear hl; have hl := hl2; clear hl2
    refine then_normal ?_
    refine c_region ?_
    refine wl (wl_val hl rfl trivial (r_field hl rfl fld78_7) ?_)
    clear hl a; intro a hl
    refine wl (w_load hl hh rfl trivial one74 rfl (by repeat (first | exact find_head | apply find_tail | apply find_skip)) (by first | exact mdc_ep _ | exact mdc_a _ | exact mdc_n _ | exact mdc_i _ | exact mdc_ph _ | exact mdc_fid _ | exact mdc_vd _ | exact mdc_up _ | exact mdc_q _ | exact mdc_rf _ | exact mdc_tk _ | exact mdc_au _ | exact mdc_fl _ | exact mdc_fu _ | exact mdc_kp _ | exact duc_ep _ | exact duc_a _ | exact duc_n _ | exact duc_i _ | exact duc_ph _ | exact duc_fid _ | exact duc_vd _ | rfl) ?_)
    clear hl a; intro a hl
    refine wl (wl_val hl rfl trivial (r_field hl rfl fld78_5) ?_)
    clear hl a; intro a hl
    refine wl (w_load hl hh rfl trivial one36 rfl (by repeat (first | exact find_head | apply find_tail | apply find_skip)) (by first | exact mdc_ep _ | exact mdc_a _ | exact mdc_n _ | exact mdc_i _ | exact mdc_ph _ | exact mdc_fid _ | exact mdc_vd _ | exact mdc_up _ | exact mdc_q _ | exact mdc_rf _ | exact mdc_tk _ | exact mdc_au _ | exact mdc_fl _ | exact mdc_fu _ | exact mdc_kp _ | exact duc_ep _ | exact duc_a _ | exact duc_n _ | exact duc_i _ | exact duc_ph _ | exact duc_fid _ | exact duc_vd _ | rfl) ?_)
    clear hl a; intro a hl
    refine wl (w_mapUpdate (keyInt Tryz.underlying36) Tryz.underlying74 hl hh trivial rfl rfl rfl (by repeat (first | exact find_head | apply find_tail | apply find_skip)) ?_)
    clear hh w; intro w hh
    refine w_nil ?_
    have hl2 := hl.add (t := 0) (hl.add (t := 3) (hl.nil) rfl) rfl; clear hl; have hl := hl2; clear hl2
    obtain ⟨s2, vd2, hs2, hvd2⟩ : ∃ (s2 : DuV) (vd2 : List (Int × Value)), s2 = { s1 with ep := s1.ep + 1, ph := 3, vd := vd2 } ∧ vd2 = mput s1.vd s1.fid (.int .u8 4) := ⟨_, _, rfl, rfl⟩
    have hc2 : DuV.c { s1 with ep := s1.ep + 1, ph := 3 } = s2.c := by rw [hs2]; exact (duc_vdl _ vd2).symm
    rw [hc2, ← hvd2] at hh
    have hE2 : s2.E = s1.aE ++ (s1.nE ++ (s1.iE ++ [(s1.vb, MO (kInt .u32) vd2)])) := by rw [hs2]; exact DuV.E_eq _
    have hso : s2.ok Z := by rw [hs2, hvd2]; exact du_vdok (du_epok hs1 (by omega)) (by omega) _ (by omega)
    have hp2 : ¬ s2.ph = 1 := by rw [hs2]; simp
    have hnx : opS l.d = s2.pl := by rw [ops_1 (by rw [← hs9]; exact hc0), hs2, hvd2]; exact (du_setl (s1 := { s1 with ep := s1.ep + 1 }) (du_ep hs9) false).symm
    refine then_normal ?_
    refine c_seq ?_
    refine c_seq ?_
    refine c_region ?_
    refine wl (wl_val hl rfl trivial (r_move hl rfl) ?_)
    clear hl a; intro a hl
    refine wl (w_loadA hl hh rfl trivial agg78 rfl (by repeat (first | exact find_head | apply find_tail | apply find_skip)) (by first | exact duc_all _ | exact mdc_d _) (by exact duc_len _) ?_)
    clear hl a; intro a hl
    refine wl (w_call hl hh rfl trivial rfl cal116 rfl (write3 mb { m with q := [], qp := none, qc := 0, qE := [], rb := some k8, rE := [(k8, MD (kInt .u32) [] 0)], yf := fun _ => false, df := fun _ => false, tk := 0 } s2 (rebP l) rfl hm.fl hm.fu hm.kp hm.d hm.fb) (by repeat (first | exact keeps_nil | apply keeps_cons (by repeat (first | exact find_head | apply find_tail | apply find_skip)) (by first  | rfl) | exact keeps_self | exact keeps_left | apply keeps_app | apply keeps_mv | apply keeps_skip)) trivial ?_)
    clear hl hh a w; intro vc Fc a w hR hl hh
    rcases hR with ⟨f, hr, hf, rfl, rfl⟩ | ⟨hr, rfl, rfl⟩ | ⟨hr, rfl, rfl⟩
    ·
      try simp only [List.cons_append, List.nil_append, List.append_nil] at hh
      try simp only [List.append_assoc, List.cons_append, List.nil_append] at hh
      refine wl (wl_val hl rfl trivial (r_neq hl rfl rfl) ?_)
      clear hl a; intro a hl
      refine w_nil ?_
      have hl2 := hl.add (t := 0) (hl.add (t := 42) (hl.nil) rfl) rfl; clear hl; have hl := hl2; clear hl2
      refine then_normal ?_
      refine c_condF hl rfl ?_
      refine wp_skip ?_
      refine then_normal ?_
      refine c_seq ?_
      refine c_region ?_
      refine wl (wl_val hl rfl trivial (r_move hl rfl) ?_)
      clear hl a; intro a hl
      refine wl (wl_val hl rfl trivial (r_nilCheck hl rfl) ?_)
      clear hl a; intro a hl
      refine wl (wl_val hl rfl trivial (r_field hl rfl fld82_1) ?_)
      clear hl a; intro a hl
      refine wl (w_store hl hh trivial one4 rfl rfl (by repeat (first | exact find_head | apply find_tail | apply find_skip)) (by first | (simp; done) | (simp; omega) | (rw [mdc_len]; omega) | (rw [mdc_len]; simp; done) | (rw [duc_len]; omega) | (rw [duc_len]; simp; done)) (by first | rfl | assumption | (apply Row.one; assumption)) (by first | exact mdc_sup _ _ | exact mdc_stk _ _ | exact mdc_sau _ _ | exact mdc_sfl _ _ | exact mdc_sfu _ _ | exact mdc_skp _ _ | exact mdc_sq _ none [] 0 [] | exact mdc_srf _ (some k8) [(k8, MD (kInt .u32) [] 0)] | exact duc_sep _ _ | exact duc_sph _ _ | (simp only [setL, List.getElem?_cons_zero, List.getElem?_cons_succ, Value.cells, List.take_zero, List.take_succ_cons, List.take_nil, List.drop_zero, List.drop_succ_cons, List.drop_nil, List.length_cons, List.length_nil, List.cons_append, List.nil_append, List.append_nil, Nat.zero_add, Nat.add_zero, Nat.reduceAdd, Nat.reduceBEq, Nat.reduceEqDiff, Nat.ble, BEq.rfl, Bool.and_true, Bool.and_self, cond_true, beq_self_eq_true]; rfl)) ?_)
      clear hh w; intro w hh
      refine w_nil ?_
      have hl2 := hl.add (t := 0) (hl.nil) rfl; clear hl; have hl := hl2; clear hl2
      refine then_normal ?_
      refine c_seq ?_
      refine c_region ?_
      refine wl (wl_val hl rfl trivial (r_move hl rfl) ?_)
      clear hl a; intro a hl
      refine wl (wl_val hl rfl trivial (r_move hl rfl) ?_)
      clear hl a; intro a hl
      refine wl (wl_val hl rfl trivial (r_nilCheck hl rfl) ?_)
      clear hl a; intro a hl
      refine wl (wl_val hl rfl trivial (r_field hl rfl fld82_0) ?_)
      clear hl a; intro a hl
      refine wl (wl_val hl rfl trivial (r_field hl rfl fld78_4) ?_)
      clear hl a; intro a hl
      refine wl (w_load hl hh rfl trivial one76 rfl (by repeat (first | exact find_head | apply find_tail | apply find_skip)) (by first | exact mdc_ep _ | exact mdc_a _ | exact mdc_n _ | exact mdc_i _ | exact mdc_ph _ | exact mdc_fid _ | exact mdc_vd _ | exact mdc_up _ | exact mdc_q _ | exact mdc_rf _ | exact mdc_tk _ | exact mdc_au _ | exact mdc_fl _ | exact mdc_fu _ | exact mdc_kp _ | exact duc_ep _ | exact duc_a _ | exact duc_n _ | exact duc_i _ | exact duc_ph _ | exact duc_fid _ | exact duc_vd _ | rfl) ?_)
      clear hl a; intro a hl
      refine wl (wl_val hl rfl trivial (r_neq hl rfl rfl) ?_)
      clear hl a; intro a hl
      refine wl (wl_val hl rfl trivial (r_nilCheck hl rfl) ?_)
      clear hl a; intro a hl
      refine wl (wl_val hl rfl trivial (r_field hl rfl fld82_7) ?_)
      clear hl a; intro a hl
      refine wl (w_store hl hh trivial one4 rfl rfl (by repeat (first | exact find_head | apply find_tail | apply find_skip)) (by first | (simp; done) | (simp; omega) | (rw [mdc_len]; omega) | (rw [mdc_len]; simp; done) | (rw [duc_len]; omega) | (rw [duc_len]; simp; done)) (by first | rfl | assumption | (apply Row.one; assumption)) (by first | exact mdc_sup _ _ | exact mdc_stk _ _ | exact mdc_sau _ _ | exact mdc_sfl _ _ | exact mdc_sfu _ _ | exact mdc_skp _ _ | exact mdc_sq _ none [] 0 [] | exact mdc_srf _ (some k8) [(k8, MD (kInt .u32) [] 0)] | exact duc_sep _ _ | exact duc_sph _ _ | (simp only [setL, List.getElem?_cons_zero, List.getElem?_cons_succ, Value.cells, List.take_zero, List.take_succ_cons, List.take_nil, List.drop_zero, List.drop_succ_cons, List.drop_nil, List.length_cons, List.length_nil, List.cons_append, List.nil_append, List.append_nil, Nat.zero_add, Nat.add_zero, Nat.reduceAdd, Nat.reduceBEq, Nat.reduceEqDiff, Nat.ble, BEq.rfl, Bool.and_true, Bool.and_self, cond_true, beq_self_eq_true]; rfl)) ?_)
      clear hh w; intro w hh
      refine w_nil ?_
      have hl2 := hl.add (t := 0) (hl.nil) rfl; clear hl; have hl := hl2; clear hl2
      refine then_normal ?_
      refine c_seq ?_
      refine c_region ?_
      refine wl (wl_val hl rfl trivial (r_move hl rfl) ?_)
      clear hl a; intro a hl
      refine wl (w_call hl hh rfl trivial rfl cal117 rfl (due_spec Z mb { m with q := [], qp := none, qc := 0, qE := [], rb := some k8, rE := [(k8, MD (kInt .u32) [] 0)], yf := fun _ => false, df := fun _ => false, tk := 0, d := s2, fu := f, up := true, au := decide (s2.ph ≠ 0) } hso.fn hso.ph) (by repeat (first | exact keeps_nil | apply keeps_cons (by repeat (first | exact find_head | apply find_tail | apply find_skip)) (by first  | rfl) | exact keeps_self | exact keeps_left | apply keeps_app | apply keeps_mv | apply keeps_skip)) trivial ?_)
      clear hl hh a w; intro vc Fc a w hR hl hh
      obtain ⟨p6, c6, E6, hR6, rfl, rfl⟩ := hR
      try simp only [List.cons_append, List.nil_append, List.append_assoc, List.append_nil] at hh
      refine wl (wl_val hl rfl trivial (r_assign hl rfl) ?_)
      clear hl a; intro a hl
      refine w_nil ?_
      have hl2 := hl.add (t := 2) (hl.nil) rfl; clear hl; have hl := hl2; clear hl2
      refine then_normal ?_
      refine wp_ret ?_
      refine f_ret1 (F' := E6 ++ ((mb, C (MdV.c { m with q := [], qp := none, qc := 0, qE := [], rb := some k8, rE := [(k8, MD (kInt .u32) [] 0)], yf := fun _ => false, df := fun _ => false, tk := 0, d := s2, fu := f, up := true, au := decide (s2.ph ≠ 0) }) 82) :: ((s1.aE ++ (s1.nE ++ (s1.iE ++ [(s1.vb, MO (kInt .u32) vd2)]))) ++ ((k8, MD (kInt .u32) [] 0) :: Z)))) hl hh rfl rfl (by repeat (first | exact keeps_nil | apply keeps_cons (by repeat (first | exact find_head | apply find_tail | apply find_skip)) (by first  | rfl) | exact keeps_self | exact keeps_left | apply keeps_app | apply keeps_mv | apply keeps_skip)) ?_
      have hdu : dueM { m with q := [], qp := none, qc := 0, qE := [], rb := some k8, rE := [(k8, MD (kInt .u32) [] 0)], yf := fun _ => false, df := fun _ => false, tk := 0, d := s2, fu := f, up := true, au := decide (s2.ph ≠ 0) } = pushP (gt0 s2.pl) := due_push rfl (fun d hd => (bit0 d hd).symm) (fun d hd => (bit0 d hd).symm) decide_not (fun h9 => absurd (show s2.ph = 1 from h9) hp2)
      refine .inl ⟨by rw [btp_0 hnx hr, hnx], ?_⟩
      rw [btp_0 hnx hr, hnx]
      refine MdS.of (m' := { m with q := [], qp := none, qc := 0, qE := [], rb := some k8, rE := [(k8, MD (kInt .u32) [] 0)], yf := fun _ => false, df := fun _ => false, tk := 0, d := s2, fu := f, up := true, au := decide (s2.ph ≠ 0) }) (show pushP (gt0 s2.pl) = _ from hdu.symm) hR6 (due_sz hso.fn) ?_ (by unfold MF; rw [hE2]; try simp only [List.append_assoc, List.cons_append, List.nil_append])
      exact ⟨hso, rfl, rfl, .inl ⟨rfl, rfl, rfl, rfl⟩, fun x hx => (by cases hx), rfl, ⟨k8, [], 0, rfl, rfl, fun i v e => (by cases e), List.nodup_nil, rfl⟩, fun d hd => (bit0 d hd).symm, fun d hd => (bit0 d hd).symm, rfl, decide_not, hm.fl, rfl, hm.kp, hf⟩
    ·
      try simp only [List.cons_append, List.nil_append, List.append_nil] at hh
      try simp only [List.append_assoc, List.cons_append, List.nil_append] at hh
      refine wl (wl_val hl rfl trivial (r_neq hl rfl rfl) ?_)
      clear hl a; intro a hl
      refine w_nil ?_
      have hl2 := hl.add (t := 0) (hl.add (t := 42) (hl.nil) rfl) rfl; clear hl; have hl := hl2; clear hl2
      refine then_normal ?_
      refine c_condT hl rfl ?_
      refine c_seq ?_
      refine c_region ?_
      refine wl (wl_val hl rfl trivial (r_assign hl rfl) ?_)
      clear hl a; intro a hl
      refine w_nil ?_
      have hl2 := hl.add (t := 2) (hl.nil) rfl; clear hl; have hl := hl2; clear hl2
      refine then_normal ?_
      refine wp_ret ?_
      refine then_ret ?_
      first
      | (refine f_ret1 (F' := (mb, C (MdV.c { m with q := [], qp := none, qc := 0, qE := [], rb := some k8, rE := [(k8, MD (kInt .u32) [] 0)], yf := fun _ => false, df := fun _ => false, tk := 0, d := s2, fu := 0, up := false }) 82) :: ((s1.aE ++ (s1.nE ++ (s1.iE ++ [(s1.vb, MO (kInt .u32) vd2)]))) ++ ((k8, MD (kInt .u32) [] 0) :: Z))) hl hh rfl rfl (by repeat (first | exact keeps_nil | apply keeps_cons (by repeat (first | exact find_head | apply find_tail | apply find_skip)) (by first  | rfl) | exact keeps_self | exact keeps_left | apply keeps_app | apply keeps_mv | apply keeps_skip)) ?_; refine .inr ⟨by rw [btp_2 hnx hr], rfl, { m with q := [], qp := none, qc := 0, qE := [], rb := some k8, rE := [(k8, MD (kInt .u32) [] 0)], yf := fun _ => false, df := fun _ => false, tk := 0, d := s2, fu := 0, up := false }, ?_, (by unfold MF; rw [hE2]; try simp only [List.append_assoc, List.cons_append, List.nil_append])⟩; rw [btp_2 hnx hr]; exact ⟨hso, rfl, rfl, hm.fl, rfl, hm.kp, (by simp)⟩)
      | (refine f_ret1 (F' := (mb, C (MdV.c { m with q := [], qp := none, qc := 0, qE := [], rb := some k8, rE := [(k8, MD (kInt .u32) [] 0)], yf := fun _ => false, df := fun _ => false, tk := 0, fu := 0, up := false }) 82) :: (m.d.E ++ ((k8, MD (kInt .u32) [] 0) :: Z))) hl hh rfl rfl (by repeat (first | exact keeps_nil | apply keeps_cons (by repeat (first | exact find_head | apply find_tail | apply find_skip)) (by first  | rfl) | exact keeps_self | exact keeps_left | apply keeps_app | apply keeps_mv | apply keeps_skip)) ?_; refine .inr ⟨by rw [btp_2 hnx hr], rfl, { m with q := [], qp := none, qc := 0, qE := [], rb := some k8, rE := [(k8, MD (kInt .u32) [] 0)], yf := fun _ => false, df := fun _ => false, tk := 0, fu := 0, up := false }, ?_, rfl⟩; rw [btp_2 hnx hr]; exact ⟨hm.dok, hm.d, rfl, hm.fl, rfl, hm.kp, (by simp)⟩)
    ·
      try simp only [List.cons_append, List.nil_append, List.append_nil] at hh
      try simp only [List.append_assoc, List.cons_append, List.nil_append] at hh
      refine wl (wl_val hl rfl trivial (r_neq hl rfl rfl) ?_)
      clear hl a; intro a hl
      refine w_nil ?_
      have hl2 := hl.add (t := 0) (hl.add (t := 42) (hl.nil) rfl) rfl; clear hl; have hl := hl2; clear hl2
      refine then_normal ?_
      refine c_condT hl rfl ?_
      refine c_seq ?_
      refine c_region ?_
      refine wl (wl_val hl rfl trivial (r_assign hl rfl) ?_)
      clear hl a; intro a hl
      refine w_nil ?_
      have hl2 := hl.add (t := 2) (hl.nil) rfl; clear hl; have hl := hl2; clear hl2
      refine then_normal ?_
      refine wp_ret ?_
      refine then_ret ?_
      first
      | (refine f_ret1 (F' := (mb, C (MdV.c { m with q := [], qp := none, qc := 0, qE := [], rb := some k8, rE := [(k8, MD (kInt .u32) [] 0)], yf := fun _ => false, df := fun _ => false, tk := 0, d := s2, fu := 0, up := false }) 82) :: ((s1.aE ++ (s1.nE ++ (s1.iE ++ [(s1.vb, MO (kInt .u32) vd2)]))) ++ ((k8, MD (kInt .u32) [] 0) :: Z))) hl hh rfl rfl (by repeat (first | exact keeps_nil | apply keeps_cons (by repeat (first | exact find_head | apply find_tail | apply find_skip)) (by first  | rfl) | exact keeps_self | exact keeps_left | apply keeps_app | apply keeps_mv | apply keeps_skip)) ?_; refine .inr ⟨by rw [btp_2 hnx hr], rfl, { m with q := [], qp := none, qc := 0, qE := [], rb := some k8, rE := [(k8, MD (kInt .u32) [] 0)], yf := fun _ => false, df := fun _ => false, tk := 0, d := s2, fu := 0, up := false }, ?_, (by unfold MF; rw [hE2]; try simp only [List.append_assoc, List.cons_append, List.nil_append])⟩; rw [btp_2 hnx hr]; exact ⟨hso, rfl, rfl, hm.fl, rfl, hm.kp, (by simp)⟩)
      | (refine f_ret1 (F' := (mb, C (MdV.c { m with q := [], qp := none, qc := 0, qE := [], rb := some k8, rE := [(k8, MD (kInt .u32) [] 0)], yf := fun _ => false, df := fun _ => false, tk := 0, fu := 0, up := false }) 82) :: (m.d.E ++ ((k8, MD (kInt .u32) [] 0) :: Z))) hl hh rfl rfl (by repeat (first | exact keeps_nil | apply keeps_cons (by repeat (first | exact find_head | apply find_tail | apply find_skip)) (by first  | rfl) | exact keeps_self | exact keeps_left | apply keeps_app | apply keeps_mv | apply keeps_skip)) ?_; refine .inr ⟨by rw [btp_2 hnx hr], rfl, { m with q := [], qp := none, qc := 0, qE := [], rb := some k8, rE := [(k8, MD (kInt .u32) [] 0)], yf := fun _ => false, df := fun _ => false, tk := 0, fu := 0, up := false }, ?_, rfl⟩; rw [btp_2 hnx hr]; exact ⟨hm.dok, hm.d, rfl, hm.fl, rfl, hm.kp, (by simp)⟩)
  · intro hc0
    try simp only [decide_eq_true_eq, decide_eq_false_iff_not, Bool.not_eq_true', Bool.not_eq_false', Bool.not_eq_true, Bool.not_eq_false, Bool.and_eq_true, Bool.or_eq_true, Bool.and_eq_false_iff, Bool.or_eq_false_iff, Bool.not_not, ne_eq, Int.not_lt, Int.not_le, Decidable.not_not, beq_iff_eq, bne_iff_ne] at hc0
    obtain ⟨s2, vd2, hs2, hvd2⟩ : ∃ (s2 : DuV) (vd2 : List (Int × Value)), s2 = { s1 with ep := s1.ep + 1, vd := vd2 } ∧ vd2 = s1.vd := ⟨_, _, rfl, rfl⟩
    have hc2 : DuV.c { s1 with ep := s1.ep + 1 } = s2.c := by rw [hs2]; exact (duc_vdl _ vd2).symm
    rw [hc2, ← hvd2] at hh
    have hE2 : s2.E = s1.aE ++ (s1.nE ++ (s1.iE ++ [(s1.vb, MO (kInt .u32) vd2)])) := by rw [hs2]; exact DuV.E_eq _
    have hso : s2.ok Z := by rw [hs2, hvd2]; exact du_epok hs1 (by omega)
    have hp2 : ¬ s2.ph = 1 := by rw [hs2]; exact hc0
    have hnx : opS l.d = s2.pl := by rw [ops_n (by rw [← hs9]; exact hc0), hs2, hvd2]; exact (du_ep hs9).symm
    refine wp_skip ?_
    refine then_normal ?_
    refine c_seq ?_
    refine c_seq ?_
    refine c_region ?_
    refine wl (wl_val hl rfl trivial (r_move hl rfl) ?_)
    clear hl a; intro a hl
    refine wl (w_loadA hl hh rfl trivial agg78 rfl (by repeat (first | exact find_head | apply find_tail | apply find_skip)) (by first | exact duc_all _ | exact mdc_d _) (by exact duc_len _) ?_)
    clear hl a; intro a hl
    refine wl (w_call hl hh rfl trivial rfl cal116 rfl (write3 mb { m with q := [], qp := none, qc := 0, qE := [], rb := some k8, rE := [(k8, MD (kInt .u32) [] 0)], yf := fun _ => false, df := fun _ => false, tk := 0 } s2 (rebP l) rfl hm.fl hm.fu hm.kp hm.d hm.fb) (by repeat (first | exact keeps_nil | apply keeps_cons (by repeat (first | exact find_head | apply find_tail | apply find_skip)) (by first  | rfl) | exact keeps_self | exact keeps_left | apply keeps_app | apply keeps_mv | apply keeps_skip)) trivial ?_)
    clear hl hh a w; intro vc Fc a w hR hl hh
    rcases hR with ⟨f, hr, hf, rfl, rfl⟩ | ⟨hr, rfl, rfl⟩ | ⟨hr, rfl, rfl⟩
    ·
      try simp only [List.cons_append, List.nil_append, List.append_nil] at hh
      try simp only [List.append_assoc, List.cons_append, List.nil_append] at hh
      refine wl (wl_val hl rfl trivial (r_neq hl rfl rfl) ?_)
      clear hl a; intro a hl
      refine w_nil ?_
      have hl2 := hl.add (t := 0) (hl.add (t := 42) (hl.nil) rfl) rfl; clear hl; have hl := hl2; clear hl2
      refine then_normal ?_
      refine c_condF hl rfl ?_
      refine wp_skip ?_
      refine then_normal ?_
      refine c_seq ?_
      refine c_region ?_
      refine wl (wl_val hl rfl trivial (r_move hl rfl) ?_)
      clear hl a; intro a hl
      refine wl (wl_val hl rfl trivial (r_nilCheck hl rfl) ?_)
      clear hl a; intro a hl
      refine wl (wl_val hl rfl trivial (r_field hl rfl fld82_1) ?_)
      clear hl a; intro a hl
      refine wl (w_store hl hh trivial one4 rfl rfl (by repeat (first | exact find_head | apply find_tail | apply find_skip)) (by first | (simp; done) | (simp; omega) | (rw [mdc_len]; omega) | (rw [mdc_len]; simp; done) | (rw [duc_len]; omega) | (rw [duc_len]; simp; done)) (by first | rfl | assumption | (apply Row.one; assumption)) (by first | exact mdc_sup _ _ | exact mdc_stk _ _ | exact mdc_sau _ _ | exact mdc_sfl _ _ | exact mdc_sfu _ _ | exact mdc_skp _ _ | exact mdc_sq _ none [] 0 [] | exact mdc_srf _ (some k8) [(k8, MD (kInt .u32) [] 0)] | exact duc_sep _ _ | exact duc_sph _ _ | (simp only [setL, List.getElem?_cons_zero, List.getElem?_cons_succ, Value.cells, List.take_zero, List.take_succ_cons, List.take_nil, List.drop_zero, List.drop_succ_cons, List.drop_nil, List.length_cons, List.length_nil, List.cons_append, List.nil_append, List.append_nil, Nat.zero_add, Nat.add_zero, Nat.reduceAdd, Nat.reduceBEq, Nat.reduceEqDiff, Nat.ble, BEq.rfl, Bool.and_true, Bool.and_self, cond_true, beq_self_eq_true]; rfl)) ?_)
      clear hh w; intro w hh
      refine w_nil ?_
      have hl2 := hl.add (t := 0) (hl.nil) rfl; clear hl; have hl := hl2; clear hl2
      refine then_normal ?_
      refine c_seq ?_
      refine c_region ?_
      refine wl (wl_val hl rfl trivial (r_move hl rfl) ?_)
      clear hl a; intro a hl
      refine wl (wl_val hl rfl trivial (r_move hl rfl) ?_)
      clear hl a; intro a hl
      refine wl (wl_val hl rfl trivial (r_nilCheck hl rfl) ?_)
      clear hl a; intro a hl
      refine wl (wl_val hl rfl trivial (r_field hl rfl fld82_0) ?_)
      clear hl a; intro a hl
      refine wl (wl_val hl rfl trivial (r_field hl rfl fld78_4) ?_)
      clear hl a; intro a hl
      refine wl (w_load hl hh rfl trivial one76 rfl (by repeat (first | exact find_head | apply find_tail | apply find_skip)) (by first | exact mdc_ep _ | exact mdc_a _ | exact mdc_n _ | exact mdc_i _ | exact mdc_ph _ | exact mdc_fid _ | exact mdc_vd _ | exact mdc_up _ | exact mdc_q _ | exact mdc_rf _ | exact mdc_tk _ | exact mdc_au _ | exact mdc_fl _ | exact mdc_fu _ | exact mdc_kp _ | exact duc_ep _ | exact duc_a _ | exact duc_n _ | exact duc_i _ | exact duc_ph _ | exact duc_fid _ | exact duc_vd _ | rfl) ?_)
      clear hl a; intro a hl
      refine wl (wl_val hl rfl trivial (r_neq hl rfl rfl) ?_)
      clear hl a; intro a hl
      refine wl (wl_val hl rfl trivial (r_nilCheck hl rfl) ?_)
      clear hl a; intro a hl
      refine wl (wl_val hl rfl trivial (r_field hl rfl fld82_7) ?_)
      clear hl a; intro a hl
      refine wl (w_store hl hh trivial one4 rfl rfl (by repeat (first | exact find_head | apply find_tail | apply find_skip)) (by first | (simp; done) | (simp; omega) | (rw [mdc_len]; omega) | (rw [mdc_len]; simp; done) | (rw [duc_len]; omega) | (rw [duc_len]; simp; done)) (by first | rfl | assumption | (apply Row.one; assumption)) (by first | exact mdc_sup _ _ | exact mdc_stk _ _ | exact mdc_sau _ _ | exact mdc_sfl _ _ | exact mdc_sfu _ _ | exact mdc_skp _ _ | exact mdc_sq _ none [] 0 [] | exact mdc_srf _ (some k8) [(k8, MD (kInt .u32) [] 0)] | exact duc_sep _ _ | exact duc_sph _ _ | (simp only [setL, List.getElem?_cons_zero, List.getElem?_cons_succ, Value.cells, List.take_zero, List.take_succ_cons, List.take_nil, List.drop_zero, List.drop_succ_cons, List.drop_nil, List.length_cons, List.length_nil, List.cons_append, List.nil_append, List.append_nil, Nat.zero_add, Nat.add_zero, Nat.reduceAdd, Nat.reduceBEq, Nat.reduceEqDiff, Nat.ble, BEq.rfl, Bool.and_true, Bool.and_self, cond_true, beq_self_eq_true]; rfl)) ?_)
      clear hh w; intro w hh
      refine w_nil ?_
      have hl2 := hl.add (t := 0) (hl.nil) rfl; clear hl; have hl := hl2; clear hl2
      refine then_normal ?_
      refine c_seq ?_
      refine c_region ?_
      refine wl (wl_val hl rfl trivial (r_move hl rfl) ?_)
      clear hl a; intro a hl
      refine wl (w_call hl hh rfl trivial rfl cal117 rfl (due_spec Z mb { m with q := [], qp := none, qc := 0, qE := [], rb := some k8, rE := [(k8, MD (kInt .u32) [] 0)], yf := fun _ => false, df := fun _ => false, tk := 0, d := s2, fu := f, up := true, au := decide (s2.ph ≠ 0) } hso.fn hso.ph) (by repeat (first | exact keeps_nil | apply keeps_cons (by repeat (first | exact find_head | apply find_tail | apply find_skip)) (by first  | rfl) | exact keeps_self | exact keeps_left | apply keeps_app | apply keeps_mv | apply keeps_skip)) trivial ?_)
      clear hl hh a w; intro vc Fc a w hR hl hh
      obtain ⟨p6, c6, E6, hR6, rfl, rfl⟩ := hR
      try simp only [List.cons_append, List.nil_append, List.append_assoc, List.append_nil] at hh
      refine wl (wl_val hl rfl trivial (r_assign hl rfl) ?_)
      clear hl a; intro a hl
      refine w_nil ?_
      have hl2 := hl.add (t := 2) (hl.nil) rfl; clear hl; have hl := hl2; clear hl2
      refine then_normal ?_
      refine wp_ret ?_
      refine f_ret1 (F' := E6 ++ ((mb, C (MdV.c { m with q := [], qp := none, qc := 0, qE := [], rb := some k8, rE := [(k8, MD (kInt .u32) [] 0)], yf := fun _ => false, df := fun _ => false, tk := 0, d := s2, fu := f, up := true, au := decide (s2.ph ≠ 0) }) 82) :: ((s1.aE ++ (s1.nE ++ (s1.iE ++ [(s1.vb, MO (kInt .u32) vd2)]))) ++ ((k8, MD (kInt .u32) [] 0) :: Z)))) hl hh rfl rfl (by repeat (first | exact keeps_nil | apply keeps_cons (by repeat (first | exact find_head | apply find_tail | apply find_skip)) (by first  | rfl) | exact keeps_self | exact keeps_left | apply keeps_app | apply keeps_mv | apply keeps_skip)) ?_
      have hdu : dueM { m with q := [], qp := none, qc := 0, qE := [], rb := some k8, rE := [(k8, MD (kInt .u32) [] 0)], yf := fun _ => false, df := fun _ => false, tk := 0, d := s2, fu := f, up := true, au := decide (s2.ph ≠ 0) } = pushP (gt0 s2.pl) := due_push rfl (fun d hd => (bit0 d hd).symm) (fun d hd => (bit0 d hd).symm) decide_not (fun h9 => absurd (show s2.ph = 1 from h9) hp2)
      refine .inl ⟨by rw [btp_0 hnx hr, hnx], ?_⟩
      rw [btp_0 hnx hr, hnx]
      refine MdS.of (m' := { m with q := [], qp := none, qc := 0, qE := [], rb := some k8, rE := [(k8, MD (kInt .u32) [] 0)], yf := fun _ => false, df := fun _ => false, tk := 0, d := s2, fu := f, up := true, au := decide (s2.ph ≠ 0) }) (show pushP (gt0 s2.pl) = _ from hdu.symm) hR6 (due_sz hso.fn) ?_ (by unfold MF; rw [hE2]; try simp only [List.append_assoc, List.cons_append, List.nil_append])
      exact ⟨hso, rfl, rfl, .inl ⟨rfl, rfl, rfl, rfl⟩, fun x hx => (by cases hx), rfl, ⟨k8, [], 0, rfl, rfl, fun i v e => (by cases e), List.nodup_nil, rfl⟩, fun d hd => (bit0 d hd).symm, fun d hd => (bit0 d hd).symm, rfl, decide_not, hm.fl, rfl, hm.kp, hf⟩
    ·
      try simp only [List.cons_append, List.nil_append, List.append_nil] at hh
      try simp only [List.append_assoc, List.cons_append, List.nil_append] at hh
      refine wl (wl_val hl rfl trivial (r_neq hl rfl rfl) ?_)
      clear hl a; intro a hl
      refine w_nil ?_
      have hl2 := hl.add (t := 0) (hl.add (t := 42) (hl.nil) rfl) rfl; clear hl; have hl := hl2; clear hl2
      refine then_normal ?_
      refine c_condT hl rfl ?_
      refine c_seq ?_
      refine c_region ?_
      refine wl (wl_val hl rfl trivial (r_assign hl rfl) ?_)
      clear hl a; intro a hl
      refine w_nil ?_
      have hl2 := hl.add (t := 2) (hl.nil) rfl; clear hl; have hl := hl2; clear hl2
      refine then_normal ?_
      refine wp_ret ?_
      refine then_ret ?_
      first
      | (refine f_ret1 (F' := (mb, C (MdV.c { m with q := [], qp := none, qc := 0, qE := [], rb := some k8, rE := [(k8, MD (kInt .u32) [] 0)], yf := fun _ => false, df := fun _ => false, tk := 0, d := s2, fu := 0, up := false }) 82) :: ((s1.aE ++ (s1.nE ++ (s1.iE ++ [(s1.vb, MO (kInt .u32) vd2)]))) ++ ((k8, MD (kInt .u32) [] 0) :: Z))) hl hh rfl rfl (by repeat (first | exact keeps_nil | apply keeps_cons (by repeat (first | exact find_head | apply find_tail | apply find_skip)) (by first  | rfl) | exact keeps_self | exact keeps_left | apply keeps_app | apply keeps_mv | apply keeps_skip)) ?_; refine .inr ⟨by rw [btp_2 hnx hr], rfl, { m with q := [], qp := none, qc := 0, qE := [], rb := some k8, rE := [(k8, MD (kInt .u32) [] 0)], yf := fun _ => false, df := fun _ => false, tk := 0, d := s2, fu := 0, up := false }, ?_, (by unfold MF; rw [hE2]; try simp only [List.append_assoc, List.cons_append, List.nil_append])⟩; rw [btp_2 hnx hr]; exact ⟨hso, rfl, rfl, hm.fl, rfl, hm.kp, (by simp)⟩)
      | (refine f_ret1 (F' := (mb, C (MdV.c { m with q := [], qp := none, qc := 0, qE := [], rb := some k8, rE := [(k8, MD (kInt .u32) [] 0)], yf := fun _ => false, df := fun _ => false, tk := 0, fu := 0, up := false }) 82) :: (m.d.E ++ ((k8, MD (kInt .u32) [] 0) :: Z))) hl hh rfl rfl (by repeat (first | exact keeps_nil | apply keeps_cons (by repeat (first | exact find_head | apply find_tail | apply find_skip)) (by first  | rfl) | exact keeps_self | exact keeps_left | apply keeps_app | apply keeps_mv | apply keeps_skip)) ?_; refine .inr ⟨by rw [btp_2 hnx hr], rfl, { m with q := [], qp := none, qc := 0, qE := [], rb := some k8, rE := [(k8, MD (kInt .u32) [] 0)], yf := fun _ => false, df := fun _ => false, tk := 0, fu := 0, up := false }, ?_, rfl⟩; rw [btp_2 hnx hr]; exact ⟨hm.dok, hm.d, rfl, hm.fl, rfl, hm.kp, (by simp)⟩)
    ·
      try simp only [List.cons_append, List.nil_append, List.append_nil] at hh
      try simp only [List.append_assoc, List.cons_append, List.nil_append] at hh
      refine wl (wl_val hl rfl trivial (r_neq hl rfl rfl) ?_)
      clear hl a; intro a hl
      refine w_nil ?_
      have hl2 := hl.add (t := 0) (hl.add (t := 42) (hl.nil) rfl) rfl; clear hl; have hl := hl2; clear hl2
      refine then_normal ?_
      refine c_condT hl rfl ?_
      refine c_seq ?_
      refine c_region ?_
      refine wl (wl_val hl rfl trivial (r_assign hl rfl) ?_)
      clear hl a; intro a hl
      refine w_nil ?_
      have hl2 := hl.add (t := 2) (hl.nil) rfl; clear hl; have hl := hl2; clear hl2
      refine then_normal ?_
      refine wp_ret ?_
      refine then_ret ?_
      first
      | (refine f_ret1 (F' := (mb, C (MdV.c { m with q := [], qp := none, qc := 0, qE := [], rb := some k8, rE := [(k8, MD (kInt .u32) [] 0)], yf := fun _ => false, df := fun _ => false, tk := 0, d := s2, fu := 0, up := false }) 82) :: ((s1.aE ++ (s1.nE ++ (s1.iE ++ [(s1.vb, MO (kInt .u32) vd2)]))) ++ ((k8, MD (kInt .u32) [] 0) :: Z))) hl hh rfl rfl (by repeat (first | exact keeps_nil | apply keeps_cons (by repeat (first | exact find_head | apply find_tail | apply find_skip)) (by first  | rfl) | exact keeps_self | exact keeps_left | apply keeps_app | apply keeps_mv | apply keeps_skip)) ?_; refine .inr ⟨by rw [btp_2 hnx hr], rfl, { m with q := [], qp := none, qc := 0, qE := [], rb := some k8, rE := [(k8, MD (kInt .u32) [] 0)], yf := fun _ => false, df := fun _ => false, tk := 0, d := s2, fu := 0, up := false }, ?_, (by unfold MF; rw [hE2]; try simp only [List.append_assoc, List.cons_append, List.nil_append])⟩; rw [btp_2 hnx hr]; exact ⟨hso, rfl, rfl, hm.fl, rfl, hm.kp, (by simp)⟩)
      | (refine f_ret1 (F' := (mb, C (MdV.c { m with q := [], qp := none, qc := 0, qE := [], rb := some k8, rE := [(k8, MD (kInt .u32) [] 0)], yf := fun _ => false, df := fun _ => false, tk := 0, fu := 0, up := false }) 82) :: (m.d.E ++ ((k8, MD (kInt .u32) [] 0) :: Z))) hl hh rfl rfl (by repeat (first | exact keeps_nil | apply keeps_cons (by repeat (first | exact find_head | apply find_tail | apply find_skip)) (by first  | rfl) | exact keeps_self | exact keeps_left | apply keeps_app | apply keeps_mv | apply keeps_skip)) ?_; refine .inr ⟨by rw [btp_2 hnx hr], rfl, { m with q := [], qp := none, qc := 0, qE := [], rb := some k8, rE := [(k8, MD (kInt .u32) [] 0)], yf := fun _ => false, df := fun _ => false, tk := 0, fu := 0, up := false }, ?_, rfl⟩; rw [btp_2 hnx hr]; exact ⟨hm.dok, hm.d, rfl, hm.fl, rfl, hm.kp, (by simp)⟩)
end Go.Proofs.Qxb6500908aGreat

import Derived.Test.Qxb6500908aGreatZ0
namespace Go.Proofs.Qxb6500908aGreat
open Go.Eng
set_option linter.unusedVariables false
set_option linter.unusedSimpArgs false
theorem zero78 : zeroOk Tryz.prog 78 (.agg #[(.int .u32 0), (.slice none 0 0), (.slice none 0 0), (.slice none 0 0), (.int .u8 0), (.int .u32 0), (.slice none 0 0), (.slice none 0 0), (.int .u16 0), (.slice none 0 0), (.slice none 0 0), (.int .u16 0), (.slice none 0 0), (.slice none 0 0), (.int .u16 0), (.slice none 0 0), (.slice none 0 0), (.int .u16 0), (.slice none 0 0), (.slice none 0 0), (.int .u16 0), (.slice none 0 0), (.slice none 0 0), (.int .u16 0), (.slice none 0 0), (.slice none 0 0), (.int .u16 0), (.slice none 0 0), (.slice none 0 0), (.int .u16 0), (.slice none 0 0), (.slice none 0 0), (.int .u16 0), (.slice none 0 0), (.slice none 0 0), (.int .u16 0), (.slice none 0 0), (.slice none 0 0), (.int .u16 0), (.slice none 0 0), (.slice none 0 0), (.int .u16 0), (.slice none 0 0), (.slice none 0 0), (.int .u16 0), (.slice none 0 0), (.slice none 0 0), (.int .u16 0), (.slice none 0 0), (.slice none 0 0), (.int .u16 0), (.slice none 0 0), (.slice none 0 0), (.int .u16 0), (.int .u16 0), (.int .u16 0), (.int .u16 0), (.int .u16 0), (.int .u16 0), (.int .u16 0), (.int .u16 0), (.int .u16 0), (.int .u16 0), (.int .u16 0), (.int .u16 0), (.int .u16 0), (.int .u16 0), (.int .u16 0), (.int .u16 0), (.int .u16 0), (.map none)]) := by unfold zeroOk; kernel_rfl
theorem agg78 : aggOk Tryz.prog 78 71 = true := by kernel_rfl
theorem fld78_1 : fieldOk Tryz.prog 78 1 1 = true := by kernel_rfl
theorem one72 : oneOk Tryz.prog 72 = true := by kernel_rfl
theorem app72 : appOk Tryz.prog 72 36 1 4 = true := by kernel_rfl
theorem fld78_2 : fieldOk Tryz.prog 78 2 2 = true := by kernel_rfl
theorem one73 : oneOk Tryz.prog 73 = true := by kernel_rfl
theorem app73 : appOk Tryz.prog 73 66 64 928 = true := by kernel_rfl
theorem fld78_3 : fieldOk Tryz.prog 78 3 3 = true := by kernel_rfl
theorem fld78_7 : fieldOk Tryz.prog 78 7 70 = true := by kernel_rfl
attribute [local irreducible] NtV.k

set_option maxHeartbeats 8000000 in
theorem copy_spec (Z : List (Nat × Obj)) (s : DuV) (hs : s.ok Z) : Sp Tryz.prog 115 #[.agg ⟨s.c⟩] s.E (fun v F' => ∃ s' : DuV, s'.ok Z ∧ s'.pl = s.pl ∧ v = .agg ⟨s'.c⟩ ∧ F' = s'.E ++ s.E) := by
  refine f_enter (args := [.agg ⟨s.c⟩]) Tryz.func115 rfl Tryz.ntmps115 rfl ?_
  intro w0 w a hpre hl hh
  have hvl := hs.vl; have hil := hs.il; have hwl : s.ws.length ≤ 70000000000 := by rw [hs.e]; exact hvl
  generalize hDD : List.map Prod.fst s.E = D at hh ⊢
  simp only [DuV.E] at hh
  simp only [slotsFrom, Nat.reduceAdd] at hl
  refine c_seq ?_
  refine c_region ?_
  refine wl (w_box hl hh rfl trivial rfl rfl ?_)
  clear hl hh a w; intro k1 a w hl hh
  refine wl (w_alloc hl hh rfl trivial zero78 rfl ?_)
  clear hl hh a w; intro k2 a w hl hh
  refine w_nil ?_
  have hl2 := hl.add (t := 1) (hl.add (t := 2) (hl.nil) rfl) rfl; clear hl; have hl := hl2; clear hl2
  refine then_normal ?_
  refine c_seq ?_
  refine c_region ?_
  refine wl (w_loadA hl hh rfl trivial agg78 rfl (by repeat (first | exact find_head | apply find_tail | apply find_skip)) (by first | exact duc_all _ | exact hall) (by first | exact duc_len _) ?_)
  clear hl a; intro a hl
  refine wl (w_alloc hl hh rfl trivial zero78 rfl ?_)
  clear hl hh a w; intro k3 a w hl hh
  refine wl (w_storeA hl hh trivial agg78 rfl rfl (by repeat (first | exact find_head | apply find_tail | apply find_skip)) (by first | exact duc_len _) (by first | exact Nat.le_refl 71 | (rw [duc_len]; omega)) (by exact duc_one _) (by first | exact setL_all (show 71 = _ from (duc_len _).symm)) ?_)
  clear hh w; intro w hh
  refine w_nil ?_
  have hl2 := hl.add (t := 1) (hl.add (t := 2) (hl.add (t := 3) (hl.nil) rfl) rfl) rfl; clear hl; have hl := hl2; clear hl2
  refine then_normal ?_
  refine c_seq ?_
  refine c_region ?_
  refine wl (wl_val hl rfl trivial (r_field hl rfl fld78_1) ?_)
  clear hl a; intro a hl
  refine wl (w_load hl hh rfl trivial one72 rfl (by repeat (first | exact find_head | apply find_tail | apply find_skip)) (by first | exact duc_vd _ | rfl) ?_)
  clear hl a; intro a hl
  refine wl (w_appendCopy hl hh rfl trivial app72 rfl rfl rfl hs.a (memK hh (by repeat (first | exact keeps_nil | apply keeps_cons (by repeat (first | exact find_head | apply find_tail | apply find_skip)) (by first  | rfl) | exact keeps_self | exact keeps_left | apply keeps_app | apply keeps_mv | apply keeps_skip))) (fl_all idc_one _) (by omega) (by omega) (by decide) ?_)
  clear hl hh a w; intro rv2 E2 a w hR2 hl hh
  have hh3 := hh.comm; clear hh; have hh := hh3; clear hh3
  try simp only [List.cons_append, List.nil_append, List.append_assoc, List.append_nil] at hh
  obtain ⟨p6, c6, hv6⟩ := row_val hR2
  rw [hv6] at hl hR2
  refine wl (wl_val hl rfl trivial (r_field hl rfl fld78_1) ?_)
  clear hl a; intro a hl
  refine wl (w_store hl hh trivial one72 rfl rfl (by repeat (first | exact find_head | apply find_tail | apply find_skip)) (by first | (simp; done) | (simp; omega) | (rw [duc_len]; simp; done) | (rw [duc_len]; omega) | (simp only [duc_len, List.length_cons, List.length_nil]; omega)) (by first | rfl | assumption | (apply Row.one; assumption)) (by first | exact (show setL (DuV.c s) 1 [.slice p6 s.vs.length c6] = DuV.c ⟨s.ep, s.vs, p6, c6, s.aE, s.ws, s.np, s.nc, s.nE, s.is, s.ip, s.ic, s.iE, s.ph, s.fid, s.fn, s.vb, s.vd⟩ from rfl) | exact (show setL (DuV.c ⟨s.ep, s.vs, p6, c6, s.aE, s.ws, s.np, s.nc, s.nE, s.is, s.ip, s.ic, s.iE, s.ph, s.fid, s.fn, s.vb, s.vd⟩) 2 [.slice p7 s.ws.length c7] = DuV.c ⟨s.ep, s.vs, p6, c6, s.aE, s.ws, p7, c7, s.nE, s.is, s.ip, s.ic, s.iE, s.ph, s.fid, s.fn, s.vb, s.vd⟩ from rfl) | exact (show setL (DuV.c ⟨s.ep, s.vs, p6, c6, s.aE, s.ws, p7, c7, s.nE, s.is, s.ip, s.ic, s.iE, s.ph, s.fid, s.fn, s.vb, s.vd⟩) 3 [.slice p8 s.is.length c8] = DuV.c ⟨s.ep, s.vs, p6, c6, s.aE, s.ws, p7, c7, s.nE, s.is, p8, c8, s.iE, s.ph, s.fid, s.fn, s.vb, s.vd⟩ from rfl) | exact duc_svd ⟨s.ep, s.vs, p6, c6, s.aE, s.ws, p7, c7, s.nE, s.is, p8, c8, s.iE, s.ph, s.fid, s.fn, s.vb, s.vd⟩ k19 s.vd | (simp only [setL, List.getElem?_cons_zero, List.getElem?_cons_succ, Value.cells, List.take_zero, List.take_succ_cons, List.take_nil, List.drop_zero, List.drop_succ_cons, List.drop_nil, List.length_cons, List.length_nil, List.cons_append, List.nil_append, List.append_nil, Nat.zero_add, Nat.add_zero, Nat.reduceAdd, Nat.reduceBEq, Nat.reduceEqDiff, Nat.ble, BEq.rfl, Bool.and_true, Bool.and_self, cond_true, beq_self_eq_true]; rfl)) ?_)
  clear hh w; intro w hh
  refine w_nil ?_
  have hl2 := hl.add (t := 1) (hl.add (t := 2) (hl.add (t := 3) (hl.nil) rfl) rfl) rfl; clear hl; have hl := hl2; clear hl2
  refine then_normal ?_
  refine c_seq ?_
  refine c_region ?_
  refine wl (wl_val hl rfl trivial (r_field hl rfl fld78_2) ?_)
  clear hl a; intro a hl
  refine wl (w_load hl hh rfl trivial one73 rfl (by repeat (first | exact find_head | apply find_tail | apply find_skip)) (by first | exact duc_vd _ | rfl) ?_)
  clear hl a; intro a hl
  refine wl (w_appendCopy hl hh rfl trivial app73 rfl rfl rfl hs.n (memK hh (by repeat (first | exact keeps_nil | apply keeps_cons (by repeat (first | exact find_head | apply find_tail | apply find_skip)) (by first  | rfl) | exact keeps_self | exact keeps_left | apply keeps_app | apply keeps_mv | apply keeps_skip))) (fl_all ntc_one _) (by omega) (by omega) (by decide) ?_)
  clear hl hh a w; intro rv3 E3 a w hR3 hl hh
  have hh3 := hh.comm; clear hh; have hh := hh3; clear hh3
  try simp only [List.cons_append, List.nil_append, List.append_assoc, List.append_nil] at hh
  obtain ⟨p7, c7, hv7⟩ := row_val hR3
  rw [hv7] at hl hR3
  refine wl (wl_val hl rfl trivial (r_field hl rfl fld78_2) ?_)
  clear hl a; intro a hl
  refine wl (w_store hl hh trivial one73 rfl rfl (by repeat (first | exact find_head | apply find_tail | apply find_skip)) (by first | (simp; done) | (simp; omega) | (rw [duc_len]; simp; done) | (rw [duc_len]; omega) | (simp only [duc_len, List.length_cons, List.length_nil]; omega)) (by first | rfl | assumption | (apply Row.one; assumption)) (by first | exact (show setL (DuV.c s) 1 [.slice p6 s.vs.length c6] = DuV.c ⟨s.ep, s.vs, p6, c6, s.aE, s.ws, s.np, s.nc, s.nE, s.is, s.ip, s.ic, s.iE, s.ph, s.fid, s.fn, s.vb, s.vd⟩ from rfl) | exact (show setL (DuV.c ⟨s.ep, s.vs, p6, c6, s.aE, s.ws, s.np, s.nc, s.nE, s.is, s.ip, s.ic, s.iE, s.ph, s.fid, s.fn, s.vb, s.vd⟩) 2 [.slice p7 s.ws.length c7] = DuV.c ⟨s.ep, s.vs, p6, c6, s.aE, s.ws, p7, c7, s.nE, s.is, s.ip, s.ic, s.iE, s.ph, s.fid, s.fn, s.vb, s.vd⟩ from rfl) | exact (show setL (DuV.c ⟨s.ep, s.vs, p6, c6, s.aE, s.ws, p7, c7, s.nE, s.is, s.ip, s.ic, s.iE, s.ph, s.fid, s.fn, s.vb, s.vd⟩) 3 [.slice p8 s.is.length c8] = DuV.c ⟨s.ep, s.vs, p6, c6, s.aE, s.ws, p7, c7, s.nE, s.is, p8, c8, s.iE, s.ph, s.fid, s.fn, s.vb, s.vd⟩ from rfl) | exact duc_svd ⟨s.ep, s.vs, p6, c6, s.aE, s.ws, p7, c7, s.nE, s.is, p8, c8, s.iE, s.ph, s.fid, s.fn, s.vb, s.vd⟩ k19 s.vd | (simp only [setL, List.getElem?_cons_zero, List.getElem?_cons_succ, Value.cells, List.take_zero, List.take_succ_cons, List.take_nil, List.drop_zero, List.drop_succ_cons, List.drop_nil, List.length_cons, List.length_nil, List.cons_append, List.nil_append, List.append_nil, Nat.zero_add, Nat.add_zero, Nat.reduceAdd, Nat.reduceBEq, Nat.reduceEqDiff, Nat.ble, BEq.rfl, Bool.and_true, Bool.and_self, cond_true, beq_self_eq_true]; rfl)) ?_)
  clear hh w; intro w hh
  refine w_nil ?_
  have hl2 := hl.add (t := 1) (hl.add (t := 2) (hl.add (t := 3) (hl.nil) rfl) rfl) rfl; clear hl; have hl := hl2; clear hl2
  refine then_normal ?_
  refine c_seq ?_
  refine c_region ?_
  refine wl (wl_val hl rfl trivial (r_field hl rfl fld78_3) ?_)
  clear hl a; intro a hl
  refine wl (w_load hl hh rfl trivial one75 rfl (by repeat (first | exact find_head | apply find_tail | apply find_skip)) (by first | exact duc_vd _ | rfl) ?_)
  clear hl a; intro a hl
  refine wl (w_appendCopy hl hh rfl trivial app75 rfl rfl rfl hs.i (memK hh (by repeat (first | exact keeps_nil | apply keeps_cons (by repeat (first | exact find_head | apply find_tail | apply find_skip)) (by first  | rfl) | exact keeps_self | exact keeps_left | apply keeps_app | apply keeps_mv | apply keeps_skip))) (fl_all ivc_one _) (by omega) (by omega) (by decide) ?_)
  clear hl hh a w; intro rv4 E4 a w hR4 hl hh
  have hh3 := hh.comm; clear hh; have hh := hh3; clear hh3
  try simp only [List.cons_append, List.nil_append, List.append_assoc, List.append_nil] at hh
  obtain ⟨p8, c8, hv8⟩ := row_val hR4
  rw [hv8] at hl hR4
  refine wl (wl_val hl rfl trivial (r_field hl rfl fld78_3) ?_)
  clear hl a; intro a hl
  refine wl (w_store hl hh trivial one75 rfl rfl (by repeat (first | exact find_head | apply find_tail | apply find_skip)) (by first | (simp; done) | (simp; omega) | (rw [duc_len]; simp; done) | (rw [duc_len]; omega) | (simp only [duc_len, List.length_cons, List.length_nil]; omega)) (by first | rfl | assumption | (apply Row.one; assumption)) (by first | exact (show setL (DuV.c s) 1 [.slice p6 s.vs.length c6] = DuV.c ⟨s.ep, s.vs, p6, c6, s.aE, s.ws, s.np, s.nc, s.nE, s.is, s.ip, s.ic, s.iE, s.ph, s.fid, s.fn, s.vb, s.vd⟩ from rfl) | exact (show setL (DuV.c ⟨s.ep, s.vs, p6, c6, s.aE, s.ws, s.np, s.nc, s.nE, s.is, s.ip, s.ic, s.iE, s.ph, s.fid, s.fn, s.vb, s.vd⟩) 2 [.slice p7 s.ws.length c7] = DuV.c ⟨s.ep, s.vs, p6, c6, s.aE, s.ws, p7, c7, s.nE, s.is, s.ip, s.ic, s.iE, s.ph, s.fid, s.fn, s.vb, s.vd⟩ from rfl) | exact (show setL (DuV.c ⟨s.ep, s.vs, p6, c6, s.aE, s.ws, p7, c7, s.nE, s.is, s.ip, s.ic, s.iE, s.ph, s.fid, s.fn, s.vb, s.vd⟩) 3 [.slice p8 s.is.length c8] = DuV.c ⟨s.ep, s.vs, p6, c6, s.aE, s.ws, p7, c7, s.nE, s.is, p8, c8, s.iE, s.ph, s.fid, s.fn, s.vb, s.vd⟩ from rfl) | exact duc_svd ⟨s.ep, s.vs, p6, c6, s.aE, s.ws, p7, c7, s.nE, s.is, p8, c8, s.iE, s.ph, s.fid, s.fn, s.vb, s.vd⟩ k19 s.vd | (simp only [setL, List.getElem?_cons_zero, List.getElem?_cons_succ, Value.cells, List.take_zero, List.take_succ_cons, List.take_nil, List.drop_zero, List.drop_succ_cons, List.drop_nil, List.length_cons, List.length_nil, List.cons_append, List.nil_append, List.append_nil, Nat.zero_add, Nat.add_zero, Nat.reduceAdd, Nat.reduceBEq, Nat.reduceEqDiff, Nat.ble, BEq.rfl, Bool.and_true, Bool.and_self, cond_true, beq_self_eq_true]; rfl)) ?_)
  clear hh w; intro w hh
  refine w_nil ?_
  have hl2 := hl.add (t := 1) (hl.add (t := 2) (hl.add (t := 3) (hl.nil) rfl) rfl) rfl; clear hl; have hl := hl2; clear hl2
  refine then_normal ?_
  refine c_seq ?_
  refine c_region ?_
  refine wl (w_makeMap (kInt .u32) hl hh rfl trivial ?_)
  clear hl hh a w; intro k19 a w hl hh
  refine wl (wl_val hl rfl trivial (r_field hl rfl fld78_7) ?_)
  clear hl a; intro a hl
  refine wl (w_store hl hh trivial one74 rfl rfl (by repeat (first | exact find_head | apply find_tail | apply find_skip)) (by first | (simp; done) | (simp; omega) | (rw [duc_len]; simp; done) | (rw [duc_len]; omega) | (simp only [duc_len, List.length_cons, List.length_nil]; omega)) (by first | rfl | assumption | (apply Row.one; assumption)) (by first | exact (show setL (DuV.c s) 1 [.slice p6 s.vs.length c6] = DuV.c ⟨s.ep, s.vs, p6, c6, s.aE, s.ws, s.np, s.nc, s.nE, s.is, s.ip, s.ic, s.iE, s.ph, s.fid, s.fn, s.vb, s.vd⟩ from rfl) | exact (show setL (DuV.c ⟨s.ep, s.vs, p6, c6, s.aE, s.ws, s.np, s.nc, s.nE, s.is, s.ip, s.ic, s.iE, s.ph, s.fid, s.fn, s.vb, s.vd⟩) 2 [.slice p7 s.ws.length c7] = DuV.c ⟨s.ep, s.vs, p6, c6, s.aE, s.ws, p7, c7, s.nE, s.is, s.ip, s.ic, s.iE, s.ph, s.fid, s.fn, s.vb, s.vd⟩ from rfl) | exact (show setL (DuV.c ⟨s.ep, s.vs, p6, c6, s.aE, s.ws, p7, c7, s.nE, s.is, s.ip, s.ic, s.iE, s.ph, s.fid, s.fn, s.vb, s.vd⟩) 3 [.slice p8 s.is.length c8] = DuV.c ⟨s.ep, s.vs, p6, c6, s.aE, s.ws, p7, c7, s.nE, s.is, p8, c8, s.iE, s.ph, s.fid, s.fn, s.vb, s.vd⟩ from rfl) | exact duc_svd ⟨s.ep, s.vs, p6, c6, s.aE, s.ws, p7, c7, s.nE, s.is, p8, c8, s.iE, s.ph, s.fid, s.fn, s.vb, s.vd⟩ k19 s.vd | (simp only [setL, List.getElem?_cons_zero, List.getElem?_cons_succ, Value.cells, List.take_zero, List.take_succ_cons, List.take_nil, List.drop_zero, List.drop_succ_cons, List.drop_nil, List.length_cons, List.length_nil, List.cons_append, List.nil_append, List.append_nil, Nat.zero_add, Nat.add_zero, Nat.reduceAdd, Nat.reduceBEq, Nat.reduceEqDiff, Nat.ble, BEq.rfl, Bool.and_true, Bool.and_self, cond_true, beq_self_eq_true]; rfl)) ?_)
  clear hh w; intro w hh
  refine w_nil ?_
  have hl2 := hl.add (t := 1) (hl.add (t := 2) (hl.add (t := 3) (hl.nil) rfl) rfl) rfl; clear hl; have hl := hl2; clear hl2
  refine then_normal ?_
  refine c_seq ?_
  refine c_seq ?_
  refine c_region ?_
  refine wl (wl_val hl rfl trivial (r_field hl rfl fld78_7) ?_)
  clear hl a; intro a hl
  refine wl (w_load hl hh rfl trivial one74 rfl (by repeat (first | exact find_head | apply find_tail | apply find_skip)) (by first | exact duc_vd _ | rfl) ?_)
  clear hl a; intro a hl
  refine wl (w_range Tryz.underlying74 hl hh rfl trivial rfl (by repeat (first | exact find_head | apply find_tail | apply find_skip)) ?_)
  clear hl hh a w; intro k23 a w hl hh
  refine w_nil ?_
  have hl2 := hl.add (t := 2) (hl.add (t := 3) (hl.add (t := 23) (hl.nil) rfl) rfl) rfl; clear hl; have hl := hl2; clear hl2
  refine then_normal ?_
  refine wp_block ?_
  obtain ⟨KS0, hKS0, hk⟩ := (hl.add (t := 2) (hl.add (t := 3) (hl.add (t := 23) (hl.nil) rfl) rfl) rfl).name
  obtain ⟨HS0, hHS0, hh2⟩ := hh.name (keeps_cons (b := k23) (o' := IT s.vb s.vd.length []) (by repeat (first | exact find_head | apply find_tail | apply find_skip)) (by first | rfl) (keeps_cons (b := k19) (o' := MO (kInt .u32) []) (by repeat (first | exact find_head | apply find_tail | apply find_skip)) (by first | rfl) (keeps_nil)))
  refine c_loop (α := CpS) (fun y => s.vd.length - y.seen.length) (fun y a w => (CpI s.vd y) ∧ Sl 34 ([] ++ KS0) a ∧ Has _ w0 ([(k23, IT s.vb s.vd.length y.seen), (k19, MO (kInt .u32) y.l)] ++ HS0) w) ⟨[], []⟩ ⟨CpI.start _, hk, hh2⟩ ?_
  clear hk hh2 hl hh a w
  intro y a w hI
  obtain ⟨hy, hl, hh⟩ := hI
  subst hKS0; subst hHS0
  simp only [List.cons_append, List.nil_append, List.append_nil, List.append_assoc] at hl hh
  have hyl := nodup_len9 hy.sd hy.sl
  refine c_seq ?_
  refine c_region ?_
  refine wl (w_next hl hh rfl trivial rfl (by repeat (first | exact find_head | apply find_tail | apply find_skip)) (by repeat (first | exact find_head | apply find_tail | apply find_skip)) ?_ ?_)
  ·
    intro hall; clear hl a; intro a hl
    have hdn := hy.done hall
    refine wl (wl_val hl rfl trivial (r_extract hl rfl (by simp only [List.getElem?_toArray, List.getElem?_cons_zero, List.getElem?_cons_succ]; rfl)) ?_)
    clear hl a; intro a hl
    refine w_nil ?_
    have hl2 := hl.add (t := 2) (hl.add (t := 3) (hl.add (t := 23) (hl.add (t := 25) (hl.nil) rfl) rfl) rfl) rfl; clear hl; have hl := hl2; clear hl2
    refine then_normal ?_
    refine c_seq ?_
    refine c_condF hl rfl ?_
    refine wp_exit ?_
    refine then_exit ?_
    refine then_exit ?_
    refine blk_exit ?_
    refine then_normal ?_
    refine c_seq ?_
    refine c_region ?_
    refine wl (w_loadA hl hh rfl trivial agg78 rfl (by repeat (first | exact find_head | apply find_tail | apply find_skip)) (by first | exact duc_all _ | exact hall) (by first | exact duc_len _) ?_)
    clear hl a; intro a hl
    refine wl (w_storeA hl hh trivial agg78 rfl rfl (by repeat (first | exact find_head | apply find_tail | apply find_skip)) (by first | exact duc_len _) (by first | exact Nat.le_refl 71 | (rw [duc_len]; omega)) (by exact duc_one _) (by first | exact setL_all (show 71 = _ from (duc_len _).symm)) ?_)
    clear hh w; intro w hh
    refine w_nil ?_
    have hl2 := hl.add (t := 2) (hl.nil) rfl; clear hl; have hl := hl2; clear hl2
    refine then_normal ?_
    refine wp_ret ?_
    refine f_retC (F' := E2 ++ (E3 ++ (E4 ++ ((k19, MO (kInt .u32) y.l) :: (s.aE ++ (s.nE ++ (s.iE ++ [(s.vb, MO (kInt .u32) s.vd)]))))))) hl hh rfl rfl agg78 (by repeat (first | exact find_head | apply find_tail | apply find_skip)) (by first | rfl | exact arrL_length _ _ | exact duc_len _ | (simp; done)) (by repeat (first | exact keeps_nil | apply keeps_cons (by repeat (first | exact find_head | apply find_tail | apply find_skip)) (by first  | rfl) | exact keeps_self | exact keeps_left | apply keeps_app | apply keeps_mv | apply keeps_skip)) ?_
    refine ⟨⟨s.ep, s.vs, p6, c6, E2, s.ws, p7, c7, E3, s.is, p8, c8, E4, s.ph, s.fid, s.fn, k19, y.l⟩, ⟨hs.ep, hR2, hR3, hs.e, hs.vo, hs.vl, hs.v1, hR4, hs.io, hs.il, hs.fid, hs.ph, hs.fn, fun i v h => hs.vd i v (by rw [← hdn]; exact h), hy.k⟩, ?_, rfl, by simp only [DuV.E, List.append_assoc, List.cons_append, List.nil_append]⟩
    unfold DuV.pl
    simp only [StP.mk.injEq, true_and]
    funext i; rw [hdn]
  ·
    intro j24 p24 hjn24 hn24; clear hl hh a w; intro a w hl hh
    have hyn := hy.next hs.vk hjn24 hn24
    obtain ⟨x9, hx9, hx1, hx2⟩ := hs.vd _ _ (mget_at9 hs.vk hjn24)
    refine wl (wl_val hl rfl trivial (r_extract hl rfl (by simp only [List.getElem?_toArray, List.getElem?_cons_zero, List.getElem?_cons_succ]; rfl)) ?_)
    clear hl a; intro a hl
    refine w_nil ?_
    have hl2 := hl.add (t := 2) (hl.add (t := 3) (hl.add (t := 23) (hl.add (t := 25) (hl.nil) rfl) rfl) rfl) rfl; clear hl; have hl := hl2; clear hl2
    refine then_normal ?_
    refine c_seq ?_
    refine c_condT hl rfl ?_
    refine wp_skip ?_
    refine then_normal ?_
    refine wp_block ?_
    refine c_seq ?_
    refine c_region ?_
    refine wl (w_entry hjn24 hl hh rfl trivial rfl (by repeat (first | exact find_head | apply find_tail | apply find_skip)) (by repeat (first | exact find_head | apply find_tail | apply find_skip)) ?_)
    clear hl a; intro a hl
    refine wl (wl_val hl rfl trivial (r_extract hl rfl (by simp only [List.getElem?_toArray, List.getElem?_cons_zero, List.getElem?_cons_succ]; rfl)) ?_)
    clear hl a; intro a hl
    refine wl (wl_val hl rfl trivial (r_extract hl rfl (by simp only [List.getElem?_toArray, List.getElem?_cons_zero, List.getElem?_cons_succ]; rfl)) ?_)
    clear hl a; intro a hl
    refine wl (wl_val hl rfl trivial (r_assign hl rfl) ?_)
    clear hl a; intro a hl
    refine wl (wl_val hl rfl trivial (r_assign hl rfl) ?_)
    clear hl a; intro a hl
    refine w_nil ?_
    have hl2 := hl.add (t := 2) (hl.add (t := 3) (hl.add (t := 4) (hl.add (t := 5) (hl.add (t := 23) (hl.nil) rfl) rfl) rfl) rfl) rfl; clear hl; have hl := hl2; clear hl2
    refine then_normal ?_
    refine c_region ?_
    refine wl (wl_val hl rfl trivial (r_field hl rfl fld78_7) ?_)
    clear hl a; intro a hl
    refine wl (w_load hl hh rfl trivial one74 rfl (by repeat (first | exact find_head | apply find_tail | apply find_skip)) (by first | exact duc_vd _ | rfl) ?_)
    clear hl a; intro a hl
    refine wl (wl_val hl rfl trivial (r_move hl rfl) ?_)
    clear hl a; intro a hl
    refine wl (wl_val hl rfl trivial (r_move hl rfl) ?_)
    clear hl a; intro a hl
    refine wl (w_mapUpdate (keyInt Tryz.underlying36) Tryz.underlying74 hl hh trivial rfl rfl rfl (by repeat (first | exact find_head | apply find_tail | apply find_skip)) ?_)
    clear hh w; intro w hh
    refine w_nil ?_
    have hl2 := hl.add (t := 2) (hl.add (t := 3) (hl.add (t := 23) (hl.nil) rfl) rfl) rfl; clear hl; have hl := hl2; clear hl2
    refine blk_normal ?_
    refine then_normal ?_
    refine ⟨⟨y.seen ++ [j24], mput y.l p24.1 p24.2⟩, (by have := nodup_len9 hyn.sd hyn.sl; simp only [List.length_append, List.length_singleton] at this ⊢; omega), hyn, hl.addE (t := 2) (hl.addE (t := 3) (hl.addE (t := 23) (hl.nil) rfl (by first | rfl | (congr 1; omega))) rfl (by first | rfl | (congr 1; omega))) rfl (by first | rfl | (congr 1; omega)), hh.keep (by repeat (first | exact keeps_nil | apply keeps_cons (by repeat (first | exact find_head | apply find_tail | apply find_skip)) (by first  | rfl) | exact keeps_self | exact keeps_left | apply keeps_app | apply keeps_mv | apply keeps_skip))⟩
end Go.Proofs.Qxb6500908aGreat

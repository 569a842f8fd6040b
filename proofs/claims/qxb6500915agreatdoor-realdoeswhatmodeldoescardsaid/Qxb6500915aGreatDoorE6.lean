import Derived.Test.Qxb6500915aGreatDoorE5
namespace Go.Proofs.Qxb6500915aGreatDoor
open Go.Eng
set_option linter.unusedVariables false
set_option linter.unusedSimpArgs false
theorem app117 : appOk Tryz.prog 117 118 1 24 = true := by kernel_rfl
theorem zero118 : zeroOk Tryz.prog 118 (.slice none 0 0) := by unfold zeroOk; kernel_rfl
theorem zero120 : zeroOk Tryz.prog 120 (.agg #[(.int .i64 0), (.bool false)]) := by unfold zeroOk; kernel_rfl
theorem bld120 : buildOk Tryz.prog 120 [(0, 1), (1, 1)] = true := by kernel_rfl
theorem app118 : appOk Tryz.prog 118 120 2 16 = true := by kernel_rfl
theorem cal55 : callable Tryz.prog 55 = true := by kernel_rfl
theorem agg120 : aggOk Tryz.prog 120 2 = true := by kernel_rfl
theorem fld120_1 : fieldOk Tryz.prog 120 1 1 = true := by kernel_rfl
theorem one4 : oneOk Tryz.prog 4 = true := by kernel_rfl
theorem fld93_2 : fieldOk Tryz.prog 93 2 2 = true := by kernel_rfl
attribute [local irreducible] RV.E

set_option maxHeartbeats 16000000 in
theorem strat_spec (rs : List RV) (rp : Option Addr) (rc : Nat) (RE : List (Nat × Obj)) (hp : Prg rs rp rc RE) (tb mb : Nat) (ps : List Pd) (hpl : ps.length ≤ 1000000) (pp : Option Addr) (pc : Nat) (pE : List (Nat × Obj)) (hP : Row (.slice pp ps.length pc) ps.length (fl pdc ps) 3 93 pE) (hT : InT ps (rs.map RV.ru)) (hne : PrD rs RE (List.map Prod.fst ((tb, C [.map (some mb), .slice pp (ps).length pc] 111) :: (mb, MO kStr (ixf 0 ps)) :: pE))) : SpK Tryz.prog 22 #[.pointer (some ⟨tb, 0, none⟩), .agg ⟨[.slice rp rs.length rc]⟩] (PrW rs RE) ((tb, C [.map (some mb), .slice pp (ps).length pc] 111) :: (mb, MO kStr (ixf 0 ps)) :: pE) (fun v F' => ∃ bad, BadOk ps (rs.map RV.ru) bad ∧ ((∃ i j, negP bad 0 (rs.map RV.ru) = some (i, j) ∧ v = .agg ⟨ftc ⟨5, i, j, -1⟩⟩ ∧ F' = (tb, C [.map (some mb), .slice pp (ps).length pc] 111) :: (mb, MO kStr (ixf 0 ps)) :: pE) ∨ (∃ ps' pE', negP bad 0 (rs.map RV.ru) = none ∧ Levelled ps (rs.map RV.ru) ps' ∧ v = .agg ⟨ftc ⟨0, 0, 0, 0⟩⟩ ∧ Row (.slice pp ps'.length pc) ps'.length (fl pdc ps') 3 93 pE' ∧ F' = (tb, C [.map (some mb), .slice pp (ps').length pc] 111) :: (mb, MO kStr (ixf 0 ps')) :: pE'))) := by
  refine f_enter (args := [.pointer (some ⟨tb, 0, none⟩), .agg ⟨[.slice rp rs.length rc]⟩]) Tryz.func22 rfl Tryz.ntmps22 rfl ?_
  intro w0 w a hpre hl hh
  have hrn := hp.len
  generalize hDD : List.map Prod.fst ((tb, C [.map (some mb), .slice pp (ps).length pc] 111) :: (mb, MO kStr (ixf 0 ps)) :: pE) = D at hh hne ⊢
  simp only [slotsFrom, Nat.reduceAdd] at hl
  refine c_seq ?_
  refine c_region ?_
  refine wl (w_box hl hh rfl trivial rfl rfl ?_)
  clear hl hh a w; intro k3 a w hl hh
  refine wl (w_alloc hl hh rfl trivial zero36 rfl ?_)
  clear hl hh a w; intro k4 a w hl hh
  refine w_nil ?_
  have hl2 := hl.add (t := 0) (hl.add (t := 3) (hl.add (t := 4) (hl.nil) rfl) rfl) rfl; clear hl; have hl := hl2; clear hl2
  refine then_normal ?_
  refine c_seq ?_
  refine c_region ?_
  refine wl (wl_val hl rfl trivial (r_move hl rfl) ?_)
  clear hl a; intro a hl
  refine wl (wl_val hl rfl trivial (r_nilCheck hl rfl) ?_)
  clear hl a; intro a hl
  refine wl (wl_val hl rfl trivial (r_field hl rfl fld111_1) ?_)
  clear hl a; intro a hl
  first | refine wl (w_load hl hh rfl trivial one31 rfl (by repeat (first | exact find_head | apply find_tail | apply find_skip)) (by first | exact ev_at hdh | exact ev_at hdu | exact fc0 (fnI_get (by omega)) | exact fcN hou j5 | exact fc0 (fnI_get (by have := hC.len; omega)) | rfl) ?_) | refine wl (wl_val hl rfl trivial (r_load hl rfl one31 (hh.mem _ _ (by repeat (first | exact hmem5 | exact List.mem_append_left _ hmem5 | apply List.mem_cons_of_mem | apply List.mem_append_right))) (List.getElem?_toArray.trans (fcN hou j5))) ?_)
  clear hl a; intro a hl
  refine wl (wl_val hl rfl trivial (r_lenS hl rfl slc31) ?_)
  clear hl a; intro a hl
  refine wl (w_makeSliceN hl hh rfl trivial app117 zero118 rfl rfl (by omega) (by decide) ?_)
  clear hl hh a w; intro k30 jk30 a w hjk30 hl hh
  refine wl (wl_val hl rfl trivial (r_assign hl rfl) ?_)
  clear hl a; intro a hl
  refine w_nil ?_
  have hl2 := hl.add (t := 0) (hl.add (t := 3) (hl.add (t := 4) (hl.add (t := 5) (hl.nil) rfl) rfl) rfl) rfl; clear hl; have hl := hl2; clear hl2
  rw [zeros_ev hjk30] at hh
  refine then_normal ?_
  refine c_seq ?_
  refine c_seq ?_
  refine c_region ?_
  refine wl (wl_val hl rfl trivial (r_field hl rfl fld26_0) ?_)
  clear hl a; intro a hl
  first | refine wl (w_load hl hh rfl trivial one24 rfl (by repeat (first | exact find_head | apply find_tail | apply find_skip)) (by first | exact ev_at hdh | exact ev_at hdu | exact fc0 (fnI_get (by omega)) | exact fcN hou j5 | exact fc0 (fnI_get (by have := hC.len; omega)) | rfl) ?_) | refine wl (wl_val hl rfl trivial (r_load hl rfl one24 (hh.mem _ _ (by repeat (first | exact hmem5 | exact List.mem_append_left _ hmem5 | apply List.mem_cons_of_mem | apply List.mem_append_right))) (List.getElem?_toArray.trans (fcN hou j5))) ?_)
  clear hl a; intro a hl
  refine wl (wl_val hl rfl trivial (r_lenS hl rfl slc24) ?_)
  clear hl a; intro a hl
  refine wl (wl_val hl rfl trivial (r_move hl rfl) ?_)
  clear hl a; intro a hl
  refine w_nil ?_
  have hl2 := hl.add (t := 0) (hl.add (t := 3) (hl.add (t := 4) (hl.add (t := 5) (hl.add (t := 32) (hl.add (t := 33) (hl.add (t := 34) (hl.nil) rfl) rfl) rfl) rfl) rfl) rfl) rfl; clear hl; have hl := hl2; clear hl2
  refine then_normal ?_
  refine wp_block ?_
  obtain ⟨KS0, hKS0, hk⟩ := (hl.add (t := 0) (hl.add (t := 3) (hl.add (t := 4) (hl.add (t := 5) (hl.add (t := 32) (hl.add (t := 33) (hl.nil) rfl) rfl) rfl) rfl) rfl) rfl).name
  obtain ⟨HS0, hHS0, hh2⟩ := hh.nameT (A := [(k30, C (fl evc (List.replicate ps.length ev0)) 118)]) (U := []) (keeps_cons (b := k30) (o' := C (fl evc (List.replicate ps.length ev0)) 118) (by repeat (first | exact find_head | apply find_tail | apply find_skip)) (by first | rfl) ((by repeat (first | exact keeps_nil | exact keeps_self | exact keeps_left | apply keeps_app | apply keeps_mv | apply keeps_skip))))
  refine c_loop (α := GS) (fun z => rs.length - z.i) (fun z a w => (z.i ≤ rs.length ∧ DsI ps.length z.ds (edP ps ((rs.map RV.ru).take z.i))) ∧ Sl 218 ([(34, .int .i64 (z.i : Int))] ++ KS0) a ∧ Has _ w0 ([(k30, C (fl evc z.ds) 118)] ++ (HS0 ++ (List.flatMap EV.E z.ds))) w) ⟨0, List.replicate ps.length ev0⟩ ⟨⟨Nat.zero_le _, DsI.nil _⟩, hl.addE (t := 34) (hk) rfl (by first | rfl), (by rw [fmE_nil]; exact hh2)⟩ ?_
  clear hk hh2 hl hh a w
  intro z a w hI
  obtain ⟨⟨hi, hz⟩, hl, hh⟩ := hI
  subst hKS0; subst hHS0
  simp only [List.cons_append, List.nil_append, List.append_nil, List.append_assoc] at hl hh
  refine c_seq ?_
  refine c_region ?_
  refine wl (wl_val hl rfl trivial (r_lss hl rfl rfl) ?_)
  clear hl a; intro a hl
  refine w_nil ?_
  have hl2 := hl.add (t := 0) (hl.add (t := 3) (hl.add (t := 4) (hl.add (t := 5) (hl.add (t := 32) (hl.add (t := 33) (hl.add (t := 34) (hl.add (t := 35) (hl.nil) rfl) rfl) rfl) rfl) rfl) rfl) rfl) rfl; clear hl; have hl := hl2; clear hl2
  refine then_normal ?_
  refine c_seq ?_
  refine c_cond hl rfl ?_ ?_
  · intro hc0
    try simp only [decide_eq_true_eq, decide_eq_false_iff_not, Bool.not_eq_true', Bool.not_eq_false', Bool.not_eq_true, Bool.not_eq_false, Bool.and_eq_true, Bool.or_eq_true, Bool.and_eq_false_iff, Bool.or_eq_false_iff, Bool.not_not, ne_eq, Int.not_lt, Int.not_le, Decidable.not_not, beq_iff_eq, bne_iff_ne] at hc0
    obtain ⟨r, hx⟩ : ∃ r, rs[z.i]? = some r := ⟨_, List.getElem?_eq_getElem (by omega)⟩
    have hrm := List.mem_of_getElem? hx
    have hr := hp.ok r hrm
    have hrE := hpre.each r hrm
    have hrl := hr.len; have hra := hr.hd.len
    obtain ⟨b1, j1, hq1, hE1, hm1⟩ := row_mem hp.row (by omega) hpre.re
    rw [hq1] at hl hh
    have hd1 := fl_at c3_len hx j1
    simp only [RV.c3] at hd1
    have hD1 : b1 ∉ D := hne.re _ (by rw [hE1]; exact List.mem_singleton.2 rfl)
    have hrix : ix ps r.p < ps.length := ix_lt (hT.h r.ru (List.mem_map.2 ⟨r, hrm, rfl⟩))
    refine wp_skip ?_
    refine then_normal ?_
    refine c_seq ?_
    refine wp_block ?_
    refine c_seq ?_
    refine c_region ?_
    refine wl (wl_val hl rfl trivial (r_indexS hl rfl rfl slc24 (by omega) (by omega) (by first | (simp only [Int.reduceToNat]; rfl) | exact toNat_add1 _ | exact toNat_add2 _ _ | exact toNat_emod _ _ | exact Int.toNat_natCast _ | rfl)) ?_)
    clear hl a; intro a hl
    first | refine wl (w_loadA hl hh rfl trivial agg57 rfl (by repeat (first | exact find_head | apply find_tail | apply find_skip)) (by first | (simp only [List.getElem?_cons_zero, List.getElem?_cons_succ, Value.cells, List.take_zero, List.take_succ_cons, List.take_nil, List.drop_zero, List.drop_succ_cons, List.drop_nil, List.length_cons, List.length_nil, List.cons_append, List.nil_append, List.append_nil, Nat.zero_add, Nat.add_zero, Nat.reduceAdd, Nat.reduceBEq, Nat.reduceEqDiff, Nat.ble, BEq.rfl, Bool.and_true, Bool.and_self, cond_true, beq_self_eq_true]; rfl)) (by first | rfl | (simp; done)) ?_) | refine wl (w_loadRA hl hh rfl trivial agg57 rfl hm1 hD1 hd1 rfl ?_) | refine wl (w_loadRA hl hh rfl trivial agg57 rfl hm2 hD2 hd2 rfl ?_) | refine wl (wl_val hl rfl trivial (r_loadA hl rfl agg57 (hh.mem _ _ (by repeat (first | exact hmem6 | exact List.mem_append_left _ hmem6 | apply List.mem_cons_of_mem | apply List.mem_append_right))) hd6 rfl) ?_)
    clear hl a; intro a hl
    refine wl (w_alloc hl hh rfl trivial zero57 rfl ?_)
    clear hl hh a w; intro k7 a w hl hh
    refine wl (w_storeA hl hh trivial agg57 rfl rfl (by repeat (first | exact find_head | apply find_tail | apply find_skip)) (by first | rfl | (simp; done)) (by first | (simp; done) | (simp; omega) | exact ev_lt (by rw [hu.len]; exact hrix) | exact fm0 (by omega) | exact pdc_lt (by omega)) (by first | rfl | (simp; done) | rfl) (by first | exact ev_set (e := (ix ps x.l.p, decide (x.l.k = 2))) E2 hdh | exact fs0 (by omega) | exact pdc_put hqg | (simp only [setL, List.getElem?_cons_zero, List.getElem?_cons_succ, Value.cells, List.take_zero, List.take_succ_cons, List.take_nil, List.drop_zero, List.drop_succ_cons, List.drop_nil, List.length_cons, List.length_nil, List.cons_append, List.nil_append, List.append_nil, Nat.zero_add, Nat.add_zero, Nat.reduceAdd, Nat.reduceBEq, Nat.reduceEqDiff, Nat.ble, BEq.rfl, Bool.and_true, Bool.and_self, cond_true, beq_self_eq_true]; rfl)) ?_)
    clear hh w; intro w hh
    refine w_nil ?_
    have hl2 := hl.add (t := 0) (hl.add (t := 3) (hl.add (t := 4) (hl.add (t := 5) (hl.add (t := 7) (hl.add (t := 32) (hl.add (t := 33) (hl.add (t := 34) (hl.nil) rfl) rfl) rfl) rfl) rfl) rfl) rfl) rfl; clear hl; have hl := hl2; clear hl2
    refine then_normal ?_
    refine c_seq ?_
    refine c_draw [(k7, C [.string r.p, .slice r.hp r.a.length r.hc, .slice r.bp r.ls.length r.bc] 57), (tb, C [.map (some mb), .slice pp ps.length pc] 111), (mb, MO kStr (ixf 0 ps))] [8] mixed hh ?_
    clear hh w; intro w hh
    have hM : Mem [(k7, C [.string r.p, .slice r.hp r.a.length r.hc, .slice r.bp r.ls.length r.bc] 57), (tb, C [.map (some mb), .slice pp ps.length pc] 111), (mb, MO kStr (ixf 0 ps))] w := (by (repeat (first | exact Mem.nil | refine Mem.consR hh (by assumption) (by simp) ?_ | refine Mem.cons hh.mem (by (repeat (first | exact find_head | apply find_tail | apply find_skip)); done) ?_ | fail)); done)
    refine d_take (i := 0) hl rfl (by kernel_rfl) (by kernel_rfl) (by kernel_rfl) (by kernel_rfl) (by kernel_rfl) rfl trivial (fun _ _ _ h => h) hM (fun w hC => r_move hl rfl) rfl ?_
    clear hl a; intro a hl
    refine d_take (i := 1) hl rfl (by kernel_rfl) (by kernel_rfl) (by kernel_rfl) (by kernel_rfl) (by kernel_rfl) rfl trivial (fun _ _ _ h => h) hM (fun w hC => r_nilCheck hl rfl) rfl ?_
    clear hl a; intro a hl
    refine d_take (i := 2) hl rfl (by kernel_rfl) (by kernel_rfl) (by kernel_rfl) (by kernel_rfl) (by kernel_rfl) rfl trivial (fun _ _ _ h => h) hM (fun w hC => r_field hl rfl fld111_0) rfl ?_
    clear hl a; intro a hl
    refine d_take (i := 3) hl rfl (by kernel_rfl) (by kernel_rfl) (by kernel_rfl) (by kernel_rfl) (by kernel_rfl) rfl trivial (fun _ _ _ h => h) hM (fun w hC => r_loadC hl rfl one87 hC (by repeat (first | exact find_head | apply find_tail | apply find_skip)) (by first | exact ev_at hdh | exact ev_at hdu | exact fc0 (fnI_get (by omega)) | exact fcN hou j5 | exact fc0 (fnI_get (by have := hC.len; omega)) | rfl)) rfl ?_
    clear hl a; intro a hl
    refine d_take (i := 4) hl rfl (by kernel_rfl) (by kernel_rfl) (by kernel_rfl) (by kernel_rfl) (by kernel_rfl) rfl trivial (fun _ _ _ h => h) hM (fun w hC => r_field hl rfl fld57_0) rfl ?_
    clear hl a; intro a hl
    refine d_take (i := 5) hl rfl (by kernel_rfl) (by kernel_rfl) (by kernel_rfl) (by kernel_rfl) (by kernel_rfl) rfl trivial (fun _ _ _ h => h) hM (fun w hC => r_field hl rfl fld46_0) rfl ?_
    clear hl a; intro a hl
    refine d_take (i := 6) hl rfl (by kernel_rfl) (by kernel_rfl) (by kernel_rfl) (by kernel_rfl) (by kernel_rfl) rfl trivial (fun _ _ _ h => h) hM (fun w hC => r_loadC hl rfl one9 hC (by repeat (first | exact find_head | apply find_tail | apply find_skip)) (by first | exact ev_at hdh | exact ev_at hdu | exact fc0 (fnI_get (by omega)) | exact fcN hou j5 | exact fc0 (fnI_get (by have := hC.len; omega)) | rfl)) rfl ?_
    clear hl a; intro a hl
    refine d_take (i := 7) hl rfl (by kernel_rfl) (by kernel_rfl) (by kernel_rfl) (by kernel_rfl) (by kernel_rfl) rfl trivial (fun _ _ _ h => h) hM (fun w hC => r_lookup (keyStr Tryz.underlying9) Tryz.underlying87 zero3 hl rfl rfl (hC _ _ (Find.mem (by repeat (first | exact find_head | apply find_tail | apply find_skip))))) rfl ?_
    clear hl a; intro a hl
    rw [ix_get] at hl
    refine d_takeL (i := 8) hl rfl (by kernel_rfl) (by kernel_rfl) (by kernel_rfl) (by kernel_rfl) (by kernel_rfl) rfl trivial (fun _ _ _ h => h) (fun w => r_assign hl rfl) rfl ?_
    clear hl a; intro a hl
    refine d_done (by kernel_rfl) ?_
    try clear hM
    have hl2 := hl.add (t := 0) (hl.add (t := 3) (hl.add (t := 4) (hl.add (t := 5) (hl.add (t := 7) (hl.add (t := 8) (hl.add (t := 32) (hl.add (t := 33) (hl.add (t := 34) (hl.nil) rfl) rfl) rfl) rfl) rfl) rfl) rfl) rfl) rfl; clear hl; have hl := hl2; clear hl2
    refine then_normal ?_
    refine c_seq ?_
    refine c_region ?_
    refine wl (wl_val hl rfl trivial (r_field hl rfl fld57_1) ?_)
    clear hl a; intro a hl
    first | refine wl (w_load hl hh rfl trivial one55 rfl (by repeat (first | exact find_head | apply find_tail | apply find_skip)) (by first | exact ev_at hdh | exact ev_at hdu | exact fc0 (fnI_get (by omega)) | exact fcN hou j5 | exact fc0 (fnI_get (by have := hC.len; omega)) | rfl) ?_) | refine wl (wl_val hl rfl trivial (r_load hl rfl one55 (hh.mem _ _ (by repeat (first | exact hmem5 | exact List.mem_append_left _ hmem5 | apply List.mem_cons_of_mem | apply List.mem_append_right))) (List.getElem?_toArray.trans (fcN hou j5))) ?_)
    clear hl a; intro a hl
    refine wl (wl_val hl rfl trivial (r_lenS hl rfl slc55) ?_)
    clear hl a; intro a hl
    refine wl (wl_val hl rfl trivial (r_move hl rfl) ?_)
    clear hl a; intro a hl
    refine w_nil ?_
    have hl2 := hl.add (t := 0) (hl.add (t := 3) (hl.add (t := 4) (hl.add (t := 5) (hl.add (t := 8) (hl.add (t := 32) (hl.add (t := 33) (hl.add (t := 34) (hl.add (t := 47) (hl.add (t := 48) (hl.add (t := 49) (hl.nil) rfl) rfl) rfl) rfl) rfl) rfl) rfl) rfl) rfl) rfl) rfl; clear hl; have hl := hl2; clear hl2
    refine then_normal ?_
    refine wp_block ?_
    obtain ⟨KS1, hKS1, hk⟩ := (hl.add (t := 0) (hl.add (t := 3) (hl.add (t := 4) (hl.add (t := 5) (hl.add (t := 8) (hl.add (t := 32) (hl.add (t := 33) (hl.add (t := 34) (hl.add (t := 47) (hl.add (t := 48) (hl.nil) rfl) rfl) rfl) rfl) rfl) rfl) rfl) rfl) rfl) rfl).name
    obtain ⟨HS1, hHS1, hh2⟩ := hh.nameT (A := [(k30, C (fl evc z.ds) 118)]) (U := (List.flatMap EV.E z.ds)) (keeps_cons (b := k30) (o' := C (fl evc z.ds) 118) (by repeat (first | exact find_head | apply find_tail | apply find_skip)) (by first | rfl) ((by repeat (first | exact keeps_nil | exact keeps_self | exact keeps_left | apply keeps_app | apply keeps_mv | apply keeps_skip))))
    refine c_loop (α := GS) (fun u => r.ls.length - u.i) (fun u a w => (u.i ≤ r.ls.length ∧ DsI ps.length u.ds (edP ps ((rs.map RV.ru).take z.i) ++ edB ps r.p ((r.ls.map LV.l).take u.i))) ∧ Sl 218 ([(49, .int .i64 (u.i : Int))] ++ KS1) a ∧ Has _ w0 ([(k30, C (fl evc u.ds) 118)] ++ (HS1 ++ (List.flatMap EV.E u.ds))) w) ⟨0, z.ds⟩ ⟨⟨Nat.zero_le _, hz.skip rfl⟩, hl.addE (t := 49) (hk) rfl (by first | rfl), hh2⟩ ?_
    clear hk hh2 hl hh a w
    intro u a w hI
    obtain ⟨⟨hui, hu⟩, hl, hh⟩ := hI
    subst hKS1; subst hHS1
    simp only [List.cons_append, List.nil_append, List.append_nil, List.append_assoc] at hl hh
    refine c_seq ?_
    refine c_region ?_
    refine wl (wl_val hl rfl trivial (r_lss hl rfl rfl) ?_)
    clear hl a; intro a hl
    refine w_nil ?_
    have hl2 := hl.add (t := 0) (hl.add (t := 3) (hl.add (t := 4) (hl.add (t := 5) (hl.add (t := 8) (hl.add (t := 32) (hl.add (t := 33) (hl.add (t := 34) (hl.add (t := 47) (hl.add (t := 48) (hl.add (t := 49) (hl.add (t := 50) (hl.nil) rfl) rfl) rfl) rfl) rfl) rfl) rfl) rfl) rfl) rfl) rfl) rfl; clear hl; have hl := hl2; clear hl2
    refine then_normal ?_
    refine c_seq ?_
    refine c_cond hl rfl ?_ ?_
    · intro hc1
      try simp only [decide_eq_true_eq, decide_eq_false_iff_not, Bool.not_eq_true', Bool.not_eq_false', Bool.not_eq_true, Bool.not_eq_false, Bool.and_eq_true, Bool.or_eq_true, Bool.and_eq_false_iff, Bool.or_eq_false_iff, Bool.not_not, ne_eq, Int.not_lt, Int.not_le, Decidable.not_not, beq_iff_eq, bne_iff_ne] at hc1
      obtain ⟨x, hxx⟩ : ∃ x, r.ls[u.i]? = some x := ⟨_, List.getElem?_eq_getElem (by omega)⟩
      have hxm := List.mem_of_getElem? hxx
      have hxo := hr.ls x hxm
      have hxE := RV.ml hrE hxm
      have hxa := hxo.ags.len
      obtain ⟨b2, j2, hq2, hE2, hm2⟩ := row_mem hr.bd (by omega) (RV.mb hrE)
      rw [hq2] at hl hh
      have hd2 := fl_at c4_len hxx j2
      simp only [LV.c4] at hd2
      have hD2 : b2 ∉ D := RV.db (hne.each r hrm) _ (by rw [hE2]; exact List.mem_singleton.2 rfl)
      have hxix : ¬ x.l.k = 1 → ix ps x.l.p < ps.length := fun h9 => ix_lt (hT.l r.ru x.l (List.mem_map.2 ⟨r, hrm, rfl⟩) (List.mem_map.2 ⟨x, hxm, rfl⟩) h9)
      refine wp_skip ?_
      refine then_normal ?_
      refine c_seq ?_
      refine wp_block ?_
      refine c_seq ?_
      refine c_region ?_
      refine wl (wl_val hl rfl trivial (r_indexS hl rfl rfl slc55 (by omega) (by omega) (by first | (simp only [Int.reduceToNat]; rfl) | exact toNat_add1 _ | exact toNat_add2 _ _ | exact toNat_emod _ _ | exact Int.toNat_natCast _ | rfl)) ?_)
      clear hl a; intro a hl
      first | refine wl (w_loadA hl hh rfl trivial agg48 rfl (by repeat (first | exact find_head | apply find_tail | apply find_skip)) (by first | (simp only [List.getElem?_cons_zero, List.getElem?_cons_succ, Value.cells, List.take_zero, List.take_succ_cons, List.take_nil, List.drop_zero, List.drop_succ_cons, List.drop_nil, List.length_cons, List.length_nil, List.cons_append, List.nil_append, List.append_nil, Nat.zero_add, Nat.add_zero, Nat.reduceAdd, Nat.reduceBEq, Nat.reduceEqDiff, Nat.ble, BEq.rfl, Bool.and_true, Bool.and_self, cond_true, beq_self_eq_true]; rfl)) (by first | rfl | (simp; done)) ?_) | refine wl (w_loadRA hl hh rfl trivial agg48 rfl hm1 hD1 hd1 rfl ?_) | refine wl (w_loadRA hl hh rfl trivial agg48 rfl hm2 hD2 hd2 rfl ?_) | refine wl (wl_val hl rfl trivial (r_loadA hl rfl agg48 (hh.mem _ _ (by repeat (first | exact hmem6 | exact List.mem_append_left _ hmem6 | apply List.mem_cons_of_mem | apply List.mem_append_right))) hd6 rfl) ?_)
      clear hl a; intro a hl
      refine wl (w_alloc hl hh rfl trivial zero48 rfl ?_)
      clear hl hh a w; intro k10 a w hl hh
      refine wl (w_storeA hl hh trivial agg48 rfl rfl (by repeat (first | exact find_head | apply find_tail | apply find_skip)) (by first | rfl | (simp; done)) (by first | (simp; done) | (simp; omega) | exact ev_lt (by rw [hu.len]; exact hrix) | exact fm0 (by omega) | exact pdc_lt (by omega)) (by first | rfl | (simp; done) | rfl) (by first | exact ev_set (e := (ix ps x.l.p, decide (x.l.k = 2))) E2 hdh | exact fs0 (by omega) | exact pdc_put hqg | (simp only [setL, List.getElem?_cons_zero, List.getElem?_cons_succ, Value.cells, List.take_zero, List.take_succ_cons, List.take_nil, List.drop_zero, List.drop_succ_cons, List.drop_nil, List.length_cons, List.length_nil, List.cons_append, List.nil_append, List.append_nil, Nat.zero_add, Nat.add_zero, Nat.reduceAdd, Nat.reduceBEq, Nat.reduceEqDiff, Nat.ble, BEq.rfl, Bool.and_true, Bool.and_self, cond_true, beq_self_eq_true]; rfl)) ?_)
      clear hh w; intro w hh
      refine w_nil ?_
      have hl2 := hl.add (t := 0) (hl.add (t := 3) (hl.add (t := 4) (hl.add (t := 5) (hl.add (t := 8) (hl.add (t := 10) (hl.add (t := 32) (hl.add (t := 33) (hl.add (t := 34) (hl.add (t := 47) (hl.add (t := 48) (hl.add (t := 49) (hl.nil) rfl) rfl) rfl) rfl) rfl) rfl) rfl) rfl) rfl) rfl) rfl) rfl; clear hl; have hl := hl2; clear hl2
      refine then_normal ?_
      refine c_seq ?_
      refine c_region ?_
      refine wl (wl_val hl rfl trivial (r_field hl rfl fld48_0) ?_)
      clear hl a; intro a hl
      first | refine wl (w_load hl hh rfl trivial one44 rfl (by repeat (first | exact find_head | apply find_tail | apply find_skip)) (by first | exact ev_at hdh | exact ev_at hdu | exact fc0 (fnI_get (by omega)) | exact fcN hou j5 | exact fc0 (fnI_get (by have := hC.len; omega)) | rfl) ?_) | refine wl (wl_val hl rfl trivial (r_load hl rfl one44 (hh.mem _ _ (by repeat (first | exact hmem5 | exact List.mem_append_left _ hmem5 | apply List.mem_cons_of_mem | apply List.mem_append_right))) (List.getElem?_toArray.trans (fcN hou j5))) ?_)
      clear hl a; intro a hl
      refine wl (wl_val hl rfl trivial (r_neq hl rfl rfl) ?_)
      clear hl a; intro a hl
      refine w_nil ?_
      have hl2 := hl.add (t := 0) (hl.add (t := 3) (hl.add (t := 4) (hl.add (t := 5) (hl.add (t := 8) (hl.add (t := 10) (hl.add (t := 32) (hl.add (t := 33) (hl.add (t := 34) (hl.add (t := 47) (hl.add (t := 48) (hl.add (t := 49) (hl.add (t := 55) (hl.nil) rfl) rfl) rfl) rfl) rfl) rfl) rfl) rfl) rfl) rfl) rfl) rfl) rfl; clear hl; have hl := hl2; clear hl2
      refine then_normal ?_
      refine c_cond hl rfl ?_ ?_
      · intro hc2
        try simp only [decide_eq_true_eq, decide_eq_false_iff_not, Bool.not_eq_true', Bool.not_eq_false', Bool.not_eq_true, Bool.not_eq_false, Bool.and_eq_true, Bool.or_eq_true, Bool.and_eq_false_iff, Bool.or_eq_false_iff, Bool.not_not, ne_eq, Int.not_lt, Int.not_le, Decidable.not_not, beq_iff_eq, bne_iff_ne] at hc2
        have hxi := hxix hc2
        obtain ⟨d, hdh⟩ : ∃ d, u.ds[ix ps r.p]? = some d := ⟨_, List.getElem?_eq_getElem (by rw [hu.len]; exact hrix)⟩
        have hdr : d.ok := hu.rows d (List.mem_of_getElem? hdh)
        have hdl : d.l.length ≤ 64 * rs.length + 65536 := by
          rw [hu.ok _ d hdh]
          refine Nat.le_trans (grp_len _ _) ?_
          rw [List.length_append]
          have h8 := edP_len ps ((rs.map RV.ru).take z.i) (fun q hq => hT.b q (List.mem_of_mem_take hq))
          have h9 := edB_len ps r.p ((r.ls.map LV.l).take u.i)
          simp only [List.length_take, List.length_map] at h8 h9
          omega
        obtain ⟨RS, hp1, hp2⟩ := ev_split hdh
        have hh9 := has_sw hh (A := (List.flatMap EV.E u.ds)) (by repeat (first | exact keeps_nil | apply keeps_cons (by repeat (first | exact find_head | apply find_tail | apply find_skip)) (by first  | rfl) | exact keeps_self | exact keeps_left | apply keeps_app | apply keeps_mv | apply keeps_skip)) hp1
        clear hh; have hh := hh9; clear hh9
        simp only [List.append_assoc] at hh
        refine c_draw [(k10, C [.int .u8 x.l.k, .int .u8 x.l.o, .string x.l.p, .slice x.p x.l.a.length x.c] 48), (tb, C [.map (some mb), .slice pp ps.length pc] 111), (mb, MO kStr (ixf 0 ps)), (k30, C (fl evc u.ds) 118)] [20, 21] mixed hh ?_
        clear hh w; intro w hh
        have hM : Mem [(k10, C [.int .u8 x.l.k, .int .u8 x.l.o, .string x.l.p, .slice x.p x.l.a.length x.c] 48), (tb, C [.map (some mb), .slice pp ps.length pc] 111), (mb, MO kStr (ixf 0 ps)), (k30, C (fl evc u.ds) 118)] w := (by (repeat (first | exact Mem.nil | refine Mem.consR hh (by assumption) (by simp) ?_ | refine Mem.cons hh.mem (by (repeat (first | exact find_head | apply find_tail | apply find_skip)); done) ?_ | fail)); done)
        refine d_take (i := 0) hl rfl (by kernel_rfl) (by kernel_rfl) (by kernel_rfl) (by kernel_rfl) (by kernel_rfl) rfl trivial (fun _ _ _ h => h) hM (fun w hC => r_move hl rfl) rfl ?_
        clear hl a; intro a hl
        refine d_take (i := 1) hl rfl (by kernel_rfl) (by kernel_rfl) (by kernel_rfl) (by kernel_rfl) (by kernel_rfl) rfl trivial (fun _ _ _ h => h) hM (fun w hC => r_move hl rfl) rfl ?_
        clear hl a; intro a hl
        refine d_take (i := 2) hl rfl (by kernel_rfl) (by kernel_rfl) (by kernel_rfl) (by kernel_rfl) (by kernel_rfl) rfl trivial (fun _ _ _ h => h) hM (fun w hC => r_move hl rfl) rfl ?_
        clear hl a; intro a hl
        refine d_take (i := 3) hl rfl (by kernel_rfl) (by kernel_rfl) (by kernel_rfl) (by kernel_rfl) (by kernel_rfl) rfl trivial (fun _ _ _ h => h) hM (fun w hC => r_move hl rfl) rfl ?_
        clear hl a; intro a hl
        refine d_take (i := 4) hl rfl (by kernel_rfl) (by kernel_rfl) (by kernel_rfl) (by kernel_rfl) (by kernel_rfl) rfl trivial (fun _ _ _ h => h) hM (fun w hC => r_indexS hl rfl rfl slc117 (by omega) (by omega) (by first | (simp only [Int.reduceToNat]; rfl) | exact toNat_add1 _ | exact toNat_add2 _ _ | exact toNat_emod _ _ | exact Int.toNat_natCast _ | rfl)) rfl ?_
        clear hl a; intro a hl
        refine d_take (i := 5) hl rfl (by kernel_rfl) (by kernel_rfl) (by kernel_rfl) (by kernel_rfl) (by kernel_rfl) rfl trivial (fun _ _ _ h => h) hM (fun w hC => r_loadC hl rfl one118 hC (by repeat (first | exact find_head | apply find_tail | apply find_skip)) (by first | exact ev_at hdh | exact ev_at hdu | exact fc0 (fnI_get (by omega)) | exact fcN hou j5 | exact fc0 (fnI_get (by have := hC.len; omega)) | rfl)) rfl ?_
        clear hl a; intro a hl
        refine d_take (i := 6) hl rfl (by kernel_rfl) (by kernel_rfl) (by kernel_rfl) (by kernel_rfl) (by kernel_rfl) rfl trivial (fun _ _ _ h => h) hM (fun w hC => r_move hl rfl) rfl ?_
        clear hl a; intro a hl
        refine d_take (i := 7) hl rfl (by kernel_rfl) (by kernel_rfl) (by kernel_rfl) (by kernel_rfl) (by kernel_rfl) rfl trivial (fun _ _ _ h => h) hM (fun w hC => r_nilCheck hl rfl) rfl ?_
        clear hl a; intro a hl
        refine d_take (i := 8) hl rfl (by kernel_rfl) (by kernel_rfl) (by kernel_rfl) (by kernel_rfl) (by kernel_rfl) rfl trivial (fun _ _ _ h => h) hM (fun w hC => r_field hl rfl fld111_0) rfl ?_
        clear hl a; intro a hl
        refine d_take (i := 9) hl rfl (by kernel_rfl) (by kernel_rfl) (by kernel_rfl) (by kernel_rfl) (by kernel_rfl) rfl trivial (fun _ _ _ h => h) hM (fun w hC => r_loadC hl rfl one87 hC (by repeat (first | exact find_head | apply find_tail | apply find_skip)) (by first | exact ev_at hdh | exact ev_at hdu | exact fc0 (fnI_get (by omega)) | exact fcN hou j5 | exact fc0 (fnI_get (by have := hC.len; omega)) | rfl)) rfl ?_
        clear hl a; intro a hl
        refine d_take (i := 10) hl rfl (by kernel_rfl) (by kernel_rfl) (by kernel_rfl) (by kernel_rfl) (by kernel_rfl) rfl trivial (fun _ _ _ h => h) hM (fun w hC => r_field hl rfl fld48_2) rfl ?_
        clear hl a; intro a hl
        refine d_take (i := 11) hl rfl (by kernel_rfl) (by kernel_rfl) (by kernel_rfl) (by kernel_rfl) (by kernel_rfl) rfl trivial (fun _ _ _ h => h) hM (fun w hC => r_field hl rfl fld46_0) rfl ?_
        clear hl a; intro a hl
        refine d_take (i := 12) hl rfl (by kernel_rfl) (by kernel_rfl) (by kernel_rfl) (by kernel_rfl) (by kernel_rfl) rfl trivial (fun _ _ _ h => h) hM (fun w hC => r_loadC hl rfl one9 hC (by repeat (first | exact find_head | apply find_tail | apply find_skip)) (by first | exact ev_at hdh | exact ev_at hdu | exact fc0 (fnI_get (by omega)) | exact fcN hou j5 | exact fc0 (fnI_get (by have := hC.len; omega)) | rfl)) rfl ?_
        clear hl a; intro a hl
        refine d_take (i := 13) hl rfl (by kernel_rfl) (by kernel_rfl) (by kernel_rfl) (by kernel_rfl) (by kernel_rfl) rfl trivial (fun _ _ _ h => h) hM (fun w hC => r_lookup (keyStr Tryz.underlying9) Tryz.underlying87 zero3 hl rfl rfl (hC _ _ (Find.mem (by repeat (first | exact find_head | apply find_tail | apply find_skip))))) rfl ?_
        clear hl a; intro a hl
        rw [ix_get] at hl
        refine d_take (i := 14) hl rfl (by kernel_rfl) (by kernel_rfl) (by kernel_rfl) (by kernel_rfl) (by kernel_rfl) rfl trivial (fun _ _ _ h => h) hM (fun w hC => r_field hl rfl fld48_0) rfl ?_
        clear hl a; intro a hl
        refine d_take (i := 15) hl rfl (by kernel_rfl) (by kernel_rfl) (by kernel_rfl) (by kernel_rfl) (by kernel_rfl) rfl trivial (fun _ _ _ h => h) hM (fun w hC => r_loadC hl rfl one44 hC (by repeat (first | exact find_head | apply find_tail | apply find_skip)) (by first | exact ev_at hdh | exact ev_at hdu | exact fc0 (fnI_get (by omega)) | exact fcN hou j5 | exact fc0 (fnI_get (by have := hC.len; omega)) | rfl)) rfl ?_
        clear hl a; intro a hl
        refine d_take (i := 16) hl rfl (by kernel_rfl) (by kernel_rfl) (by kernel_rfl) (by kernel_rfl) (by kernel_rfl) rfl trivial (fun _ _ _ h => h) hM (fun w hC => r_eql hl rfl rfl) rfl ?_
        clear hl a; intro a hl
        refine d_take (i := 17) hl rfl (by kernel_rfl) (by kernel_rfl) (by kernel_rfl) (by kernel_rfl) (by kernel_rfl) rfl trivial (fun _ _ _ h => h) hM (fun w hC => r_build hl rfl zero120 bld120 (by simp only [fillL, setL, List.getElem?_cons_zero, List.getElem?_cons_succ, Value.cells, List.take_zero, List.take_succ_cons, List.take_nil, List.drop_zero, List.drop_succ_cons, List.drop_nil, List.length_cons, List.length_nil, List.cons_append, List.nil_append, List.append_nil, Nat.zero_add, Nat.add_zero, Nat.reduceAdd, Nat.reduceBEq, Nat.reduceEqDiff, Nat.ble, BEq.rfl, Bool.and_true, Bool.and_self, cond_true, beq_self_eq_true]; rfl)) rfl ?_
        clear hl a; intro a hl
        refine d_one (i := 18) (by kernel_rfl) rfl ?_
        try clear hM
        refine id (w_buildSlice hl hh rfl trivial app118 zero120 rfl rfl rfl rfl rfl (by simp only [fillL, arrPl, List.range_succ, List.range_zero, List.map_cons, List.map_nil, List.map_append, List.nil_append, List.replicate_succ, List.replicate_zero, List.flatten_cons, List.flatten_nil, Nat.zero_mul, Nat.mul_one, Nat.one_mul, Nat.reduceMul, setL, List.getElem?_cons_zero, List.getElem?_cons_succ, Value.cells, List.take_zero, List.take_succ_cons, List.take_nil, List.drop_zero, List.drop_succ_cons, List.drop_nil, List.length_cons, List.length_nil, List.cons_append, List.nil_append, List.append_nil, Nat.zero_add, Nat.add_zero, Nat.reduceAdd, Nat.reduceBEq, Nat.reduceEqDiff, Nat.ble, BEq.rfl, Bool.and_true, Bool.and_self, cond_true, beq_self_eq_true]; rfl) ?_)
        clear hl hh a w; intro k74 a w hl hh
        have hM : Mem [(k10, C [.int .u8 x.l.k, .int .u8 x.l.o, .string x.l.p, .slice x.p x.l.a.length x.c] 48), (tb, C [.map (some mb), .slice pp ps.length pc] 111), (mb, MO kStr (ixf 0 ps)), (k30, C (fl evc u.ds) 118)] w := (by (repeat (first | exact Mem.nil | refine Mem.consR hh (by assumption) (by simp) ?_ | refine Mem.cons hh.mem (by (repeat (first | exact find_head | apply find_tail | apply find_skip)); done) ?_ | fail)); done)
        refine d_step (fun _ => hM) ?_
        refine d_one (i := 19) (by kernel_rfl) rfl ?_
        try clear hM
        refine id (w_append (news := [.int .i64 (ix ps x.l.p : Int), .bool (decide (x.l.k = 2))]) hl hh rfl trivial app118 rfl rfl rfl hdr (by repeat (first | exact keeps_nil | apply keeps_cons (by repeat (first | exact find_head | apply find_tail | apply find_skip)) (by first  | rfl) | exact keeps_self | exact keeps_left | apply keeps_app | apply keeps_mv | apply keeps_skip)) (hh.mem _ _ (Find.mem (by repeat (first | exact find_head | apply find_tail | apply find_skip)))) rfl rfl rfl (by omega) (by omega) (by omega) (by decide) ?_)
        clear hl hh a w; intro rv2 E2 a w hR2 hl hh
        have hh3 := hh.comm; clear hh; have hh := hh3; clear hh3
        try simp only [List.cons_append, List.nil_append, List.append_assoc, List.append_nil] at hh
        obtain ⟨p9, c9, hv9⟩ := row_val hR2
        subst hv9
        have hM : Mem [(k10, C [.int .u8 x.l.k, .int .u8 x.l.o, .string x.l.p, .slice x.p x.l.a.length x.c] 48), (tb, C [.map (some mb), .slice pp ps.length pc] 111), (mb, MO kStr (ixf 0 ps)), (k30, C (fl evc u.ds) 118)] w := (by (repeat (first | exact Mem.nil | refine Mem.consR hh (by assumption) (by simp) ?_ | refine Mem.cons hh.mem (by (repeat (first | exact find_head | apply find_tail | apply find_skip)); done) ?_ | fail)); done)
        refine d_step (fun _ => hM) ?_
        refine d_takeL (i := 20) hl rfl (by kernel_rfl) (by kernel_rfl) (by kernel_rfl) (by kernel_rfl) (by kernel_rfl) rfl trivial (fun _ _ _ h => h) (fun w => r_indexS hl rfl rfl slc117 (by omega) (by omega) (by first | (simp only [Int.reduceToNat]; rfl) | exact toNat_add1 _ | exact toNat_add2 _ _ | exact toNat_emod _ _ | exact Int.toNat_natCast _ | rfl)) rfl ?_
        clear hl a; intro a hl
        refine d_one (i := 21) (by kernel_rfl) rfl ?_
        try clear hM
        refine id (w_store hl hh trivial one118 rfl rfl (by repeat (first | exact find_head | apply find_tail | apply find_skip)) (by first | (simp; done) | (simp; omega) | exact ev_lt (by rw [hu.len]; exact hrix) | exact fm0 (by omega) | exact pdc_lt (by omega)) (by first | rfl | assumption | (apply Row.one; assumption)) (by first | exact ev_set (e := (ix ps x.l.p, decide (x.l.k = 2))) E2 hdh | exact fs0 (by omega) | exact pdc_put hqg | (simp only [setL, List.getElem?_cons_zero, List.getElem?_cons_succ, Value.cells, List.take_zero, List.take_succ_cons, List.take_nil, List.drop_zero, List.drop_succ_cons, List.drop_nil, List.length_cons, List.length_nil, List.cons_append, List.nil_append, List.append_nil, Nat.zero_add, Nat.add_zero, Nat.reduceAdd, Nat.reduceBEq, Nat.reduceEqDiff, Nat.ble, BEq.rfl, Bool.and_true, Bool.and_self, cond_true, beq_self_eq_true]; rfl)) ?_)
        clear hh w; intro w hh
        refine d_step (fun h => absurd h (by decide)) ?_
        refine d_done (by kernel_rfl) ?_
        try clear hM
        have hl2 := hl.add (t := 0) (hl.add (t := 3) (hl.add (t := 4) (hl.add (t := 5) (hl.add (t := 8) (hl.add (t := 32) (hl.add (t := 33) (hl.add (t := 34) (hl.add (t := 47) (hl.add (t := 48) (hl.add (t := 49) (hl.nil) rfl) rfl) rfl) rfl) rfl) rfl) rfl) rfl) rfl) rfl) rfl; clear hl; have hl := hl2; clear hl2
        have hh9 := has_sw hh (A := E2 ++ RS) (by repeat (first | exact keeps_nil | apply keeps_cons (by repeat (first | exact find_head | apply find_tail | apply find_skip)) (by first  | rfl) | exact keeps_self | exact keeps_left | apply keeps_app | apply keeps_mv | apply keeps_skip)) (hp2 ⟨d.l ++ [(ix ps x.l.p, decide (x.l.k = 2))], p9, c9, E2⟩)
        clear hh; have hh := hh9; clear hh9
        try simp only [List.append_assoc, List.cons_append, List.nil_append] at hh
        have hDn := hu.step (e := (ix ps x.l.p, decide (x.l.k = 2))) hdh hR2
        refine blk_normal ?_
        refine then_normal ?_
        refine c_region ?_
        first | refine wl (wl_val hl rfl trivial (r_add hl rfl rfl (by simp only [Fits]; omega)) ?_) | refine wl (wl_val hl rfl trivial (r_addW hl rfl rfl) ?_)
        clear hl a; intro a hl
        refine wl (wl_val hl rfl trivial (r_move hl rfl) ?_)
        clear hl a; intro a hl
        refine w_nil ?_
        have hl2 := hl.add (t := 0) (hl.add (t := 3) (hl.add (t := 4) (hl.add (t := 5) (hl.add (t := 8) (hl.add (t := 32) (hl.add (t := 33) (hl.add (t := 34) (hl.add (t := 47) (hl.add (t := 48) (hl.add (t := 49) (hl.nil) rfl) rfl) rfl) rfl) rfl) rfl) rfl) rfl) rfl) rfl) rfl; clear hl; have hl := hl2; clear hl2
        refine then_normal ?_
        refine ⟨⟨u.i + 1, u.ds.set (ix ps r.p) ⟨d.l ++ [(ix ps x.l.p, decide (x.l.k = 2))], p9, c9, E2⟩⟩, (by simp only; omega), ⟨by simp only; omega, by rw [edB_snoc (lt_at hxx), ← List.append_assoc, show edL ps r.p x.l = [(ix ps r.p, (ix ps x.l.p, decide (x.l.k = 2)))] from if_neg hc2]; exact hDn⟩, hl.addE (t := 49) (hl.addE (t := 0) (hl.addE (t := 3) (hl.addE (t := 4) (hl.addE (t := 5) (hl.addE (t := 8) (hl.addE (t := 32) (hl.addE (t := 33) (hl.addE (t := 34) (hl.addE (t := 47) (hl.addE (t := 48) (hl.nil) rfl (by first | rfl | exact congrArg (Value.int .i64) (show (u.i : Int) + 1 = ((u.i + 1 : Nat) : Int) by omega) | (rw [hq2]))) rfl (by first | rfl | exact congrArg (Value.int .i64) (show (u.i : Int) + 1 = ((u.i + 1 : Nat) : Int) by omega) | (rw [hq2]))) rfl (by first | rfl | exact congrArg (Value.int .i64) (show (u.i : Int) + 1 = ((u.i + 1 : Nat) : Int) by omega) | (rw [hq2]))) rfl (by first | rfl | exact congrArg (Value.int .i64) (show (u.i : Int) + 1 = ((u.i + 1 : Nat) : Int) by omega) | (rw [hq2]))) rfl (by first | rfl | exact congrArg (Value.int .i64) (show (u.i : Int) + 1 = ((u.i + 1 : Nat) : Int) by omega) | (rw [hq2]))) rfl (by first | rfl | exact congrArg (Value.int .i64) (show (u.i : Int) + 1 = ((u.i + 1 : Nat) : Int) by omega) | (rw [hq2]))) rfl (by first | rfl | exact congrArg (Value.int .i64) (show (u.i : Int) + 1 = ((u.i + 1 : Nat) : Int) by omega) | (rw [hq2]))) rfl (by first | rfl | exact congrArg (Value.int .i64) (show (u.i : Int) + 1 = ((u.i + 1 : Nat) : Int) by omega) | (rw [hq2]))) rfl (by first | rfl | exact congrArg (Value.int .i64) (show (u.i : Int) + 1 = ((u.i + 1 : Nat) : Int) by omega) | (rw [hq2]))) rfl (by first | rfl | exact congrArg (Value.int .i64) (show (u.i : Int) + 1 = ((u.i + 1 : Nat) : Int) by omega) | (rw [hq2]))) rfl (by first | rfl | exact congrArg (Value.int .i64) (show (u.i : Int) + 1 = ((u.i + 1 : Nat) : Int) by omega) | (rw [hq2])), hh.keep (by repeat (first | exact keeps_nil | apply keeps_cons (by repeat (first | exact find_head | apply find_tail | apply find_skip)) (by first  | (rw [hq2]) | rfl) | exact keeps_self | exact keeps_left | apply keeps_app | apply keeps_mv | apply keeps_skip))⟩
      · intro hc2
        try simp only [decide_eq_true_eq, decide_eq_false_iff_not, Bool.not_eq_true', Bool.not_eq_false', Bool.not_eq_true, Bool.not_eq_false, Bool.and_eq_true, Bool.or_eq_true, Bool.and_eq_false_iff, Bool.or_eq_false_iff, Bool.not_not, ne_eq, Int.not_lt, Int.not_le, Decidable.not_not, beq_iff_eq, bne_iff_ne] at hc2
        refine wp_skip ?_
        refine blk_normal ?_
        refine then_normal ?_
        refine c_region ?_
        first | refine wl (wl_val hl rfl trivial (r_add hl rfl rfl (by simp only [Fits]; omega)) ?_) | refine wl (wl_val hl rfl trivial (r_addW hl rfl rfl) ?_)
        clear hl a; intro a hl
        refine wl (wl_val hl rfl trivial (r_move hl rfl) ?_)
        clear hl a; intro a hl
        refine w_nil ?_
        have hl2 := hl.add (t := 0) (hl.add (t := 3) (hl.add (t := 4) (hl.add (t := 5) (hl.add (t := 8) (hl.add (t := 32) (hl.add (t := 33) (hl.add (t := 34) (hl.add (t := 47) (hl.add (t := 48) (hl.add (t := 49) (hl.nil) rfl) rfl) rfl) rfl) rfl) rfl) rfl) rfl) rfl) rfl) rfl; clear hl; have hl := hl2; clear hl2
        refine then_normal ?_
        refine ⟨⟨u.i + 1, u.ds⟩, (by simp only; omega), ⟨by simp only; omega, by rw [edB_snoc (lt_at hxx), ← List.append_assoc]; exact hu.skip (if_pos hc2)⟩, hl.addE (t := 49) (hl.addE (t := 0) (hl.addE (t := 3) (hl.addE (t := 4) (hl.addE (t := 5) (hl.addE (t := 8) (hl.addE (t := 32) (hl.addE (t := 33) (hl.addE (t := 34) (hl.addE (t := 47) (hl.addE (t := 48) (hl.nil) rfl (by first | rfl | exact congrArg (Value.int .i64) (show (u.i : Int) + 1 = ((u.i + 1 : Nat) : Int) by omega) | (rw [hq2]))) rfl (by first | rfl | exact congrArg (Value.int .i64) (show (u.i : Int) + 1 = ((u.i + 1 : Nat) : Int) by omega) | (rw [hq2]))) rfl (by first | rfl | exact congrArg (Value.int .i64) (show (u.i : Int) + 1 = ((u.i + 1 : Nat) : Int) by omega) | (rw [hq2]))) rfl (by first | rfl | exact congrArg (Value.int .i64) (show (u.i : Int) + 1 = ((u.i + 1 : Nat) : Int) by omega) | (rw [hq2]))) rfl (by first | rfl | exact congrArg (Value.int .i64) (show (u.i : Int) + 1 = ((u.i + 1 : Nat) : Int) by omega) | (rw [hq2]))) rfl (by first | rfl | exact congrArg (Value.int .i64) (show (u.i : Int) + 1 = ((u.i + 1 : Nat) : Int) by omega) | (rw [hq2]))) rfl (by first | rfl | exact congrArg (Value.int .i64) (show (u.i : Int) + 1 = ((u.i + 1 : Nat) : Int) by omega) | (rw [hq2]))) rfl (by first | rfl | exact congrArg (Value.int .i64) (show (u.i : Int) + 1 = ((u.i + 1 : Nat) : Int) by omega) | (rw [hq2]))) rfl (by first | rfl | exact congrArg (Value.int .i64) (show (u.i : Int) + 1 = ((u.i + 1 : Nat) : Int) by omega) | (rw [hq2]))) rfl (by first | rfl | exact congrArg (Value.int .i64) (show (u.i : Int) + 1 = ((u.i + 1 : Nat) : Int) by omega) | (rw [hq2]))) rfl (by first | rfl | exact congrArg (Value.int .i64) (show (u.i : Int) + 1 = ((u.i + 1 : Nat) : Int) by omega) | (rw [hq2])), hh.keep (by repeat (first | exact keeps_nil | apply keeps_cons (by repeat (first | exact find_head | apply find_tail | apply find_skip)) (by first  | (rw [hq2]) | rfl) | exact keeps_self | exact keeps_left | apply keeps_app | apply keeps_mv | apply keeps_skip))⟩
    · intro hc1
      try simp only [decide_eq_true_eq, decide_eq_false_iff_not, Bool.not_eq_true', Bool.not_eq_false', Bool.not_eq_true, Bool.not_eq_false, Bool.and_eq_true, Bool.or_eq_true, Bool.and_eq_false_iff, Bool.or_eq_false_iff, Bool.not_not, ne_eq, Int.not_lt, Int.not_le, Decidable.not_not, beq_iff_eq, bne_iff_ne] at hc1
      have hue : u.i = r.ls.length := by omega
      refine wp_exit ?_
      refine then_exit ?_
      refine then_exit ?_
      refine blk_exit ?_
      refine blk_normal ?_
      refine then_normal ?_
      refine c_region ?_
      first | refine wl (wl_val hl rfl trivial (r_add hl rfl rfl (by simp only [Fits]; omega)) ?_) | refine wl (wl_val hl rfl trivial (r_addW hl rfl rfl) ?_)
      clear hl a; intro a hl
      refine wl (wl_val hl rfl trivial (r_move hl rfl) ?_)
      clear hl a; intro a hl
      refine w_nil ?_
      have hl2 := hl.add (t := 0) (hl.add (t := 3) (hl.add (t := 4) (hl.add (t := 5) (hl.add (t := 32) (hl.add (t := 33) (hl.add (t := 34) (hl.nil) rfl) rfl) rfl) rfl) rfl) rfl) rfl; clear hl; have hl := hl2; clear hl2
      refine then_normal ?_
      refine ⟨⟨z.i + 1, u.ds⟩, (by simp only; omega), ⟨by simp only; omega, by rw [edP_snoc (ru_at hx)]; rw [hue, take_all (l := r.ls.map LV.l) (by rw [List.length_map])] at hu; exact hu⟩, hl.addE (t := 34) (hl.addE (t := 0) (hl.addE (t := 3) (hl.addE (t := 4) (hl.addE (t := 5) (hl.addE (t := 32) (hl.addE (t := 33) (hl.nil) rfl (by first | rfl | exact congrArg (Value.int .i64) (show (z.i : Int) + 1 = ((z.i + 1 : Nat) : Int) by omega) | (rw [hq1]))) rfl (by first | rfl | exact congrArg (Value.int .i64) (show (z.i : Int) + 1 = ((z.i + 1 : Nat) : Int) by omega) | (rw [hq1]))) rfl (by first | rfl | exact congrArg (Value.int .i64) (show (z.i : Int) + 1 = ((z.i + 1 : Nat) : Int) by omega) | (rw [hq1]))) rfl (by first | rfl | exact congrArg (Value.int .i64) (show (z.i : Int) + 1 = ((z.i + 1 : Nat) : Int) by omega) | (rw [hq1]))) rfl (by first | rfl | exact congrArg (Value.int .i64) (show (z.i : Int) + 1 = ((z.i + 1 : Nat) : Int) by omega) | (rw [hq1]))) rfl (by first | rfl | exact congrArg (Value.int .i64) (show (z.i : Int) + 1 = ((z.i + 1 : Nat) : Int) by omega) | (rw [hq1]))) rfl (by first | rfl | exact congrArg (Value.int .i64) (show (z.i : Int) + 1 = ((z.i + 1 : Nat) : Int) by omega) | (rw [hq1])), hh.keep (by repeat (first | exact keeps_nil | apply keeps_cons (by repeat (first | exact find_head | apply find_tail | apply find_skip)) (by first  | (rw [hq1]) | rfl) | exact keeps_self | exact keeps_left | apply keeps_app | apply keeps_mv | apply keeps_skip))⟩
  · intro hc0
    try simp only [decide_eq_true_eq, decide_eq_false_iff_not, Bool.not_eq_true', Bool.not_eq_false', Bool.not_eq_true, Bool.not_eq_false, Bool.and_eq_true, Bool.or_eq_true, Bool.and_eq_false_iff, Bool.or_eq_false_iff, Bool.not_not, ne_eq, Int.not_lt, Int.not_le, Decidable.not_not, beq_iff_eq, bne_iff_ne] at hc0
    have hie : z.i = rs.length := by omega
    rw [hie, take_all (by rw [List.length_map])] at hz
    have hG : Gr ps (rs.map RV.ru) z.ds := ⟨hz.len, hz.ok, hT⟩
    have hcs := comp_spec (dcap := ps.length) z.ds k30 _ (hz.dpi (db := k30) hT (by rw [List.length_map]; omega) hpl)
    rw [hz.len] at hcs
    refine wp_exit ?_
    refine then_exit ?_
    refine then_exit ?_
    refine blk_exit ?_
    refine then_normal ?_
    refine c_seq ?_
    refine c_region ?_
    refine wl (wl_val hl rfl trivial (r_move hl rfl) ?_)
    clear hl a; intro a hl
    refine wl (w_call hl hh rfl trivial rfl cal55 rfl (hcs) (by repeat (first | exact keeps_nil | apply keeps_cons (by repeat (first | exact find_head | apply find_tail | apply find_skip)) (by first  | rfl) | exact keeps_self | exact keeps_left | apply keeps_app | apply keeps_mv | apply keeps_skip)) (memK hh (by repeat (first | exact keeps_nil | apply keeps_cons (by repeat (first | exact find_head | apply find_tail | apply find_skip)) (by first  | rfl) | exact keeps_self | exact keeps_left | apply keeps_app | apply keeps_mv | apply keeps_skip))) ?_)
    clear hl hh a w; intro vc Fc a w hR hl hh
    obtain ⟨cb, cp, od, op, oc, oE, hC, rfl, hOR, rfl⟩ := hR
    try simp only [List.cons_append, List.nil_append, List.append_assoc, List.append_nil] at hh
    have hCl := hC.len
    have hodl := nodup_len _ _ hC.odn (fun x hx => (hC.odm x).1 hx)
    refine wl (wl_val hl rfl trivial (r_move hl rfl) ?_)
    clear hl a; intro a hl
    refine wl (wl_val hl rfl trivial (r_extract hl rfl (by simp only [List.getElem?_toArray, List.getElem?_cons_zero, List.getElem?_cons_succ]; rfl)) ?_)
    clear hl a; intro a hl
    refine wl (wl_val hl rfl trivial (r_extract hl rfl (by simp only [List.getElem?_toArray, List.getElem?_cons_zero, List.getElem?_cons_succ]; rfl)) ?_)
    clear hl a; intro a hl
    refine wl (wl_val hl rfl trivial (r_assign hl rfl) ?_)
    clear hl a; intro a hl
    refine wl (wl_val hl rfl trivial (r_assign hl rfl) ?_)
    clear hl a; intro a hl
    refine w_nil ?_
    have hl2 := hl.add (t := 0) (hl.add (t := 3) (hl.add (t := 4) (hl.add (t := 5) (hl.add (t := 11) (hl.add (t := 12) (hl.nil) rfl) rfl) rfl) rfl) rfl) rfl; clear hl; have hl := hl2; clear hl2
    refine then_normal ?_
    refine c_seq ?_
    refine c_seq ?_
    refine c_region ?_
    refine wl (wl_val hl rfl trivial (r_field hl rfl fld26_0) ?_)
    clear hl a; intro a hl
    first | refine wl (w_load hl hh rfl trivial one24 rfl (by repeat (first | exact find_head | apply find_tail | apply find_skip)) (by first | exact ev_at hdh | exact ev_at hdu | exact fc0 (fnI_get (by omega)) | exact fcN hou j5 | exact fc0 (fnI_get (by have := hC.len; omega)) | rfl) ?_) | refine wl (wl_val hl rfl trivial (r_load hl rfl one24 (hh.mem _ _ (by repeat (first | exact hmem5 | exact List.mem_append_left _ hmem5 | apply List.mem_cons_of_mem | apply List.mem_append_right))) (List.getElem?_toArray.trans (fcN hou j5))) ?_)
    clear hl a; intro a hl
    refine wl (wl_val hl rfl trivial (r_lenS hl rfl slc24) ?_)
    clear hl a; intro a hl
    refine wl (wl_val hl rfl trivial (r_move hl rfl) ?_)
    clear hl a; intro a hl
    refine w_nil ?_
    have hl2 := hl.add (t := 0) (hl.add (t := 4) (hl.add (t := 5) (hl.add (t := 11) (hl.add (t := 12) (hl.add (t := 85) (hl.add (t := 86) (hl.add (t := 87) (hl.nil) rfl) rfl) rfl) rfl) rfl) rfl) rfl) rfl; clear hl; have hl := hl2; clear hl2
    refine then_normal ?_
    refine wp_block ?_
    obtain ⟨KS2, hKS2, hk⟩ := (hl.add (t := 0) (hl.add (t := 4) (hl.add (t := 5) (hl.add (t := 11) (hl.add (t := 12) (hl.add (t := 85) (hl.add (t := 86) (hl.nil) rfl) rfl) rfl) rfl) rfl) rfl) rfl).name
    obtain ⟨HS2, hHS2, hh2⟩ := hh.name (keeps_nil)
    refine c_loop (α := Nat) (fun i2 => rs.length - i2) (fun i2 a w => (i2 ≤ rs.length ∧ negP (badC ps cp) 0 (rs.map RV.ru) = negP (badC ps cp) i2 ((rs.map RV.ru).drop i2)) ∧ Sl 218 ([(87, .int .i64 (i2 : Int))] ++ KS2) a ∧ Has _ w0 ([] ++ HS2) w) 0 ⟨⟨Nat.zero_le _, rfl⟩, hl.addE (t := 87) (hk) rfl (by first | rfl), hh2⟩ ?_
    clear hk hh2 hl hh a w
    intro i2 a w hI
    obtain ⟨⟨hi2, hI⟩, hl, hh⟩ := hI
    subst hKS2; subst hHS2
    simp only [List.cons_append, List.nil_append, List.append_nil, List.append_assoc] at hl hh
    refine c_seq ?_
    refine c_region ?_
    refine wl (wl_val hl rfl trivial (r_lss hl rfl rfl) ?_)
    clear hl a; intro a hl
    refine w_nil ?_
    have hl2 := hl.add (t := 0) (hl.add (t := 4) (hl.add (t := 5) (hl.add (t := 11) (hl.add (t := 12) (hl.add (t := 85) (hl.add (t := 86) (hl.add (t := 87) (hl.add (t := 88) (hl.nil) rfl) rfl) rfl) rfl) rfl) rfl) rfl) rfl) rfl; clear hl; have hl := hl2; clear hl2
    refine then_normal ?_
    refine c_seq ?_
    refine c_cond hl rfl ?_ ?_
    · intro hc3
      try simp only [decide_eq_true_eq, decide_eq_false_iff_not, Bool.not_eq_true', Bool.not_eq_false', Bool.not_eq_true, Bool.not_eq_false, Bool.and_eq_true, Bool.or_eq_true, Bool.and_eq_false_iff, Bool.or_eq_false_iff, Bool.not_not, ne_eq, Int.not_lt, Int.not_le, Decidable.not_not, beq_iff_eq, bne_iff_ne] at hc3
      obtain ⟨r, hx⟩ : ∃ r, rs[i2]? = some r := ⟨_, List.getElem?_eq_getElem (by omega)⟩
      have hrm := List.mem_of_getElem? hx
      have hr := hp.ok r hrm
      have hrE := hpre.each r hrm
      have hrl := hr.len; have hra := hr.hd.len
      obtain ⟨b1, j1, hq1, hE1, hm1⟩ := row_mem hp.row (by omega) hpre.re
      rw [hq1] at hl hh
      have hd1 := fl_at c3_len hx j1
      simp only [RV.c3] at hd1
      have hD1 : b1 ∉ D := hne.re _ (by rw [hE1]; exact List.mem_singleton.2 rfl)
      have hrix : ix ps r.p < ps.length := ix_lt (hT.h r.ru (List.mem_map.2 ⟨r, hrm, rfl⟩))
      have hcr := hC.rg _ hrix
      refine wp_skip ?_
      refine then_normal ?_
      refine c_seq ?_
      refine wp_block ?_
      refine c_seq ?_
      refine c_region ?_
      refine wl (wl_val hl rfl trivial (r_move hl rfl) ?_)
      clear hl a; intro a hl
      refine wl (wl_val hl rfl trivial (r_indexS hl rfl rfl slc24 (by omega) (by omega) (by first | (simp only [Int.reduceToNat]; rfl) | exact toNat_add1 _ | exact toNat_add2 _ _ | exact toNat_emod _ _ | exact Int.toNat_natCast _ | rfl)) ?_)
      clear hl a; intro a hl
      first | refine wl (w_loadA hl hh rfl trivial agg57 rfl (by repeat (first | exact find_head | apply find_tail | apply find_skip)) (by first | (simp only [List.getElem?_cons_zero, List.getElem?_cons_succ, Value.cells, List.take_zero, List.take_succ_cons, List.take_nil, List.drop_zero, List.drop_succ_cons, List.drop_nil, List.length_cons, List.length_nil, List.cons_append, List.nil_append, List.append_nil, Nat.zero_add, Nat.add_zero, Nat.reduceAdd, Nat.reduceBEq, Nat.reduceEqDiff, Nat.ble, BEq.rfl, Bool.and_true, Bool.and_self, cond_true, beq_self_eq_true]; rfl)) (by first | rfl | (simp; done)) ?_) | refine wl (w_loadRA hl hh rfl trivial agg57 rfl hm1 hD1 hd1 rfl ?_) | refine wl (w_loadRA hl hh rfl trivial agg57 rfl hm2 hD2 hd2 rfl ?_) | refine wl (wl_val hl rfl trivial (r_loadA hl rfl agg57 (hh.mem _ _ (by repeat (first | exact hmem6 | exact List.mem_append_left _ hmem6 | apply List.mem_cons_of_mem | apply List.mem_append_right))) hd6 rfl) ?_)
      clear hl a; intro a hl
      refine wl (w_alloc hl hh rfl trivial zero57 rfl ?_)
      clear hl hh a w; intro k14 a w hl hh
      refine wl (wl_val hl rfl trivial (r_assign hl rfl) ?_)
      clear hl a; intro a hl
      refine wl (w_storeA hl hh trivial agg57 rfl rfl (by repeat (first | exact find_head | apply find_tail | apply find_skip)) (by first | rfl | (simp; done)) (by first | (simp; done) | (simp; omega) | exact ev_lt (by rw [hu.len]; exact hrix) | exact fm0 (by omega) | exact pdc_lt (by omega)) (by first | rfl | (simp; done) | rfl) (by first | exact ev_set (e := (ix ps x.l.p, decide (x.l.k = 2))) E2 hdh | exact fs0 (by omega) | exact pdc_put hqg | (simp only [setL, List.getElem?_cons_zero, List.getElem?_cons_succ, Value.cells, List.take_zero, List.take_succ_cons, List.take_nil, List.drop_zero, List.drop_succ_cons, List.drop_nil, List.length_cons, List.length_nil, List.cons_append, List.nil_append, List.append_nil, Nat.zero_add, Nat.add_zero, Nat.reduceAdd, Nat.reduceBEq, Nat.reduceEqDiff, Nat.ble, BEq.rfl, Bool.and_true, Bool.and_self, cond_true, beq_self_eq_true]; rfl)) ?_)
      clear hh w; intro w hh
      refine w_nil ?_
      have hl2 := hl.add (t := 0) (hl.add (t := 4) (hl.add (t := 5) (hl.add (t := 11) (hl.add (t := 12) (hl.add (t := 13) (hl.add (t := 14) (hl.add (t := 85) (hl.add (t := 86) (hl.add (t := 87) (hl.nil) rfl) rfl) rfl) rfl) rfl) rfl) rfl) rfl) rfl) rfl; clear hl; have hl := hl2; clear hl2
      refine then_normal ?_
      refine c_seq ?_
      refine c_draw [(k14, C [.string r.p, .slice r.hp r.a.length r.hc, .slice r.bp r.ls.length r.bc] 57), (tb, C [.map (some mb), .slice pp ps.length pc] 111), (mb, MO kStr (ixf 0 ps)), (cb, C (fl iI cp) 3)] [11] mixed hh ?_
      clear hh w; intro w hh
      have hM : Mem [(k14, C [.string r.p, .slice r.hp r.a.length r.hc, .slice r.bp r.ls.length r.bc] 57), (tb, C [.map (some mb), .slice pp ps.length pc] 111), (mb, MO kStr (ixf 0 ps)), (cb, C (fl iI cp) 3)] w := (by (repeat (first | exact Mem.nil | refine Mem.consR hh (by assumption) (by simp) ?_ | refine Mem.cons hh.mem (by (repeat (first | exact find_head | apply find_tail | apply find_skip)); done) ?_ | fail)); done)
      refine d_take (i := 0) hl rfl (by kernel_rfl) (by kernel_rfl) (by kernel_rfl) (by kernel_rfl) (by kernel_rfl) rfl trivial (fun _ _ _ h => h) hM (fun w hC => r_move hl rfl) rfl ?_
      clear hl a; intro a hl
      refine d_take (i := 1) hl rfl (by kernel_rfl) (by kernel_rfl) (by kernel_rfl) (by kernel_rfl) (by kernel_rfl) rfl trivial (fun _ _ _ h => h) hM (fun w hC => r_move hl rfl) rfl ?_
      clear hl a; intro a hl
      refine d_take (i := 2) hl rfl (by kernel_rfl) (by kernel_rfl) (by kernel_rfl) (by kernel_rfl) (by kernel_rfl) rfl trivial (fun _ _ _ h => h) hM (fun w hC => r_nilCheck hl rfl) rfl ?_
      clear hl a; intro a hl
      refine d_take (i := 3) hl rfl (by kernel_rfl) (by kernel_rfl) (by kernel_rfl) (by kernel_rfl) (by kernel_rfl) rfl trivial (fun _ _ _ h => h) hM (fun w hC => r_field hl rfl fld111_0) rfl ?_
      clear hl a; intro a hl
      refine d_take (i := 4) hl rfl (by kernel_rfl) (by kernel_rfl) (by kernel_rfl) (by kernel_rfl) (by kernel_rfl) rfl trivial (fun _ _ _ h => h) hM (fun w hC => r_loadC hl rfl one87 hC (by repeat (first | exact find_head | apply find_tail | apply find_skip)) (by first | exact ev_at hdh | exact ev_at hdu | exact fc0 (fnI_get (by omega)) | exact fcN hou j5 | exact fc0 (fnI_get (by have := hC.len; omega)) | rfl)) rfl ?_
      clear hl a; intro a hl
      refine d_take (i := 5) hl rfl (by kernel_rfl) (by kernel_rfl) (by kernel_rfl) (by kernel_rfl) (by kernel_rfl) rfl trivial (fun _ _ _ h => h) hM (fun w hC => r_field hl rfl fld57_0) rfl ?_
      clear hl a; intro a hl
      refine d_take (i := 6) hl rfl (by kernel_rfl) (by kernel_rfl) (by kernel_rfl) (by kernel_rfl) (by kernel_rfl) rfl trivial (fun _ _ _ h => h) hM (fun w hC => r_field hl rfl fld46_0) rfl ?_
      clear hl a; intro a hl
      refine d_take (i := 7) hl rfl (by kernel_rfl) (by kernel_rfl) (by kernel_rfl) (by kernel_rfl) (by kernel_rfl) rfl trivial (fun _ _ _ h => h) hM (fun w hC => r_loadC hl rfl one9 hC (by repeat (first | exact find_head | apply find_tail | apply find_skip)) (by first | exact ev_at hdh | exact ev_at hdu | exact fc0 (fnI_get (by omega)) | exact fcN hou j5 | exact fc0 (fnI_get (by have := hC.len; omega)) | rfl)) rfl ?_
      clear hl a; intro a hl
      refine d_take (i := 8) hl rfl (by kernel_rfl) (by kernel_rfl) (by kernel_rfl) (by kernel_rfl) (by kernel_rfl) rfl trivial (fun _ _ _ h => h) hM (fun w hC => r_lookup (keyStr Tryz.underlying9) Tryz.underlying87 zero3 hl rfl rfl (hC _ _ (Find.mem (by repeat (first | exact find_head | apply find_tail | apply find_skip))))) rfl ?_
      clear hl a; intro a hl
      rw [ix_get] at hl
      refine d_take (i := 9) hl rfl (by kernel_rfl) (by kernel_rfl) (by kernel_rfl) (by kernel_rfl) (by kernel_rfl) rfl trivial (fun _ _ _ h => h) hM (fun w hC => r_indexS hl rfl rfl slc58 (by omega) (by omega) (by first | (simp only [Int.reduceToNat]; rfl) | exact toNat_add1 _ | exact toNat_add2 _ _ | exact toNat_emod _ _ | exact Int.toNat_natCast _ | rfl)) rfl ?_
      clear hl a; intro a hl
      refine d_take (i := 10) hl rfl (by kernel_rfl) (by kernel_rfl) (by kernel_rfl) (by kernel_rfl) (by kernel_rfl) rfl trivial (fun _ _ _ h => h) hM (fun w hC => r_loadC hl rfl one3 hC (by repeat (first | exact find_head | apply find_tail | apply find_skip)) (by first | exact ev_at hdh | exact ev_at hdu | exact fc0 (fnI_get (by omega)) | exact fcN hou j5 | exact fc0 (fnI_get (by have := hC.len; omega)) | rfl)) rfl ?_
      clear hl a; intro a hl
      refine d_takeL (i := 11) hl rfl (by kernel_rfl) (by kernel_rfl) (by kernel_rfl) (by kernel_rfl) (by kernel_rfl) rfl trivial (fun _ _ _ h => h) (fun w => r_assign hl rfl) rfl ?_
      clear hl a; intro a hl
      refine d_done (by kernel_rfl) ?_
      try clear hM
      have hl2 := hl.add (t := 0) (hl.add (t := 4) (hl.add (t := 5) (hl.add (t := 11) (hl.add (t := 12) (hl.add (t := 13) (hl.add (t := 14) (hl.add (t := 15) (hl.add (t := 85) (hl.add (t := 86) (hl.add (t := 87) (hl.nil) rfl) rfl) rfl) rfl) rfl) rfl) rfl) rfl) rfl) rfl) rfl; clear hl; have hl := hl2; clear hl2
      refine then_normal ?_
      refine c_seq ?_
      refine c_region ?_
      refine wl (wl_val hl rfl trivial (r_field hl rfl fld57_1) ?_)
      clear hl a; intro a hl
      first | refine wl (w_load hl hh rfl trivial one55 rfl (by repeat (first | exact find_head | apply find_tail | apply find_skip)) (by first | exact ev_at hdh | exact ev_at hdu | exact fc0 (fnI_get (by omega)) | exact fcN hou j5 | exact fc0 (fnI_get (by have := hC.len; omega)) | rfl) ?_) | refine wl (wl_val hl rfl trivial (r_load hl rfl one55 (hh.mem _ _ (by repeat (first | exact hmem5 | exact List.mem_append_left _ hmem5 | apply List.mem_cons_of_mem | apply List.mem_append_right))) (List.getElem?_toArray.trans (fcN hou j5))) ?_)
      clear hl a; intro a hl
      refine wl (wl_val hl rfl trivial (r_lenS hl rfl slc55) ?_)
      clear hl a; intro a hl
      refine wl (wl_val hl rfl trivial (r_move hl rfl) ?_)
      clear hl a; intro a hl
      refine w_nil ?_
      have hl2 := hl.add (t := 0) (hl.add (t := 4) (hl.add (t := 5) (hl.add (t := 11) (hl.add (t := 12) (hl.add (t := 13) (hl.add (t := 15) (hl.add (t := 85) (hl.add (t := 86) (hl.add (t := 87) (hl.add (t := 104) (hl.add (t := 105) (hl.add (t := 106) (hl.nil) rfl) rfl) rfl) rfl) rfl) rfl) rfl) rfl) rfl) rfl) rfl) rfl) rfl; clear hl; have hl := hl2; clear hl2
      refine then_normal ?_
      refine wp_block ?_
      obtain ⟨KS3, hKS3, hk⟩ := (hl.add (t := 0) (hl.add (t := 4) (hl.add (t := 5) (hl.add (t := 11) (hl.add (t := 12) (hl.add (t := 13) (hl.add (t := 15) (hl.add (t := 85) (hl.add (t := 86) (hl.add (t := 87) (hl.add (t := 104) (hl.add (t := 105) (hl.nil) rfl) rfl) rfl) rfl) rfl) rfl) rfl) rfl) rfl) rfl) rfl) rfl).name
      obtain ⟨HS3, hHS3, hh2⟩ := hh.name (keeps_nil)
      refine c_loop (α := Nat) (fun j => r.ls.length - j) (fun j a w => (j ≤ r.ls.length ∧ negB (badC ps cp r.ru.p) 0 r.ru.b = negB (badC ps cp r.ru.p) j (r.ru.b.drop j)) ∧ Sl 218 ([(106, .int .i64 (j : Int))] ++ KS3) a ∧ Has _ w0 ([] ++ HS3) w) 0 ⟨⟨Nat.zero_le _, rfl⟩, hl.addE (t := 106) (hk) rfl (by first | rfl), hh2⟩ ?_
      clear hk hh2 hl hh a w
      intro j a w hI
      obtain ⟨⟨hj, hJ⟩, hl, hh⟩ := hI
      subst hKS3; subst hHS3
      simp only [List.cons_append, List.nil_append, List.append_nil, List.append_assoc] at hl hh
      refine c_seq ?_
      refine c_region ?_
      refine wl (wl_val hl rfl trivial (r_lss hl rfl rfl) ?_)
      clear hl a; intro a hl
      refine w_nil ?_
      have hl2 := hl.add (t := 0) (hl.add (t := 4) (hl.add (t := 5) (hl.add (t := 11) (hl.add (t := 12) (hl.add (t := 13) (hl.add (t := 15) (hl.add (t := 85) (hl.add (t := 86) (hl.add (t := 87) (hl.add (t := 104) (hl.add (t := 105) (hl.add (t := 106) (hl.add (t := 107) (hl.nil) rfl) rfl) rfl) rfl) rfl) rfl) rfl) rfl) rfl) rfl) rfl) rfl) rfl) rfl; clear hl; have hl := hl2; clear hl2
      refine then_normal ?_
      refine c_seq ?_
      refine c_cond hl rfl ?_ ?_
      · intro hc4
        try simp only [decide_eq_true_eq, decide_eq_false_iff_not, Bool.not_eq_true', Bool.not_eq_false', Bool.not_eq_true, Bool.not_eq_false, Bool.and_eq_true, Bool.or_eq_true, Bool.and_eq_false_iff, Bool.or_eq_false_iff, Bool.not_not, ne_eq, Int.not_lt, Int.not_le, Decidable.not_not, beq_iff_eq, bne_iff_ne] at hc4
        obtain ⟨x, hxx⟩ : ∃ x, r.ls[j]? = some x := ⟨_, List.getElem?_eq_getElem (by omega)⟩
        have hxm := List.mem_of_getElem? hxx
        have hxo := hr.ls x hxm
        have hxE := RV.ml hrE hxm
        have hxa := hxo.ags.len
        obtain ⟨b2, j2, hq2, hE2, hm2⟩ := row_mem hr.bd (by omega) (RV.mb hrE)
        rw [hq2] at hl hh
        have hd2 := fl_at c4_len hxx j2
        simp only [LV.c4] at hd2
        have hD2 : b2 ∉ D := RV.db (hne.each r hrm) _ (by rw [hE2]; exact List.mem_singleton.2 rfl)
        have hxix : ¬ x.l.k = 1 → ix ps x.l.p < ps.length := fun h9 => ix_lt (hT.l r.ru x.l (List.mem_map.2 ⟨r, hrm, rfl⟩) (List.mem_map.2 ⟨x, hxm, rfl⟩) h9)
        have hxc : x.l.k = 2 → ix ps x.l.p < ps.length := fun h9 => hxix (by omega)
        refine wp_skip ?_
        refine then_normal ?_
        refine c_seq ?_
        refine wp_block ?_
        refine c_seq ?_
        refine c_region ?_
        refine wl (wl_val hl rfl trivial (r_move hl rfl) ?_)
        clear hl a; intro a hl
        refine wl (wl_val hl rfl trivial (r_indexS hl rfl rfl slc55 (by omega) (by omega) (by first | (simp only [Int.reduceToNat]; rfl) | exact toNat_add1 _ | exact toNat_add2 _ _ | exact toNat_emod _ _ | exact Int.toNat_natCast _ | rfl)) ?_)
        clear hl a; intro a hl
        first | refine wl (w_loadA hl hh rfl trivial agg48 rfl (by repeat (first | exact find_head | apply find_tail | apply find_skip)) (by first | (simp only [List.getElem?_cons_zero, List.getElem?_cons_succ, Value.cells, List.take_zero, List.take_succ_cons, List.take_nil, List.drop_zero, List.drop_succ_cons, List.drop_nil, List.length_cons, List.length_nil, List.cons_append, List.nil_append, List.append_nil, Nat.zero_add, Nat.add_zero, Nat.reduceAdd, Nat.reduceBEq, Nat.reduceEqDiff, Nat.ble, BEq.rfl, Bool.and_true, Bool.and_self, cond_true, beq_self_eq_true]; rfl)) (by first | rfl | (simp; done)) ?_) | refine wl (w_loadRA hl hh rfl trivial agg48 rfl hm1 hD1 hd1 rfl ?_) | refine wl (w_loadRA hl hh rfl trivial agg48 rfl hm2 hD2 hd2 rfl ?_) | refine wl (wl_val hl rfl trivial (r_loadA hl rfl agg48 (hh.mem _ _ (by repeat (first | exact hmem6 | exact List.mem_append_left _ hmem6 | apply List.mem_cons_of_mem | apply List.mem_append_right))) hd6 rfl) ?_)
        clear hl a; intro a hl
        refine wl (w_alloc hl hh rfl trivial zero48 rfl ?_)
        clear hl hh a w; intro k17 a w hl hh
        refine wl (wl_val hl rfl trivial (r_assign hl rfl) ?_)
        clear hl a; intro a hl
        refine wl (w_storeA hl hh trivial agg48 rfl rfl (by repeat (first | exact find_head | apply find_tail | apply find_skip)) (by first | rfl | (simp; done)) (by first | (simp; done) | (simp; omega) | exact ev_lt (by rw [hu.len]; exact hrix) | exact fm0 (by omega) | exact pdc_lt (by omega)) (by first | rfl | (simp; done) | rfl) (by first | exact ev_set (e := (ix ps x.l.p, decide (x.l.k = 2))) E2 hdh | exact fs0 (by omega) | exact pdc_put hqg | (simp only [setL, List.getElem?_cons_zero, List.getElem?_cons_succ, Value.cells, List.take_zero, List.take_succ_cons, List.take_nil, List.drop_zero, List.drop_succ_cons, List.drop_nil, List.length_cons, List.length_nil, List.cons_append, List.nil_append, List.append_nil, Nat.zero_add, Nat.add_zero, Nat.reduceAdd, Nat.reduceBEq, Nat.reduceEqDiff, Nat.ble, BEq.rfl, Bool.and_true, Bool.and_self, cond_true, beq_self_eq_true]; rfl)) ?_)
        clear hh w; intro w hh
        refine w_nil ?_
        have hl2 := hl.add (t := 0) (hl.add (t := 4) (hl.add (t := 5) (hl.add (t := 11) (hl.add (t := 12) (hl.add (t := 13) (hl.add (t := 15) (hl.add (t := 16) (hl.add (t := 17) (hl.add (t := 85) (hl.add (t := 86) (hl.add (t := 87) (hl.add (t := 104) (hl.add (t := 105) (hl.add (t := 106) (hl.nil) rfl) rfl) rfl) rfl) rfl) rfl) rfl) rfl) rfl) rfl) rfl) rfl) rfl) rfl) rfl; clear hl; have hl := hl2; clear hl2
        refine then_normal ?_
        refine c_seq ?_
        refine c_draw [(k17, C [.int .u8 x.l.k, .int .u8 x.l.o, .string x.l.p, .slice x.p x.l.a.length x.c] 48), (tb, C [.map (some mb), .slice pp ps.length pc] 111), (mb, MO kStr (ixf 0 ps)), (cb, C (fl iI cp) 3)] [16, 17] mixed hh ?_
        clear hh w; intro w hh
        have hM : Mem [(k17, C [.int .u8 x.l.k, .int .u8 x.l.o, .string x.l.p, .slice x.p x.l.a.length x.c] 48), (tb, C [.map (some mb), .slice pp ps.length pc] 111), (mb, MO kStr (ixf 0 ps)), (cb, C (fl iI cp) 3)] w := (by (repeat (first | exact Mem.nil | refine Mem.consR hh (by assumption) (by simp) ?_ | refine Mem.cons hh.mem (by (repeat (first | exact find_head | apply find_tail | apply find_skip)); done) ?_ | fail)); done)
        refine d_take (i := 0) hl rfl (by kernel_rfl) (by kernel_rfl) (by kernel_rfl) (by kernel_rfl) (by kernel_rfl) rfl trivial (fun _ _ _ h => h) hM (fun w hC => r_field hl rfl fld48_0) rfl ?_
        clear hl a; intro a hl
        refine d_take (i := 1) hl rfl (by kernel_rfl) (by kernel_rfl) (by kernel_rfl) (by kernel_rfl) (by kernel_rfl) rfl trivial (fun _ _ _ h => h) hM (fun w hC => r_loadC hl rfl one44 hC (by repeat (first | exact find_head | apply find_tail | apply find_skip)) (by first | exact ev_at hdh | exact ev_at hdu | exact fc0 (fnI_get (by omega)) | exact fcN hou j5 | exact fc0 (fnI_get (by have := hC.len; omega)) | rfl)) rfl ?_
        clear hl a; intro a hl
        refine d_take (i := 2) hl rfl (by kernel_rfl) (by kernel_rfl) (by kernel_rfl) (by kernel_rfl) (by kernel_rfl) rfl trivial (fun _ _ _ h => h) hM (fun w hC => r_eql hl rfl rfl) rfl ?_
        clear hl a; intro a hl
        refine d_take (i := 3) hl rfl (by kernel_rfl) (by kernel_rfl) (by kernel_rfl) (by kernel_rfl) (by kernel_rfl) rfl trivial (fun _ _ _ h => h) hM (fun w hC => r_move hl rfl) rfl ?_
        clear hl a; intro a hl
        refine sl_split (t := 114) hl rfl ?_ ?_
        · intro hg1; clear hl; intro hl
          try simp only [decide_eq_true_eq, decide_eq_false_iff_not, Bool.not_eq_true', Bool.not_eq_false', Bool.not_eq_true, Bool.not_eq_false, Bool.and_eq_true, Bool.or_eq_true, Bool.and_eq_false_iff, Bool.or_eq_false_iff, Bool.not_not, ne_eq, Int.not_lt, Int.not_le, Decidable.not_not, beq_iff_eq, bne_iff_ne] at hg1
          refine d_take (i := 4) hl rfl (by kernel_rfl) (by kernel_rfl) (by kernel_rfl) (by kernel_rfl) (by kernel_rfl) rfl ⟨_, _, rfl, rfl, rfl⟩ (fun _ _ _ h => h) hM (fun w hC => r_move hl rfl) rfl ?_
          clear hl a; intro a hl
          refine d_take (i := 5) hl rfl (by kernel_rfl) (by kernel_rfl) (by kernel_rfl) (by kernel_rfl) (by kernel_rfl) rfl ⟨_, _, rfl, rfl, rfl⟩ (fun _ _ _ h => h) hM (fun w hC => r_move hl rfl) rfl ?_
          clear hl a; intro a hl
          refine d_take (i := 6) hl rfl (by kernel_rfl) (by kernel_rfl) (by kernel_rfl) (by kernel_rfl) (by kernel_rfl) rfl ⟨_, _, rfl, rfl, rfl⟩ (fun _ _ _ h => h) hM (fun w hC => r_nilCheck hl rfl) rfl ?_
          clear hl a; intro a hl
          refine d_take (i := 7) hl rfl (by kernel_rfl) (by kernel_rfl) (by kernel_rfl) (by kernel_rfl) (by kernel_rfl) rfl ⟨_, _, rfl, rfl, rfl⟩ (fun _ _ _ h => h) hM (fun w hC => r_field hl rfl fld111_0) rfl ?_
          clear hl a; intro a hl
          refine d_take (i := 8) hl rfl (by kernel_rfl) (by kernel_rfl) (by kernel_rfl) (by kernel_rfl) (by kernel_rfl) rfl ⟨_, _, rfl, rfl, rfl⟩ (fun _ _ _ h => h) hM (fun w hC => r_loadC hl rfl one87 hC (by repeat (first | exact find_head | apply find_tail | apply find_skip)) (by first | exact ev_at hdh | exact ev_at hdu | exact fc0 (fnI_get (by omega)) | exact fcN hou j5 | exact fc0 (fnI_get (by have := hC.len; omega)) | rfl)) rfl ?_
          clear hl a; intro a hl
          refine d_take (i := 9) hl rfl (by kernel_rfl) (by kernel_rfl) (by kernel_rfl) (by kernel_rfl) (by kernel_rfl) rfl ⟨_, _, rfl, rfl, rfl⟩ (fun _ _ _ h => h) hM (fun w hC => r_field hl rfl fld48_2) rfl ?_
          clear hl a; intro a hl
          refine d_take (i := 10) hl rfl (by kernel_rfl) (by kernel_rfl) (by kernel_rfl) (by kernel_rfl) (by kernel_rfl) rfl ⟨_, _, rfl, rfl, rfl⟩ (fun _ _ _ h => h) hM (fun w hC => r_field hl rfl fld46_0) rfl ?_
          clear hl a; intro a hl
          refine d_take (i := 11) hl rfl (by kernel_rfl) (by kernel_rfl) (by kernel_rfl) (by kernel_rfl) (by kernel_rfl) rfl ⟨_, _, rfl, rfl, rfl⟩ (fun _ _ _ h => h) hM (fun w hC => r_loadC hl rfl one9 hC (by repeat (first | exact find_head | apply find_tail | apply find_skip)) (by first | exact ev_at hdh | exact ev_at hdu | exact fc0 (fnI_get (by omega)) | exact fcN hou j5 | exact fc0 (fnI_get (by have := hC.len; omega)) | rfl)) rfl ?_
          clear hl a; intro a hl
          refine d_take (i := 12) hl rfl (by kernel_rfl) (by kernel_rfl) (by kernel_rfl) (by kernel_rfl) (by kernel_rfl) rfl ⟨_, _, rfl, rfl, rfl⟩ (fun _ _ _ h => h) hM (fun w hC => r_lookup (keyStr Tryz.underlying9) Tryz.underlying87 zero3 hl rfl rfl (hC _ _ (Find.mem (by repeat (first | exact find_head | apply find_tail | apply find_skip))))) rfl ?_
          clear hl a; intro a hl
          rw [ix_get] at hl
          refine d_take (i := 13) hl rfl (by kernel_rfl) (by kernel_rfl) (by kernel_rfl) (by kernel_rfl) (by kernel_rfl) rfl ⟨_, _, rfl, rfl, rfl⟩ (fun _ _ _ h => h) hM (fun w hC => r_indexS hl rfl rfl slc58 (by omega) (by omega) (by first | (simp only [Int.reduceToNat]; rfl) | exact toNat_add1 _ | exact toNat_add2 _ _ | exact toNat_emod _ _ | exact Int.toNat_natCast _ | rfl)) rfl ?_
          clear hl a; intro a hl
          refine d_take (i := 14) hl rfl (by kernel_rfl) (by kernel_rfl) (by kernel_rfl) (by kernel_rfl) (by kernel_rfl) rfl ⟨_, _, rfl, rfl, rfl⟩ (fun _ _ _ h => h) hM (fun w hC => r_loadC hl rfl one3 hC (by repeat (first | exact find_head | apply find_tail | apply find_skip)) (by first | exact ev_at hdh | exact ev_at hdu | exact fc0 (fnI_get (by omega)) | exact fcN hou j5 | exact fc0 (fnI_get (by have := hC.len; omega)) | rfl)) rfl ?_
          clear hl a; intro a hl
          refine d_take (i := 15) hl rfl (by kernel_rfl) (by kernel_rfl) (by kernel_rfl) (by kernel_rfl) (by kernel_rfl) rfl ⟨_, _, rfl, rfl, rfl⟩ (fun _ _ _ h => h) hM (fun w hC => r_move hl rfl) rfl ?_
          clear hl a; intro a hl
          refine d_takeL (i := 16) hl rfl (by kernel_rfl) (by kernel_rfl) (by kernel_rfl) (by kernel_rfl) (by kernel_rfl) rfl ⟨_, _, rfl, rfl, rfl⟩ (fun _ _ _ h => h) (fun w => r_eql hl rfl rfl) rfl ?_
          clear hl a; intro a hl
          refine d_takeL (i := 17) hl rfl (by kernel_rfl) (by kernel_rfl) (by kernel_rfl) (by kernel_rfl) (by kernel_rfl) rfl trivial (fun _ _ _ h => h) (fun w => r_pickT hl rfl rfl) rfl ?_
          clear hl a; intro a hl
          refine d_done (by kernel_rfl) ?_
          try clear hM
          have hl2 := hl.add (t := 0) (hl.add (t := 4) (hl.add (t := 5) (hl.add (t := 11) (hl.add (t := 12) (hl.add (t := 13) (hl.add (t := 15) (hl.add (t := 16) (hl.add (t := 85) (hl.add (t := 86) (hl.add (t := 87) (hl.add (t := 104) (hl.add (t := 105) (hl.add (t := 106) (hl.add (t := 128) (hl.nil) rfl) rfl) rfl) rfl) rfl) rfl) rfl) rfl) rfl) rfl) rfl) rfl) rfl) rfl) rfl; clear hl; have hl := hl2; clear hl2
          refine then_normal ?_
          refine c_cond hl rfl ?_ ?_
          · intro hc5
            try simp only [decide_eq_true_eq, decide_eq_false_iff_not, Bool.not_eq_true', Bool.not_eq_false', Bool.not_eq_true, Bool.not_eq_false, Bool.and_eq_true, Bool.or_eq_true, Bool.and_eq_false_iff, Bool.or_eq_false_iff, Bool.not_not, ne_eq, Int.not_lt, Int.not_le, Decidable.not_not, beq_iff_eq, bne_iff_ne] at hc5
            refine c_seq ?_
            refine c_region ?_
            refine wl (wl_val hl rfl trivial (r_move hl rfl) ?_)
            clear hl a; intro a hl
            refine wl (wl_val hl rfl trivial (r_move hl rfl) ?_)
            clear hl a; intro a hl
            refine wl (wl_val hl rfl trivial (r_build hl rfl zero36 bld36 (by simp only [fillL, setL, List.getElem?_cons_zero, List.getElem?_cons_succ, Value.cells, List.take_zero, List.take_succ_cons, List.take_nil, List.drop_zero, List.drop_succ_cons, List.drop_nil, List.length_cons, List.length_nil, List.cons_append, List.nil_append, List.append_nil, Nat.zero_add, Nat.add_zero, Nat.reduceAdd, Nat.reduceBEq, Nat.reduceEqDiff, Nat.ble, BEq.rfl, Bool.and_true, Bool.and_self, cond_true, beq_self_eq_true]; rfl)) ?_)
            clear hl a; intro a hl
            refine wl (w_storeA hl hh trivial agg36 rfl rfl (by repeat (first | exact find_head | apply find_tail | apply find_skip)) (by first | rfl | (simp; done)) (by first | (simp; done) | (simp; omega) | exact ev_lt (by rw [hu.len]; exact hrix) | exact fm0 (by omega) | exact pdc_lt (by omega)) (by first | rfl | (simp; done) | rfl) (by first | exact ev_set (e := (ix ps x.l.p, decide (x.l.k = 2))) E2 hdh | exact fs0 (by omega) | exact pdc_put hqg | (simp only [setL, List.getElem?_cons_zero, List.getElem?_cons_succ, Value.cells, List.take_zero, List.take_succ_cons, List.take_nil, List.drop_zero, List.drop_succ_cons, List.drop_nil, List.length_cons, List.length_nil, List.cons_append, List.nil_append, List.append_nil, Nat.zero_add, Nat.add_zero, Nat.reduceAdd, Nat.reduceBEq, Nat.reduceEqDiff, Nat.ble, BEq.rfl, Bool.and_true, Bool.and_self, cond_true, beq_self_eq_true]; rfl)) ?_)
            clear hh w; intro w hh
            refine w_nil ?_
            have hl2 := hl.add (t := 4) (hl.nil) rfl; clear hl; have hl := hl2; clear hl2
            refine then_normal ?_
            refine wp_ret ?_
            refine blk_ret ?_
            refine then_ret ?_
            refine then_ret ?_
            refine blk_ret ?_
            refine blk_ret ?_
            refine then_ret ?_
            refine then_ret ?_
            refine blk_ret ?_
            refine then_ret ?_
            refine f_retC (F' := (tb, C [.map (some mb), .slice pp (ps).length pc] 111) :: (mb, MO kStr (ixf 0 ps)) :: pE) hl hh rfl rfl agg36 (by repeat (first | exact find_head | apply find_tail | apply find_skip)) (by first | rfl | exact arrL_length _ _ | (simp; done)) (by repeat (first | exact keeps_nil | apply keeps_cons (by repeat (first | exact find_head | apply find_tail | apply find_skip)) (by first  | rfl) | exact keeps_self | exact keeps_left | apply keeps_app | apply keeps_mv | apply keeps_skip)) ?_
            exact ⟨badC ps cp, hG.bad hC, .inl ⟨i2, j, hI.trans (negP_hit (ru_at hx) (hJ.trans ((negB_step (lt_at hxx)).trans (if_pos (by unfold badC RV.ru; simp only [decide_eq_true_eq]; first | assumption | exact ⟨by assumption, by assumption⟩ | omega))))), rfl, rfl⟩⟩
          · intro hc5
            try simp only [decide_eq_true_eq, decide_eq_false_iff_not, Bool.not_eq_true', Bool.not_eq_false', Bool.not_eq_true, Bool.not_eq_false, Bool.and_eq_true, Bool.or_eq_true, Bool.and_eq_false_iff, Bool.or_eq_false_iff, Bool.not_not, ne_eq, Int.not_lt, Int.not_le, Decidable.not_not, beq_iff_eq, bne_iff_ne] at hc5
            refine wp_skip ?_
            refine blk_normal ?_
            refine then_normal ?_
            refine c_region ?_
            first | refine wl (wl_val hl rfl trivial (r_add hl rfl rfl (by simp only [Fits]; omega)) ?_) | refine wl (wl_val hl rfl trivial (r_addW hl rfl rfl) ?_)
            clear hl a; intro a hl
            refine wl (wl_val hl rfl trivial (r_move hl rfl) ?_)
            clear hl a; intro a hl
            refine w_nil ?_
            have hl2 := hl.add (t := 0) (hl.add (t := 4) (hl.add (t := 5) (hl.add (t := 11) (hl.add (t := 12) (hl.add (t := 13) (hl.add (t := 15) (hl.add (t := 85) (hl.add (t := 86) (hl.add (t := 87) (hl.add (t := 104) (hl.add (t := 105) (hl.add (t := 106) (hl.nil) rfl) rfl) rfl) rfl) rfl) rfl) rfl) rfl) rfl) rfl) rfl) rfl) rfl; clear hl; have hl := hl2; clear hl2
            refine then_normal ?_
            refine ⟨j + 1, (by omega), ⟨by omega, hJ.trans ((negB_step (lt_at hxx)).trans (if_neg (by rintro ⟨h7, h8⟩; unfold badC RV.ru at h8; simp only [decide_eq_true_eq] at h8; first | contradiction | omega)))⟩, hl.addE (t := 106) (hl.addE (t := 0) (hl.addE (t := 4) (hl.addE (t := 5) (hl.addE (t := 11) (hl.addE (t := 12) (hl.addE (t := 13) (hl.addE (t := 15) (hl.addE (t := 85) (hl.addE (t := 86) (hl.addE (t := 87) (hl.addE (t := 104) (hl.addE (t := 105) (hl.nil) rfl (by first | rfl | exact congrArg (Value.int .i64) (show (j : Int) + 1 = ((j + 1 : Nat) : Int) by omega) | (rw [hq2]))) rfl (by first | rfl | exact congrArg (Value.int .i64) (show (j : Int) + 1 = ((j + 1 : Nat) : Int) by omega) | (rw [hq2]))) rfl (by first | rfl | exact congrArg (Value.int .i64) (show (j : Int) + 1 = ((j + 1 : Nat) : Int) by omega) | (rw [hq2]))) rfl (by first | rfl | exact congrArg (Value.int .i64) (show (j : Int) + 1 = ((j + 1 : Nat) : Int) by omega) | (rw [hq2]))) rfl (by first | rfl | exact congrArg (Value.int .i64) (show (j : Int) + 1 = ((j + 1 : Nat) : Int) by omega) | (rw [hq2]))) rfl (by first | rfl | exact congrArg (Value.int .i64) (show (j : Int) + 1 = ((j + 1 : Nat) : Int) by omega) | (rw [hq2]))) rfl (by first | rfl | exact congrArg (Value.int .i64) (show (j : Int) + 1 = ((j + 1 : Nat) : Int) by omega) | (rw [hq2]))) rfl (by first | rfl | exact congrArg (Value.int .i64) (show (j : Int) + 1 = ((j + 1 : Nat) : Int) by omega) | (rw [hq2]))) rfl (by first | rfl | exact congrArg (Value.int .i64) (show (j : Int) + 1 = ((j + 1 : Nat) : Int) by omega) | (rw [hq2]))) rfl (by first | rfl | exact congrArg (Value.int .i64) (show (j : Int) + 1 = ((j + 1 : Nat) : Int) by omega) | (rw [hq2]))) rfl (by first | rfl | exact congrArg (Value.int .i64) (show (j : Int) + 1 = ((j + 1 : Nat) : Int) by omega) | (rw [hq2]))) rfl (by first | rfl | exact congrArg (Value.int .i64) (show (j : Int) + 1 = ((j + 1 : Nat) : Int) by omega) | (rw [hq2]))) rfl (by first | rfl | exact congrArg (Value.int .i64) (show (j : Int) + 1 = ((j + 1 : Nat) : Int) by omega) | (rw [hq2])), hh.keep (by repeat (first | exact keeps_nil | apply keeps_cons (by repeat (first | exact find_head | apply find_tail | apply find_skip)) (by first  | (rw [hq2]) | rfl) | exact keeps_self | exact keeps_left | apply keeps_app | apply keeps_mv | apply keeps_skip))⟩
        · intro hg1; clear hl; intro hl
          try simp only [decide_eq_true_eq, decide_eq_false_iff_not, Bool.not_eq_true', Bool.not_eq_false', Bool.not_eq_true, Bool.not_eq_false, Bool.and_eq_true, Bool.or_eq_true, Bool.and_eq_false_iff, Bool.or_eq_false_iff, Bool.not_not, ne_eq, Int.not_lt, Int.not_le, Decidable.not_not, beq_iff_eq, bne_iff_ne] at hg1
          refine d_skip (i := 4) hl rfl (by kernel_rfl) (by kernel_rfl) (by kernel_rfl) (by kernel_rfl) (by kernel_rfl) rfl ⟨_, _, rfl, rfl, rfl⟩ (fun _ _ _ h => h) hM ?_
          clear hl a; intro a hl
          refine d_skip (i := 5) hl rfl (by kernel_rfl) (by kernel_rfl) (by kernel_rfl) (by kernel_rfl) (by kernel_rfl) rfl ⟨_, _, rfl, rfl, rfl⟩ (fun _ _ _ h => h) hM ?_
          clear hl a; intro a hl
          refine d_skip (i := 6) hl rfl (by kernel_rfl) (by kernel_rfl) (by kernel_rfl) (by kernel_rfl) (by kernel_rfl) rfl ⟨_, _, rfl, rfl, rfl⟩ (fun _ _ _ h => h) hM ?_
          clear hl a; intro a hl
          refine d_skip (i := 7) hl rfl (by kernel_rfl) (by kernel_rfl) (by kernel_rfl) (by kernel_rfl) (by kernel_rfl) rfl ⟨_, _, rfl, rfl, rfl⟩ (fun _ _ _ h => h) hM ?_
          clear hl a; intro a hl
          refine d_skip (i := 8) hl rfl (by kernel_rfl) (by kernel_rfl) (by kernel_rfl) (by kernel_rfl) (by kernel_rfl) rfl ⟨_, _, rfl, rfl, rfl⟩ (fun _ _ _ h => h) hM ?_
          clear hl a; intro a hl
          refine d_skip (i := 9) hl rfl (by kernel_rfl) (by kernel_rfl) (by kernel_rfl) (by kernel_rfl) (by kernel_rfl) rfl ⟨_, _, rfl, rfl, rfl⟩ (fun _ _ _ h => h) hM ?_
          clear hl a; intro a hl
          refine d_skip (i := 10) hl rfl (by kernel_rfl) (by kernel_rfl) (by kernel_rfl) (by kernel_rfl) (by kernel_rfl) rfl ⟨_, _, rfl, rfl, rfl⟩ (fun _ _ _ h => h) hM ?_
          clear hl a; intro a hl
          refine d_skip (i := 11) hl rfl (by kernel_rfl) (by kernel_rfl) (by kernel_rfl) (by kernel_rfl) (by kernel_rfl) rfl ⟨_, _, rfl, rfl, rfl⟩ (fun _ _ _ h => h) hM ?_
          clear hl a; intro a hl
          refine d_skip (i := 12) hl rfl (by kernel_rfl) (by kernel_rfl) (by kernel_rfl) (by kernel_rfl) (by kernel_rfl) rfl ⟨_, _, rfl, rfl, rfl⟩ (fun _ _ _ h => h) hM ?_
          clear hl a; intro a hl
          refine d_skip (i := 13) hl rfl (by kernel_rfl) (by kernel_rfl) (by kernel_rfl) (by kernel_rfl) (by kernel_rfl) rfl ⟨_, _, rfl, rfl, rfl⟩ (fun _ _ _ h => h) hM ?_
          clear hl a; intro a hl
          refine d_skip (i := 14) hl rfl (by kernel_rfl) (by kernel_rfl) (by kernel_rfl) (by kernel_rfl) (by kernel_rfl) rfl ⟨_, _, rfl, rfl, rfl⟩ (fun _ _ _ h => h) hM ?_
          clear hl a; intro a hl
          refine d_skip (i := 15) hl rfl (by kernel_rfl) (by kernel_rfl) (by kernel_rfl) (by kernel_rfl) (by kernel_rfl) rfl ⟨_, _, rfl, rfl, rfl⟩ (fun _ _ _ h => h) hM ?_
          clear hl a; intro a hl
          refine d_skip (i := 16) hl rfl (by kernel_rfl) (by kernel_rfl) (by kernel_rfl) (by kernel_rfl) (by kernel_rfl) rfl ⟨_, _, rfl, rfl, rfl⟩ (fun _ _ _ h => h) hM ?_
          clear hl a; intro a hl
          refine d_takeL (i := 17) hl rfl (by kernel_rfl) (by kernel_rfl) (by kernel_rfl) (by kernel_rfl) (by kernel_rfl) rfl trivial (fun _ _ _ h => h) (fun w => r_pickF hl rfl rfl) rfl ?_
          clear hl a; intro a hl
          refine d_done (by kernel_rfl) ?_
          try clear hM
          have hl2 := hl.add (t := 0) (hl.add (t := 4) (hl.add (t := 5) (hl.add (t := 11) (hl.add (t := 12) (hl.add (t := 13) (hl.add (t := 15) (hl.add (t := 16) (hl.add (t := 85) (hl.add (t := 86) (hl.add (t := 87) (hl.add (t := 104) (hl.add (t := 105) (hl.add (t := 106) (hl.add (t := 128) (hl.nil) rfl) rfl) rfl) rfl) rfl) rfl) rfl) rfl) rfl) rfl) rfl) rfl) rfl) rfl) rfl; clear hl; have hl := hl2; clear hl2
          refine then_normal ?_
          refine c_condF hl rfl ?_
          refine wp_skip ?_
          refine blk_normal ?_
          refine then_normal ?_
          refine c_region ?_
          first | refine wl (wl_val hl rfl trivial (r_add hl rfl rfl (by simp only [Fits]; omega)) ?_) | refine wl (wl_val hl rfl trivial (r_addW hl rfl rfl) ?_)
          clear hl a; intro a hl
          refine wl (wl_val hl rfl trivial (r_move hl rfl) ?_)
          clear hl a; intro a hl
          refine w_nil ?_
          have hl2 := hl.add (t := 0) (hl.add (t := 4) (hl.add (t := 5) (hl.add (t := 11) (hl.add (t := 12) (hl.add (t := 13) (hl.add (t := 15) (hl.add (t := 85) (hl.add (t := 86) (hl.add (t := 87) (hl.add (t := 104) (hl.add (t := 105) (hl.add (t := 106) (hl.nil) rfl) rfl) rfl) rfl) rfl) rfl) rfl) rfl) rfl) rfl) rfl) rfl) rfl; clear hl; have hl := hl2; clear hl2
          refine then_normal ?_
          refine ⟨j + 1, (by omega), ⟨by omega, hJ.trans ((negB_step (lt_at hxx)).trans (if_neg (by rintro ⟨h7, h8⟩; unfold badC RV.ru at h8; simp only [decide_eq_true_eq] at h8; first | contradiction | omega)))⟩, hl.addE (t := 106) (hl.addE (t := 0) (hl.addE (t := 4) (hl.addE (t := 5) (hl.addE (t := 11) (hl.addE (t := 12) (hl.addE (t := 13) (hl.addE (t := 15) (hl.addE (t := 85) (hl.addE (t := 86) (hl.addE (t := 87) (hl.addE (t := 104) (hl.addE (t := 105) (hl.nil) rfl (by first | rfl | exact congrArg (Value.int .i64) (show (j : Int) + 1 = ((j + 1 : Nat) : Int) by omega) | (rw [hq2]))) rfl (by first | rfl | exact congrArg (Value.int .i64) (show (j : Int) + 1 = ((j + 1 : Nat) : Int) by omega) | (rw [hq2]))) rfl (by first | rfl | exact congrArg (Value.int .i64) (show (j : Int) + 1 = ((j + 1 : Nat) : Int) by omega) | (rw [hq2]))) rfl (by first | rfl | exact congrArg (Value.int .i64) (show (j : Int) + 1 = ((j + 1 : Nat) : Int) by omega) | (rw [hq2]))) rfl (by first | rfl | exact congrArg (Value.int .i64) (show (j : Int) + 1 = ((j + 1 : Nat) : Int) by omega) | (rw [hq2]))) rfl (by first | rfl | exact congrArg (Value.int .i64) (show (j : Int) + 1 = ((j + 1 : Nat) : Int) by omega) | (rw [hq2]))) rfl (by first | rfl | exact congrArg (Value.int .i64) (show (j : Int) + 1 = ((j + 1 : Nat) : Int) by omega) | (rw [hq2]))) rfl (by first | rfl | exact congrArg (Value.int .i64) (show (j : Int) + 1 = ((j + 1 : Nat) : Int) by omega) | (rw [hq2]))) rfl (by first | rfl | exact congrArg (Value.int .i64) (show (j : Int) + 1 = ((j + 1 : Nat) : Int) by omega) | (rw [hq2]))) rfl (by first | rfl | exact congrArg (Value.int .i64) (show (j : Int) + 1 = ((j + 1 : Nat) : Int) by omega) | (rw [hq2]))) rfl (by first | rfl | exact congrArg (Value.int .i64) (show (j : Int) + 1 = ((j + 1 : Nat) : Int) by omega) | (rw [hq2]))) rfl (by first | rfl | exact congrArg (Value.int .i64) (show (j : Int) + 1 = ((j + 1 : Nat) : Int) by omega) | (rw [hq2]))) rfl (by first | rfl | exact congrArg (Value.int .i64) (show (j : Int) + 1 = ((j + 1 : Nat) : Int) by omega) | (rw [hq2])), hh.keep (by repeat (first | exact keeps_nil | apply keeps_cons (by repeat (first | exact find_head | apply find_tail | apply find_skip)) (by first  | (rw [hq2]) | rfl) | exact keeps_self | exact keeps_left | apply keeps_app | apply keeps_mv | apply keeps_skip))⟩
      · intro hc4
        try simp only [decide_eq_true_eq, decide_eq_false_iff_not, Bool.not_eq_true', Bool.not_eq_false', Bool.not_eq_true, Bool.not_eq_false, Bool.and_eq_true, Bool.or_eq_true, Bool.and_eq_false_iff, Bool.or_eq_false_iff, Bool.not_not, ne_eq, Int.not_lt, Int.not_le, Decidable.not_not, beq_iff_eq, bne_iff_ne] at hc4
        refine wp_exit ?_
        refine then_exit ?_
        refine then_exit ?_
        refine blk_exit ?_
        refine blk_normal ?_
        refine then_normal ?_
        refine c_region ?_
        first | refine wl (wl_val hl rfl trivial (r_add hl rfl rfl (by simp only [Fits]; omega)) ?_) | refine wl (wl_val hl rfl trivial (r_addW hl rfl rfl) ?_)
        clear hl a; intro a hl
        refine wl (wl_val hl rfl trivial (r_move hl rfl) ?_)
        clear hl a; intro a hl
        refine w_nil ?_
        have hl2 := hl.add (t := 0) (hl.add (t := 4) (hl.add (t := 5) (hl.add (t := 11) (hl.add (t := 12) (hl.add (t := 85) (hl.add (t := 86) (hl.add (t := 87) (hl.nil) rfl) rfl) rfl) rfl) rfl) rfl) rfl) rfl; clear hl; have hl := hl2; clear hl2
        refine then_normal ?_
        refine ⟨i2 + 1, (by omega), ⟨by omega, hI.trans (negP_go (ru_at hx) (hJ.trans (negB_end (by unfold RV.ru; rw [List.length_map]; omega))))⟩, hl.addE (t := 87) (hl.addE (t := 0) (hl.addE (t := 4) (hl.addE (t := 5) (hl.addE (t := 11) (hl.addE (t := 12) (hl.addE (t := 85) (hl.addE (t := 86) (hl.nil) rfl (by first | rfl | exact congrArg (Value.int .i64) (show (i2 : Int) + 1 = ((i2 + 1 : Nat) : Int) by omega) | (rw [hq1]))) rfl (by first | rfl | exact congrArg (Value.int .i64) (show (i2 : Int) + 1 = ((i2 + 1 : Nat) : Int) by omega) | (rw [hq1]))) rfl (by first | rfl | exact congrArg (Value.int .i64) (show (i2 : Int) + 1 = ((i2 + 1 : Nat) : Int) by omega) | (rw [hq1]))) rfl (by first | rfl | exact congrArg (Value.int .i64) (show (i2 : Int) + 1 = ((i2 + 1 : Nat) : Int) by omega) | (rw [hq1]))) rfl (by first | rfl | exact congrArg (Value.int .i64) (show (i2 : Int) + 1 = ((i2 + 1 : Nat) : Int) by omega) | (rw [hq1]))) rfl (by first | rfl | exact congrArg (Value.int .i64) (show (i2 : Int) + 1 = ((i2 + 1 : Nat) : Int) by omega) | (rw [hq1]))) rfl (by first | rfl | exact congrArg (Value.int .i64) (show (i2 : Int) + 1 = ((i2 + 1 : Nat) : Int) by omega) | (rw [hq1]))) rfl (by first | rfl | exact congrArg (Value.int .i64) (show (i2 : Int) + 1 = ((i2 + 1 : Nat) : Int) by omega) | (rw [hq1])), hh.keep (by repeat (first | exact keeps_nil | apply keeps_cons (by repeat (first | exact find_head | apply find_tail | apply find_skip)) (by first  | (rw [hq1]) | rfl) | exact keeps_self | exact keeps_left | apply keeps_app | apply keeps_mv | apply keeps_skip))⟩
    · intro hc3
      try simp only [decide_eq_true_eq, decide_eq_false_iff_not, Bool.not_eq_true', Bool.not_eq_false', Bool.not_eq_true, Bool.not_eq_false, Bool.and_eq_true, Bool.or_eq_true, Bool.and_eq_false_iff, Bool.or_eq_false_iff, Bool.not_not, ne_eq, Int.not_lt, Int.not_le, Decidable.not_not, beq_iff_eq, bne_iff_ne] at hc3
      have hno : negP (badC ps cp) 0 (rs.map RV.ru) = none := hI.trans (negP_end (by rw [List.length_map]; omega))
      refine wp_exit ?_
      refine then_exit ?_
      refine then_exit ?_
      refine blk_exit ?_
      refine then_normal ?_
      refine c_seq ?_
      refine c_region ?_
      refine wl (wl_val hl rfl trivial (r_move hl rfl) ?_)
      clear hl a; intro a hl
      refine wl (wl_val hl rfl trivial (r_nilCheck hl rfl) ?_)
      clear hl a; intro a hl
      refine wl (wl_val hl rfl trivial (r_field hl rfl fld111_1) ?_)
      clear hl a; intro a hl
      first | refine wl (w_load hl hh rfl trivial one31 rfl (by repeat (first | exact find_head | apply find_tail | apply find_skip)) (by first | exact ev_at hdh | exact ev_at hdu | exact fc0 (fnI_get (by omega)) | exact fcN hou j5 | exact fc0 (fnI_get (by have := hC.len; omega)) | rfl) ?_) | refine wl (wl_val hl rfl trivial (r_load hl rfl one31 (hh.mem _ _ (by repeat (first | exact hmem5 | exact List.mem_append_left _ hmem5 | apply List.mem_cons_of_mem | apply List.mem_append_right))) (List.getElem?_toArray.trans (fcN hou j5))) ?_)
      clear hl a; intro a hl
      refine wl (wl_val hl rfl trivial (r_lenS hl rfl slc31) ?_)
      clear hl a; intro a hl
      refine wl (w_makeSliceN hl hh rfl trivial app58 zero3 rfl rfl (by omega) (by decide) ?_)
      clear hl hh a w; intro k139 jk139 a w hjk139 hl hh
      refine wl (wl_val hl rfl trivial (r_assign hl rfl) ?_)
      clear hl a; intro a hl
      refine w_nil ?_
      have hl2 := hl.add (t := 0) (hl.add (t := 4) (hl.add (t := 5) (hl.add (t := 11) (hl.add (t := 12) (hl.add (t := 18) (hl.nil) rfl) rfl) rfl) rfl) rfl) rfl; clear hl; have hl := hl2; clear hl2
      rw [zeros_eq hjk139] at hh
      refine then_normal ?_
      refine c_seq ?_
      refine c_seq ?_
      refine c_region ?_
      refine wl (wl_val hl rfl trivial (r_move hl rfl) ?_)
      clear hl a; intro a hl
      refine wl (wl_val hl rfl trivial (r_lenS hl rfl slc58) ?_)
      clear hl a; intro a hl
      refine wl (wl_val hl rfl trivial (r_move hl rfl) ?_)
      clear hl a; intro a hl
      refine w_nil ?_
      have hl2 := hl.add (t := 0) (hl.add (t := 4) (hl.add (t := 5) (hl.add (t := 11) (hl.add (t := 18) (hl.add (t := 140) (hl.add (t := 141) (hl.add (t := 142) (hl.nil) rfl) rfl) rfl) rfl) rfl) rfl) rfl) rfl; clear hl; have hl := hl2; clear hl2
      refine then_normal ?_
      refine wp_block ?_
      obtain ⟨KS4, hKS4, hk⟩ := (hl.add (t := 0) (hl.add (t := 4) (hl.add (t := 5) (hl.add (t := 11) (hl.add (t := 18) (hl.add (t := 140) (hl.add (t := 141) (hl.nil) rfl) rfl) rfl) rfl) rfl) rfl) rfl).name
      obtain ⟨HS4, hHS4, hh2⟩ := hh.name (keeps_cons (b := k139) (o' := C (fl iI (List.replicate ps.length 0)) 3) (by repeat (first | exact find_head | apply find_tail | apply find_skip)) (by first | rfl) (keeps_nil))
      refine c_loop (α := LS) (fun y => od.length - y.k) (fun y a w => (y.k ≤ od.length ∧ LvI ps.length (grp (edP ps (rs.map RV.ru))) cp y.lv (LvP od y.k (grp (edP ps (rs.map RV.ru))))) ∧ Sl 218 ([(142, .int .i64 (y.k : Int))] ++ KS4) a ∧ Has _ w0 ([(k139, C (fl iI y.lv) 3)] ++ HS4) w) ⟨0, List.replicate ps.length 0⟩ ⟨⟨Nat.zero_le _, (LvI.start hC).mono (fun x e h9 => by cases h9.1)⟩, hl.addE (t := 142) (hk) rfl (by first | rfl), hh2⟩ ?_
      clear hk hh2 hl hh a w
      intro y a w hI
      obtain ⟨⟨hyk, hy⟩, hl, hh⟩ := hI
      subst hKS4; subst hHS4
      simp only [List.cons_append, List.nil_append, List.append_nil, List.append_assoc] at hl hh
      refine c_seq ?_
      refine c_region ?_
      refine wl (wl_val hl rfl trivial (r_lss hl rfl rfl) ?_)
      clear hl a; intro a hl
      refine w_nil ?_
      have hl2 := hl.add (t := 0) (hl.add (t := 4) (hl.add (t := 5) (hl.add (t := 11) (hl.add (t := 18) (hl.add (t := 140) (hl.add (t := 141) (hl.add (t := 142) (hl.add (t := 143) (hl.nil) rfl) rfl) rfl) rfl) rfl) rfl) rfl) rfl) rfl; clear hl; have hl := hl2; clear hl2
      refine then_normal ?_
      refine c_seq ?_
      refine c_cond hl rfl ?_ ?_
      · intro hc6
        try simp only [decide_eq_true_eq, decide_eq_false_iff_not, Bool.not_eq_true', Bool.not_eq_false', Bool.not_eq_true, Bool.not_eq_false, Bool.and_eq_true, Bool.or_eq_true, Bool.and_eq_false_iff, Bool.or_eq_false_iff, Bool.not_not, ne_eq, Int.not_lt, Int.not_le, Decidable.not_not, beq_iff_eq, bne_iff_ne] at hc6
        obtain ⟨u, hou⟩ : ∃ u, od[y.k]? = some u := ⟨_, List.getElem?_eq_getElem (by omega)⟩
        have hun := (hC.odm u).1 (List.mem_of_getElem? hou)
        have hcu := hC.rg u hun
        obtain ⟨cu, hcuq⟩ : ∃ c : Nat, fnI cp u = (c : Int) := ⟨(fnI cp u).toNat, by omega⟩
        have hcun : cpn cp u = cu := by unfold cpn; omega
        obtain ⟨b5, j5, hq5, hjl5, hjc5, hE5⟩ := row_pos hOR (by omega)
        rw [hq5] at hl
        have hmem5 : (b5, C (fl iN od ++ j5) 3) ∈ oE := by rw [hE5]; exact List.mem_singleton.2 rfl
        obtain ⟨d, hdu⟩ : ∃ d, z.ds[u]? = some d := ⟨_, List.getElem?_eq_getElem (by rw [hz.len]; exact hun)⟩
        have hdr : d.ok := hz.rows d (List.mem_of_getElem? hdu)
        have hdg := hz.ok u d hdu
        have hd9 : d.l.length ≤ 100000000 := by
          have h8 := edP_len ps (rs.map RV.ru) hT.b
          rw [List.length_map] at h8
          rw [hdg]; refine Nat.le_trans (grp_len _ _) (by omega)
        refine wp_skip ?_
        refine then_normal ?_
        refine c_seq ?_
        refine wp_block ?_
        refine c_seq ?_
        refine c_region ?_
        refine wl (wl_val hl rfl trivial (r_indexS hl rfl rfl slc58 (by omega) (by omega) (by first | (simp only [Int.reduceToNat]; rfl) | exact toNat_add1 _ | exact toNat_add2 _ _ | exact toNat_emod _ _ | exact Int.toNat_natCast _ | rfl)) ?_)
        clear hl a; intro a hl
        first | refine wl (w_load hl hh rfl trivial one3 rfl (by repeat (first | exact find_head | apply find_tail | apply find_skip)) (by first | exact ev_at hdh | exact ev_at hdu | exact fc0 (fnI_get (by omega)) | exact fcN hou j5 | exact fc0 (fnI_get (by have := hC.len; omega)) | rfl) ?_) | refine wl (wl_val hl rfl trivial (r_load hl rfl one3 (hh.mem _ _ (by repeat (first | exact hmem5 | exact List.mem_append_left _ hmem5 | apply List.mem_cons_of_mem | apply List.mem_append_right))) (List.getElem?_toArray.trans (fcN hou j5))) ?_)
        clear hl a; intro a hl
        refine wl (wl_val hl rfl trivial (r_assign hl rfl) ?_)
        clear hl a; intro a hl
        refine w_nil ?_
        have hl2 := hl.add (t := 0) (hl.add (t := 4) (hl.add (t := 5) (hl.add (t := 11) (hl.add (t := 18) (hl.add (t := 20) (hl.add (t := 140) (hl.add (t := 141) (hl.add (t := 142) (hl.nil) rfl) rfl) rfl) rfl) rfl) rfl) rfl) rfl) rfl; clear hl; have hl := hl2; clear hl2
        refine then_normal ?_
        refine c_seq ?_
        refine c_region ?_
        refine wl (wl_val hl rfl trivial (r_move hl rfl) ?_)
        clear hl a; intro a hl
        refine wl (wl_val hl rfl trivial (r_move hl rfl) ?_)
        clear hl a; intro a hl
        refine wl (wl_val hl rfl trivial (r_indexS hl rfl rfl slc117 (by omega) (by omega) (by first | (simp only [Int.reduceToNat]; rfl) | exact toNat_add1 _ | exact toNat_add2 _ _ | exact toNat_emod _ _ | exact Int.toNat_natCast _ | rfl)) ?_)
        clear hl a; intro a hl
        first | refine wl (w_load hl hh rfl trivial one118 rfl (by repeat (first | exact find_head | apply find_tail | apply find_skip)) (by first | exact ev_at hdh | exact ev_at hdu | exact fc0 (fnI_get (by omega)) | exact fcN hou j5 | exact fc0 (fnI_get (by have := hC.len; omega)) | rfl) ?_) | refine wl (wl_val hl rfl trivial (r_load hl rfl one118 (hh.mem _ _ (by repeat (first | exact hmem5 | exact List.mem_append_left _ hmem5 | apply List.mem_cons_of_mem | apply List.mem_append_right))) (List.getElem?_toArray.trans (fcN hou j5))) ?_)
        clear hl a; intro a hl
        refine wl (wl_val hl rfl trivial (r_lenS hl rfl slc118) ?_)
        clear hl a; intro a hl
        refine wl (wl_val hl rfl trivial (r_move hl rfl) ?_)
        clear hl a; intro a hl
        refine w_nil ?_
        have hl2 := hl.add (t := 0) (hl.add (t := 4) (hl.add (t := 5) (hl.add (t := 11) (hl.add (t := 18) (hl.add (t := 20) (hl.add (t := 140) (hl.add (t := 141) (hl.add (t := 142) (hl.add (t := 149) (hl.add (t := 150) (hl.add (t := 151) (hl.nil) rfl) rfl) rfl) rfl) rfl) rfl) rfl) rfl) rfl) rfl) rfl) rfl; clear hl; have hl := hl2; clear hl2
        refine then_normal ?_
        refine wp_block ?_
        obtain ⟨KS5, hKS5, hk⟩ := (hl.add (t := 0) (hl.add (t := 4) (hl.add (t := 5) (hl.add (t := 11) (hl.add (t := 18) (hl.add (t := 20) (hl.add (t := 140) (hl.add (t := 141) (hl.add (t := 142) (hl.add (t := 149) (hl.add (t := 150) (hl.nil) rfl) rfl) rfl) rfl) rfl) rfl) rfl) rfl) rfl) rfl) rfl).name
        obtain ⟨HS5, hHS5, hh2⟩ := hh.name (keeps_cons (b := k139) (o' := C (fl iI y.lv) 3) (by repeat (first | exact find_head | apply find_tail | apply find_skip)) (by first | rfl) (keeps_nil))
        refine c_loop (α := LS) (fun s => d.l.length - s.k) (fun s a w => (s.k ≤ d.l.length ∧ LvI ps.length (grp (edP ps (rs.map RV.ru))) cp s.lv (LvQ od y.k (grp (edP ps (rs.map RV.ru))) u s.k)) ∧ Sl 218 ([(151, .int .i64 (s.k : Int))] ++ KS5) a ∧ Has _ w0 ([(k139, C (fl iI s.lv) 3)] ++ HS5) w) ⟨0, y.lv⟩ ⟨⟨Nat.zero_le _, lv_in hy⟩, hl.addE (t := 151) (hk) rfl (by first | rfl), hh2⟩ ?_
        clear hk hh2 hl hh a w
        intro s a w hI
        obtain ⟨⟨hsk, hs⟩, hl, hh⟩ := hI
        subst hKS5; subst hHS5
        simp only [List.cons_append, List.nil_append, List.append_nil, List.append_assoc] at hl hh
        refine c_seq ?_
        refine c_region ?_
        refine wl (wl_val hl rfl trivial (r_lss hl rfl rfl) ?_)
        clear hl a; intro a hl
        refine w_nil ?_
        have hl2 := hl.add (t := 0) (hl.add (t := 4) (hl.add (t := 5) (hl.add (t := 11) (hl.add (t := 18) (hl.add (t := 20) (hl.add (t := 140) (hl.add (t := 141) (hl.add (t := 142) (hl.add (t := 149) (hl.add (t := 150) (hl.add (t := 151) (hl.add (t := 152) (hl.nil) rfl) rfl) rfl) rfl) rfl) rfl) rfl) rfl) rfl) rfl) rfl) rfl) rfl; clear hl; have hl := hl2; clear hl2
        refine then_normal ?_
        refine c_seq ?_
        refine c_cond hl rfl ?_ ?_
        · intro hc7
          try simp only [decide_eq_true_eq, decide_eq_false_iff_not, Bool.not_eq_true', Bool.not_eq_false', Bool.not_eq_true, Bool.not_eq_false, Bool.and_eq_true, Bool.or_eq_true, Bool.and_eq_false_iff, Bool.or_eq_false_iff, Bool.not_not, ne_eq, Int.not_lt, Int.not_le, Decidable.not_not, beq_iff_eq, bne_iff_ne] at hc7
          obtain ⟨e, hke⟩ : ∃ e, d.l[s.k]? = some e := ⟨_, List.getElem?_eq_getElem (by omega)⟩
          have heg : ((grp (edP ps (rs.map RV.ru))) u)[s.k]? = some e := by rw [← hdg]; exact hke
          have hev := (hT.eh (mem_grp.1 (List.mem_of_getElem? heg))).2
          simp only at hev
          have hce := hC.rg e.1 hev
          obtain ⟨ce, hceq⟩ : ∃ c : Nat, fnI cp e.1 = (c : Int) := ⟨(fnI cp e.1).toNat, by omega⟩
          have hcen : cpn cp e.1 = ce := by unfold cpn; omega
          obtain ⟨b6, j6, hq6, hjl6, hjc6, hE6⟩ := row_pos hdr (by omega)
          have hmem6 : (b6, C (fl edc d.l ++ j6) 120) ∈ List.flatMap EV.E z.ds := List.mem_flatMap.2 ⟨d, List.mem_of_getElem? hdu, by rw [hE6]; exact List.mem_singleton.2 rfl⟩
          rw [hq6] at hl
          have hd6 := fl_at edc_len hke j6
          simp only [edc] at hd6
          have hsl := hs.len
          have hsn := hs.nn (cpn cp e.1) (by unfold cpn; omega)
          rw [hcen] at hsn
          refine wp_skip ?_
          refine then_normal ?_
          refine c_seq ?_
          refine wp_block ?_
          refine c_seq ?_
          refine c_region ?_
          refine wl (wl_val hl rfl trivial (r_indexS hl rfl rfl slc118 (by omega) (by omega) (by first | (simp only [Int.reduceToNat]; rfl) | exact toNat_add1 _ | exact toNat_add2 _ _ | exact toNat_emod _ _ | exact Int.toNat_natCast _ | rfl)) ?_)
          clear hl a; intro a hl
          first | refine wl (w_loadA hl hh rfl trivial agg120 rfl (by repeat (first | exact find_head | apply find_tail | apply find_skip)) (by first | (simp only [List.getElem?_cons_zero, List.getElem?_cons_succ, Value.cells, List.take_zero, List.take_succ_cons, List.take_nil, List.drop_zero, List.drop_succ_cons, List.drop_nil, List.length_cons, List.length_nil, List.cons_append, List.nil_append, List.append_nil, Nat.zero_add, Nat.add_zero, Nat.reduceAdd, Nat.reduceBEq, Nat.reduceEqDiff, Nat.ble, BEq.rfl, Bool.and_true, Bool.and_self, cond_true, beq_self_eq_true]; rfl)) (by first | rfl | (simp; done)) ?_) | refine wl (w_loadRA hl hh rfl trivial agg120 rfl hm1 hD1 hd1 rfl ?_) | refine wl (w_loadRA hl hh rfl trivial agg120 rfl hm2 hD2 hd2 rfl ?_) | refine wl (wl_val hl rfl trivial (r_loadA hl rfl agg120 (hh.mem _ _ (by repeat (first | exact hmem6 | exact List.mem_append_left _ hmem6 | apply List.mem_cons_of_mem | apply List.mem_append_right))) hd6 rfl) ?_)
          clear hl a; intro a hl
          refine wl (w_alloc hl hh rfl trivial zero120 rfl ?_)
          clear hl hh a w; intro k22 a w hl hh
          refine wl (w_storeA hl hh trivial agg120 rfl rfl (by repeat (first | exact find_head | apply find_tail | apply find_skip)) (by first | rfl | (simp; done)) (by first | (simp; done) | (simp; omega) | exact ev_lt (by rw [hu.len]; exact hrix) | exact fm0 (by omega) | exact pdc_lt (by omega)) (by first | rfl | (simp; done) | rfl) (by first | exact ev_set (e := (ix ps x.l.p, decide (x.l.k = 2))) E2 hdh | exact fs0 (by omega) | exact pdc_put hqg | (simp only [setL, List.getElem?_cons_zero, List.getElem?_cons_succ, Value.cells, List.take_zero, List.take_succ_cons, List.take_nil, List.drop_zero, List.drop_succ_cons, List.drop_nil, List.length_cons, List.length_nil, List.cons_append, List.nil_append, List.append_nil, Nat.zero_add, Nat.add_zero, Nat.reduceAdd, Nat.reduceBEq, Nat.reduceEqDiff, Nat.ble, BEq.rfl, Bool.and_true, Bool.and_self, cond_true, beq_self_eq_true]; rfl)) ?_)
          clear hh w; intro w hh
          refine w_nil ?_
          have hl2 := hl.add (t := 0) (hl.add (t := 4) (hl.add (t := 5) (hl.add (t := 11) (hl.add (t := 18) (hl.add (t := 20) (hl.add (t := 22) (hl.add (t := 140) (hl.add (t := 141) (hl.add (t := 142) (hl.add (t := 149) (hl.add (t := 150) (hl.add (t := 151) (hl.nil) rfl) rfl) rfl) rfl) rfl) rfl) rfl) rfl) rfl) rfl) rfl) rfl) rfl; clear hl; have hl := hl2; clear hl2
          refine then_normal ?_
          refine c_seq ?_
          refine c_seq ?_
          refine c_draw [(k22, C [.int .i64 (e.1 : Int), .bool e.2] 120), (cb, C (fl iI cp) 3)] [9] mixed hh ?_
          clear hh w; intro w hh
          have hM : Mem [(k22, C [.int .i64 (e.1 : Int), .bool e.2] 120), (cb, C (fl iI cp) 3)] w := (by (repeat (first | exact Mem.nil | refine Mem.consR hh (by assumption) (by simp) ?_ | refine Mem.cons hh.mem (by (repeat (first | exact find_head | apply find_tail | apply find_skip)); done) ?_ | fail)); done)
          refine d_take (i := 0) hl rfl (by kernel_rfl) (by kernel_rfl) (by kernel_rfl) (by kernel_rfl) (by kernel_rfl) rfl trivial (fun _ _ _ h => h) hM (fun w hC => r_move hl rfl) rfl ?_
          clear hl a; intro a hl
          refine d_take (i := 1) hl rfl (by kernel_rfl) (by kernel_rfl) (by kernel_rfl) (by kernel_rfl) (by kernel_rfl) rfl trivial (fun _ _ _ h => h) hM (fun w hC => r_field hl rfl fld120_0) rfl ?_
          clear hl a; intro a hl
          refine d_take (i := 2) hl rfl (by kernel_rfl) (by kernel_rfl) (by kernel_rfl) (by kernel_rfl) (by kernel_rfl) rfl trivial (fun _ _ _ h => h) hM (fun w hC => r_loadC hl rfl one3 hC (by repeat (first | exact find_head | apply find_tail | apply find_skip)) (by first | exact ev_at hdh | exact ev_at hdu | exact fc0 (fnI_get (by omega)) | exact fcN hou j5 | exact fc0 (fnI_get (by have := hC.len; omega)) | rfl)) rfl ?_
          clear hl a; intro a hl
          refine d_take (i := 3) hl rfl (by kernel_rfl) (by kernel_rfl) (by kernel_rfl) (by kernel_rfl) (by kernel_rfl) rfl trivial (fun _ _ _ h => h) hM (fun w hC => r_indexS hl rfl rfl slc58 (by omega) (by omega) (by first | (simp only [Int.reduceToNat]; rfl) | exact toNat_add1 _ | exact toNat_add2 _ _ | exact toNat_emod _ _ | exact Int.toNat_natCast _ | rfl)) rfl ?_
          clear hl a; intro a hl
          refine d_take (i := 4) hl rfl (by kernel_rfl) (by kernel_rfl) (by kernel_rfl) (by kernel_rfl) (by kernel_rfl) rfl trivial (fun _ _ _ h => h) hM (fun w hC => r_loadC hl rfl one3 hC (by repeat (first | exact find_head | apply find_tail | apply find_skip)) (by first | exact ev_at hdh | exact ev_at hdu | exact fc0 (fnI_get (by omega)) | exact fcN hou j5 | exact fc0 (fnI_get (by have := hC.len; omega)) | rfl)) rfl ?_
          clear hl a; intro a hl
          refine d_take (i := 5) hl rfl (by kernel_rfl) (by kernel_rfl) (by kernel_rfl) (by kernel_rfl) (by kernel_rfl) rfl trivial (fun _ _ _ h => h) hM (fun w hC => r_move hl rfl) rfl ?_
          clear hl a; intro a hl
          refine d_take (i := 6) hl rfl (by kernel_rfl) (by kernel_rfl) (by kernel_rfl) (by kernel_rfl) (by kernel_rfl) rfl trivial (fun _ _ _ h => h) hM (fun w hC => r_move hl rfl) rfl ?_
          clear hl a; intro a hl
          refine d_take (i := 7) hl rfl (by kernel_rfl) (by kernel_rfl) (by kernel_rfl) (by kernel_rfl) (by kernel_rfl) rfl trivial (fun _ _ _ h => h) hM (fun w hC => r_indexS hl rfl rfl slc58 (by omega) (by omega) (by first | (simp only [Int.reduceToNat]; rfl) | exact toNat_add1 _ | exact toNat_add2 _ _ | exact toNat_emod _ _ | exact Int.toNat_natCast _ | rfl)) rfl ?_
          clear hl a; intro a hl
          refine d_take (i := 8) hl rfl (by kernel_rfl) (by kernel_rfl) (by kernel_rfl) (by kernel_rfl) (by kernel_rfl) rfl trivial (fun _ _ _ h => h) hM (fun w hC => r_loadC hl rfl one3 hC (by repeat (first | exact find_head | apply find_tail | apply find_skip)) (by first | exact ev_at hdh | exact ev_at hdu | exact fc0 (fnI_get (by omega)) | exact fcN hou j5 | exact fc0 (fnI_get (by have := hC.len; omega)) | rfl)) rfl ?_
          clear hl a; intro a hl
          refine d_takeL (i := 9) hl rfl (by kernel_rfl) (by kernel_rfl) (by kernel_rfl) (by kernel_rfl) (by kernel_rfl) rfl trivial (fun _ _ _ h => h) (fun w => r_eql hl rfl rfl) rfl ?_
          clear hl a; intro a hl
          refine d_done (by kernel_rfl) ?_
          try clear hM
          have hl2 := hl.add (t := 0) (hl.add (t := 4) (hl.add (t := 5) (hl.add (t := 11) (hl.add (t := 18) (hl.add (t := 20) (hl.add (t := 22) (hl.add (t := 140) (hl.add (t := 141) (hl.add (t := 142) (hl.add (t := 149) (hl.add (t := 150) (hl.add (t := 151) (hl.add (t := 164) (hl.nil) rfl) rfl) rfl) rfl) rfl) rfl) rfl) rfl) rfl) rfl) rfl) rfl) rfl) rfl; clear hl; have hl := hl2; clear hl2
          refine then_normal ?_
          refine c_cond hl rfl ?_ ?_
          · intro hc8
            try simp only [decide_eq_true_eq, decide_eq_false_iff_not, Bool.not_eq_true', Bool.not_eq_false', Bool.not_eq_true, Bool.not_eq_false, Bool.and_eq_true, Bool.or_eq_true, Bool.and_eq_false_iff, Bool.or_eq_false_iff, Bool.not_not, ne_eq, Int.not_lt, Int.not_le, Decidable.not_not, beq_iff_eq, bne_iff_ne] at hc8
            refine wp_exit ?_
            refine then_exit ?_
            refine blk_exit ?_
            refine then_normal ?_
            refine c_region ?_
            first | refine wl (wl_val hl rfl trivial (r_add hl rfl rfl (by simp only [Fits]; omega)) ?_) | refine wl (wl_val hl rfl trivial (r_addW hl rfl rfl) ?_)
            clear hl a; intro a hl
            refine wl (wl_val hl rfl trivial (r_move hl rfl) ?_)
            clear hl a; intro a hl
            refine w_nil ?_
            have hl2 := hl.add (t := 0) (hl.add (t := 4) (hl.add (t := 5) (hl.add (t := 11) (hl.add (t := 18) (hl.add (t := 20) (hl.add (t := 140) (hl.add (t := 141) (hl.add (t := 142) (hl.add (t := 149) (hl.add (t := 150) (hl.add (t := 151) (hl.nil) rfl) rfl) rfl) rfl) rfl) rfl) rfl) rfl) rfl) rfl) rfl) rfl; clear hl; have hl := hl2; clear hl2
            refine then_normal ?_
            refine ⟨⟨s.k + 1, s.lv⟩, (by simp only; omega), ⟨by simp only; omega, lv_skip heg hs hc8⟩, hl.addE (t := 151) (hl.addE (t := 0) (hl.addE (t := 4) (hl.addE (t := 5) (hl.addE (t := 11) (hl.addE (t := 18) (hl.addE (t := 20) (hl.addE (t := 140) (hl.addE (t := 141) (hl.addE (t := 142) (hl.addE (t := 149) (hl.addE (t := 150) (hl.nil) rfl (by first | rfl | exact congrArg (Value.int .i64) (show (s.k : Int) + 1 = ((s.k + 1 : Nat) : Int) by omega) | (rw [hq6]))) rfl (by first | rfl | exact congrArg (Value.int .i64) (show (s.k : Int) + 1 = ((s.k + 1 : Nat) : Int) by omega) | (rw [hq6]))) rfl (by first | rfl | exact congrArg (Value.int .i64) (show (s.k : Int) + 1 = ((s.k + 1 : Nat) : Int) by omega) | (rw [hq6]))) rfl (by first | rfl | exact congrArg (Value.int .i64) (show (s.k : Int) + 1 = ((s.k + 1 : Nat) : Int) by omega) | (rw [hq6]))) rfl (by first | rfl | exact congrArg (Value.int .i64) (show (s.k : Int) + 1 = ((s.k + 1 : Nat) : Int) by omega) | (rw [hq6]))) rfl (by first | rfl | exact congrArg (Value.int .i64) (show (s.k : Int) + 1 = ((s.k + 1 : Nat) : Int) by omega) | (rw [hq6]))) rfl (by first | rfl | exact congrArg (Value.int .i64) (show (s.k : Int) + 1 = ((s.k + 1 : Nat) : Int) by omega) | (rw [hq6]))) rfl (by first | rfl | exact congrArg (Value.int .i64) (show (s.k : Int) + 1 = ((s.k + 1 : Nat) : Int) by omega) | (rw [hq6]))) rfl (by first | rfl | exact congrArg (Value.int .i64) (show (s.k : Int) + 1 = ((s.k + 1 : Nat) : Int) by omega) | (rw [hq6]))) rfl (by first | rfl | exact congrArg (Value.int .i64) (show (s.k : Int) + 1 = ((s.k + 1 : Nat) : Int) by omega) | (rw [hq6]))) rfl (by first | rfl | exact congrArg (Value.int .i64) (show (s.k : Int) + 1 = ((s.k + 1 : Nat) : Int) by omega) | (rw [hq6]))) rfl (by first | rfl | exact congrArg (Value.int .i64) (show (s.k : Int) + 1 = ((s.k + 1 : Nat) : Int) by omega) | (rw [hq6])), hh.keep (by repeat (first | exact keeps_nil | apply keeps_cons (by repeat (first | exact find_head | apply find_tail | apply find_skip)) (by first  | rfl) | exact keeps_self | exact keeps_left | apply keeps_app | apply keeps_mv | apply keeps_skip))⟩
          · intro hc8
            try simp only [decide_eq_true_eq, decide_eq_false_iff_not, Bool.not_eq_true', Bool.not_eq_false', Bool.not_eq_true, Bool.not_eq_false, Bool.and_eq_true, Bool.or_eq_true, Bool.and_eq_false_iff, Bool.or_eq_false_iff, Bool.not_not, ne_eq, Int.not_lt, Int.not_le, Decidable.not_not, beq_iff_eq, bne_iff_ne] at hc8
            refine wp_skip ?_
            refine then_normal ?_
            refine c_seq ?_
            refine c_region ?_
            refine wl (wl_val hl rfl trivial (r_move hl rfl) ?_)
            clear hl a; intro a hl
            refine wl (wl_val hl rfl trivial (r_move hl rfl) ?_)
            clear hl a; intro a hl
            refine wl (wl_val hl rfl trivial (r_field hl rfl fld120_0) ?_)
            clear hl a; intro a hl
            first | refine wl (w_load hl hh rfl trivial one3 rfl (by repeat (first | exact find_head | apply find_tail | apply find_skip)) (by first | exact ev_at hdh | exact ev_at hdu | exact fc0 (fnI_get (by omega)) | exact fcN hou j5 | exact fc0 (fnI_get (by have := hC.len; omega)) | rfl) ?_) | refine wl (wl_val hl rfl trivial (r_load hl rfl one3 (hh.mem _ _ (by repeat (first | exact hmem5 | exact List.mem_append_left _ hmem5 | apply List.mem_cons_of_mem | apply List.mem_append_right))) (List.getElem?_toArray.trans (fcN hou j5))) ?_)
            clear hl a; intro a hl
            refine wl (wl_val hl rfl trivial (r_indexS hl rfl rfl slc58 (by omega) (by omega) (by first | (simp only [Int.reduceToNat]; rfl) | exact toNat_add1 _ | exact toNat_add2 _ _ | exact toNat_emod _ _ | exact Int.toNat_natCast _ | rfl)) ?_)
            clear hl a; intro a hl
            first | refine wl (w_load hl hh rfl trivial one3 rfl (by repeat (first | exact find_head | apply find_tail | apply find_skip)) (by first | exact ev_at hdh | exact ev_at hdu | exact fc0 (fnI_get (by omega)) | exact fcN hou j5 | exact fc0 (fnI_get (by have := hC.len; omega)) | rfl) ?_) | refine wl (wl_val hl rfl trivial (r_load hl rfl one3 (hh.mem _ _ (by repeat (first | exact hmem5 | exact List.mem_append_left _ hmem5 | apply List.mem_cons_of_mem | apply List.mem_append_right))) (List.getElem?_toArray.trans (fcN hou j5))) ?_)
            clear hl a; intro a hl
            rw [hceq] at hl
            refine wl (wl_val hl rfl trivial (r_indexS hl rfl rfl slc58 (by omega) (by omega) (by first | (simp only [Int.reduceToNat]; rfl) | exact toNat_add1 _ | exact toNat_add2 _ _ | exact toNat_emod _ _ | exact Int.toNat_natCast _ | rfl)) ?_)
            clear hl a; intro a hl
            first | refine wl (w_load hl hh rfl trivial one3 rfl (by repeat (first | exact find_head | apply find_tail | apply find_skip)) (by first | exact ev_at hdh | exact ev_at hdu | exact fc0 (fnI_get (by omega)) | exact fcN hou j5 | exact fc0 (fnI_get (by have := hC.len; omega)) | rfl) ?_) | refine wl (wl_val hl rfl trivial (r_load hl rfl one3 (hh.mem _ _ (by repeat (first | exact hmem5 | exact List.mem_append_left _ hmem5 | apply List.mem_cons_of_mem | apply List.mem_append_right))) (List.getElem?_toArray.trans (fcN hou j5))) ?_)
            clear hl a; intro a hl
            refine wl (wl_val hl rfl trivial (r_assign hl rfl) ?_)
            clear hl a; intro a hl
            refine w_nil ?_
            have hl2 := hl.add (t := 0) (hl.add (t := 4) (hl.add (t := 5) (hl.add (t := 11) (hl.add (t := 18) (hl.add (t := 20) (hl.add (t := 22) (hl.add (t := 23) (hl.add (t := 140) (hl.add (t := 141) (hl.add (t := 142) (hl.add (t := 149) (hl.add (t := 150) (hl.add (t := 151) (hl.nil) rfl) rfl) rfl) rfl) rfl) rfl) rfl) rfl) rfl) rfl) rfl) rfl) rfl) rfl; clear hl; have hl := hl2; clear hl2
            refine then_normal ?_
            refine c_seq ?_
            refine c_seq ?_
            refine c_region ?_
            refine wl (wl_val hl rfl trivial (r_field hl rfl fld120_1) ?_)
            clear hl a; intro a hl
            first | refine wl (w_load hl hh rfl trivial one4 rfl (by repeat (first | exact find_head | apply find_tail | apply find_skip)) (by first | exact ev_at hdh | exact ev_at hdu | exact fc0 (fnI_get (by omega)) | exact fcN hou j5 | exact fc0 (fnI_get (by have := hC.len; omega)) | rfl) ?_) | refine wl (wl_val hl rfl trivial (r_load hl rfl one4 (hh.mem _ _ (by repeat (first | exact hmem5 | exact List.mem_append_left _ hmem5 | apply List.mem_cons_of_mem | apply List.mem_append_right))) (List.getElem?_toArray.trans (fcN hou j5))) ?_)
            clear hl a; intro a hl
            refine w_nil ?_
            have hl2 := hl.add (t := 0) (hl.add (t := 4) (hl.add (t := 5) (hl.add (t := 11) (hl.add (t := 18) (hl.add (t := 20) (hl.add (t := 23) (hl.add (t := 140) (hl.add (t := 141) (hl.add (t := 142) (hl.add (t := 149) (hl.add (t := 150) (hl.add (t := 151) (hl.add (t := 174) (hl.nil) rfl) rfl) rfl) rfl) rfl) rfl) rfl) rfl) rfl) rfl) rfl) rfl) rfl) rfl; clear hl; have hl := hl2; clear hl2
            refine then_normal ?_
            refine c_cond hl rfl ?_ ?_
            · intro hc9
              try simp only [decide_eq_true_eq, decide_eq_false_iff_not, Bool.not_eq_true', Bool.not_eq_false', Bool.not_eq_true, Bool.not_eq_false, Bool.and_eq_true, Bool.or_eq_true, Bool.and_eq_false_iff, Bool.or_eq_false_iff, Bool.not_not, ne_eq, Int.not_lt, Int.not_le, Decidable.not_not, beq_iff_eq, bne_iff_ne] at hc9
              obtain ⟨nd, hnd⟩ : ∃ nd, fnI s.lv ce + 1 = nd := ⟨_, rfl⟩
              have hnv : nd = fnI s.lv (cpn cp e.1) + ngv e.2 := by rw [← hnd, hc9, hcen]; rfl
              refine c_region ?_
              refine wl (wl_val hl rfl trivial (r_move hl rfl) ?_)
              clear hl a; intro a hl
              first | refine wl (wl_val hl rfl trivial (r_add hl rfl rfl (by simp only [Fits]; omega)) ?_) | refine wl (wl_val hl rfl trivial (r_addW hl rfl rfl) ?_)
              clear hl a; intro a hl
              refine wl (wl_val hl rfl trivial (r_assign hl rfl) ?_)
              clear hl a; intro a hl
              refine w_nil ?_
              have hl2 := hl.add (t := 0) (hl.add (t := 4) (hl.add (t := 5) (hl.add (t := 11) (hl.add (t := 18) (hl.add (t := 20) (hl.add (t := 23) (hl.add (t := 140) (hl.add (t := 141) (hl.add (t := 142) (hl.add (t := 149) (hl.add (t := 150) (hl.add (t := 151) (hl.nil) rfl) rfl) rfl) rfl) rfl) rfl) rfl) rfl) rfl) rfl) rfl) rfl) rfl; clear hl; have hl := hl2; clear hl2
              rw [hnd] at hl
              refine then_normal ?_
              refine c_draw [(k139, C (fl iI s.lv) 3), (cb, C (fl iI cp) 3)] [14, 15] mixed hh ?_
              clear hh w; intro w hh
              have hM : Mem [(k139, C (fl iI s.lv) 3), (cb, C (fl iI cp) 3)] w := (by (repeat (first | exact Mem.nil | refine Mem.consR hh (by assumption) (by simp) ?_ | refine Mem.cons hh.mem (by (repeat (first | exact find_head | apply find_tail | apply find_skip)); done) ?_ | fail)); done)
              refine d_take (i := 0) hl rfl (by kernel_rfl) (by kernel_rfl) (by kernel_rfl) (by kernel_rfl) (by kernel_rfl) rfl trivial (fun _ _ _ h => h) hM (fun w hC => r_move hl rfl) rfl ?_
              clear hl a; intro a hl
              refine d_take (i := 1) hl rfl (by kernel_rfl) (by kernel_rfl) (by kernel_rfl) (by kernel_rfl) (by kernel_rfl) rfl trivial (fun _ _ _ h => h) hM (fun w hC => r_move hl rfl) rfl ?_
              clear hl a; intro a hl
              refine d_take (i := 2) hl rfl (by kernel_rfl) (by kernel_rfl) (by kernel_rfl) (by kernel_rfl) (by kernel_rfl) rfl trivial (fun _ _ _ h => h) hM (fun w hC => r_move hl rfl) rfl ?_
              clear hl a; intro a hl
              refine d_take (i := 3) hl rfl (by kernel_rfl) (by kernel_rfl) (by kernel_rfl) (by kernel_rfl) (by kernel_rfl) rfl trivial (fun _ _ _ h => h) hM (fun w hC => r_indexS hl rfl rfl slc58 (by omega) (by omega) (by first | (simp only [Int.reduceToNat]; rfl) | exact toNat_add1 _ | exact toNat_add2 _ _ | exact toNat_emod _ _ | exact Int.toNat_natCast _ | rfl)) rfl ?_
              clear hl a; intro a hl
              refine d_take (i := 4) hl rfl (by kernel_rfl) (by kernel_rfl) (by kernel_rfl) (by kernel_rfl) (by kernel_rfl) rfl trivial (fun _ _ _ h => h) hM (fun w hC => r_loadC hl rfl one3 hC (by repeat (first | exact find_head | apply find_tail | apply find_skip)) (by first | exact ev_at hdh | exact ev_at hdu | exact fc0 (fnI_get (by omega)) | exact fcN hou j5 | exact fc0 (fnI_get (by have := hC.len; omega)) | rfl)) rfl ?_
              clear hl a; intro a hl
              rw [hcuq] at hl
              refine d_take (i := 5) hl rfl (by kernel_rfl) (by kernel_rfl) (by kernel_rfl) (by kernel_rfl) (by kernel_rfl) rfl trivial (fun _ _ _ h => h) hM (fun w hC => r_move hl rfl) rfl ?_
              clear hl a; intro a hl
              refine d_take (i := 6) hl rfl (by kernel_rfl) (by kernel_rfl) (by kernel_rfl) (by kernel_rfl) (by kernel_rfl) rfl trivial (fun _ _ _ h => h) hM (fun w hC => r_move hl rfl) rfl ?_
              clear hl a; intro a hl
              refine d_take (i := 7) hl rfl (by kernel_rfl) (by kernel_rfl) (by kernel_rfl) (by kernel_rfl) (by kernel_rfl) rfl trivial (fun _ _ _ h => h) hM (fun w hC => r_move hl rfl) rfl ?_
              clear hl a; intro a hl
              refine d_take (i := 8) hl rfl (by kernel_rfl) (by kernel_rfl) (by kernel_rfl) (by kernel_rfl) (by kernel_rfl) rfl trivial (fun _ _ _ h => h) hM (fun w hC => r_indexS hl rfl rfl slc58 (by omega) (by omega) (by first | (simp only [Int.reduceToNat]; rfl) | exact toNat_add1 _ | exact toNat_add2 _ _ | exact toNat_emod _ _ | exact Int.toNat_natCast _ | rfl)) rfl ?_
              clear hl a; intro a hl
              refine d_take (i := 9) hl rfl (by kernel_rfl) (by kernel_rfl) (by kernel_rfl) (by kernel_rfl) (by kernel_rfl) rfl trivial (fun _ _ _ h => h) hM (fun w hC => r_loadC hl rfl one3 hC (by repeat (first | exact find_head | apply find_tail | apply find_skip)) (by first | exact ev_at hdh | exact ev_at hdu | exact fc0 (fnI_get (by omega)) | exact fcN hou j5 | exact fc0 (fnI_get (by have := hC.len; omega)) | rfl)) rfl ?_
              clear hl a; intro a hl
              rw [hcuq] at hl
              refine d_take (i := 10) hl rfl (by kernel_rfl) (by kernel_rfl) (by kernel_rfl) (by kernel_rfl) (by kernel_rfl) rfl trivial (fun _ _ _ h => h) hM (fun w hC => r_indexS hl rfl rfl slc58 (by omega) (by omega) (by first | (simp only [Int.reduceToNat]; rfl) | exact toNat_add1 _ | exact toNat_add2 _ _ | exact toNat_emod _ _ | exact Int.toNat_natCast _ | rfl)) rfl ?_
              clear hl a; intro a hl
              refine d_take (i := 11) hl rfl (by kernel_rfl) (by kernel_rfl) (by kernel_rfl) (by kernel_rfl) (by kernel_rfl) rfl trivial (fun _ _ _ h => h) hM (fun w hC => r_loadC hl rfl one3 hC (by repeat (first | exact find_head | apply find_tail | apply find_skip)) (by first | exact ev_at hdh | exact ev_at hdu | exact fc0 (fnI_get (by omega)) | exact fcN hou j5 | exact fc0 (fnI_get (by have := hC.len; omega)) | rfl)) rfl ?_
              clear hl a; intro a hl
              refine d_take (i := 12) hl rfl (by kernel_rfl) (by kernel_rfl) (by kernel_rfl) (by kernel_rfl) (by kernel_rfl) rfl trivial (fun _ _ _ h => h) hM (fun w hC => r_move hl rfl) rfl ?_
              clear hl a; intro a hl
              refine d_take (i := 13) hl rfl (by kernel_rfl) (by kernel_rfl) (by kernel_rfl) (by kernel_rfl) (by kernel_rfl) rfl trivial (fun _ _ _ h => h) hM (fun w hC => r_max hl rfl rfl) rfl ?_
              clear hl a; intro a hl
              rw [max_ite] at hl
              refine d_takeL (i := 14) hl rfl (by kernel_rfl) (by kernel_rfl) (by kernel_rfl) (by kernel_rfl) (by kernel_rfl) rfl trivial (fun _ _ _ h => h) (fun w => r_indexS hl rfl rfl slc58 (by omega) (by omega) (by first | (simp only [Int.reduceToNat]; rfl) | exact toNat_add1 _ | exact toNat_add2 _ _ | exact toNat_emod _ _ | exact Int.toNat_natCast _ | rfl)) rfl ?_
              clear hl a; intro a hl
              refine d_one (i := 15) (by kernel_rfl) rfl ?_
              try clear hM
              refine id (w_store hl hh trivial one3 rfl rfl (by repeat (first | exact find_head | apply find_tail | apply find_skip)) (by first | (simp; done) | (simp; omega) | exact ev_lt (by rw [hu.len]; exact hrix) | exact fm0 (by omega) | exact pdc_lt (by omega)) (by first | rfl | assumption | (apply Row.one; assumption)) (by first | exact ev_set (e := (ix ps x.l.p, decide (x.l.k = 2))) E2 hdh | exact fs0 (by omega) | exact pdc_put hqg | (simp only [setL, List.getElem?_cons_zero, List.getElem?_cons_succ, Value.cells, List.take_zero, List.take_succ_cons, List.take_nil, List.drop_zero, List.drop_succ_cons, List.drop_nil, List.length_cons, List.length_nil, List.cons_append, List.nil_append, List.append_nil, Nat.zero_add, Nat.add_zero, Nat.reduceAdd, Nat.reduceBEq, Nat.reduceEqDiff, Nat.ble, BEq.rfl, Bool.and_true, Bool.and_self, cond_true, beq_self_eq_true]; rfl)) ?_)
              clear hh w; intro w hh
              refine d_step (fun h => absurd h (by decide)) ?_
              refine d_done (by kernel_rfl) ?_
              try clear hM
              have hl2 := hl.add (t := 0) (hl.add (t := 4) (hl.add (t := 5) (hl.add (t := 11) (hl.add (t := 18) (hl.add (t := 20) (hl.add (t := 140) (hl.add (t := 141) (hl.add (t := 142) (hl.add (t := 149) (hl.add (t := 150) (hl.add (t := 151) (hl.nil) rfl) rfl) rfl) rfl) rfl) rfl) rfl) rfl) rfl) rfl) rfl) rfl; clear hl; have hl := hl2; clear hl2
              obtain ⟨lv9, hlv9e, hlv9⟩ : ∃ l, s.lv.set cu (max (fnI s.lv cu) nd) = l ∧ LvI ps.length (grp (edP ps (rs.map RV.ru))) cp l (LvQ od y.k (grp (edP ps (rs.map RV.ru))) u (s.k + 1)) := ⟨_, rfl, by rw [hnv, ← hcun]; exact lv_step hC hG.hd hG.g2 hou heg hs hc8⟩
              rw [hlv9e] at hh
              refine blk_normal ?_
              refine then_normal ?_
              refine c_region ?_
              first | refine wl (wl_val hl rfl trivial (r_add hl rfl rfl (by simp only [Fits]; omega)) ?_) | refine wl (wl_val hl rfl trivial (r_addW hl rfl rfl) ?_)
              clear hl a; intro a hl
              refine wl (wl_val hl rfl trivial (r_move hl rfl) ?_)
              clear hl a; intro a hl
              refine w_nil ?_
              have hl2 := hl.add (t := 0) (hl.add (t := 4) (hl.add (t := 5) (hl.add (t := 11) (hl.add (t := 18) (hl.add (t := 20) (hl.add (t := 140) (hl.add (t := 141) (hl.add (t := 142) (hl.add (t := 149) (hl.add (t := 150) (hl.add (t := 151) (hl.nil) rfl) rfl) rfl) rfl) rfl) rfl) rfl) rfl) rfl) rfl) rfl) rfl; clear hl; have hl := hl2; clear hl2
              refine then_normal ?_
              refine ⟨⟨s.k + 1, lv9⟩, (by simp only; omega), ⟨by simp only; omega, hlv9⟩, hl.addE (t := 151) (hl.addE (t := 0) (hl.addE (t := 4) (hl.addE (t := 5) (hl.addE (t := 11) (hl.addE (t := 18) (hl.addE (t := 20) (hl.addE (t := 140) (hl.addE (t := 141) (hl.addE (t := 142) (hl.addE (t := 149) (hl.addE (t := 150) (hl.nil) rfl (by first | rfl | exact congrArg (Value.int .i64) (show (s.k : Int) + 1 = ((s.k + 1 : Nat) : Int) by omega) | (rw [hq6]))) rfl (by first | rfl | exact congrArg (Value.int .i64) (show (s.k : Int) + 1 = ((s.k + 1 : Nat) : Int) by omega) | (rw [hq6]))) rfl (by first | rfl | exact congrArg (Value.int .i64) (show (s.k : Int) + 1 = ((s.k + 1 : Nat) : Int) by omega) | (rw [hq6]))) rfl (by first | rfl | exact congrArg (Value.int .i64) (show (s.k : Int) + 1 = ((s.k + 1 : Nat) : Int) by omega) | (rw [hq6]))) rfl (by first | rfl | exact congrArg (Value.int .i64) (show (s.k : Int) + 1 = ((s.k + 1 : Nat) : Int) by omega) | (rw [hq6]))) rfl (by first | rfl | exact congrArg (Value.int .i64) (show (s.k : Int) + 1 = ((s.k + 1 : Nat) : Int) by omega) | (rw [hq6]))) rfl (by first | rfl | exact congrArg (Value.int .i64) (show (s.k : Int) + 1 = ((s.k + 1 : Nat) : Int) by omega) | (rw [hq6]))) rfl (by first | rfl | exact congrArg (Value.int .i64) (show (s.k : Int) + 1 = ((s.k + 1 : Nat) : Int) by omega) | (rw [hq6]))) rfl (by first | rfl | exact congrArg (Value.int .i64) (show (s.k : Int) + 1 = ((s.k + 1 : Nat) : Int) by omega) | (rw [hq6]))) rfl (by first | rfl | exact congrArg (Value.int .i64) (show (s.k : Int) + 1 = ((s.k + 1 : Nat) : Int) by omega) | (rw [hq6]))) rfl (by first | rfl | exact congrArg (Value.int .i64) (show (s.k : Int) + 1 = ((s.k + 1 : Nat) : Int) by omega) | (rw [hq6]))) rfl (by first | rfl | exact congrArg (Value.int .i64) (show (s.k : Int) + 1 = ((s.k + 1 : Nat) : Int) by omega) | (rw [hq6])), hh.keep (by repeat (first | exact keeps_nil | apply keeps_cons (by repeat (first | exact find_head | apply find_tail | apply find_skip)) (by first  | rfl) | exact keeps_self | exact keeps_left | apply keeps_app | apply keeps_mv | apply keeps_skip))⟩
            · intro hc9
              try simp only [decide_eq_true_eq, decide_eq_false_iff_not, Bool.not_eq_true', Bool.not_eq_false', Bool.not_eq_true, Bool.not_eq_false, Bool.and_eq_true, Bool.or_eq_true, Bool.and_eq_false_iff, Bool.or_eq_false_iff, Bool.not_not, ne_eq, Int.not_lt, Int.not_le, Decidable.not_not, beq_iff_eq, bne_iff_ne] at hc9
              obtain ⟨nd, hnd⟩ : ∃ nd, fnI s.lv ce = nd := ⟨_, rfl⟩
              have hnv : nd = fnI s.lv (cpn cp e.1) + ngv e.2 := by rw [← hnd, hc9, hcen]; exact (Int.add_zero _).symm
              rw [hnd] at hl
              refine wp_skip ?_
              refine then_normal ?_
              refine c_draw [(k139, C (fl iI s.lv) 3), (cb, C (fl iI cp) 3)] [14, 15] mixed hh ?_
              clear hh w; intro w hh
              have hM : Mem [(k139, C (fl iI s.lv) 3), (cb, C (fl iI cp) 3)] w := (by (repeat (first | exact Mem.nil | refine Mem.consR hh (by assumption) (by simp) ?_ | refine Mem.cons hh.mem (by (repeat (first | exact find_head | apply find_tail | apply find_skip)); done) ?_ | fail)); done)
              refine d_take (i := 0) hl rfl (by kernel_rfl) (by kernel_rfl) (by kernel_rfl) (by kernel_rfl) (by kernel_rfl) rfl trivial (fun _ _ _ h => h) hM (fun w hC => r_move hl rfl) rfl ?_
              clear hl a; intro a hl
              refine d_take (i := 1) hl rfl (by kernel_rfl) (by kernel_rfl) (by kernel_rfl) (by kernel_rfl) (by kernel_rfl) rfl trivial (fun _ _ _ h => h) hM (fun w hC => r_move hl rfl) rfl ?_
              clear hl a; intro a hl
              refine d_take (i := 2) hl rfl (by kernel_rfl) (by kernel_rfl) (by kernel_rfl) (by kernel_rfl) (by kernel_rfl) rfl trivial (fun _ _ _ h => h) hM (fun w hC => r_move hl rfl) rfl ?_
              clear hl a; intro a hl
              refine d_take (i := 3) hl rfl (by kernel_rfl) (by kernel_rfl) (by kernel_rfl) (by kernel_rfl) (by kernel_rfl) rfl trivial (fun _ _ _ h => h) hM (fun w hC => r_indexS hl rfl rfl slc58 (by omega) (by omega) (by first | (simp only [Int.reduceToNat]; rfl) | exact toNat_add1 _ | exact toNat_add2 _ _ | exact toNat_emod _ _ | exact Int.toNat_natCast _ | rfl)) rfl ?_
              clear hl a; intro a hl
              refine d_take (i := 4) hl rfl (by kernel_rfl) (by kernel_rfl) (by kernel_rfl) (by kernel_rfl) (by kernel_rfl) rfl trivial (fun _ _ _ h => h) hM (fun w hC => r_loadC hl rfl one3 hC (by repeat (first | exact find_head | apply find_tail | apply find_skip)) (by first | exact ev_at hdh | exact ev_at hdu | exact fc0 (fnI_get (by omega)) | exact fcN hou j5 | exact fc0 (fnI_get (by have := hC.len; omega)) | rfl)) rfl ?_
              clear hl a; intro a hl
              rw [hcuq] at hl
              refine d_take (i := 5) hl rfl (by kernel_rfl) (by kernel_rfl) (by kernel_rfl) (by kernel_rfl) (by kernel_rfl) rfl trivial (fun _ _ _ h => h) hM (fun w hC => r_move hl rfl) rfl ?_
              clear hl a; intro a hl
              refine d_take (i := 6) hl rfl (by kernel_rfl) (by kernel_rfl) (by kernel_rfl) (by kernel_rfl) (by kernel_rfl) rfl trivial (fun _ _ _ h => h) hM (fun w hC => r_move hl rfl) rfl ?_
              clear hl a; intro a hl
              refine d_take (i := 7) hl rfl (by kernel_rfl) (by kernel_rfl) (by kernel_rfl) (by kernel_rfl) (by kernel_rfl) rfl trivial (fun _ _ _ h => h) hM (fun w hC => r_move hl rfl) rfl ?_
              clear hl a; intro a hl
              refine d_take (i := 8) hl rfl (by kernel_rfl) (by kernel_rfl) (by kernel_rfl) (by kernel_rfl) (by kernel_rfl) rfl trivial (fun _ _ _ h => h) hM (fun w hC => r_indexS hl rfl rfl slc58 (by omega) (by omega) (by first | (simp only [Int.reduceToNat]; rfl) | exact toNat_add1 _ | exact toNat_add2 _ _ | exact toNat_emod _ _ | exact Int.toNat_natCast _ | rfl)) rfl ?_
              clear hl a; intro a hl
              refine d_take (i := 9) hl rfl (by kernel_rfl) (by kernel_rfl) (by kernel_rfl) (by kernel_rfl) (by kernel_rfl) rfl trivial (fun _ _ _ h => h) hM (fun w hC => r_loadC hl rfl one3 hC (by repeat (first | exact find_head | apply find_tail | apply find_skip)) (by first | exact ev_at hdh | exact ev_at hdu | exact fc0 (fnI_get (by omega)) | exact fcN hou j5 | exact fc0 (fnI_get (by have := hC.len; omega)) | rfl)) rfl ?_
              clear hl a; intro a hl
              rw [hcuq] at hl
              refine d_take (i := 10) hl rfl (by kernel_rfl) (by kernel_rfl) (by kernel_rfl) (by kernel_rfl) (by kernel_rfl) rfl trivial (fun _ _ _ h => h) hM (fun w hC => r_indexS hl rfl rfl slc58 (by omega) (by omega) (by first | (simp only [Int.reduceToNat]; rfl) | exact toNat_add1 _ | exact toNat_add2 _ _ | exact toNat_emod _ _ | exact Int.toNat_natCast _ | rfl)) rfl ?_
              clear hl a; intro a hl
              refine d_take (i := 11) hl rfl (by kernel_rfl) (by kernel_rfl) (by kernel_rfl) (by kernel_rfl) (by kernel_rfl) rfl trivial (fun _ _ _ h => h) hM (fun w hC => r_loadC hl rfl one3 hC (by repeat (first | exact find_head | apply find_tail | apply find_skip)) (by first | exact ev_at hdh | exact ev_at hdu | exact fc0 (fnI_get (by omega)) | exact fcN hou j5 | exact fc0 (fnI_get (by have := hC.len; omega)) | rfl)) rfl ?_
              clear hl a; intro a hl
              refine d_take (i := 12) hl rfl (by kernel_rfl) (by kernel_rfl) (by kernel_rfl) (by kernel_rfl) (by kernel_rfl) rfl trivial (fun _ _ _ h => h) hM (fun w hC => r_move hl rfl) rfl ?_
              clear hl a; intro a hl
              refine d_take (i := 13) hl rfl (by kernel_rfl) (by kernel_rfl) (by kernel_rfl) (by kernel_rfl) (by kernel_rfl) rfl trivial (fun _ _ _ h => h) hM (fun w hC => r_max hl rfl rfl) rfl ?_
              clear hl a; intro a hl
              rw [max_ite] at hl
              refine d_takeL (i := 14) hl rfl (by kernel_rfl) (by kernel_rfl) (by kernel_rfl) (by kernel_rfl) (by kernel_rfl) rfl trivial (fun _ _ _ h => h) (fun w => r_indexS hl rfl rfl slc58 (by omega) (by omega) (by first | (simp only [Int.reduceToNat]; rfl) | exact toNat_add1 _ | exact toNat_add2 _ _ | exact toNat_emod _ _ | exact Int.toNat_natCast _ | rfl)) rfl ?_
              clear hl a; intro a hl
              refine d_one (i := 15) (by kernel_rfl) rfl ?_
              try clear hM
              refine id (w_store hl hh trivial one3 rfl rfl (by repeat (first | exact find_head | apply find_tail | apply find_skip)) (by first | (simp; done) | (simp; omega) | exact ev_lt (by rw [hu.len]; exact hrix) | exact fm0 (by omega) | exact pdc_lt (by omega)) (by first | rfl | assumption | (apply Row.one; assumption)) (by first | exact ev_set (e := (ix ps x.l.p, decide (x.l.k = 2))) E2 hdh | exact fs0 (by omega) | exact pdc_put hqg | (simp only [setL, List.getElem?_cons_zero, List.getElem?_cons_succ, Value.cells, List.take_zero, List.take_succ_cons, List.take_nil, List.drop_zero, List.drop_succ_cons, List.drop_nil, List.length_cons, List.length_nil, List.cons_append, List.nil_append, List.append_nil, Nat.zero_add, Nat.add_zero, Nat.reduceAdd, Nat.reduceBEq, Nat.reduceEqDiff, Nat.ble, BEq.rfl, Bool.and_true, Bool.and_self, cond_true, beq_self_eq_true]; rfl)) ?_)
              clear hh w; intro w hh
              refine d_step (fun h => absurd h (by decide)) ?_
              refine d_done (by kernel_rfl) ?_
              try clear hM
              have hl2 := hl.add (t := 0) (hl.add (t := 4) (hl.add (t := 5) (hl.add (t := 11) (hl.add (t := 18) (hl.add (t := 20) (hl.add (t := 140) (hl.add (t := 141) (hl.add (t := 142) (hl.add (t := 149) (hl.add (t := 150) (hl.add (t := 151) (hl.nil) rfl) rfl) rfl) rfl) rfl) rfl) rfl) rfl) rfl) rfl) rfl) rfl; clear hl; have hl := hl2; clear hl2
              obtain ⟨lv9, hlv9e, hlv9⟩ : ∃ l, s.lv.set cu (max (fnI s.lv cu) nd) = l ∧ LvI ps.length (grp (edP ps (rs.map RV.ru))) cp l (LvQ od y.k (grp (edP ps (rs.map RV.ru))) u (s.k + 1)) := ⟨_, rfl, by rw [hnv, ← hcun]; exact lv_step hC hG.hd hG.g2 hou heg hs hc8⟩
              rw [hlv9e] at hh
              refine blk_normal ?_
              refine then_normal ?_
              refine c_region ?_
              first | refine wl (wl_val hl rfl trivial (r_add hl rfl rfl (by simp only [Fits]; omega)) ?_) | refine wl (wl_val hl rfl trivial (r_addW hl rfl rfl) ?_)
              clear hl a; intro a hl
              refine wl (wl_val hl rfl trivial (r_move hl rfl) ?_)
              clear hl a; intro a hl
              refine w_nil ?_
              have hl2 := hl.add (t := 0) (hl.add (t := 4) (hl.add (t := 5) (hl.add (t := 11) (hl.add (t := 18) (hl.add (t := 20) (hl.add (t := 140) (hl.add (t := 141) (hl.add (t := 142) (hl.add (t := 149) (hl.add (t := 150) (hl.add (t := 151) (hl.nil) rfl) rfl) rfl) rfl) rfl) rfl) rfl) rfl) rfl) rfl) rfl) rfl; clear hl; have hl := hl2; clear hl2
              refine then_normal ?_
              refine ⟨⟨s.k + 1, lv9⟩, (by simp only; omega), ⟨by simp only; omega, hlv9⟩, hl.addE (t := 151) (hl.addE (t := 0) (hl.addE (t := 4) (hl.addE (t := 5) (hl.addE (t := 11) (hl.addE (t := 18) (hl.addE (t := 20) (hl.addE (t := 140) (hl.addE (t := 141) (hl.addE (t := 142) (hl.addE (t := 149) (hl.addE (t := 150) (hl.nil) rfl (by first | rfl | exact congrArg (Value.int .i64) (show (s.k : Int) + 1 = ((s.k + 1 : Nat) : Int) by omega) | (rw [hq6]))) rfl (by first | rfl | exact congrArg (Value.int .i64) (show (s.k : Int) + 1 = ((s.k + 1 : Nat) : Int) by omega) | (rw [hq6]))) rfl (by first | rfl | exact congrArg (Value.int .i64) (show (s.k : Int) + 1 = ((s.k + 1 : Nat) : Int) by omega) | (rw [hq6]))) rfl (by first | rfl | exact congrArg (Value.int .i64) (show (s.k : Int) + 1 = ((s.k + 1 : Nat) : Int) by omega) | (rw [hq6]))) rfl (by first | rfl | exact congrArg (Value.int .i64) (show (s.k : Int) + 1 = ((s.k + 1 : Nat) : Int) by omega) | (rw [hq6]))) rfl (by first | rfl | exact congrArg (Value.int .i64) (show (s.k : Int) + 1 = ((s.k + 1 : Nat) : Int) by omega) | (rw [hq6]))) rfl (by first | rfl | exact congrArg (Value.int .i64) (show (s.k : Int) + 1 = ((s.k + 1 : Nat) : Int) by omega) | (rw [hq6]))) rfl (by first | rfl | exact congrArg (Value.int .i64) (show (s.k : Int) + 1 = ((s.k + 1 : Nat) : Int) by omega) | (rw [hq6]))) rfl (by first | rfl | exact congrArg (Value.int .i64) (show (s.k : Int) + 1 = ((s.k + 1 : Nat) : Int) by omega) | (rw [hq6]))) rfl (by first | rfl | exact congrArg (Value.int .i64) (show (s.k : Int) + 1 = ((s.k + 1 : Nat) : Int) by omega) | (rw [hq6]))) rfl (by first | rfl | exact congrArg (Value.int .i64) (show (s.k : Int) + 1 = ((s.k + 1 : Nat) : Int) by omega) | (rw [hq6]))) rfl (by first | rfl | exact congrArg (Value.int .i64) (show (s.k : Int) + 1 = ((s.k + 1 : Nat) : Int) by omega) | (rw [hq6])), hh.keep (by repeat (first | exact keeps_nil | apply keeps_cons (by repeat (first | exact find_head | apply find_tail | apply find_skip)) (by first  | rfl) | exact keeps_self | exact keeps_left | apply keeps_app | apply keeps_mv | apply keeps_skip))⟩
        · intro hc7
          try simp only [decide_eq_true_eq, decide_eq_false_iff_not, Bool.not_eq_true', Bool.not_eq_false', Bool.not_eq_true, Bool.not_eq_false, Bool.and_eq_true, Bool.or_eq_true, Bool.and_eq_false_iff, Bool.or_eq_false_iff, Bool.not_not, ne_eq, Int.not_lt, Int.not_le, Decidable.not_not, beq_iff_eq, bne_iff_ne] at hc7
          have hse : s.k = ((grp (edP ps (rs.map RV.ru))) u).length := by rw [← hdg]; omega
          refine wp_exit ?_
          refine then_exit ?_
          refine then_exit ?_
          refine blk_exit ?_
          refine blk_normal ?_
          refine then_normal ?_
          refine c_region ?_
          first | refine wl (wl_val hl rfl trivial (r_add hl rfl rfl (by simp only [Fits]; omega)) ?_) | refine wl (wl_val hl rfl trivial (r_addW hl rfl rfl) ?_)
          clear hl a; intro a hl
          refine wl (wl_val hl rfl trivial (r_move hl rfl) ?_)
          clear hl a; intro a hl
          refine w_nil ?_
          have hl2 := hl.add (t := 0) (hl.add (t := 4) (hl.add (t := 5) (hl.add (t := 11) (hl.add (t := 18) (hl.add (t := 140) (hl.add (t := 141) (hl.add (t := 142) (hl.nil) rfl) rfl) rfl) rfl) rfl) rfl) rfl) rfl; clear hl; have hl := hl2; clear hl2
          refine then_normal ?_
          refine ⟨⟨y.k + 1, s.lv⟩, (by simp only; omega), ⟨by simp only; omega, lv_out hou hse hs⟩, hl.addE (t := 142) (hl.addE (t := 0) (hl.addE (t := 4) (hl.addE (t := 5) (hl.addE (t := 11) (hl.addE (t := 18) (hl.addE (t := 140) (hl.addE (t := 141) (hl.nil) rfl (by first | rfl | exact congrArg (Value.int .i64) (show (y.k : Int) + 1 = ((y.k + 1 : Nat) : Int) by omega) | (rw [hq5]))) rfl (by first | rfl | exact congrArg (Value.int .i64) (show (y.k : Int) + 1 = ((y.k + 1 : Nat) : Int) by omega) | (rw [hq5]))) rfl (by first | rfl | exact congrArg (Value.int .i64) (show (y.k : Int) + 1 = ((y.k + 1 : Nat) : Int) by omega) | (rw [hq5]))) rfl (by first | rfl | exact congrArg (Value.int .i64) (show (y.k : Int) + 1 = ((y.k + 1 : Nat) : Int) by omega) | (rw [hq5]))) rfl (by first | rfl | exact congrArg (Value.int .i64) (show (y.k : Int) + 1 = ((y.k + 1 : Nat) : Int) by omega) | (rw [hq5]))) rfl (by first | rfl | exact congrArg (Value.int .i64) (show (y.k : Int) + 1 = ((y.k + 1 : Nat) : Int) by omega) | (rw [hq5]))) rfl (by first | rfl | exact congrArg (Value.int .i64) (show (y.k : Int) + 1 = ((y.k + 1 : Nat) : Int) by omega) | (rw [hq5]))) rfl (by first | rfl | exact congrArg (Value.int .i64) (show (y.k : Int) + 1 = ((y.k + 1 : Nat) : Int) by omega) | (rw [hq5])), hh.keep (by repeat (first | exact keeps_nil | apply keeps_cons (by repeat (first | exact find_head | apply find_tail | apply find_skip)) (by first  | rfl) | exact keeps_self | exact keeps_left | apply keeps_app | apply keeps_mv | apply keeps_skip))⟩
      · intro hc6
        try simp only [decide_eq_true_eq, decide_eq_false_iff_not, Bool.not_eq_true', Bool.not_eq_false', Bool.not_eq_true, Bool.not_eq_false, Bool.and_eq_true, Bool.or_eq_true, Bool.and_eq_false_iff, Bool.or_eq_false_iff, Bool.not_not, ne_eq, Int.not_lt, Int.not_le, Decidable.not_not, beq_iff_eq, bne_iff_ne] at hc6
        have hke : y.k = od.length := by omega
        have hLst : Least ps.length (grp (edP ps (rs.map RV.ru))) (fun x => fnI y.lv (cpn cp x)) := hy.least hC hG.g2 (fun x e hx he => ⟨by rw [take_all hke]; exact (hC.odm x).2 hx, he⟩) (hG.no hno)
        have hyl := hy.len
        refine wp_exit ?_
        refine then_exit ?_
        refine then_exit ?_
        refine blk_exit ?_
        refine then_normal ?_
        refine c_seq ?_
        refine c_seq ?_
        refine c_region ?_
        refine wl (wl_val hl rfl trivial (r_move hl rfl) ?_)
        clear hl a; intro a hl
        refine wl (wl_val hl rfl trivial (r_nilCheck hl rfl) ?_)
        clear hl a; intro a hl
        refine wl (wl_val hl rfl trivial (r_field hl rfl fld111_1) ?_)
        clear hl a; intro a hl
        first | refine wl (w_load hl hh rfl trivial one31 rfl (by repeat (first | exact find_head | apply find_tail | apply find_skip)) (by first | exact ev_at hdh | exact ev_at hdu | exact fc0 (fnI_get (by omega)) | exact fcN hou j5 | exact fc0 (fnI_get (by have := hC.len; omega)) | rfl) ?_) | refine wl (wl_val hl rfl trivial (r_load hl rfl one31 (hh.mem _ _ (by repeat (first | exact hmem5 | exact List.mem_append_left _ hmem5 | apply List.mem_cons_of_mem | apply List.mem_append_right))) (List.getElem?_toArray.trans (fcN hou j5))) ?_)
        clear hl a; intro a hl
        refine wl (wl_val hl rfl trivial (r_lenS hl rfl slc31) ?_)
        clear hl a; intro a hl
        refine wl (wl_val hl rfl trivial (r_move hl rfl) ?_)
        clear hl a; intro a hl
        refine w_nil ?_
        have hl2 := hl.add (t := 0) (hl.add (t := 4) (hl.add (t := 11) (hl.add (t := 18) (hl.add (t := 198) (hl.add (t := 199) (hl.nil) rfl) rfl) rfl) rfl) rfl) rfl; clear hl; have hl := hl2; clear hl2
        refine then_normal ?_
        refine wp_block ?_
        obtain ⟨KS6, hKS6, hk⟩ := (hl.add (t := 0) (hl.add (t := 4) (hl.add (t := 11) (hl.add (t := 18) (hl.add (t := 198) (hl.nil) rfl) rfl) rfl) rfl) rfl).name
        obtain ⟨HS6, hHS6, hh2⟩ := hh.nameT (A := []) (U := pE) ((by repeat (first | exact keeps_nil | exact keeps_self | exact keeps_left | apply keeps_app | apply keeps_mv | apply keeps_skip)))
        refine c_loop (α := PS) (fun q => ps.length - q.i) (fun q a w => (q.i ≤ ps.length ∧ SetS ps q.l (fun i => (fnI y.lv (cpn cp i)).toNat) q.i ∧ Row (.slice pp q.l.length pc) q.l.length (fl pdc q.l) 3 93 q.E) ∧ Sl 218 ([(199, .int .i64 (q.i : Int))] ++ KS6) a ∧ Has _ w0 ([] ++ (HS6 ++ q.E)) w) ⟨0, ps, pE⟩ ⟨⟨Nat.zero_le _, SetS.start _ _, hP⟩, hl.addE (t := 199) (hk) rfl (by first | rfl), hh2⟩ ?_
        clear hk hh2 hl hh a w
        intro q a w hI
        obtain ⟨⟨hqi, hqS, hqR⟩, hl, hh⟩ := hI
        subst hKS6; subst hHS6
        simp only [List.cons_append, List.nil_append, List.append_nil, List.append_assoc] at hl hh
        refine c_seq ?_
        refine c_region ?_
        refine wl (wl_val hl rfl trivial (r_lss hl rfl rfl) ?_)
        clear hl a; intro a hl
        refine w_nil ?_
        have hl2 := hl.add (t := 0) (hl.add (t := 4) (hl.add (t := 11) (hl.add (t := 18) (hl.add (t := 198) (hl.add (t := 199) (hl.add (t := 200) (hl.nil) rfl) rfl) rfl) rfl) rfl) rfl) rfl; clear hl; have hl := hl2; clear hl2
        refine then_normal ?_
        refine c_seq ?_
        refine c_cond hl rfl ?_ ?_
        · intro hc10
          try simp only [decide_eq_true_eq, decide_eq_false_iff_not, Bool.not_eq_true', Bool.not_eq_false', Bool.not_eq_true, Bool.not_eq_false, Bool.and_eq_true, Bool.or_eq_true, Bool.and_eq_false_iff, Bool.or_eq_false_iff, Bool.not_not, ne_eq, Int.not_lt, Int.not_le, Decidable.not_not, beq_iff_eq, bne_iff_ne] at hc10
          obtain ⟨g, hqg⟩ : ∃ g, q.l[q.i]? = some g := ⟨_, List.getElem?_eq_getElem (by rw [hqS.len]; omega)⟩
          have hql := hqS.len
          obtain ⟨b7, j7, hq7, hjl7, hjc7, hE7⟩ := row_pos hqR (by omega)
          rw [hq7, hE7] at hh
          have hcq := hC.rg q.i (by omega)
          have hnq := hLst.nn q.i (by omega)
          refine wp_skip ?_
          refine then_normal ?_
          refine c_seq ?_
          refine wp_block ?_
          refine c_seq ?_
          refine c_region ?_
          refine wl (wl_val hl rfl trivial (r_move hl rfl) ?_)
          clear hl a; intro a hl
          refine wl (wl_val hl rfl trivial (r_assign hl rfl) ?_)
          clear hl a; intro a hl
          refine w_nil ?_
          have hl2 := hl.add (t := 0) (hl.add (t := 4) (hl.add (t := 11) (hl.add (t := 18) (hl.add (t := 24) (hl.add (t := 198) (hl.add (t := 199) (hl.nil) rfl) rfl) rfl) rfl) rfl) rfl) rfl; clear hl; have hl := hl2; clear hl2
          refine then_normal ?_
          refine c_draw [(tb, C [.map (some mb), .slice (some ⟨b7, 0, none⟩) ps.length pc] 111), (cb, C (fl iI cp) 3), (k139, C (fl iI y.lv) 3)] [12, 13, 14] mixed hh ?_
          clear hh w; intro w hh
          have hM : Mem [(tb, C [.map (some mb), .slice (some ⟨b7, 0, none⟩) ps.length pc] 111), (cb, C (fl iI cp) 3), (k139, C (fl iI y.lv) 3)] w := (by (repeat (first | exact Mem.nil | refine Mem.consR hh (by assumption) (by simp) ?_ | refine Mem.cons hh.mem (by (repeat (first | exact find_head | apply find_tail | apply find_skip)); done) ?_ | fail)); done)
          refine d_take (i := 0) hl rfl (by kernel_rfl) (by kernel_rfl) (by kernel_rfl) (by kernel_rfl) (by kernel_rfl) rfl trivial (fun _ _ _ h => h) hM (fun w hC => r_move hl rfl) rfl ?_
          clear hl a; intro a hl
          refine d_take (i := 1) hl rfl (by kernel_rfl) (by kernel_rfl) (by kernel_rfl) (by kernel_rfl) (by kernel_rfl) rfl trivial (fun _ _ _ h => h) hM (fun w hC => r_nilCheck hl rfl) rfl ?_
          clear hl a; intro a hl
          refine d_take (i := 2) hl rfl (by kernel_rfl) (by kernel_rfl) (by kernel_rfl) (by kernel_rfl) (by kernel_rfl) rfl trivial (fun _ _ _ h => h) hM (fun w hC => r_field hl rfl fld111_1) rfl ?_
          clear hl a; intro a hl
          refine d_take (i := 3) hl rfl (by kernel_rfl) (by kernel_rfl) (by kernel_rfl) (by kernel_rfl) (by kernel_rfl) rfl trivial (fun _ _ _ h => h) hM (fun w hC => r_loadC hl rfl one31 hC (by repeat (first | exact find_head | apply find_tail | apply find_skip)) (by first | exact ev_at hdh | exact ev_at hdu | exact fc0 (fnI_get (by omega)) | exact fcN hou j5 | exact fc0 (fnI_get (by have := hC.len; omega)) | rfl)) rfl ?_
          clear hl a; intro a hl
          refine d_take (i := 4) hl rfl (by kernel_rfl) (by kernel_rfl) (by kernel_rfl) (by kernel_rfl) (by kernel_rfl) rfl trivial (fun _ _ _ h => h) hM (fun w hC => r_move hl rfl) rfl ?_
          clear hl a; intro a hl
          refine d_take (i := 5) hl rfl (by kernel_rfl) (by kernel_rfl) (by kernel_rfl) (by kernel_rfl) (by kernel_rfl) rfl trivial (fun _ _ _ h => h) hM (fun w hC => r_move hl rfl) rfl ?_
          clear hl a; intro a hl
          refine d_take (i := 6) hl rfl (by kernel_rfl) (by kernel_rfl) (by kernel_rfl) (by kernel_rfl) (by kernel_rfl) rfl trivial (fun _ _ _ h => h) hM (fun w hC => r_move hl rfl) rfl ?_
          clear hl a; intro a hl
          refine d_take (i := 7) hl rfl (by kernel_rfl) (by kernel_rfl) (by kernel_rfl) (by kernel_rfl) (by kernel_rfl) rfl trivial (fun _ _ _ h => h) hM (fun w hC => r_move hl rfl) rfl ?_
          clear hl a; intro a hl
          refine d_take (i := 8) hl rfl (by kernel_rfl) (by kernel_rfl) (by kernel_rfl) (by kernel_rfl) (by kernel_rfl) rfl trivial (fun _ _ _ h => h) hM (fun w hC => r_indexS hl rfl rfl slc58 (by omega) (by omega) (by first | (simp only [Int.reduceToNat]; rfl) | exact toNat_add1 _ | exact toNat_add2 _ _ | exact toNat_emod _ _ | exact Int.toNat_natCast _ | rfl)) rfl ?_
          clear hl a; intro a hl
          refine d_take (i := 9) hl rfl (by kernel_rfl) (by kernel_rfl) (by kernel_rfl) (by kernel_rfl) (by kernel_rfl) rfl trivial (fun _ _ _ h => h) hM (fun w hC => r_loadC hl rfl one3 hC (by repeat (first | exact find_head | apply find_tail | apply find_skip)) (by first | exact ev_at hdh | exact ev_at hdu | exact fc0 (fnI_get (by omega)) | exact fcN hou j5 | exact fc0 (fnI_get (by have := hC.len; omega)) | rfl)) rfl ?_
          clear hl a; intro a hl
          obtain ⟨cq, hcqe⟩ : ∃ c : Nat, fnI cp q.i = (c : Int) := ⟨(fnI cp q.i).toNat, by omega⟩
          rw [hcqe] at hl
          have hcqn : cpn cp q.i = cq := by unfold cpn; omega
          refine d_take (i := 10) hl rfl (by kernel_rfl) (by kernel_rfl) (by kernel_rfl) (by kernel_rfl) (by kernel_rfl) rfl trivial (fun _ _ _ h => h) hM (fun w hC => r_indexS hl rfl rfl slc58 (by omega) (by omega) (by first | (simp only [Int.reduceToNat]; rfl) | exact toNat_add1 _ | exact toNat_add2 _ _ | exact toNat_emod _ _ | exact Int.toNat_natCast _ | rfl)) rfl ?_
          clear hl a; intro a hl
          refine d_take (i := 11) hl rfl (by kernel_rfl) (by kernel_rfl) (by kernel_rfl) (by kernel_rfl) (by kernel_rfl) rfl trivial (fun _ _ _ h => h) hM (fun w hC => r_loadC hl rfl one3 hC (by repeat (first | exact find_head | apply find_tail | apply find_skip)) (by first | exact ev_at hdh | exact ev_at hdu | exact fc0 (fnI_get (by omega)) | exact fcN hou j5 | exact fc0 (fnI_get (by have := hC.len; omega)) | rfl)) rfl ?_
          clear hl a; intro a hl
          rw [show fnI y.lv cq = (((fnI y.lv (cpn cp q.i)).toNat : Nat) : Int) by have h9 := hnq.1; simp only [hcqn] at h9 ⊢; omega] at hl
          refine d_takeL (i := 12) hl rfl (by kernel_rfl) (by kernel_rfl) (by kernel_rfl) (by kernel_rfl) (by kernel_rfl) rfl trivial (fun _ _ _ h => h) (fun w => r_indexS hl rfl rfl slc31 (by omega) (by omega) (by first | (simp only [Int.reduceToNat]; rfl) | exact toNat_add1 _ | exact toNat_add2 _ _ | exact toNat_emod _ _ | exact Int.toNat_natCast _ | rfl)) rfl ?_
          clear hl a; intro a hl
          refine d_takeL (i := 13) hl rfl (by kernel_rfl) (by kernel_rfl) (by kernel_rfl) (by kernel_rfl) (by kernel_rfl) rfl trivial (fun _ _ _ h => h) (fun w => r_field hl rfl fld93_2) rfl ?_
          clear hl a; intro a hl
          refine d_one (i := 14) (by kernel_rfl) rfl ?_
          try clear hM
          refine id (w_store hl hh trivial one3 rfl rfl (by repeat (first | exact find_head | apply find_tail | apply find_skip)) (by first | (simp; done) | (simp; omega) | exact ev_lt (by rw [hu.len]; exact hrix) | exact fm0 (by omega) | exact pdc_lt (by omega)) (by first | rfl | assumption | (apply Row.one; assumption)) (by first | exact ev_set (e := (ix ps x.l.p, decide (x.l.k = 2))) E2 hdh | exact fs0 (by omega) | exact pdc_put hqg | (simp only [setL, List.getElem?_cons_zero, List.getElem?_cons_succ, Value.cells, List.take_zero, List.take_succ_cons, List.take_nil, List.drop_zero, List.drop_succ_cons, List.drop_nil, List.length_cons, List.length_nil, List.cons_append, List.nil_append, List.append_nil, Nat.zero_add, Nat.add_zero, Nat.reduceAdd, Nat.reduceBEq, Nat.reduceEqDiff, Nat.ble, BEq.rfl, Bool.and_true, Bool.and_self, cond_true, beq_self_eq_true]; rfl)) ?_)
          clear hh w; intro w hh
          refine d_step (fun h => absurd h (by decide)) ?_
          refine d_done (by kernel_rfl) ?_
          try clear hM
          have hl2 := hl.add (t := 0) (hl.add (t := 4) (hl.add (t := 11) (hl.add (t := 18) (hl.add (t := 198) (hl.add (t := 199) (hl.nil) rfl) rfl) rfl) rfl) rfl) rfl; clear hl; have hl := hl2; clear hl2
          refine blk_normal ?_
          refine then_normal ?_
          refine c_region ?_
          first | refine wl (wl_val hl rfl trivial (r_add hl rfl rfl (by simp only [Fits]; omega)) ?_) | refine wl (wl_val hl rfl trivial (r_addW hl rfl rfl) ?_)
          clear hl a; intro a hl
          refine wl (wl_val hl rfl trivial (r_move hl rfl) ?_)
          clear hl a; intro a hl
          refine w_nil ?_
          have hl2 := hl.add (t := 0) (hl.add (t := 4) (hl.add (t := 11) (hl.add (t := 18) (hl.add (t := 198) (hl.add (t := 199) (hl.nil) rfl) rfl) rfl) rfl) rfl) rfl; clear hl; have hl := hl2; clear hl2
          refine then_normal ?_
          refine ⟨⟨q.i + 1, q.l.set q.i ⟨g.n, g.a, (fnI y.lv (cpn cp q.i)).toNat⟩, [(b7, C (fl pdc (q.l.set q.i ⟨g.n, g.a, (fnI y.lv (cpn cp q.i)).toNat⟩) ++ j7) 93)]⟩, (by simp only; omega), ⟨by simp only; omega, hqS.next hqg, by rw [hq7]; exact row_put pdc_len (by rw [List.length_set]) hjl7 hjc7⟩, hl.addE (t := 199) (hl.addE (t := 0) (hl.addE (t := 4) (hl.addE (t := 11) (hl.addE (t := 18) (hl.addE (t := 198) (hl.nil) rfl (by first | rfl | exact congrArg (Value.int .i64) (show (q.i : Int) + 1 = ((q.i + 1 : Nat) : Int) by omega))) rfl (by first | rfl | exact congrArg (Value.int .i64) (show (q.i : Int) + 1 = ((q.i + 1 : Nat) : Int) by omega))) rfl (by first | rfl | exact congrArg (Value.int .i64) (show (q.i : Int) + 1 = ((q.i + 1 : Nat) : Int) by omega))) rfl (by first | rfl | exact congrArg (Value.int .i64) (show (q.i : Int) + 1 = ((q.i + 1 : Nat) : Int) by omega))) rfl (by first | rfl | exact congrArg (Value.int .i64) (show (q.i : Int) + 1 = ((q.i + 1 : Nat) : Int) by omega))) rfl (by first | rfl | exact congrArg (Value.int .i64) (show (q.i : Int) + 1 = ((q.i + 1 : Nat) : Int) by omega)), hh.keep (by repeat (first | exact keeps_nil | apply keeps_cons (by repeat (first | exact find_head | apply find_tail | apply find_skip)) (by first  | (rw [hq7]) | rfl) | exact keeps_self | exact keeps_left | apply keeps_app | apply keeps_mv | apply keeps_skip))⟩
        · intro hc10
          try simp only [decide_eq_true_eq, decide_eq_false_iff_not, Bool.not_eq_true', Bool.not_eq_false', Bool.not_eq_true, Bool.not_eq_false, Bool.and_eq_true, Bool.or_eq_true, Bool.and_eq_false_iff, Bool.or_eq_false_iff, Bool.not_not, ne_eq, Int.not_lt, Int.not_le, Decidable.not_not, beq_iff_eq, bne_iff_ne] at hc10
          have hqe : q.i = ps.length := by omega
          have hql := hqS.len
          refine wp_exit ?_
          refine then_exit ?_
          refine then_exit ?_
          refine blk_exit ?_
          refine then_normal ?_
          refine c_seq ?_
          refine c_region ?_
          refine wl (wl_val hl rfl trivial (r_build hl rfl zero36 bld36 (by simp only [fillL, setL, List.getElem?_cons_zero, List.getElem?_cons_succ, Value.cells, List.take_zero, List.take_succ_cons, List.take_nil, List.drop_zero, List.drop_succ_cons, List.drop_nil, List.length_cons, List.length_nil, List.cons_append, List.nil_append, List.append_nil, Nat.zero_add, Nat.add_zero, Nat.reduceAdd, Nat.reduceBEq, Nat.reduceEqDiff, Nat.ble, BEq.rfl, Bool.and_true, Bool.and_self, cond_true, beq_self_eq_true]; rfl)) ?_)
          clear hl a; intro a hl
          refine wl (w_storeA hl hh trivial agg36 rfl rfl (by repeat (first | exact find_head | apply find_tail | apply find_skip)) (by first | rfl | (simp; done)) (by first | (simp; done) | (simp; omega) | exact ev_lt (by rw [hu.len]; exact hrix) | exact fm0 (by omega) | exact pdc_lt (by omega)) (by first | rfl | (simp; done) | rfl) (by first | exact ev_set (e := (ix ps x.l.p, decide (x.l.k = 2))) E2 hdh | exact fs0 (by omega) | exact pdc_put hqg | (simp only [setL, List.getElem?_cons_zero, List.getElem?_cons_succ, Value.cells, List.take_zero, List.take_succ_cons, List.take_nil, List.drop_zero, List.drop_succ_cons, List.drop_nil, List.length_cons, List.length_nil, List.cons_append, List.nil_append, List.append_nil, Nat.zero_add, Nat.add_zero, Nat.reduceAdd, Nat.reduceBEq, Nat.reduceEqDiff, Nat.ble, BEq.rfl, Bool.and_true, Bool.and_self, cond_true, beq_self_eq_true]; rfl)) ?_)
          clear hh w; intro w hh
          refine w_nil ?_
          have hl2 := hl.add (t := 4) (hl.nil) rfl; clear hl; have hl := hl2; clear hl2
          refine then_normal ?_
          refine wp_ret ?_
          refine f_retC (F' := (tb, C [.map (some mb), .slice pp ps.length pc] 111) :: (mb, MO kStr (ixf 0 ps)) :: q.E) hl hh rfl rfl agg36 (by repeat (first | exact find_head | apply find_tail | apply find_skip)) (by first | rfl | exact arrL_length _ _ | (simp; done)) (by repeat (first | exact keeps_nil | apply keeps_cons (by repeat (first | exact find_head | apply find_tail | apply find_skip)) (by first  | rfl) | exact keeps_self | exact keeps_left | apply keeps_app | apply keeps_mv | apply keeps_skip)) ?_
          exact ⟨badC ps cp, hG.bad hC, .inr ⟨q.l, q.E, hno, (by rw [hqe] at hqS; exact hqS.lev hLst), rfl, hqR, by rw [hql, ixf_names q.l ps 0 hqS.names]⟩⟩
end Go.Proofs.Qxb6500915aGreatDoor

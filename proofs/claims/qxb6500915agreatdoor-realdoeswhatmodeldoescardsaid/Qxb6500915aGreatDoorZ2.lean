import Derived.Test.Qxb6500915aGreatDoorZ1
namespace Go.Proofs.Qxb6500915aGreatDoor
open Go.Eng
set_option linter.unusedVariables false
set_option linter.unusedSimpArgs false

structure PZ where
  i : Nat
  out : List RV
  p : Option Addr
  c : Nat
  E : List (Nat × Obj)
def PZ.T (z : PZ) : List (Nat × Obj) := z.E ++ z.out.flatMap RV.E
structure PZI (rs : List RV) (z : PZ) : Prop where
  i : z.i ≤ rs.length
  n : z.out.length = z.i
  ok : ∀ r, r ∈ z.out → r.ok
  e : z.out.map RV.ru = (rs.take z.i).map RV.ru
theorem PZI.next {rs : List RV} {z : PZ} (h : PZI rs z) {r q : RV} (hr : rs[z.i]? = some r) (hq : q.ok) (e : q.ru = r.ru) {p : Option Addr} {c : Nat} {E : List (Nat × Obj)} : PZI rs ⟨z.i + 1, z.out ++ [q], p, c, E⟩ := by
  refine ⟨(List.getElem?_eq_some_iff.1 hr).1, by simp only [List.length_append, List.length_singleton, h.n], fun x hx => ?_, ?_⟩
  · rcases List.mem_append.1 hx with h9 | h9
    · exact h.ok x h9
    · rw [List.mem_singleton.1 h9]; exact hq
  · simp only
    rw [List.map_append, h.e, List.take_add_one, hr, List.map_append]
    simp [e]
theorem fmR_snocZ (l : List RV) (r : RV) : List.flatMap RV.E (l ++ [r]) = List.flatMap RV.E l ++ r.E := by rw [List.flatMap_append]; simp


attribute [local irreducible] RV.E

set_option maxHeartbeats 8000000 in
theorem clnP_spec (rs : List RV) (rp : Option Addr) (rc : Nat) (RE : List (Nat × Obj)) (hp : Prg rs rp rc RE) : SpK Tryz.prog 6 #[.agg ⟨[.slice rp rs.length rc]⟩] (PrW rs RE) [] (fun v F' => ∃ (rs' : List RV) (p' : Option Addr) (c' : Nat) (E' : List (Nat × Obj)), (∀ r, r ∈ rs' → r.ok) ∧ rs'.map RV.ru = rs.map RV.ru ∧ Row (.slice p' rs'.length c') rs'.length (fl RV.c3 rs') 3 57 E' ∧ v = .agg ⟨[.slice p' rs'.length c']⟩ ∧ F' = E' ++ rs'.flatMap RV.E) := by
  refine f_enter (args := [.agg ⟨[.slice rp rs.length rc]⟩]) Tryz.func6 rfl Tryz.ntmps6 rfl ?_
  intro w0 w a hpre hl hh
  have hrn := hp.len
  simp only [slotsFrom, Nat.reduceAdd] at hl
  refine c_seq ?_
  refine c_region ?_
  refine wl (w_box hl hh rfl trivial rfl rfl ?_)
  clear hl hh a w; intro k1 a w hl hh
  refine wl (w_alloc hl hh rfl trivial zero26 rfl ?_)
  clear hl hh a w; intro k2 a w hl hh
  refine w_nil ?_
  have hl2 := hl.add (t := 1) (hl.add (t := 2) (hl.nil) rfl) rfl; clear hl; have hl := hl2; clear hl2
  refine then_normal ?_
  refine c_seq ?_
  refine c_region ?_
  refine wl (w_alloc hl hh rfl trivial zero26 rfl ?_)
  clear hl hh a w; intro k3 a w hl hh
  refine w_nil ?_
  have hl2 := hl.add (t := 1) (hl.add (t := 2) (hl.add (t := 3) (hl.nil) rfl) rfl) rfl; clear hl; have hl := hl2; clear hl2
  refine then_normal ?_
  refine c_seq ?_
  refine c_seq ?_
  refine c_region ?_
  refine wl (wl_val hl rfl trivial (r_field hl rfl fld26_0) ?_)
  clear hl a; intro a hl
  refine wl (w_load hl hh rfl trivial one24 rfl (by repeat (first | exact find_head | apply find_tail | apply find_skip)) (by first | rfl) ?_)
  clear hl a; intro a hl
  refine wl (wl_val hl rfl trivial (r_lenS hl rfl slc24) ?_)
  clear hl a; intro a hl
  refine wl (wl_val hl rfl trivial (r_move hl rfl) ?_)
  clear hl a; intro a hl
  refine w_nil ?_
  have hl2 := hl.add (t := 2) (hl.add (t := 3) (hl.add (t := 7) (hl.add (t := 8) (hl.add (t := 9) (hl.nil) rfl) rfl) rfl) rfl) rfl; clear hl; have hl := hl2; clear hl2
  refine then_normal ?_
  refine wp_block ?_
  obtain ⟨KS0, hKS0, hk⟩ := (hl.add (t := 2) (hl.add (t := 3) (hl.add (t := 7) (hl.add (t := 8) (hl.nil) rfl) rfl) rfl) rfl).name
  obtain ⟨HS0, hHS0, hh2⟩ := hh.nameT (A := [(k3, C [.slice none 0 0] 26)]) (U := []) (keeps_cons (b := k3) (o' := C [.slice none 0 0] 26) (by repeat (first | exact find_head | apply find_tail | apply find_skip)) (by first | rfl) ((by repeat (first | exact keeps_nil | exact keeps_self | exact keeps_left | apply keeps_app | apply keeps_mv | apply keeps_skip))))
  refine c_loop (α := PZ) (fun z => rs.length - z.i) (fun z a w => (PZI rs z ∧ Row (.slice z.p z.out.length z.c) z.out.length (fl RV.c3 z.out) 3 57 z.E) ∧ Sl 22 ([(9, .int .i64 (z.i : Int))] ++ KS0) a ∧ Has _ w0 ([(k3, C [.slice z.p z.out.length z.c] 26)] ++ (HS0 ++ PZ.T z)) w) ⟨0, [], none, 0, []⟩ ⟨⟨⟨Nat.zero_le _, rfl, fun r h => (by cases h), rfl⟩, Row.nil _ _⟩, hl.addE (t := 9) (hk) rfl (by first | rfl), (by simp only [PZ.T]; exact hh2)⟩ ?_
  clear hk hh2 hl hh a w
  intro z a w hI
  obtain ⟨⟨hz, hzR⟩, hl, hh⟩ := hI
  subst hKS0; subst hHS0
  simp only [List.cons_append, List.nil_append, List.append_nil, List.append_assoc] at hl hh
  simp only [PZ.T] at hh
  have hzi := hz.i; have hzn := hz.n
  refine c_seq ?_
  refine c_region ?_
  refine wl (wl_val hl rfl trivial (r_lss hl rfl rfl) ?_)
  clear hl a; intro a hl
  refine w_nil ?_
  have hl2 := hl.add (t := 2) (hl.add (t := 3) (hl.add (t := 7) (hl.add (t := 8) (hl.add (t := 9) (hl.add (t := 10) (hl.nil) rfl) rfl) rfl) rfl) rfl) rfl; clear hl; have hl := hl2; clear hl2
  refine then_normal ?_
  refine c_seq ?_
  refine c_cond hl rfl ?_ ?_
  · intro hc0
    try simp only [decide_eq_true_eq, decide_eq_false_iff_not, Bool.not_eq_true', Bool.not_eq_false', Bool.not_eq_true, Bool.not_eq_false, Bool.and_eq_true, Bool.or_eq_true, Bool.and_eq_false_iff, Bool.or_eq_false_iff, Bool.not_not, ne_eq, Int.not_lt, Int.not_le, Decidable.not_not, beq_iff_eq, bne_iff_ne] at hc0
    obtain ⟨r, hr⟩ : ∃ r, rs[z.i]? = some r := ⟨_, List.getElem?_eq_getElem (by omega)⟩
    have hrm := List.mem_of_getElem? hr
    have hro := hp.ok r hrm
    obtain ⟨b1, j1, hq1, hE1, hm1⟩ := row_mem hp.row (by omega) hpre.re
    have hd1 := fl_at c3_len hr j1
    simp only [RV.c3] at hd1
    have hrE := hpre.each r hrm
    rw [hq1] at hl hh
    refine wp_skip ?_
    refine then_normal ?_
    refine c_seq ?_
    refine wp_block ?_
    refine c_seq ?_
    refine c_region ?_
    refine wl (wl_val hl rfl trivial (r_indexS hl rfl rfl slc24 (by omega) (by omega) (by first | (simp only [Int.reduceToNat]; rfl) | exact toNat_add1 _ | exact toNat_add2 _ _ | exact toNat_emod _ _ | exact Int.toNat_natCast _ | rfl)) ?_)
    clear hl a; intro a hl
    first | refine wl (w_loadA hl hh rfl trivial agg57 rfl (by repeat (first | exact find_head | apply find_tail | apply find_skip)) (by first | (simp only [List.getElem?_cons_zero, List.getElem?_cons_succ, Value.cells, List.take_zero, List.take_succ_cons, List.take_nil, List.drop_zero, List.drop_succ_cons, List.drop_nil, List.length_cons, List.length_nil, List.cons_append, List.nil_append, List.append_nil, Nat.zero_add, Nat.add_zero, Nat.reduceAdd, Nat.reduceBEq, Nat.reduceEqDiff, Nat.ble, BEq.rfl, Bool.and_true, Bool.and_self, cond_true, beq_self_eq_true]; rfl)) (by first | rfl | (simp; done)) ?_) | refine wl (w_loadRA hl hh rfl trivial agg57 rfl hm1 (by simp) hd1 rfl ?_)
    clear hl a; intro a hl
    refine wl (w_alloc hl hh rfl trivial zero57 rfl ?_)
    clear hl hh a w; intro k5 a w hl hh
    refine wl (w_storeA hl hh trivial agg57 rfl rfl (by repeat (first | exact find_head | apply find_tail | apply find_skip)) (by first | rfl | (simp; done)) (by first | (simp; done) | (simp; omega)) (by first | rfl | (simp; done) | rfl) (by first | (simp only [setL, List.getElem?_cons_zero, List.getElem?_cons_succ, Value.cells, List.take_zero, List.take_succ_cons, List.take_nil, List.drop_zero, List.drop_succ_cons, List.drop_nil, List.length_cons, List.length_nil, List.cons_append, List.nil_append, List.append_nil, Nat.zero_add, Nat.add_zero, Nat.reduceAdd, Nat.reduceBEq, Nat.reduceEqDiff, Nat.ble, BEq.rfl, Bool.and_true, Bool.and_self, cond_true, beq_self_eq_true]; rfl)) ?_)
    clear hh w; intro w hh
    refine w_nil ?_
    have hl2 := hl.add (t := 2) (hl.add (t := 3) (hl.add (t := 5) (hl.add (t := 7) (hl.add (t := 8) (hl.add (t := 9) (hl.nil) rfl) rfl) rfl) rfl) rfl) rfl; clear hl; have hl := hl2; clear hl2
    refine then_normal ?_
    refine c_draw [(k3, C [.slice z.p z.out.length z.c] 26), (k5, C [.string r.p, .slice r.hp r.a.length r.hc, .slice r.bp r.ls.length r.bc] 57)] [5, 6, 7] mixed hh ?_
    clear hh w; intro w hh
    have hM : Mem [(k3, C [.slice z.p z.out.length z.c] 26), (k5, C [.string r.p, .slice r.hp r.a.length r.hc, .slice r.bp r.ls.length r.bc] 57)] w := (fun b o m => by simp only [List.mem_cons, List.not_mem_nil, or_false] at m; rcases m with m | m <;> cases m; exact hh.mem _ _ (Find.mem (by repeat (first | exact find_head | apply find_tail | apply find_skip))); exact hh.mem _ _ (Find.mem (by repeat (first | exact find_head | apply find_tail | apply find_skip))))
    refine d_take (i := 0) hl rfl (by kernel_rfl) (by kernel_rfl) (by kernel_rfl) (by kernel_rfl) (by kernel_rfl) rfl trivial (fun _ _ _ h => h) hM (fun w hC => r_field hl rfl fld26_0) rfl ?_
    clear hl a; intro a hl
    refine d_take (i := 1) hl rfl (by kernel_rfl) (by kernel_rfl) (by kernel_rfl) (by kernel_rfl) (by kernel_rfl) rfl trivial (fun _ _ _ h => h) hM (fun w hC => r_loadC hl rfl one24 hC (by repeat (first | exact find_head | apply find_tail | apply find_skip)) (by first | rfl)) rfl ?_
    clear hl a; intro a hl
    refine d_take (i := 2) hl rfl (by kernel_rfl) (by kernel_rfl) (by kernel_rfl) (by kernel_rfl) (by kernel_rfl) rfl trivial (fun _ _ _ h => h) hM (fun w hC => r_loadCA hl rfl agg57 hC (by repeat (first | exact find_head | apply find_tail | apply find_skip)) (by first | (simp only [List.getElem?_cons_zero, List.getElem?_cons_succ, Value.cells, List.take_zero, List.take_succ_cons, List.take_nil, List.drop_zero, List.drop_succ_cons, List.drop_nil, List.length_cons, List.length_nil, List.cons_append, List.nil_append, List.append_nil, Nat.zero_add, Nat.add_zero, Nat.reduceAdd, Nat.reduceBEq, Nat.reduceEqDiff, Nat.ble, BEq.rfl, Bool.and_true, Bool.and_self, cond_true, beq_self_eq_true]; rfl)) (by first | rfl | (simp; done))) rfl ?_
    clear hl a; intro a hl
    refine d_one (i := 3) (by kernel_rfl) rfl ?_
    try clear hM
    refine id (w_call hl hh rfl trivial rfl cal15 rfl (cloneR_spec r.p r.a r.hp r.hc r.hE hro.hd.g r.ls r.bp r.bc r.bE hro.bd hro.ls hro.len hro.p) (by repeat (first | exact keeps_nil | apply keeps_cons (by repeat (first | exact find_head | apply find_tail | apply find_skip)) (by first  | rfl) | exact keeps_self | exact keeps_left | apply keeps_app | apply keeps_mv | apply keeps_skip)) ⟨mem_keep hh (RV.mh hrE), mem_keep hh (RV.mb hrE), fun x hx => mem_keep hh (RV.ml hrE hx)⟩ ?_)
    clear hl hh a w; intro vc Fc a w hR hl hh
    obtain ⟨q, hqo, hqr, rfl, rfl⟩ := hR
    try simp only [List.cons_append, List.nil_append, List.append_assoc, List.append_nil] at hh
    replace hh := hh.comm
    simp only [List.cons_append, List.nil_append, List.append_nil, List.append_assoc] at hh
    have hM : Mem [(k3, C [.slice z.p z.out.length z.c] 26), (k5, C [.string r.p, .slice r.hp r.a.length r.hc, .slice r.bp r.ls.length r.bc] 57)] w := (fun b o m => by simp only [List.mem_cons, List.not_mem_nil, or_false] at m; rcases m with m | m <;> cases m; exact hh.mem _ _ (Find.mem (by repeat (first | exact find_head | apply find_tail | apply find_skip))); exact hh.mem _ _ (Find.mem (by repeat (first | exact find_head | apply find_tail | apply find_skip))))
    refine d_step (fun _ => hM) ?_
    refine d_one (i := 4) (by kernel_rfl) rfl ?_
    try clear hM
    refine id (w_buildSlice hl hh rfl trivial app24 zero57 rfl rfl rfl rfl rfl (by simp only [fillL, arrPl, List.range_succ, List.range_zero, List.map_cons, List.map_nil, List.map_append, List.nil_append, List.replicate_succ, List.replicate_zero, List.flatten_cons, List.flatten_nil, Nat.zero_mul, Nat.mul_one, Nat.one_mul, Nat.reduceMul, setL, List.getElem?_cons_zero, List.getElem?_cons_succ, Value.cells, List.take_zero, List.take_succ_cons, List.take_nil, List.drop_zero, List.drop_succ_cons, List.drop_nil, List.length_cons, List.length_nil, List.cons_append, List.nil_append, List.append_nil, Nat.zero_add, Nat.add_zero, Nat.reduceAdd, Nat.reduceBEq, Nat.reduceEqDiff, Nat.ble, BEq.rfl, Bool.and_true, Bool.and_self, cond_true, beq_self_eq_true]; rfl) ?_)
    clear hl hh a w; intro k17 a w hl hh
    have hM : Mem [(k3, C [.slice z.p z.out.length z.c] 26), (k5, C [.string r.p, .slice r.hp r.a.length r.hc, .slice r.bp r.ls.length r.bc] 57)] w := (fun b o m => by simp only [List.mem_cons, List.not_mem_nil, or_false] at m; rcases m with m | m <;> cases m; exact hh.mem _ _ (Find.mem (by repeat (first | exact find_head | apply find_tail | apply find_skip))); exact hh.mem _ _ (Find.mem (by repeat (first | exact find_head | apply find_tail | apply find_skip))))
    refine d_step (fun _ => hM) ?_
    refine d_one (i := 5) (by kernel_rfl) rfl ?_
    try clear hM
    refine id (w_append (news := [.string q.p, .slice q.hp q.a.length q.hc, .slice q.bp q.ls.length q.bc]) hl hh rfl trivial app24 rfl rfl rfl hzR (by repeat (first | exact keeps_nil | apply keeps_cons (by repeat (first | exact find_head | apply find_tail | apply find_skip)) (by first  | rfl) | exact keeps_self | exact keeps_left | apply keeps_app | apply keeps_mv | apply keeps_skip)) (hh.mem _ _ (Find.mem (by repeat (first | exact find_head | apply find_tail | apply find_skip)))) rfl rfl rfl (by omega) (by omega) (by omega) (by decide) ?_)
    clear hl hh a w; intro rv2 E2 a w hR2 hl hh
    have hh3 := hh.comm; clear hh; have hh := hh3; clear hh3
    try simp only [List.cons_append, List.nil_append, List.append_assoc, List.append_nil] at hh
    refine d_step (fun h => absurd h (by decide)) ?_
    refine d_takeL (i := 6) hl rfl (by kernel_rfl) (by kernel_rfl) (by kernel_rfl) (by kernel_rfl) (by kernel_rfl) rfl trivial (fun _ _ _ h => h) (fun w => r_field hl rfl fld26_0) rfl ?_
    clear hl a; intro a hl
    refine d_one (i := 7) (by kernel_rfl) rfl ?_
    try clear hM
    refine id (w_store hl hh trivial one24 rfl rfl (by repeat (first | exact find_head | apply find_tail | apply find_skip)) (by first | (simp; done) | (simp; omega)) (by first | rfl | assumption | (apply Row.one; assumption)) (by first | (simp only [setL, List.getElem?_cons_zero, List.getElem?_cons_succ, Value.cells, List.take_zero, List.take_succ_cons, List.take_nil, List.drop_zero, List.drop_succ_cons, List.drop_nil, List.length_cons, List.length_nil, List.cons_append, List.nil_append, List.append_nil, Nat.zero_add, Nat.add_zero, Nat.reduceAdd, Nat.reduceBEq, Nat.reduceEqDiff, Nat.ble, BEq.rfl, Bool.and_true, Bool.and_self, cond_true, beq_self_eq_true]; rfl)) ?_)
    clear hh w; intro w hh
    refine d_step (fun h => absurd h (by decide)) ?_
    refine d_done (by kernel_rfl) ?_
    try clear hM
    have hl2 := hl.add (t := 2) (hl.add (t := 3) (hl.add (t := 7) (hl.add (t := 8) (hl.add (t := 9) (hl.nil) rfl) rfl) rfl) rfl) rfl; clear hl; have hl := hl2; clear hl2
    obtain ⟨p6, c6, hv6⟩ := row_val hR2
    rw [hv6] at hh hR2
    refine blk_normal ?_
    refine then_normal ?_
    refine c_region ?_
    first | refine wl (wl_val hl rfl trivial (r_add hl rfl rfl (by simp only [Fits]; omega)) ?_) | refine wl (wl_val hl rfl trivial (r_addW hl rfl rfl) ?_)
    clear hl a; intro a hl
    refine wl (wl_val hl rfl trivial (r_move hl rfl) ?_)
    clear hl a; intro a hl
    refine w_nil ?_
    have hl2 := hl.add (t := 2) (hl.add (t := 3) (hl.add (t := 7) (hl.add (t := 8) (hl.add (t := 9) (hl.nil) rfl) rfl) rfl) rfl) rfl; clear hl; have hl := hl2; clear hl2
    refine then_normal ?_
    rw [← hq1] at hh
    refine ⟨⟨z.i + 1, z.out ++ [q], p6, c6, E2⟩, (by simp only; omega), ⟨hz.next hr hqo hqr, by simp only [List.length_append, List.length_singleton]; rw [fl_app, fl_sing]; exact hR2⟩, hl.addE (t := 9) (hl.addE (t := 2) (hl.addE (t := 3) (hl.addE (t := 7) (hl.addE (t := 8) (hl.nil) rfl (by first | rfl | exact congrArg (Value.int .i64) (show (z.i : Int) + 1 = ((z.i + 1 : Nat) : Int) by omega) | (rw [hq1]))) rfl (by first | rfl | exact congrArg (Value.int .i64) (show (z.i : Int) + 1 = ((z.i + 1 : Nat) : Int) by omega) | (rw [hq1]))) rfl (by first | rfl | exact congrArg (Value.int .i64) (show (z.i : Int) + 1 = ((z.i + 1 : Nat) : Int) by omega) | (rw [hq1]))) rfl (by first | rfl | exact congrArg (Value.int .i64) (show (z.i : Int) + 1 = ((z.i + 1 : Nat) : Int) by omega) | (rw [hq1]))) rfl (by first | rfl | exact congrArg (Value.int .i64) (show (z.i : Int) + 1 = ((z.i + 1 : Nat) : Int) by omega) | (rw [hq1])), (by simp only [PZ.T, fmR_snocZ, List.length_append, List.length_singleton, List.append_assoc]; exact hh.keep (by repeat (first | exact keeps_nil | apply keeps_cons (by repeat (first | exact find_head | apply find_tail | apply find_skip)) (by first  | rfl) | exact keeps_self | exact keeps_left | apply keeps_app | apply keeps_mv | apply keeps_skip)))⟩
  · intro hc0
    try simp only [decide_eq_true_eq, decide_eq_false_iff_not, Bool.not_eq_true', Bool.not_eq_false', Bool.not_eq_true, Bool.not_eq_false, Bool.and_eq_true, Bool.or_eq_true, Bool.and_eq_false_iff, Bool.or_eq_false_iff, Bool.not_not, ne_eq, Int.not_lt, Int.not_le, Decidable.not_not, beq_iff_eq, bne_iff_ne] at hc0
    have hze : z.i = rs.length := by omega
    refine wp_exit ?_
    refine then_exit ?_
    refine then_exit ?_
    refine blk_exit ?_
    refine then_normal ?_
    refine c_seq ?_
    refine c_region ?_
    first | refine wl (w_loadA hl hh rfl trivial agg26 rfl (by repeat (first | exact find_head | apply find_tail | apply find_skip)) (by first | (simp only [List.getElem?_cons_zero, List.getElem?_cons_succ, Value.cells, List.take_zero, List.take_succ_cons, List.take_nil, List.drop_zero, List.drop_succ_cons, List.drop_nil, List.length_cons, List.length_nil, List.cons_append, List.nil_append, List.append_nil, Nat.zero_add, Nat.add_zero, Nat.reduceAdd, Nat.reduceBEq, Nat.reduceEqDiff, Nat.ble, BEq.rfl, Bool.and_true, Bool.and_self, cond_true, beq_self_eq_true]; rfl)) (by first | rfl | (simp; done)) ?_) | refine wl (w_loadRA hl hh rfl trivial agg26 rfl hm1 (by simp) hd1 rfl ?_)
    clear hl a; intro a hl
    refine wl (w_storeA hl hh trivial agg26 rfl rfl (by repeat (first | exact find_head | apply find_tail | apply find_skip)) (by first | rfl | (simp; done)) (by first | (simp; done) | (simp; omega)) (by first | rfl | (simp; done) | rfl) (by first | (simp only [setL, List.getElem?_cons_zero, List.getElem?_cons_succ, Value.cells, List.take_zero, List.take_succ_cons, List.take_nil, List.drop_zero, List.drop_succ_cons, List.drop_nil, List.length_cons, List.length_nil, List.cons_append, List.nil_append, List.append_nil, Nat.zero_add, Nat.add_zero, Nat.reduceAdd, Nat.reduceBEq, Nat.reduceEqDiff, Nat.ble, BEq.rfl, Bool.and_true, Bool.and_self, cond_true, beq_self_eq_true]; rfl)) ?_)
    clear hh w; intro w hh
    refine w_nil ?_
    have hl2 := hl.add (t := 2) (hl.nil) rfl; clear hl; have hl := hl2; clear hl2
    refine then_normal ?_
    refine wp_ret ?_
    refine f_retC (F' := z.E ++ z.out.flatMap RV.E) hl hh rfl rfl agg26 (by repeat (first | exact find_head | apply find_tail | apply find_skip)) (by first | rfl | exact arrL_length _ _ | (simp; done)) (by repeat (first | exact keeps_nil | apply keeps_cons (by repeat (first | exact find_head | apply find_tail | apply find_skip)) (by first  | rfl) | exact keeps_self | exact keeps_left | apply keeps_app | apply keeps_mv | apply keeps_skip)) ?_
    exact ⟨z.out, z.p, z.c, z.E, hz.ok, by rw [hz.e, hze, List.take_length], hzR, rfl, rfl⟩

structure TwoP (rs rt : List RV) (RE TE : List (Nat × Obj)) (w : World) : Prop where
  a : PrW rs RE w
  b : PrW rt TE w

set_option maxHeartbeats 2000000 in
theorem sameP_spec (rs : List RV) (rp : Option Addr) (rc : Nat) (RE : List (Nat × Obj)) (hp : Prg rs rp rc RE) (rt : List RV) (tp : Option Addr) (tc : Nat) (TE : List (Nat × Obj)) (ht : Prg rt tp tc TE) (hl1 : rs.length ≤ 65536) (hl2 : rt.length ≤ 65536) : SpK Tryz.prog 10 #[.agg ⟨[.slice rp rs.length rc]⟩, .agg ⟨[.slice tp rt.length tc]⟩] (TwoP rs rt RE TE) [] (fun v F' => v = .bool (decide (rs.map RV.ru = rt.map RV.ru)) ∧ F' = []) := by
  refine f_enter (args := [.agg ⟨[.slice rp rs.length rc]⟩, .agg ⟨[.slice tp rt.length tc]⟩]) Tryz.func10 rfl Tryz.ntmps10 rfl ?_
  intro w0 w a hpre hl hh
  simp only [slotsFrom, Nat.reduceAdd] at hl
  refine c_seq ?_
  refine c_region ?_
  refine wl (w_box hl hh rfl trivial rfl rfl ?_)
  clear hl hh a w; intro k2 a w hl hh
  refine wl (w_box hl hh rfl trivial rfl rfl ?_)
  clear hl hh a w; intro k3 a w hl hh
  refine wl (wl_val hl rfl trivial (r_assign hl rfl) ?_)
  clear hl a; intro a hl
  refine w_nil ?_
  have hl2 := hl.add (t := 2) (hl.add (t := 3) (hl.nil) rfl) rfl; clear hl; have hl := hl2; clear hl2
  refine then_normal ?_
  refine c_seq ?_
  refine c_region ?_
  refine wl (wl_val hl rfl trivial (r_field hl rfl fld26_0) ?_)
  clear hl a; intro a hl
  refine wl (w_load hl hh rfl trivial one24 rfl (by repeat (first | exact find_head | apply find_tail)) (by first | rfl) ?_)
  clear hl a; intro a hl
  refine wl (wl_val hl rfl trivial (r_field hl rfl fld26_0) ?_)
  clear hl a; intro a hl
  refine wl (w_load hl hh rfl trivial one24 rfl (by repeat (first | exact find_head | apply find_tail)) (by first | rfl) ?_)
  clear hl a; intro a hl
  refine wl (w_call hl hh rfl trivial rfl cal45 rfl (same60 rs rt _ _ _ _ _ _ hp.row ht.row hp.ok ht.ok hl1 hl2) (by repeat (first | exact keeps_nil | apply keeps_cons (by repeat (first | exact find_head | apply find_tail)) (by first  | rfl) | exact keeps_self | apply keeps_mv)) ⟨mem_keep hh hpre.a.re, mem_keep hh hpre.b.re, fun E hE => (by obtain ⟨x, hx, rfl⟩ := List.mem_map.1 hE; exact mem_keep hh (hpre.a.each x hx)), fun E hE => (by obtain ⟨x, hx, rfl⟩ := List.mem_map.1 hE; exact mem_keep hh (hpre.b.each x hx))⟩ ?_)
  clear hl hh a w; intro vc Fc a w hR hl hh
  obtain ⟨rfl, rfl⟩ := hR
  try simp only [List.cons_append, List.nil_append] at hh
  refine wl (wl_val hl rfl trivial (r_assign hl rfl) ?_)
  clear hl a; intro a hl
  refine w_nil ?_
  have hl2 := hl.add (t := 4) (hl.nil) rfl; clear hl; have hl := hl2; clear hl2
  refine then_normal ?_
  refine wp_ret ?_
  refine f_ret1 (F' := []) hl hh rfl rfl (by repeat (first | exact keeps_nil | apply keeps_cons (by repeat (first | exact find_head | apply find_tail)) (by first  | rfl) | exact keeps_self | apply keeps_mv)) ?_
  exact ⟨rfl, rfl⟩
end Go.Proofs.Qxb6500915aGreatDoor

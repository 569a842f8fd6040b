import Derived.Test.Qxb6500915aGreatDoorD1
namespace Go.Proofs.Qxb6500915aGreatDoor
open Go.Eng
set_option linter.unusedVariables false
set_option linter.unusedSimpArgs false
theorem agg36 : aggOk Tryz.prog 36 4 = true := by kernel_rfl
theorem zero36 : zeroOk Tryz.prog 36 (.agg #[(.int .u8 0), (.int .i64 0), (.int .i64 0), (.int .i64 0)]) := by unfold zeroOk; kernel_rfl
theorem zero111 : zeroOk Tryz.prog 111 (.agg #[(.map none), (.slice none 0 0)]) := by unfold zeroOk; kernel_rfl
theorem bld111 : buildOk Tryz.prog 111 [(0, 1), (1, 1)] = true := by kernel_rfl
theorem fld26_0 : fieldOk Tryz.prog 26 0 0 = true := by kernel_rfl
theorem bld36 : buildOk Tryz.prog 36 [(0, 1), (1, 1), (2, 1), (3, 1)] = true := by kernel_rfl
theorem cal53 : callable Tryz.prog 53 = true := by kernel_rfl
section rtc
variable {P : Program} {n : Nat} {L : List (Nat × Value)} {a : Act} {w : World} {D : List Nat} {w0 : World} {F : List (Nat × Obj)}
theorem f_retTC {fn : Func} {R : Value → List (Nat × Obj) → Prop} {t t1 : Nat} {ty T' : TypeId} {b m : Nat} {l : List Value} {v1 : Value} {F' G G' : List (Nat × Obj)} (hl : Sl n L a) (hh : Has D w0 F w) (hr : fn.results = #[.tmp t1, .cell t ty]) (hv : Go.Eng.look L t = some (.pointer (some ⟨b, 0, none⟩)))
    (ht : aggOk P ty m = true) (hf : Find F b (C l T') G') (hn : l.length = m) (h1 : Go.Eng.look L t1 = some v1) (hp : Keeps F F' G) (hR : R (.tuple #[v1, .agg ⟨l⟩]) F') : bodyPost P fn (Post D w0 R) .ret a w :=
  ⟨hl.defers, .tuple #[v1, .agg ⟨l⟩], by simp [results, hr, hl.get t _ hv, hl.get t1 _ h1, asAddr, run_loadVar_C ht (hh.mem b _ hf.mem) hn], F', hR, hh.keep hp⟩
end rtc
/-- a program in memory -/
structure Prg (rs : List RV) (rp : Option Addr) (rc : Nat) (RE : List (Nat × Obj)) : Prop where
  row : Row (.slice rp rs.length rc) rs.length (fl RV.c3 rs) 3 57 RE
  ok : ∀ r, r ∈ rs → r.ok
  len : rs.length ≤ 100000
structure PrW (rs : List RV) (RE : List (Nat × Obj)) (w : World) : Prop where
  re : Mem RE w
  each : ∀ r, r ∈ rs → Mem r.E w
structure CK where
  i : Nat
  ps : List Pd
  pp : Option Addr
  pc : Nat
  pE : List (Nat × Obj)
theorem ckBd_step {ri : Nat} {ps : List Pd} {ls : List Lt} {i : Nat} {l : Lt} (h : ls[i]? = some l) : ckBd ri ps i (ls.drop i) = if (ckL ps l).1.1 = 0 then ckBd ri (ckL ps l).2 (i + 1) (ls.drop (i + 1)) else (some ⟨(ckL ps l).1.1, ri, i, (ckL ps l).1.2⟩, (ckL ps l).2) := by
  obtain ⟨hi, rfl⟩ := List.getElem?_eq_some_iff.1 h
  rw [List.drop_eq_getElem_cons hi]; rfl
theorem ckBd_end {ri : Nat} {ps : List Pd} {ls : List Lt} {i : Nat} (h : ls.length ≤ i) : ckBd ri ps i (ls.drop i) = (none, ps) := by
  rw [List.drop_of_length_le h]; rfl
theorem ckP_step {ps : List Pd} {rs : List Ru} {i : Nat} {r : Ru} (h : rs[i]? = some r) : ckP ps i (rs.drop i) = match ckRu i ps r with
    | (none, ps') => ckP ps' (i + 1) (rs.drop (i + 1))
    | q => q := by
  obtain ⟨hi, rfl⟩ := List.getElem?_eq_some_iff.1 h
  rw [List.drop_eq_getElem_cons hi]; rfl
theorem ckP_bad {ps ps' : List Pd} {rs : List Ru} {i : Nat} {r : Ru} {f : Ft} (h : rs[i]? = some r) (hf : ckRu i ps r = (some f, ps')) : ckP ps i (rs.drop i) = (some f, ps') := by
  rw [ckP_step h, hf]
theorem ckP_go {ps ps' : List Pd} {rs : List Ru} {i : Nat} {r : Ru} (h : rs[i]? = some r) (hf : ckRu i ps r = (none, ps')) : ckP ps i (rs.drop i) = ckP ps' (i + 1) (rs.drop (i + 1)) := by
  rw [ckP_step h, hf]
theorem ckP_end {ps : List Pd} {rs : List Ru} {i : Nat} (h : rs.length ≤ i) : ckP ps i (rs.drop i) = (none, ps) := by
  rw [List.drop_of_length_le h]; rfl
def ftc (f : Ft) : List Value := [.int .u8 f.c, .int .i64 f.r, .int .i64 f.l, .int .i64 f.a]
theorem ru_at {rs : List RV} {i : Nat} {r : RV} (h : rs[i]? = some r) : (rs.map RV.ru)[i]? = some r.ru := by rw [List.getElem?_map, h]; rfl
theorem lt_at {ls : List LV} {i : Nat} {x : LV} (h : ls[i]? = some x) : (ls.map LV.l)[i]? = some x.l := by rw [List.getElem?_map, h]; rfl


attribute [local irreducible] RV.E

set_option maxHeartbeats 16000000 in
theorem check_spec (rs : List RV) (rp : Option Addr) (rc : Nat) (RE : List (Nat × Obj)) (hp : Prg rs rp rc RE) : SpK Tryz.prog 20 #[.agg ⟨[.slice rp rs.length rc]⟩] (PrW rs RE) [] (fun v F' => (∃ f ps, ckP [] 0 (rs.map RV.ru) = (some f, ps) ∧ v = .tuple #[.pointer none, .agg ⟨ftc f⟩] ∧ F' = []) ∨ ∃ tb mb ps pp pc pE, ckP [] 0 (rs.map RV.ru) = (none, ps) ∧ ps.length ≤ 65 * rs.length ∧ v = .tuple #[.pointer (some ⟨tb, 0, none⟩), .agg ⟨ftc ⟨0, 0, 0, 0⟩⟩] ∧ Row (.slice pp ps.length pc) ps.length (fl pdc ps) 3 93 pE ∧ F' = (tb, C [.map (some mb), .slice pp (ps).length pc] 111) :: (mb, MO kStr (ixf 0 ps)) :: pE) := by
  refine f_enter (args := [.agg ⟨[.slice rp rs.length rc]⟩]) Tryz.func20 rfl Tryz.ntmps20 rfl ?_
  intro w0 w a hpre hl hh
  have hrn := hp.len
  simp only [slotsFrom, Nat.reduceAdd] at hl
  refine c_seq ?_
  refine c_region ?_
  refine wl (w_box hl hh rfl trivial rfl rfl ?_)
  clear hl hh a w; intro k1 a w hl hh
  refine wl (wl_val hl rfl trivial (r_assign hl rfl) ?_)
  clear hl a; intro a hl
  refine wl (w_alloc hl hh rfl trivial zero36 rfl ?_)
  clear hl hh a w; intro k3 a w hl hh
  refine w_nil ?_
  have hl2 := hl.add (t := 1) (hl.add (t := 3) (hl.nil) rfl) rfl; clear hl; have hl := hl2; clear hl2
  refine then_normal ?_
  refine c_seq ?_
  refine c_region ?_
  refine wl (w_makeMap kStr hl hh rfl trivial ?_)
  clear hl hh a w; intro k13 a w hl hh
  refine wl (wl_val hl rfl trivial (r_build hl rfl zero111 bld111 (by simp only [fillL, setL, List.getElem?_cons_zero, List.getElem?_cons_succ, Value.cells, List.take_zero, List.take_succ_cons, List.take_nil, List.drop_zero, List.drop_succ_cons, List.drop_nil, List.length_cons, List.length_nil, List.cons_append, List.nil_append, List.append_nil, Nat.zero_add, Nat.add_zero, Nat.reduceAdd, Nat.reduceBEq, Nat.reduceEqDiff, Nat.ble, BEq.rfl, Bool.and_true, Bool.and_self, cond_true, beq_self_eq_true]; rfl)) ?_)
  clear hl a; intro a hl
  refine wl (w_box hl hh rfl trivial rfl rfl ?_)
  clear hl hh a w; intro k15 a w hl hh
  refine wl (wl_val hl rfl trivial (r_assign hl rfl) ?_)
  clear hl a; intro a hl
  refine w_nil ?_
  have hl2 := hl.add (t := 1) (hl.add (t := 3) (hl.add (t := 4) (hl.nil) rfl) rfl) rfl; clear hl; have hl := hl2; clear hl2
  refine then_normal ?_
  refine c_seq ?_
  refine c_seq ?_
  refine c_region ?_
  refine wl (wl_val hl rfl trivial (r_field hl rfl fld26_0) ?_)
  clear hl a; intro a hl
  refine wl (w_load hl hh rfl trivial one24 rfl (by repeat (first | exact find_head | apply find_tail | apply find_skip)) (by first | rfl) ?_)
  clear hl a; intro a hl
  refine wl (wl_val hl rfl trivial (r_lenS hl rfl slc24) ?_)
  clear hl a; intro a hl
  refine wl (wl_val hl rfl trivial (r_move hl rfl) ?_)
  clear hl a; intro a hl
  refine w_nil ?_
  have hl2 := hl.add (t := 3) (hl.add (t := 4) (hl.add (t := 17) (hl.add (t := 18) (hl.add (t := 19) (hl.nil) rfl) rfl) rfl) rfl) rfl; clear hl; have hl := hl2; clear hl2
  refine then_normal ?_
  refine wp_block ?_
  obtain ⟨KS0, hKS0, hk⟩ := (hl.add (t := 3) (hl.add (t := 4) (hl.add (t := 17) (hl.add (t := 18) (hl.nil) rfl) rfl) rfl) rfl).name
  obtain ⟨HS0, hHS0, hh2⟩ := hh.nameT (A := [(k15, C [.map (some k13), .slice none 0 0] 111), (k13, MO kStr [])]) (U := []) (keeps_cons (b := k15) (o' := C [.map (some k13), .slice none 0 0] 111) (by repeat (first | exact find_head | apply find_tail | apply find_skip)) (by first | rfl) (keeps_cons (b := k13) (o' := MO kStr []) (by repeat (first | exact find_head | apply find_tail | apply find_skip)) (by first | rfl) ((by repeat (first | exact keeps_nil | exact keeps_self | exact keeps_left | apply keeps_app | apply keeps_mv | apply keeps_skip)))))
  refine c_loop (α := CK) (fun z => rs.length - z.i) (fun z a w => ((z.i ≤ rs.length ∧ z.ps.length ≤ 65 * z.i) ∧ Row (.slice z.pp z.ps.length z.pc) z.ps.length (fl pdc z.ps) 3 93 z.pE ∧ ckP [] 0 (rs.map RV.ru) = ckP z.ps z.i ((rs.map RV.ru).drop z.i)) ∧ Sl 68 ([(19, .int .i64 (z.i : Int))] ++ KS0) a ∧ Has _ w0 ([(k15, C [.map (some k13), .slice z.pp z.ps.length z.pc] 111), (k13, MO kStr (ixf 0 z.ps))] ++ (HS0 ++ z.pE)) w) ⟨0, [], none, 0, []⟩ ⟨⟨⟨Nat.zero_le _, Nat.zero_le _⟩, Row.nil _ _, rfl⟩, hl.addE (t := 19) (hk) rfl (by first | rfl), hh2⟩ ?_
  clear hk hh2 hl hh a w
  intro z a w hI
  obtain ⟨⟨⟨hi, hps⟩, hP, hI⟩, hl, hh⟩ := hI
  subst hKS0; subst hHS0
  simp only [List.cons_append, List.nil_append, List.append_nil, List.append_assoc] at hl hh
  refine c_seq ?_
  refine c_region ?_
  refine wl (wl_val hl rfl trivial (r_lss hl rfl rfl) ?_)
  clear hl a; intro a hl
  refine w_nil ?_
  have hl2 := hl.add (t := 3) (hl.add (t := 4) (hl.add (t := 17) (hl.add (t := 18) (hl.add (t := 19) (hl.add (t := 20) (hl.nil) rfl) rfl) rfl) rfl) rfl) rfl; clear hl; have hl := hl2; clear hl2
  refine then_normal ?_
  refine c_seq ?_
  refine c_cond hl rfl ?_ ?_
  · intro hc0
    try simp only [decide_eq_true_eq, decide_eq_false_iff_not, Bool.not_eq_true', Bool.not_eq_false', Bool.not_eq_true, Bool.not_eq_false, Bool.and_eq_true, Bool.or_eq_true, Bool.and_eq_false_iff, Bool.or_eq_false_iff, Bool.not_not, ne_eq, Int.not_lt, Int.not_le, Decidable.not_not, beq_iff_eq, bne_iff_ne] at hc0
    obtain ⟨r, hx⟩ : ∃ r, rs[z.i]? = some r := ⟨_, List.getElem?_eq_getElem (by omega)⟩
    have hrm := List.mem_of_getElem? hx
    have hr := hp.ok r hrm
    have hrE := hpre.each r hrm
    have hrl := hr.len; have hra := hr.hd.len
    obtain ⟨b1, j1, hq1, hE1, hm1⟩ := row_mem hp.row (by omega) hpre.re
    rw [hq1] at hl hh
    have hd1 := fl_at c3_len hx j1
    simp only [RV.c3] at hd1
    refine wp_skip ?_
    refine then_normal ?_
    refine c_seq ?_
    refine wp_block ?_
    refine c_seq ?_
    refine c_region ?_
    refine wl (wl_val hl rfl trivial (r_move hl rfl) ?_)
    clear hl a; intro a hl
    refine wl (wl_val hl rfl trivial (r_indexS hl rfl rfl slc24 (by omega) (by omega) (by first | (simp only [Int.reduceToNat]; rfl) | exact toNat_add1 _ | exact toNat_add2 _ _ | exact toNat_emod _ _ | exact Int.toNat_natCast _ | rfl)) ?_)
    clear hl a; intro a hl
    first | refine wl (w_loadA hl hh rfl trivial agg57 rfl (by repeat (first | exact find_head | apply find_tail | apply find_skip)) (by first | (simp only [List.getElem?_cons_zero, List.getElem?_cons_succ, Value.cells, List.take_zero, List.take_succ_cons, List.take_nil, List.drop_zero, List.drop_succ_cons, List.drop_nil, List.length_cons, List.length_nil, List.cons_append, List.nil_append, List.append_nil, Nat.zero_add, Nat.add_zero, Nat.reduceAdd, Nat.reduceBEq, Nat.reduceEqDiff, Nat.ble, BEq.rfl, Bool.and_true, Bool.and_self, cond_true, beq_self_eq_true]; rfl)) (by first | rfl | (simp; done)) ?_) | refine wl (w_loadRA hl hh rfl trivial agg57 rfl hm1 (by simp) hd1 rfl ?_) | refine wl (w_loadRA hl hh rfl trivial agg57 rfl hm2 (by simp) hd2 rfl ?_)
    clear hl a; intro a hl
    refine wl (w_alloc hl hh rfl trivial zero57 rfl ?_)
    clear hl hh a w; intro k6 a w hl hh
    refine wl (wl_val hl rfl trivial (r_assign hl rfl) ?_)
    clear hl a; intro a hl
    refine wl (w_storeA hl hh trivial agg57 rfl rfl (by repeat (first | exact find_head | apply find_tail | apply find_skip)) (by first | rfl | (simp; done)) (by first | (simp; done) | (simp; omega)) (by first | rfl | (simp; done) | rfl) (by first | (simp only [setL, List.getElem?_cons_zero, List.getElem?_cons_succ, Value.cells, List.take_zero, List.take_succ_cons, List.take_nil, List.drop_zero, List.drop_succ_cons, List.drop_nil, List.length_cons, List.length_nil, List.cons_append, List.nil_append, List.append_nil, Nat.zero_add, Nat.add_zero, Nat.reduceAdd, Nat.reduceBEq, Nat.reduceEqDiff, Nat.ble, BEq.rfl, Bool.and_true, Bool.and_self, cond_true, beq_self_eq_true]; rfl)) ?_)
    clear hh w; intro w hh
    refine w_nil ?_
    have hl2 := hl.add (t := 3) (hl.add (t := 4) (hl.add (t := 5) (hl.add (t := 6) (hl.add (t := 17) (hl.add (t := 18) (hl.add (t := 19) (hl.nil) rfl) rfl) rfl) rfl) rfl) rfl) rfl; clear hl; have hl := hl2; clear hl2
    refine then_normal ?_
    refine c_seq ?_
    refine c_seq ?_
    refine c_region ?_
    refine wl (wl_val hl rfl trivial (r_field hl rfl fld57_1) ?_)
    clear hl a; intro a hl
    refine wl (w_load hl hh rfl trivial one55 rfl (by repeat (first | exact find_head | apply find_tail | apply find_skip)) (by first | rfl) ?_)
    clear hl a; intro a hl
    refine wl (wl_val hl rfl trivial (r_lenS hl rfl slc55) ?_)
    clear hl a; intro a hl
    refine wl (wl_val hl rfl trivial (r_gtr hl rfl rfl) ?_)
    clear hl a; intro a hl
    refine w_nil ?_
    have hl2 := hl.add (t := 3) (hl.add (t := 4) (hl.add (t := 5) (hl.add (t := 6) (hl.add (t := 17) (hl.add (t := 18) (hl.add (t := 19) (hl.add (t := 27) (hl.nil) rfl) rfl) rfl) rfl) rfl) rfl) rfl) rfl; clear hl; have hl := hl2; clear hl2
    refine then_normal ?_
    refine c_cond hl rfl ?_ ?_
    · intro hc1
      try simp only [decide_eq_true_eq, decide_eq_false_iff_not, Bool.not_eq_true', Bool.not_eq_false', Bool.not_eq_true, Bool.not_eq_false, Bool.and_eq_true, Bool.or_eq_true, Bool.and_eq_false_iff, Bool.or_eq_false_iff, Bool.not_not, ne_eq, Int.not_lt, Int.not_le, Decidable.not_not, beq_iff_eq, bne_iff_ne] at hc1
      refine c_seq ?_
      refine c_region ?_
      refine wl (wl_val hl rfl trivial (r_move hl rfl) ?_)
      clear hl a; intro a hl
      refine wl (wl_val hl rfl trivial (r_build hl rfl zero36 bld36 (by simp only [fillL, setL, List.getElem?_cons_zero, List.getElem?_cons_succ, Value.cells, List.take_zero, List.take_succ_cons, List.take_nil, List.drop_zero, List.drop_succ_cons, List.drop_nil, List.length_cons, List.length_nil, List.cons_append, List.nil_append, List.append_nil, Nat.zero_add, Nat.add_zero, Nat.reduceAdd, Nat.reduceBEq, Nat.reduceEqDiff, Nat.ble, BEq.rfl, Bool.and_true, Bool.and_self, cond_true, beq_self_eq_true]; rfl)) ?_)
      clear hl a; intro a hl
      refine wl (wl_val hl rfl trivial (r_assign hl rfl) ?_)
      clear hl a; intro a hl
      refine wl (w_storeA hl hh trivial agg36 rfl rfl (by repeat (first | exact find_head | apply find_tail | apply find_skip)) (by first | rfl | (simp; done)) (by first | (simp; done) | (simp; omega)) (by first | rfl | (simp; done) | rfl) (by first | (simp only [setL, List.getElem?_cons_zero, List.getElem?_cons_succ, Value.cells, List.take_zero, List.take_succ_cons, List.take_nil, List.drop_zero, List.drop_succ_cons, List.drop_nil, List.length_cons, List.length_nil, List.cons_append, List.nil_append, List.append_nil, Nat.zero_add, Nat.add_zero, Nat.reduceAdd, Nat.reduceBEq, Nat.reduceEqDiff, Nat.ble, BEq.rfl, Bool.and_true, Bool.and_self, cond_true, beq_self_eq_true]; rfl)) ?_)
      clear hh w; intro w hh
      refine w_nil ?_
      have hl2 := hl.add (t := 2) (hl.add (t := 3) (hl.nil) rfl) rfl; clear hl; have hl := hl2; clear hl2
      refine then_normal ?_
      refine wp_ret ?_
      refine then_ret ?_
      refine blk_ret ?_
      refine then_ret ?_
      refine then_ret ?_
      refine blk_ret ?_
      refine then_ret ?_
      refine f_retTC (F' := []) hl hh rfl rfl agg36 (by repeat (first | exact find_head | apply find_tail | apply find_skip)) rfl rfl (by repeat (first | exact keeps_nil | apply keeps_cons (by repeat (first | exact find_head | apply find_tail | apply find_skip)) (by first  | rfl) | exact keeps_self | exact keeps_left | apply keeps_app | apply keeps_mv | apply keeps_skip)) ?_
      exact .inl ⟨⟨1, z.i, 64, -1⟩, z.ps, (hI.trans (ckP_bad (ru_at hx) (if_pos (by unfold RV.ru; rw [List.length_map]; omega)))), rfl, rfl⟩
    · intro hc1
      try simp only [decide_eq_true_eq, decide_eq_false_iff_not, Bool.not_eq_true', Bool.not_eq_false', Bool.not_eq_true, Bool.not_eq_false, Bool.and_eq_true, Bool.or_eq_true, Bool.and_eq_false_iff, Bool.or_eq_false_iff, Bool.not_not, ne_eq, Int.not_lt, Int.not_le, Decidable.not_not, beq_iff_eq, bne_iff_ne] at hc1
      have hrb : ¬ 64 < r.ru.b.length := by unfold RV.ru; rw [List.length_map]; omega
      refine wp_skip ?_
      refine then_normal ?_
      refine c_seq ?_
      refine c_seq ?_
      refine c_region ?_
      refine wl (wl_val hl rfl trivial (r_move hl rfl) ?_)
      clear hl a; intro a hl
      refine wl (wl_val hl rfl trivial (r_field hl rfl fld57_0) ?_)
      clear hl a; intro a hl
      first | refine wl (w_loadA hl hh rfl trivial agg46 rfl (by repeat (first | exact find_head | apply find_tail | apply find_skip)) (by first | (simp only [List.getElem?_cons_zero, List.getElem?_cons_succ, Value.cells, List.take_zero, List.take_succ_cons, List.take_nil, List.drop_zero, List.drop_succ_cons, List.drop_nil, List.length_cons, List.length_nil, List.cons_append, List.nil_append, List.append_nil, Nat.zero_add, Nat.add_zero, Nat.reduceAdd, Nat.reduceBEq, Nat.reduceEqDiff, Nat.ble, BEq.rfl, Bool.and_true, Bool.and_self, cond_true, beq_self_eq_true]; rfl)) (by first | rfl | (simp; done)) ?_) | refine wl (w_loadRA hl hh rfl trivial agg46 rfl hm1 (by simp) hd1 rfl ?_) | refine wl (w_loadRA hl hh rfl trivial agg46 rfl hm2 (by simp) hd2 rfl ?_)
      clear hl a; intro a hl
      refine wl (w_call hl hh rfl trivial rfl cal52 rfl (ckA_spec k15 k13 z.ps (by omega) z.pp z.pc z.pE hP r.p r.a r.hp r.hc r.hE hr.hd (apart0 hh (RV.mh hrE) (by intro y hy; simp only [List.mem_cons] at hy ⊢; rcases hy with hy | hy | hy <;> simp [hy]))) (by repeat (first | exact keeps_nil | apply keeps_cons (by repeat (first | exact find_head | apply find_tail | apply find_skip)) (by first  | rfl) | exact keeps_self | exact keeps_left | apply keeps_app | apply keeps_mv | apply keeps_skip)) (mem_keep hh (RV.mh hrE)) ?_)
      clear hl hh a w; intro vc Fc a w hR hl hh
      obtain ⟨rfl, pp', pc', pE', hP', rfl⟩ := hR
      try simp only [List.cons_append, List.nil_append, List.append_assoc, List.append_nil] at hh
      refine wl (wl_val hl rfl trivial (r_move hl rfl) ?_)
      clear hl a; intro a hl
      refine wl (wl_val hl rfl trivial (r_extract hl rfl (by simp only [List.getElem?_toArray, List.getElem?_cons_zero, List.getElem?_cons_succ]; rfl)) ?_)
      clear hl a; intro a hl
      refine wl (wl_val hl rfl trivial (r_extract hl rfl (by simp only [List.getElem?_toArray, List.getElem?_cons_zero, List.getElem?_cons_succ]; rfl)) ?_)
      clear hl a; intro a hl
      refine wl (wl_val hl rfl trivial (r_assign hl rfl) ?_)
      clear hl a; intro a hl
      refine wl (wl_val hl rfl trivial (r_assign hl rfl) ?_)
      clear hl a; intro a hl
      refine w_nil ?_
      have hl2 := hl.add (t := 3) (hl.add (t := 4) (hl.add (t := 5) (hl.add (t := 6) (hl.add (t := 7) (hl.add (t := 8) (hl.add (t := 17) (hl.add (t := 18) (hl.add (t := 19) (hl.nil) rfl) rfl) rfl) rfl) rfl) rfl) rfl) rfl) rfl; clear hl; have hl := hl2; clear hl2
      refine then_normal ?_
      refine c_seq ?_
      refine c_region ?_
      refine wl (wl_val hl rfl trivial (r_move hl rfl) ?_)
      clear hl a; intro a hl
      refine wl (wl_val hl rfl trivial (r_neq hl rfl rfl) ?_)
      clear hl a; intro a hl
      refine w_nil ?_
      have hl2 := hl.add (t := 3) (hl.add (t := 4) (hl.add (t := 5) (hl.add (t := 6) (hl.add (t := 7) (hl.add (t := 8) (hl.add (t := 17) (hl.add (t := 18) (hl.add (t := 19) (hl.add (t := 38) (hl.nil) rfl) rfl) rfl) rfl) rfl) rfl) rfl) rfl) rfl) rfl; clear hl; have hl := hl2; clear hl2
      refine then_normal ?_
      refine c_cond hl rfl ?_ ?_
      · intro hc2
        try simp only [decide_eq_true_eq, decide_eq_false_iff_not, Bool.not_eq_true', Bool.not_eq_false', Bool.not_eq_true, Bool.not_eq_false, Bool.and_eq_true, Bool.or_eq_true, Bool.and_eq_false_iff, Bool.or_eq_false_iff, Bool.not_not, ne_eq, Int.not_lt, Int.not_le, Decidable.not_not, beq_iff_eq, bne_iff_ne] at hc2
        refine c_seq ?_
        refine c_region ?_
        refine wl (wl_val hl rfl trivial (r_move hl rfl) ?_)
        clear hl a; intro a hl
        refine wl (wl_val hl rfl trivial (r_move hl rfl) ?_)
        clear hl a; intro a hl
        refine wl (wl_val hl rfl trivial (r_move hl rfl) ?_)
        clear hl a; intro a hl
        refine wl (wl_val hl rfl trivial (r_build hl rfl zero36 bld36 (by simp only [fillL, setL, List.getElem?_cons_zero, List.getElem?_cons_succ, Value.cells, List.take_zero, List.take_succ_cons, List.take_nil, List.drop_zero, List.drop_succ_cons, List.drop_nil, List.length_cons, List.length_nil, List.cons_append, List.nil_append, List.append_nil, Nat.zero_add, Nat.add_zero, Nat.reduceAdd, Nat.reduceBEq, Nat.reduceEqDiff, Nat.ble, BEq.rfl, Bool.and_true, Bool.and_self, cond_true, beq_self_eq_true]; rfl)) ?_)
        clear hl a; intro a hl
        refine wl (wl_val hl rfl trivial (r_assign hl rfl) ?_)
        clear hl a; intro a hl
        refine wl (w_storeA hl hh trivial agg36 rfl rfl (by repeat (first | exact find_head | apply find_tail | apply find_skip)) (by first | rfl | (simp; done)) (by first | (simp; done) | (simp; omega)) (by first | rfl | (simp; done) | rfl) (by first | (simp only [setL, List.getElem?_cons_zero, List.getElem?_cons_succ, Value.cells, List.take_zero, List.take_succ_cons, List.take_nil, List.drop_zero, List.drop_succ_cons, List.drop_nil, List.length_cons, List.length_nil, List.cons_append, List.nil_append, List.append_nil, Nat.zero_add, Nat.add_zero, Nat.reduceAdd, Nat.reduceBEq, Nat.reduceEqDiff, Nat.ble, BEq.rfl, Bool.and_true, Bool.and_self, cond_true, beq_self_eq_true]; rfl)) ?_)
        clear hh w; intro w hh
        refine w_nil ?_
        have hl2 := hl.add (t := 2) (hl.add (t := 3) (hl.nil) rfl) rfl; clear hl; have hl := hl2; clear hl2
        refine then_normal ?_
        refine wp_ret ?_
        refine then_ret ?_
        refine blk_ret ?_
        refine then_ret ?_
        refine then_ret ?_
        refine blk_ret ?_
        refine then_ret ?_
        refine f_retTC (F' := []) hl hh rfl rfl agg36 (by repeat (first | exact find_head | apply find_tail | apply find_skip)) rfl rfl (by repeat (first | exact keeps_nil | apply keeps_cons (by repeat (first | exact find_head | apply find_tail | apply find_skip)) (by first  | rfl) | exact keeps_self | exact keeps_left | apply keeps_app | apply keeps_mv | apply keeps_skip)) ?_
        exact .inl ⟨⟨(ckA z.ps r.p r.a).1.1, z.i, -1, (ckA z.ps r.p r.a).1.2⟩, (ckA z.ps r.p r.a).2, (hI.trans (ckP_bad (ru_at hx) ((if_neg hrb).trans (if_neg hc2)))), rfl, rfl⟩
      · intro hc2
        try simp only [decide_eq_true_eq, decide_eq_false_iff_not, Bool.not_eq_true', Bool.not_eq_false', Bool.not_eq_true, Bool.not_eq_false, Bool.and_eq_true, Bool.or_eq_true, Bool.and_eq_false_iff, Bool.or_eq_false_iff, Bool.not_not, ne_eq, Int.not_lt, Int.not_le, Decidable.not_not, beq_iff_eq, bne_iff_ne] at hc2
        have hJ0 : ckRu z.i z.ps r.ru = ckBd z.i (ckA z.ps r.p r.a).2 0 (r.ru.b.drop 0) := (if_neg hrb).trans (if_pos hc2)
        refine wp_skip ?_
        refine then_normal ?_
        refine c_seq ?_
        refine c_region ?_
        refine wl (wl_val hl rfl trivial (r_field hl rfl fld57_1) ?_)
        clear hl a; intro a hl
        refine wl (w_load hl hh rfl trivial one55 rfl (by repeat (first | exact find_head | apply find_tail | apply find_skip)) (by first | rfl) ?_)
        clear hl a; intro a hl
        refine wl (wl_val hl rfl trivial (r_lenS hl rfl slc55) ?_)
        clear hl a; intro a hl
        refine wl (wl_val hl rfl trivial (r_move hl rfl) ?_)
        clear hl a; intro a hl
        refine w_nil ?_
        have hl2 := hl.add (t := 3) (hl.add (t := 4) (hl.add (t := 5) (hl.add (t := 17) (hl.add (t := 18) (hl.add (t := 19) (hl.add (t := 44) (hl.add (t := 45) (hl.add (t := 46) (hl.nil) rfl) rfl) rfl) rfl) rfl) rfl) rfl) rfl) rfl; clear hl; have hl := hl2; clear hl2
        refine then_normal ?_
        refine wp_block ?_
        obtain ⟨KS1, hKS1, hk⟩ := (hl.add (t := 3) (hl.add (t := 4) (hl.add (t := 5) (hl.add (t := 17) (hl.add (t := 18) (hl.add (t := 19) (hl.add (t := 44) (hl.add (t := 45) (hl.nil) rfl) rfl) rfl) rfl) rfl) rfl) rfl) rfl).name
        obtain ⟨HS1, hHS1, hh2⟩ := hh.nameT (A := [(k15, C [.map (some k13), .slice pp' (ckA z.ps r.p r.a).2.length pc'] 111), (k13, MO kStr (ixf 0 (ckA z.ps r.p r.a).2))]) (U := pE') (keeps_cons (b := k15) (o' := C [.map (some k13), .slice pp' (ckA z.ps r.p r.a).2.length pc'] 111) (by repeat (first | exact find_head | apply find_tail | apply find_skip)) (by first | rfl) (keeps_cons (b := k13) (o' := MO kStr (ixf 0 (ckA z.ps r.p r.a).2)) (by repeat (first | exact find_head | apply find_tail | apply find_skip)) (by first | rfl) ((by repeat (first | exact keeps_nil | exact keeps_self | exact keeps_left | apply keeps_app | apply keeps_mv | apply keeps_skip)))))
        refine c_loop (α := CK) (fun u => r.ls.length - u.i) (fun u a w => ((u.i ≤ r.ls.length ∧ u.ps.length ≤ 65 * z.i + 1 + u.i) ∧ Row (.slice u.pp u.ps.length u.pc) u.ps.length (fl pdc u.ps) 3 93 u.pE ∧ ckRu z.i z.ps r.ru = ckBd z.i u.ps u.i (r.ru.b.drop u.i)) ∧ Sl 68 ([(46, .int .i64 (u.i : Int))] ++ KS1) a ∧ Has _ w0 ([(k15, C [.map (some k13), .slice u.pp u.ps.length u.pc] 111), (k13, MO kStr (ixf 0 u.ps))] ++ (HS1 ++ u.pE)) w) ⟨0, (ckA z.ps r.p r.a).2, pp', pc', pE'⟩ ⟨⟨⟨Nat.zero_le _, by have := ckA_len z.ps r.p r.a; simp only; omega⟩, hP', hJ0⟩, hl.addE (t := 46) (hk) rfl (by first | rfl), hh2⟩ ?_
        clear hk hh2 hl hh a w
        intro u a w hI
        obtain ⟨⟨⟨hui, hus⟩, hPu, hJ⟩, hl, hh⟩ := hI
        subst hKS1; subst hHS1
        simp only [List.cons_append, List.nil_append, List.append_nil, List.append_assoc] at hl hh
        refine c_seq ?_
        refine c_region ?_
        refine wl (wl_val hl rfl trivial (r_lss hl rfl rfl) ?_)
        clear hl a; intro a hl
        refine w_nil ?_
        have hl2 := hl.add (t := 3) (hl.add (t := 4) (hl.add (t := 5) (hl.add (t := 17) (hl.add (t := 18) (hl.add (t := 19) (hl.add (t := 44) (hl.add (t := 45) (hl.add (t := 46) (hl.add (t := 47) (hl.nil) rfl) rfl) rfl) rfl) rfl) rfl) rfl) rfl) rfl) rfl; clear hl; have hl := hl2; clear hl2
        refine then_normal ?_
        refine c_seq ?_
        refine c_cond hl rfl ?_ ?_
        · intro hc3
          try simp only [decide_eq_true_eq, decide_eq_false_iff_not, Bool.not_eq_true', Bool.not_eq_false', Bool.not_eq_true, Bool.not_eq_false, Bool.and_eq_true, Bool.or_eq_true, Bool.and_eq_false_iff, Bool.or_eq_false_iff, Bool.not_not, ne_eq, Int.not_lt, Int.not_le, Decidable.not_not, beq_iff_eq, bne_iff_ne] at hc3
          obtain ⟨x, hxx⟩ : ∃ x, r.ls[u.i]? = some x := ⟨_, List.getElem?_eq_getElem (by omega)⟩
          have hxm := List.mem_of_getElem? hxx
          have hxo := hr.ls x hxm
          have hxE := RV.ml hrE hxm
          have hxa := hxo.ags.len
          obtain ⟨b2, j2, hq2, hE2, hm2⟩ := row_mem hr.bd (by omega) (RV.mb hrE)
          rw [hq2] at hl hh
          have hd2 := fl_at c4_len hxx j2
          simp only [LV.c4] at hd2
          refine wp_skip ?_
          refine then_normal ?_
          refine c_seq ?_
          refine wp_block ?_
          refine c_seq ?_
          refine c_region ?_
          refine wl (wl_val hl rfl trivial (r_move hl rfl) ?_)
          clear hl a; intro a hl
          refine wl (wl_val hl rfl trivial (r_indexS hl rfl rfl slc55 (by omega) (by omega) (by first | (simp only [Int.reduceToNat]; rfl) | exact toNat_add1 _ | exact toNat_add2 _ _ | exact toNat_emod _ _ | exact Int.toNat_natCast _ | rfl)) ?_)
          clear hl a; intro a hl
          first | refine wl (w_loadA hl hh rfl trivial agg48 rfl (by repeat (first | exact find_head | apply find_tail | apply find_skip)) (by first | (simp only [List.getElem?_cons_zero, List.getElem?_cons_succ, Value.cells, List.take_zero, List.take_succ_cons, List.take_nil, List.drop_zero, List.drop_succ_cons, List.drop_nil, List.length_cons, List.length_nil, List.cons_append, List.nil_append, List.append_nil, Nat.zero_add, Nat.add_zero, Nat.reduceAdd, Nat.reduceBEq, Nat.reduceEqDiff, Nat.ble, BEq.rfl, Bool.and_true, Bool.and_self, cond_true, beq_self_eq_true]; rfl)) (by first | rfl | (simp; done)) ?_) | refine wl (w_loadRA hl hh rfl trivial agg48 rfl hm1 (by simp) hd1 rfl ?_) | refine wl (w_loadRA hl hh rfl trivial agg48 rfl hm2 (by simp) hd2 rfl ?_)
          clear hl a; intro a hl
          refine wl (w_alloc hl hh rfl trivial zero48 rfl ?_)
          clear hl hh a w; intro k10 a w hl hh
          refine wl (wl_val hl rfl trivial (r_assign hl rfl) ?_)
          clear hl a; intro a hl
          refine wl (w_storeA hl hh trivial agg48 rfl rfl (by repeat (first | exact find_head | apply find_tail | apply find_skip)) (by first | rfl | (simp; done)) (by first | (simp; done) | (simp; omega)) (by first | rfl | (simp; done) | rfl) (by first | (simp only [setL, List.getElem?_cons_zero, List.getElem?_cons_succ, Value.cells, List.take_zero, List.take_succ_cons, List.take_nil, List.drop_zero, List.drop_succ_cons, List.drop_nil, List.length_cons, List.length_nil, List.cons_append, List.nil_append, List.append_nil, Nat.zero_add, Nat.add_zero, Nat.reduceAdd, Nat.reduceBEq, Nat.reduceEqDiff, Nat.ble, BEq.rfl, Bool.and_true, Bool.and_self, cond_true, beq_self_eq_true]; rfl)) ?_)
          clear hh w; intro w hh
          refine w_nil ?_
          have hl2 := hl.add (t := 3) (hl.add (t := 4) (hl.add (t := 5) (hl.add (t := 9) (hl.add (t := 10) (hl.add (t := 17) (hl.add (t := 18) (hl.add (t := 19) (hl.add (t := 44) (hl.add (t := 45) (hl.add (t := 46) (hl.nil) rfl) rfl) rfl) rfl) rfl) rfl) rfl) rfl) rfl) rfl) rfl; clear hl; have hl := hl2; clear hl2
          refine then_normal ?_
          refine c_seq ?_
          refine c_region ?_
          refine wl (wl_val hl rfl trivial (r_move hl rfl) ?_)
          clear hl a; intro a hl
          first | refine wl (w_loadA hl hh rfl trivial agg48 rfl (by repeat (first | exact find_head | apply find_tail | apply find_skip)) (by first | (simp only [List.getElem?_cons_zero, List.getElem?_cons_succ, Value.cells, List.take_zero, List.take_succ_cons, List.take_nil, List.drop_zero, List.drop_succ_cons, List.drop_nil, List.length_cons, List.length_nil, List.cons_append, List.nil_append, List.append_nil, Nat.zero_add, Nat.add_zero, Nat.reduceAdd, Nat.reduceBEq, Nat.reduceEqDiff, Nat.ble, BEq.rfl, Bool.and_true, Bool.and_self, cond_true, beq_self_eq_true]; rfl)) (by first | rfl | (simp; done)) ?_) | refine wl (w_loadRA hl hh rfl trivial agg48 rfl hm1 (by simp) hd1 rfl ?_) | refine wl (w_loadRA hl hh rfl trivial agg48 rfl hm2 (by simp) hd2 rfl ?_)
          clear hl a; intro a hl
          refine wl (w_call hl hh rfl trivial rfl cal53 rfl (ckL_spec k15 k13 u.ps (by omega) u.pp u.pc u.pE hPu x hxo (apart0 hh hxE (by intro y hy; simp only [List.mem_cons] at hy ⊢; rcases hy with hy | hy | hy <;> simp [hy]))) (by repeat (first | exact keeps_nil | apply keeps_cons (by repeat (first | exact find_head | apply find_tail | apply find_skip)) (by first  | rfl) | exact keeps_self | exact keeps_left | apply keeps_app | apply keeps_mv | apply keeps_skip)) (mem_keep hh hxE) ?_)
          clear hl hh a w; intro vc Fc a w hR hl hh
          obtain ⟨rfl, pq, qc, qE, hPq, rfl⟩ := hR
          try simp only [List.cons_append, List.nil_append, List.append_assoc, List.append_nil] at hh
          refine wl (wl_val hl rfl trivial (r_move hl rfl) ?_)
          clear hl a; intro a hl
          refine wl (wl_val hl rfl trivial (r_extract hl rfl (by simp only [List.getElem?_toArray, List.getElem?_cons_zero, List.getElem?_cons_succ]; rfl)) ?_)
          clear hl a; intro a hl
          refine wl (wl_val hl rfl trivial (r_extract hl rfl (by simp only [List.getElem?_toArray, List.getElem?_cons_zero, List.getElem?_cons_succ]; rfl)) ?_)
          clear hl a; intro a hl
          refine wl (wl_val hl rfl trivial (r_assign hl rfl) ?_)
          clear hl a; intro a hl
          refine wl (wl_val hl rfl trivial (r_assign hl rfl) ?_)
          clear hl a; intro a hl
          refine w_nil ?_
          have hl2 := hl.add (t := 3) (hl.add (t := 4) (hl.add (t := 5) (hl.add (t := 9) (hl.add (t := 11) (hl.add (t := 12) (hl.add (t := 17) (hl.add (t := 18) (hl.add (t := 19) (hl.add (t := 44) (hl.add (t := 45) (hl.add (t := 46) (hl.nil) rfl) rfl) rfl) rfl) rfl) rfl) rfl) rfl) rfl) rfl) rfl) rfl; clear hl; have hl := hl2; clear hl2
          refine then_normal ?_
          refine c_seq ?_
          refine c_region ?_
          refine wl (wl_val hl rfl trivial (r_move hl rfl) ?_)
          clear hl a; intro a hl
          refine wl (wl_val hl rfl trivial (r_neq hl rfl rfl) ?_)
          clear hl a; intro a hl
          refine w_nil ?_
          have hl2 := hl.add (t := 3) (hl.add (t := 4) (hl.add (t := 5) (hl.add (t := 9) (hl.add (t := 11) (hl.add (t := 12) (hl.add (t := 17) (hl.add (t := 18) (hl.add (t := 19) (hl.add (t := 44) (hl.add (t := 45) (hl.add (t := 46) (hl.add (t := 58) (hl.nil) rfl) rfl) rfl) rfl) rfl) rfl) rfl) rfl) rfl) rfl) rfl) rfl) rfl; clear hl; have hl := hl2; clear hl2
          refine then_normal ?_
          refine c_cond hl rfl ?_ ?_
          · intro hc4
            try simp only [decide_eq_true_eq, decide_eq_false_iff_not, Bool.not_eq_true', Bool.not_eq_false', Bool.not_eq_true, Bool.not_eq_false, Bool.and_eq_true, Bool.or_eq_true, Bool.and_eq_false_iff, Bool.or_eq_false_iff, Bool.not_not, ne_eq, Int.not_lt, Int.not_le, Decidable.not_not, beq_iff_eq, bne_iff_ne] at hc4
            refine c_seq ?_
            refine c_region ?_
            refine wl (wl_val hl rfl trivial (r_move hl rfl) ?_)
            clear hl a; intro a hl
            refine wl (wl_val hl rfl trivial (r_move hl rfl) ?_)
            clear hl a; intro a hl
            refine wl (wl_val hl rfl trivial (r_move hl rfl) ?_)
            clear hl a; intro a hl
            refine wl (wl_val hl rfl trivial (r_move hl rfl) ?_)
            clear hl a; intro a hl
            refine wl (wl_val hl rfl trivial (r_build hl rfl zero36 bld36 (by simp only [fillL, setL, List.getElem?_cons_zero, List.getElem?_cons_succ, Value.cells, List.take_zero, List.take_succ_cons, List.take_nil, List.drop_zero, List.drop_succ_cons, List.drop_nil, List.length_cons, List.length_nil, List.cons_append, List.nil_append, List.append_nil, Nat.zero_add, Nat.add_zero, Nat.reduceAdd, Nat.reduceBEq, Nat.reduceEqDiff, Nat.ble, BEq.rfl, Bool.and_true, Bool.and_self, cond_true, beq_self_eq_true]; rfl)) ?_)
            clear hl a; intro a hl
            refine wl (wl_val hl rfl trivial (r_assign hl rfl) ?_)
            clear hl a; intro a hl
            refine wl (w_storeA hl hh trivial agg36 rfl rfl (by repeat (first | exact find_head | apply find_tail | apply find_skip)) (by first | rfl | (simp; done)) (by first | (simp; done) | (simp; omega)) (by first | rfl | (simp; done) | rfl) (by first | (simp only [setL, List.getElem?_cons_zero, List.getElem?_cons_succ, Value.cells, List.take_zero, List.take_succ_cons, List.take_nil, List.drop_zero, List.drop_succ_cons, List.drop_nil, List.length_cons, List.length_nil, List.cons_append, List.nil_append, List.append_nil, Nat.zero_add, Nat.add_zero, Nat.reduceAdd, Nat.reduceBEq, Nat.reduceEqDiff, Nat.ble, BEq.rfl, Bool.and_true, Bool.and_self, cond_true, beq_self_eq_true]; rfl)) ?_)
            clear hh w; intro w hh
            refine w_nil ?_
            have hl2 := hl.add (t := 2) (hl.add (t := 3) (hl.nil) rfl) rfl; clear hl; have hl := hl2; clear hl2
            refine then_normal ?_
            refine wp_ret ?_
            refine blk_ret ?_
            refine then_ret ?_
            refine then_ret ?_
            refine blk_ret ?_
            refine blk_ret ?_
            refine then_ret ?_
            refine then_ret ?_
            refine blk_ret ?_
            refine then_ret ?_
            refine f_retTC (F' := []) hl hh rfl rfl agg36 (by repeat (first | exact find_head | apply find_tail | apply find_skip)) rfl rfl (by repeat (first | exact keeps_nil | apply keeps_cons (by repeat (first | exact find_head | apply find_tail | apply find_skip)) (by first  | rfl) | exact keeps_self | exact keeps_left | apply keeps_app | apply keeps_mv | apply keeps_skip)) ?_
            exact .inl ⟨⟨(ckL u.ps x.l).1.1, z.i, u.i, (ckL u.ps x.l).1.2⟩, (ckL u.ps x.l).2, (hI.trans (ckP_bad (ru_at hx) (hJ.trans ((ckBd_step (lt_at hxx)).trans (if_neg (by omega)))))), rfl, rfl⟩
          · intro hc4
            try simp only [decide_eq_true_eq, decide_eq_false_iff_not, Bool.not_eq_true', Bool.not_eq_false', Bool.not_eq_true, Bool.not_eq_false, Bool.and_eq_true, Bool.or_eq_true, Bool.and_eq_false_iff, Bool.or_eq_false_iff, Bool.not_not, ne_eq, Int.not_lt, Int.not_le, Decidable.not_not, beq_iff_eq, bne_iff_ne] at hc4
            refine wp_skip ?_
            refine blk_normal ?_
            refine then_normal ?_
            refine c_region ?_
            first | refine wl (wl_val hl rfl trivial (r_add hl rfl rfl (by simp only [Fits]; omega)) ?_) | refine wl (wl_val hl rfl trivial (r_addW hl rfl rfl) ?_)
            clear hl a; intro a hl
            refine wl (wl_val hl rfl trivial (r_move hl rfl) ?_)
            clear hl a; intro a hl
            refine w_nil ?_
            have hl2 := hl.add (t := 3) (hl.add (t := 4) (hl.add (t := 5) (hl.add (t := 17) (hl.add (t := 18) (hl.add (t := 19) (hl.add (t := 44) (hl.add (t := 45) (hl.add (t := 46) (hl.nil) rfl) rfl) rfl) rfl) rfl) rfl) rfl) rfl) rfl; clear hl; have hl := hl2; clear hl2
            refine then_normal ?_
            refine ⟨⟨u.i + 1, (ckL u.ps x.l).2, pq, qc, qE⟩, (by simp only; omega), ⟨⟨by simp only; omega, by have := ckL_len u.ps x.l; simp only; omega⟩, hPq, hJ.trans ((ckBd_step (lt_at hxx)).trans (if_pos (by omega)))⟩, hl.addE (t := 46) (hl.addE (t := 3) (hl.addE (t := 4) (hl.addE (t := 5) (hl.addE (t := 17) (hl.addE (t := 18) (hl.addE (t := 19) (hl.addE (t := 44) (hl.addE (t := 45) (hl.nil) rfl (by first | rfl | exact congrArg (Value.int .i64) (show (u.i : Int) + 1 = ((u.i + 1 : Nat) : Int) by omega) | (rw [hq2]))) rfl (by first | rfl | exact congrArg (Value.int .i64) (show (u.i : Int) + 1 = ((u.i + 1 : Nat) : Int) by omega) | (rw [hq2]))) rfl (by first | rfl | exact congrArg (Value.int .i64) (show (u.i : Int) + 1 = ((u.i + 1 : Nat) : Int) by omega) | (rw [hq2]))) rfl (by first | rfl | exact congrArg (Value.int .i64) (show (u.i : Int) + 1 = ((u.i + 1 : Nat) : Int) by omega) | (rw [hq2]))) rfl (by first | rfl | exact congrArg (Value.int .i64) (show (u.i : Int) + 1 = ((u.i + 1 : Nat) : Int) by omega) | (rw [hq2]))) rfl (by first | rfl | exact congrArg (Value.int .i64) (show (u.i : Int) + 1 = ((u.i + 1 : Nat) : Int) by omega) | (rw [hq2]))) rfl (by first | rfl | exact congrArg (Value.int .i64) (show (u.i : Int) + 1 = ((u.i + 1 : Nat) : Int) by omega) | (rw [hq2]))) rfl (by first | rfl | exact congrArg (Value.int .i64) (show (u.i : Int) + 1 = ((u.i + 1 : Nat) : Int) by omega) | (rw [hq2]))) rfl (by first | rfl | exact congrArg (Value.int .i64) (show (u.i : Int) + 1 = ((u.i + 1 : Nat) : Int) by omega) | (rw [hq2])), hh.keep (by repeat (first | exact keeps_nil | apply keeps_cons (by repeat (first | exact find_head | apply find_tail | apply find_skip)) (by first  | (rw [hq2]) | rfl) | exact keeps_self | exact keeps_left | apply keeps_app | apply keeps_mv | apply keeps_skip))⟩
        · intro hc3
          try simp only [decide_eq_true_eq, decide_eq_false_iff_not, Bool.not_eq_true', Bool.not_eq_false', Bool.not_eq_true, Bool.not_eq_false, Bool.and_eq_true, Bool.or_eq_true, Bool.and_eq_false_iff, Bool.or_eq_false_iff, Bool.not_not, ne_eq, Int.not_lt, Int.not_le, Decidable.not_not, beq_iff_eq, bne_iff_ne] at hc3
          refine wp_exit ?_
          refine then_exit ?_
          refine then_exit ?_
          refine blk_exit ?_
          refine blk_normal ?_
          refine then_normal ?_
          refine c_region ?_
          first | refine wl (wl_val hl rfl trivial (r_add hl rfl rfl (by simp only [Fits]; omega)) ?_) | refine wl (wl_val hl rfl trivial (r_addW hl rfl rfl) ?_)
          clear hl a; intro a hl
          refine wl (wl_val hl rfl trivial (r_move hl rfl) ?_)
          clear hl a; intro a hl
          refine w_nil ?_
          have hl2 := hl.add (t := 3) (hl.add (t := 4) (hl.add (t := 17) (hl.add (t := 18) (hl.add (t := 19) (hl.nil) rfl) rfl) rfl) rfl) rfl; clear hl; have hl := hl2; clear hl2
          refine then_normal ?_
          refine ⟨⟨z.i + 1, u.ps, u.pp, u.pc, u.pE⟩, (by simp only; omega), ⟨⟨by simp only; omega, by simp only; omega⟩, hPu, hI.trans (ckP_go (ru_at hx) (hJ.trans (ckBd_end (by unfold RV.ru; rw [List.length_map]; omega))))⟩, hl.addE (t := 19) (hl.addE (t := 3) (hl.addE (t := 4) (hl.addE (t := 17) (hl.addE (t := 18) (hl.nil) rfl (by first | rfl | exact congrArg (Value.int .i64) (show (z.i : Int) + 1 = ((z.i + 1 : Nat) : Int) by omega) | (rw [hq1]))) rfl (by first | rfl | exact congrArg (Value.int .i64) (show (z.i : Int) + 1 = ((z.i + 1 : Nat) : Int) by omega) | (rw [hq1]))) rfl (by first | rfl | exact congrArg (Value.int .i64) (show (z.i : Int) + 1 = ((z.i + 1 : Nat) : Int) by omega) | (rw [hq1]))) rfl (by first | rfl | exact congrArg (Value.int .i64) (show (z.i : Int) + 1 = ((z.i + 1 : Nat) : Int) by omega) | (rw [hq1]))) rfl (by first | rfl | exact congrArg (Value.int .i64) (show (z.i : Int) + 1 = ((z.i + 1 : Nat) : Int) by omega) | (rw [hq1])), hh.keep (by repeat (first | exact keeps_nil | apply keeps_cons (by repeat (first | exact find_head | apply find_tail | apply find_skip)) (by first  | (rw [hq1]) | rfl) | exact keeps_self | exact keeps_left | apply keeps_app | apply keeps_mv | apply keeps_skip))⟩
  · intro hc0
    try simp only [decide_eq_true_eq, decide_eq_false_iff_not, Bool.not_eq_true', Bool.not_eq_false', Bool.not_eq_true, Bool.not_eq_false, Bool.and_eq_true, Bool.or_eq_true, Bool.and_eq_false_iff, Bool.or_eq_false_iff, Bool.not_not, ne_eq, Int.not_lt, Int.not_le, Decidable.not_not, beq_iff_eq, bne_iff_ne] at hc0
    refine wp_exit ?_
    refine then_exit ?_
    refine then_exit ?_
    refine blk_exit ?_
    refine then_normal ?_
    refine c_seq ?_
    refine c_region ?_
    refine wl (wl_val hl rfl trivial (r_move hl rfl) ?_)
    clear hl a; intro a hl
    refine wl (wl_val hl rfl trivial (r_build hl rfl zero36 bld36 (by simp only [fillL, setL, List.getElem?_cons_zero, List.getElem?_cons_succ, Value.cells, List.take_zero, List.take_succ_cons, List.take_nil, List.drop_zero, List.drop_succ_cons, List.drop_nil, List.length_cons, List.length_nil, List.cons_append, List.nil_append, List.append_nil, Nat.zero_add, Nat.add_zero, Nat.reduceAdd, Nat.reduceBEq, Nat.reduceEqDiff, Nat.ble, BEq.rfl, Bool.and_true, Bool.and_self, cond_true, beq_self_eq_true]; rfl)) ?_)
    clear hl a; intro a hl
    refine wl (wl_val hl rfl trivial (r_assign hl rfl) ?_)
    clear hl a; intro a hl
    refine wl (w_storeA hl hh trivial agg36 rfl rfl (by repeat (first | exact find_head | apply find_tail | apply find_skip)) (by first | rfl | (simp; done)) (by first | (simp; done) | (simp; omega)) (by first | rfl | (simp; done) | rfl) (by first | (simp only [setL, List.getElem?_cons_zero, List.getElem?_cons_succ, Value.cells, List.take_zero, List.take_succ_cons, List.take_nil, List.drop_zero, List.drop_succ_cons, List.drop_nil, List.length_cons, List.length_nil, List.cons_append, List.nil_append, List.append_nil, Nat.zero_add, Nat.add_zero, Nat.reduceAdd, Nat.reduceBEq, Nat.reduceEqDiff, Nat.ble, BEq.rfl, Bool.and_true, Bool.and_self, cond_true, beq_self_eq_true]; rfl)) ?_)
    clear hh w; intro w hh
    refine w_nil ?_
    have hl2 := hl.add (t := 2) (hl.add (t := 3) (hl.nil) rfl) rfl; clear hl; have hl := hl2; clear hl2
    refine then_normal ?_
    refine wp_ret ?_
    refine f_retTC (F' := (k15, C [.map (some k13), .slice z.pp z.ps.length z.pc] 111) :: (k13, MO kStr (ixf 0 z.ps)) :: z.pE) hl hh rfl rfl agg36 (by repeat (first | exact find_head | apply find_tail | apply find_skip)) rfl rfl (by repeat (first | exact keeps_nil | apply keeps_cons (by repeat (first | exact find_head | apply find_tail | apply find_skip)) (by first  | rfl) | exact keeps_self | exact keeps_left | apply keeps_app | apply keeps_mv | apply keeps_skip)) ?_
    exact .inr ⟨k15, k13, z.ps, z.pp, z.pc, z.pE, hI.trans (ckP_end (by rw [List.length_map]; omega)), by omega, rfl, hP, rfl⟩
end Go.Proofs.Qxb6500915aGreatDoor

import Derived.Test.Qxb6500915aGreatDoorF2
namespace Go.Proofs.Qxb6500915aGreatDoor
open Go.Eng
set_option linter.unusedVariables false
set_option linter.unusedSimpArgs false
theorem cal35 : callable Tryz.prog 35 = true := by kernel_rfl
theorem zero147 : zeroOk Tryz.prog 147 (.map none) := by unfold zeroOk; kernel_rfl
attribute [local irreducible] RV.E

set_option maxHeartbeats 16000000 in
theorem reach_spec (rs : List RV) (rp : Option Addr) (rc : Nat) (RE : List (Nat × Obj)) (hp : Prg rs rp rc RE) (hb : ∀ r, r ∈ (rs.map RV.ru) → r.b.length ≤ 64) : SpK Tryz.prog 67 #[.agg ⟨[.slice rp rs.length rc]⟩] (PrW rs RE) [] (fun v F' => ∃ ns rb irs, NmI (rs.map RV.ru) ns ∧ IRI ns irs ∧ (∀ a b, Rel irs a b ↔ Pth (NE (rs.map RV.ru)) (fun _ => True) a b) ∧ v = .map (some rb) ∧ F' = (rb, MO kStr (List.map irk irs)) :: (List.map irB irs)) := by
  refine f_enter (args := [.agg ⟨[.slice rp rs.length rc]⟩]) Tryz.func67 rfl Tryz.ntmps67 rfl ?_
  intro w0 w a hpre hl hh
  have hrn := hp.len
  simp only [slotsFrom, Nat.reduceAdd] at hl
  refine c_seq ?_
  refine c_region ?_
  refine wl (w_box hl hh rfl trivial rfl rfl ?_)
  clear hl hh a w; intro k1 a w hl hh
  refine wl (wl_val hl rfl trivial (r_assign hl rfl) ?_)
  clear hl a; intro a hl
  refine w_nil ?_
  have hl2 := hl.add (t := 1) (hl.nil) rfl; clear hl; have hl := hl2; clear hl2
  refine then_normal ?_
  refine c_seq ?_
  refine c_region ?_
  first | refine wl (w_loadA hl hh rfl trivial agg26 rfl (by repeat (first | exact find_head | apply find_tail | apply find_skip)) (by first | (simp only [List.getElem?_cons_zero, List.getElem?_cons_succ, Value.cells, List.take_zero, List.take_succ_cons, List.take_nil, List.drop_zero, List.drop_succ_cons, List.drop_nil, List.length_cons, List.length_nil, List.cons_append, List.nil_append, List.append_nil, Nat.zero_add, Nat.add_zero, Nat.reduceAdd, Nat.reduceBEq, Nat.reduceEqDiff, Nat.ble, BEq.rfl, Bool.and_true, Bool.and_self, cond_true, beq_self_eq_true]; rfl)) (by first | rfl | (simp; done)) ?_) | refine wl (w_loadRA hl hh rfl trivial agg26 rfl hm1 (by simp) hd1 rfl ?_) | refine wl (w_loadRA hl hh rfl trivial agg26 rfl hm2 (by simp) hd2 rfl ?_)
  clear hl a; intro a hl
  refine wl (w_call hl hh rfl trivial rfl cal35 rfl (names_spec rs rp rc RE hp hb) (by repeat (first | exact keeps_nil | apply keeps_cons (by repeat (first | exact find_head | apply find_tail | apply find_skip)) (by first  | rfl) | exact keeps_self | exact keeps_left | apply keeps_app | apply keeps_mv | apply keeps_skip)) ⟨mem_keep hh hpre.re, fun r hr => mem_keep hh (hpre.each r hr)⟩ ?_)
  clear hl hh a w; intro vc Fc a w hR hl hh
  obtain ⟨ns, np, nc, hN, rfl, hNR⟩ := hR
  try simp only [List.cons_append, List.nil_append, List.append_assoc, List.append_nil] at hh
  generalize Fc = nE at hh hNR
  have hnl := hN.len
  have hnl2 := nmP_len (rs.map RV.ru) hb
  rw [List.length_map] at hnl2
  refine wl (wl_val hl rfl trivial (r_assign hl rfl) ?_)
  clear hl a; intro a hl
  refine w_nil ?_
  have hl2 := hl.add (t := 1) (hl.add (t := 3) (hl.nil) rfl) rfl; clear hl; have hl := hl2; clear hl2
  refine then_normal ?_
  refine c_seq ?_
  refine c_region ?_
  refine wl (w_makeMap kStr hl hh rfl trivial ?_)
  clear hl hh a w; intro k19 a w hl hh
  refine wl (wl_val hl rfl trivial (r_assign hl rfl) ?_)
  clear hl a; intro a hl
  refine w_nil ?_
  have hl2 := hl.add (t := 1) (hl.add (t := 3) (hl.add (t := 4) (hl.nil) rfl) rfl) rfl; clear hl; have hl := hl2; clear hl2
  refine then_normal ?_
  refine c_seq ?_
  refine c_seq ?_
  refine c_region ?_
  refine wl (wl_val hl rfl trivial (r_move hl rfl) ?_)
  clear hl a; intro a hl
  refine wl (wl_val hl rfl trivial (r_lenS hl rfl slc89) ?_)
  clear hl a; intro a hl
  refine wl (wl_val hl rfl trivial (r_move hl rfl) ?_)
  clear hl a; intro a hl
  refine w_nil ?_
  have hl2 := hl.add (t := 1) (hl.add (t := 3) (hl.add (t := 4) (hl.add (t := 20) (hl.add (t := 21) (hl.add (t := 22) (hl.nil) rfl) rfl) rfl) rfl) rfl) rfl; clear hl; have hl := hl2; clear hl2
  refine then_normal ?_
  refine wp_block ?_
  obtain ⟨KS0, hKS0, hk⟩ := (hl.add (t := 1) (hl.add (t := 3) (hl.add (t := 4) (hl.add (t := 20) (hl.add (t := 21) (hl.nil) rfl) rfl) rfl) rfl) rfl).name
  obtain ⟨HS0, hHS0, hh2⟩ := hh.nameT (A := [(k19, MO kStr [])]) (U := []) (keeps_cons (b := k19) (o' := MO kStr []) (by repeat (first | exact find_head | apply find_tail | apply find_skip)) (by first | rfl) ((by repeat (first | exact keeps_nil | exact keeps_self | exact keeps_left | apply keeps_app | apply keeps_mv | apply keeps_skip))))
  refine c_loop (α := RI) (fun z => ns.length - z.i) (fun z a w => (z.i ≤ ns.length ∧ IR0 ns z.i z.irs) ∧ Sl 95 ([(22, .int .i64 (z.i : Int))] ++ KS0) a ∧ Has _ w0 ([(k19, MO kStr (List.map irk z.irs))] ++ (HS0 ++ (List.map irB z.irs))) w) ⟨0, []⟩ ⟨⟨Nat.zero_le _, ⟨rfl, fun x hx => (by cases hx)⟩⟩, hl.addE (t := 22) (hk) rfl (by first | rfl), hh2⟩ ?_
  clear hk hh2 hl hh a w
  intro z a w hI
  obtain ⟨⟨hi, hz⟩, hl, hh⟩ := hI
  subst hKS0; subst hHS0
  simp only [List.cons_append, List.nil_append, List.append_nil, List.append_assoc] at hl hh
  refine c_seq ?_
  refine c_region ?_
  refine wl (wl_val hl rfl trivial (r_lss hl rfl rfl) ?_)
  clear hl a; intro a hl
  refine w_nil ?_
  have hl2 := hl.add (t := 1) (hl.add (t := 3) (hl.add (t := 4) (hl.add (t := 20) (hl.add (t := 21) (hl.add (t := 22) (hl.add (t := 23) (hl.nil) rfl) rfl) rfl) rfl) rfl) rfl) rfl; clear hl; have hl := hl2; clear hl2
  refine then_normal ?_
  refine c_seq ?_
  refine c_cond hl rfl ?_ ?_
  · intro hc0
    try simp only [decide_eq_true_eq, decide_eq_false_iff_not, Bool.not_eq_true', Bool.not_eq_false', Bool.not_eq_true, Bool.not_eq_false, Bool.and_eq_true, Bool.or_eq_true, Bool.and_eq_false_iff, Bool.or_eq_false_iff, Bool.not_not, ne_eq, Int.not_lt, Int.not_le, Decidable.not_not, beq_iff_eq, bne_iff_ne] at hc0
    obtain ⟨a0, hna0⟩ : ∃ a, ns[z.i]? = some a := ⟨_, List.getElem?_eq_getElem (by omega)⟩
    obtain ⟨bn, jn, hqn, hjln, hjcn, hEn⟩ := row_pos hNR (by omega)
    have hmemn : (bn, C (fl stc ns ++ jn) 9) ∈ nE := by rw [hEn]; exact List.mem_singleton.2 rfl
    rw [hqn] at hl
    refine wp_skip ?_
    refine then_normal ?_
    refine c_seq ?_
    refine wp_block ?_
    refine c_seq ?_
    refine c_region ?_
    refine wl (wl_val hl rfl trivial (r_indexS hl rfl rfl slc89 (by omega) (by omega) (by first | (simp only [Int.reduceToNat]; rfl) | exact toNat_add1 _ | exact toNat_add2 _ _ | exact toNat_emod _ _ | exact Int.toNat_natCast _ | rfl)) ?_)
    clear hl a; intro a hl
    first | refine wl (w_load hl hh rfl trivial one9 rfl (by repeat (first | exact find_head | apply find_tail | apply find_skip)) (by first | rfl) ?_) | refine wl (wl_val hl rfl trivial (r_load hl rfl one9 (hh.mem _ _ (by repeat (first | exact hmemn | exact List.mem_append_left _ hmemn | apply List.mem_cons_of_mem | apply List.mem_append_right))) (List.getElem?_toArray.trans (by first | exact fcS hna0 jn | exact fcS hnb0 jn | exact fcS hna1 jn | exact fcS hnc0 jn))) ?_)
    clear hl a; intro a hl
    refine wl (wl_val hl rfl trivial (r_assign hl rfl) ?_)
    clear hl a; intro a hl
    refine w_nil ?_
    have hl2 := hl.add (t := 1) (hl.add (t := 3) (hl.add (t := 4) (hl.add (t := 6) (hl.add (t := 20) (hl.add (t := 21) (hl.add (t := 22) (hl.nil) rfl) rfl) rfl) rfl) rfl) rfl) rfl; clear hl; have hl := hl2; clear hl2
    refine then_normal ?_
    refine c_region ?_
    refine wl (wl_val hl rfl trivial (r_move hl rfl) ?_)
    clear hl a; intro a hl
    refine wl (wl_val hl rfl trivial (r_move hl rfl) ?_)
    clear hl a; intro a hl
    refine wl (w_makeMap kStr hl hh rfl trivial ?_)
    clear hl hh a w; intro k28 a w hl hh
    refine wl (w_mapUpdate (keyStr Tryz.underlying9) Tryz.underlying145 hl hh trivial rfl rfl rfl (by repeat (first | exact find_head | apply find_tail | apply find_skip)) ?_)
    clear hh w; intro w hh
    refine w_nil ?_
    have hl2 := hl.add (t := 1) (hl.add (t := 3) (hl.add (t := 4) (hl.add (t := 20) (hl.add (t := 21) (hl.add (t := 22) (hl.nil) rfl) rfl) rfl) rfl) rfl) rfl; clear hl; have hl := hl2; clear hl2
    have hh9 := has_sw hh (A := ((k28, MO kStr []) :: (List.map irB z.irs))) (by repeat (first | exact keeps_nil | apply keeps_cons (by repeat (first | exact find_head | apply find_tail | apply find_skip)) (by first  | rfl) | exact keeps_self | exact keeps_left | apply keeps_app | apply keeps_mv | apply keeps_skip)) (ir_perm z.irs a0 k28)
    clear hh; have hh := hh9; clear hh9
    try simp only [List.append_assoc, List.cons_append, List.nil_append] at hh
    refine blk_normal ?_
    refine then_normal ?_
    refine c_region ?_
    first | refine wl (wl_val hl rfl trivial (r_add hl rfl rfl (by simp only [Fits]; omega)) ?_) | refine wl (wl_val hl rfl trivial (r_addW hl rfl rfl) ?_)
    clear hl a; intro a hl
    refine wl (wl_val hl rfl trivial (r_move hl rfl) ?_)
    clear hl a; intro a hl
    refine w_nil ?_
    have hl2 := hl.add (t := 1) (hl.add (t := 3) (hl.add (t := 4) (hl.add (t := 20) (hl.add (t := 21) (hl.add (t := 22) (hl.nil) rfl) rfl) rfl) rfl) rfl) rfl; clear hl; have hl := hl2; clear hl2
    refine then_normal ?_
    refine ⟨⟨z.i + 1, z.irs ++ [⟨a0, k28, []⟩]⟩, (by simp only; omega), ⟨by simp only; omega, hz.next hna0 _⟩, hl.addE (t := 22) (hl.addE (t := 1) (hl.addE (t := 3) (hl.addE (t := 4) (hl.addE (t := 20) (hl.addE (t := 21) (hl.nil) rfl (by first | rfl | exact congrArg (Value.int .i64) (show (z.i : Int) + 1 = ((z.i + 1 : Nat) : Int) by omega) | (rw [hqn]))) rfl (by first | rfl | exact congrArg (Value.int .i64) (show (z.i : Int) + 1 = ((z.i + 1 : Nat) : Int) by omega) | (rw [hqn]))) rfl (by first | rfl | exact congrArg (Value.int .i64) (show (z.i : Int) + 1 = ((z.i + 1 : Nat) : Int) by omega) | (rw [hqn]))) rfl (by first | rfl | exact congrArg (Value.int .i64) (show (z.i : Int) + 1 = ((z.i + 1 : Nat) : Int) by omega) | (rw [hqn]))) rfl (by first | rfl | exact congrArg (Value.int .i64) (show (z.i : Int) + 1 = ((z.i + 1 : Nat) : Int) by omega) | (rw [hqn]))) rfl (by first | rfl | exact congrArg (Value.int .i64) (show (z.i : Int) + 1 = ((z.i + 1 : Nat) : Int) by omega) | (rw [hqn])), hh.keep (by repeat (first | exact keeps_nil | apply keeps_cons (by repeat (first | exact find_head | apply find_tail | apply find_skip)) (by first  | (rw [hz.new hN.nd hna0]) | rfl) | exact keeps_self | exact keeps_left | apply keeps_app | apply keeps_mv | apply keeps_skip))⟩
  · intro hc0
    try simp only [decide_eq_true_eq, decide_eq_false_iff_not, Bool.not_eq_true', Bool.not_eq_false', Bool.not_eq_true, Bool.not_eq_false, Bool.and_eq_true, Bool.or_eq_true, Bool.and_eq_false_iff, Bool.or_eq_false_iff, Bool.not_not, ne_eq, Int.not_lt, Int.not_le, Decidable.not_not, beq_iff_eq, bne_iff_ne] at hc0
    have hze : z.i = ns.length := by omega
    refine wp_exit ?_
    refine then_exit ?_
    refine then_exit ?_
    refine blk_exit ?_
    refine then_normal ?_
    refine c_seq ?_
    refine c_seq ?_
    refine c_region ?_
    refine wl (wl_val hl rfl trivial (r_field hl rfl fld26_0) ?_)
    clear hl a; intro a hl
    first | refine wl (w_load hl hh rfl trivial one24 rfl (by repeat (first | exact find_head | apply find_tail | apply find_skip)) (by first | rfl) ?_) | refine wl (wl_val hl rfl trivial (r_load hl rfl one24 (hh.mem _ _ (by repeat (first | exact hmemn | exact List.mem_append_left _ hmemn | apply List.mem_cons_of_mem | apply List.mem_append_right))) (List.getElem?_toArray.trans (by first | exact fcS hna0 jn | exact fcS hnb0 jn | exact fcS hna1 jn | exact fcS hnc0 jn))) ?_)
    clear hl a; intro a hl
    refine wl (wl_val hl rfl trivial (r_lenS hl rfl slc24) ?_)
    clear hl a; intro a hl
    refine wl (wl_val hl rfl trivial (r_move hl rfl) ?_)
    clear hl a; intro a hl
    refine w_nil ?_
    have hl2 := hl.add (t := 3) (hl.add (t := 4) (hl.add (t := 31) (hl.add (t := 32) (hl.add (t := 33) (hl.nil) rfl) rfl) rfl) rfl) rfl; clear hl; have hl := hl2; clear hl2
    refine then_normal ?_
    refine wp_block ?_
    obtain ⟨KS1, hKS1, hk⟩ := (hl.add (t := 3) (hl.add (t := 4) (hl.add (t := 31) (hl.add (t := 32) (hl.nil) rfl) rfl) rfl) rfl).name
    obtain ⟨HS1, hHS1, hh2⟩ := hh.nameT (A := [(k19, MO kStr (List.map irk z.irs))]) (U := (List.map irB z.irs)) (keeps_cons (b := k19) (o' := MO kStr (List.map irk z.irs)) (by repeat (first | exact find_head | apply find_tail | apply find_skip)) (by first | rfl) ((by repeat (first | exact keeps_nil | exact keeps_self | exact keeps_left | apply keeps_app | apply keeps_mv | apply keeps_skip))))
    refine c_loop (α := RI) (fun y => rs.length - y.i) (fun y a w => (y.i ≤ rs.length ∧ IRI ns y.irs ∧ EdI ((rs.map RV.ru).take y.i) y.irs) ∧ Sl 95 ([(33, .int .i64 (y.i : Int))] ++ KS1) a ∧ Has _ w0 ([(k19, MO kStr (List.map irk y.irs))] ++ (HS1 ++ (List.map irB y.irs))) w) ⟨0, z.irs⟩ ⟨⟨Nat.zero_le _, hz.iri hze, hz.edi _⟩, hl.addE (t := 33) (hk) rfl (by first | rfl), hh2⟩ ?_
    clear hk hh2 hl hh a w
    intro y a w hI
    obtain ⟨⟨hyi, hyI, hyE⟩, hl, hh⟩ := hI
    subst hKS1; subst hHS1
    simp only [List.cons_append, List.nil_append, List.append_nil, List.append_assoc] at hl hh
    refine c_seq ?_
    refine c_region ?_
    refine wl (wl_val hl rfl trivial (r_lss hl rfl rfl) ?_)
    clear hl a; intro a hl
    refine w_nil ?_
    have hl2 := hl.add (t := 3) (hl.add (t := 4) (hl.add (t := 31) (hl.add (t := 32) (hl.add (t := 33) (hl.add (t := 34) (hl.nil) rfl) rfl) rfl) rfl) rfl) rfl; clear hl; have hl := hl2; clear hl2
    refine then_normal ?_
    refine c_seq ?_
    refine c_cond hl rfl ?_ ?_
    · intro hc1
      try simp only [decide_eq_true_eq, decide_eq_false_iff_not, Bool.not_eq_true', Bool.not_eq_false', Bool.not_eq_true, Bool.not_eq_false, Bool.and_eq_true, Bool.or_eq_true, Bool.and_eq_false_iff, Bool.or_eq_false_iff, Bool.not_not, ne_eq, Int.not_lt, Int.not_le, Decidable.not_not, beq_iff_eq, bne_iff_ne] at hc1
      obtain ⟨r, hx⟩ : ∃ r, rs[y.i]? = some r := ⟨_, List.getElem?_eq_getElem (by omega)⟩
      have hrm := List.mem_of_getElem? hx
      have hr := hp.ok r hrm
      have hrE := hpre.each r hrm
      have hrl := hr.len; have hra := hr.hd.len
      obtain ⟨b1, j1, hq1, hE1, hm1⟩ := row_mem hp.row (by omega) hpre.re
      rw [hq1] at hl hh
      have hd1 := fl_at c3_len hx j1
      simp only [RV.c3] at hd1
      refine wp_skip ?_
      refine then_normal ?_
      refine c_seq ?_
      refine wp_block ?_
      refine c_seq ?_
      refine c_region ?_
      refine wl (wl_val hl rfl trivial (r_indexS hl rfl rfl slc24 (by omega) (by omega) (by first | (simp only [Int.reduceToNat]; rfl) | exact toNat_add1 _ | exact toNat_add2 _ _ | exact toNat_emod _ _ | exact Int.toNat_natCast _ | rfl)) ?_)
      clear hl a; intro a hl
      first | refine wl (w_loadA hl hh rfl trivial agg57 rfl (by repeat (first | exact find_head | apply find_tail | apply find_skip)) (by first | (simp only [List.getElem?_cons_zero, List.getElem?_cons_succ, Value.cells, List.take_zero, List.take_succ_cons, List.take_nil, List.drop_zero, List.drop_succ_cons, List.drop_nil, List.length_cons, List.length_nil, List.cons_append, List.nil_append, List.append_nil, Nat.zero_add, Nat.add_zero, Nat.reduceAdd, Nat.reduceBEq, Nat.reduceEqDiff, Nat.ble, BEq.rfl, Bool.and_true, Bool.and_self, cond_true, beq_self_eq_true]; rfl)) (by first | rfl | (simp; done)) ?_) | refine wl (w_loadRA hl hh rfl trivial agg57 rfl hm1 (by simp) hd1 rfl ?_) | refine wl (w_loadRA hl hh rfl trivial agg57 rfl hm2 (by simp) hd2 rfl ?_)
      clear hl a; intro a hl
      refine wl (w_alloc hl hh rfl trivial zero57 rfl ?_)
      clear hl hh a w; intro k8 a w hl hh
      refine wl (w_storeA hl hh trivial agg57 rfl rfl (by repeat (first | exact find_head | apply find_tail | apply find_skip)) (by first | rfl | (simp; done)) (by first | (simp; done) | (simp; omega)) (by first | rfl | (simp; done) | rfl) (by first | (simp only [setL, List.getElem?_cons_zero, List.getElem?_cons_succ, Value.cells, List.take_zero, List.take_succ_cons, List.take_nil, List.drop_zero, List.drop_succ_cons, List.drop_nil, List.length_cons, List.length_nil, List.cons_append, List.nil_append, List.append_nil, Nat.zero_add, Nat.add_zero, Nat.reduceAdd, Nat.reduceBEq, Nat.reduceEqDiff, Nat.ble, BEq.rfl, Bool.and_true, Bool.and_self, cond_true, beq_self_eq_true]; rfl)) ?_)
      clear hh w; intro w hh
      refine w_nil ?_
      have hl2 := hl.add (t := 3) (hl.add (t := 4) (hl.add (t := 8) (hl.add (t := 31) (hl.add (t := 32) (hl.add (t := 33) (hl.nil) rfl) rfl) rfl) rfl) rfl) rfl; clear hl; have hl := hl2; clear hl2
      refine then_normal ?_
      refine c_seq ?_
      refine c_region ?_
      refine wl (wl_val hl rfl trivial (r_field hl rfl fld57_1) ?_)
      clear hl a; intro a hl
      first | refine wl (w_load hl hh rfl trivial one55 rfl (by repeat (first | exact find_head | apply find_tail | apply find_skip)) (by first | rfl) ?_) | refine wl (wl_val hl rfl trivial (r_load hl rfl one55 (hh.mem _ _ (by repeat (first | exact hmemn | exact List.mem_append_left _ hmemn | apply List.mem_cons_of_mem | apply List.mem_append_right))) (List.getElem?_toArray.trans (by first | exact fcS hna0 jn | exact fcS hnb0 jn | exact fcS hna1 jn | exact fcS hnc0 jn))) ?_)
      clear hl a; intro a hl
      refine wl (wl_val hl rfl trivial (r_lenS hl rfl slc55) ?_)
      clear hl a; intro a hl
      refine wl (wl_val hl rfl trivial (r_move hl rfl) ?_)
      clear hl a; intro a hl
      refine w_nil ?_
      have hl2 := hl.add (t := 3) (hl.add (t := 4) (hl.add (t := 8) (hl.add (t := 31) (hl.add (t := 32) (hl.add (t := 33) (hl.add (t := 38) (hl.add (t := 39) (hl.add (t := 40) (hl.nil) rfl) rfl) rfl) rfl) rfl) rfl) rfl) rfl) rfl; clear hl; have hl := hl2; clear hl2
      refine then_normal ?_
      refine wp_block ?_
      obtain ⟨KS2, hKS2, hk⟩ := (hl.add (t := 3) (hl.add (t := 4) (hl.add (t := 8) (hl.add (t := 31) (hl.add (t := 32) (hl.add (t := 33) (hl.add (t := 38) (hl.add (t := 39) (hl.nil) rfl) rfl) rfl) rfl) rfl) rfl) rfl) rfl).name
      obtain ⟨HS2, hHS2, hh2⟩ := hh.nameT (A := [(k19, MO kStr (List.map irk y.irs))]) (U := (List.map irB y.irs)) (keeps_cons (b := k19) (o' := MO kStr (List.map irk y.irs)) (by repeat (first | exact find_head | apply find_tail | apply find_skip)) (by first | rfl) ((by repeat (first | exact keeps_nil | exact keeps_self | exact keeps_left | apply keeps_app | apply keeps_mv | apply keeps_skip))))
      refine c_loop (α := RI) (fun u => r.ls.length - u.i) (fun u a w => (u.i ≤ r.ls.length ∧ IRI ns u.irs ∧ EdK (rs.map RV.ru) y.i r.ru u.i u.irs) ∧ Sl 95 ([(40, .int .i64 (u.i : Int))] ++ KS2) a ∧ Has _ w0 ([(k19, MO kStr (List.map irk u.irs))] ++ (HS2 ++ (List.map irB u.irs))) w) ⟨0, y.irs⟩ ⟨⟨Nat.zero_le _, hyI, hyE.into _⟩, hl.addE (t := 40) (hk) rfl (by first | rfl), hh2⟩ ?_
      clear hk hh2 hl hh a w
      intro u a w hI
      obtain ⟨⟨hui, huI, huE⟩, hl, hh⟩ := hI
      subst hKS2; subst hHS2
      simp only [List.cons_append, List.nil_append, List.append_nil, List.append_assoc] at hl hh
      refine c_seq ?_
      refine c_region ?_
      refine wl (wl_val hl rfl trivial (r_lss hl rfl rfl) ?_)
      clear hl a; intro a hl
      refine w_nil ?_
      have hl2 := hl.add (t := 3) (hl.add (t := 4) (hl.add (t := 8) (hl.add (t := 31) (hl.add (t := 32) (hl.add (t := 33) (hl.add (t := 38) (hl.add (t := 39) (hl.add (t := 40) (hl.add (t := 41) (hl.nil) rfl) rfl) rfl) rfl) rfl) rfl) rfl) rfl) rfl) rfl; clear hl; have hl := hl2; clear hl2
      refine then_normal ?_
      refine c_seq ?_
      refine c_cond hl rfl ?_ ?_
      · intro hc2
        try simp only [decide_eq_true_eq, decide_eq_false_iff_not, Bool.not_eq_true', Bool.not_eq_false', Bool.not_eq_true, Bool.not_eq_false, Bool.and_eq_true, Bool.or_eq_true, Bool.and_eq_false_iff, Bool.or_eq_false_iff, Bool.not_not, ne_eq, Int.not_lt, Int.not_le, Decidable.not_not, beq_iff_eq, bne_iff_ne] at hc2
        obtain ⟨x, hxx⟩ : ∃ x, r.ls[u.i]? = some x := ⟨_, List.getElem?_eq_getElem (by omega)⟩
        have hxm := List.mem_of_getElem? hxx
        have hxo := hr.ls x hxm
        have hxE := RV.ml hrE hxm
        have hxa := hxo.ags.len
        obtain ⟨b2, j2, hq2, hE2, hm2⟩ := row_mem hr.bd (by omega) (RV.mb hrE)
        rw [hq2] at hl hh
        have hd2 := fl_at c4_len hxx j2
        simp only [LV.c4] at hd2
        refine wp_skip ?_
        refine then_normal ?_
        refine c_seq ?_
        refine wp_block ?_
        refine c_seq ?_
        refine c_region ?_
        refine wl (wl_val hl rfl trivial (r_indexS hl rfl rfl slc55 (by omega) (by omega) (by first | (simp only [Int.reduceToNat]; rfl) | exact toNat_add1 _ | exact toNat_add2 _ _ | exact toNat_emod _ _ | exact Int.toNat_natCast _ | rfl)) ?_)
        clear hl a; intro a hl
        first | refine wl (w_loadA hl hh rfl trivial agg48 rfl (by repeat (first | exact find_head | apply find_tail | apply find_skip)) (by first | (simp only [List.getElem?_cons_zero, List.getElem?_cons_succ, Value.cells, List.take_zero, List.take_succ_cons, List.take_nil, List.drop_zero, List.drop_succ_cons, List.drop_nil, List.length_cons, List.length_nil, List.cons_append, List.nil_append, List.append_nil, Nat.zero_add, Nat.add_zero, Nat.reduceAdd, Nat.reduceBEq, Nat.reduceEqDiff, Nat.ble, BEq.rfl, Bool.and_true, Bool.and_self, cond_true, beq_self_eq_true]; rfl)) (by first | rfl | (simp; done)) ?_) | refine wl (w_loadRA hl hh rfl trivial agg48 rfl hm1 (by simp) hd1 rfl ?_) | refine wl (w_loadRA hl hh rfl trivial agg48 rfl hm2 (by simp) hd2 rfl ?_)
        clear hl a; intro a hl
        refine wl (w_alloc hl hh rfl trivial zero48 rfl ?_)
        clear hl hh a w; intro k10 a w hl hh
        refine wl (w_storeA hl hh trivial agg48 rfl rfl (by repeat (first | exact find_head | apply find_tail | apply find_skip)) (by first | rfl | (simp; done)) (by first | (simp; done) | (simp; omega)) (by first | rfl | (simp; done) | rfl) (by first | (simp only [setL, List.getElem?_cons_zero, List.getElem?_cons_succ, Value.cells, List.take_zero, List.take_succ_cons, List.take_nil, List.drop_zero, List.drop_succ_cons, List.drop_nil, List.length_cons, List.length_nil, List.cons_append, List.nil_append, List.append_nil, Nat.zero_add, Nat.add_zero, Nat.reduceAdd, Nat.reduceBEq, Nat.reduceEqDiff, Nat.ble, BEq.rfl, Bool.and_true, Bool.and_self, cond_true, beq_self_eq_true]; rfl)) ?_)
        clear hh w; intro w hh
        refine w_nil ?_
        have hl2 := hl.add (t := 3) (hl.add (t := 4) (hl.add (t := 8) (hl.add (t := 10) (hl.add (t := 31) (hl.add (t := 32) (hl.add (t := 33) (hl.add (t := 38) (hl.add (t := 39) (hl.add (t := 40) (hl.nil) rfl) rfl) rfl) rfl) rfl) rfl) rfl) rfl) rfl) rfl; clear hl; have hl := hl2; clear hl2
        refine then_normal ?_
        refine c_seq ?_
        refine c_region ?_
        refine wl (wl_val hl rfl trivial (r_field hl rfl fld48_0) ?_)
        clear hl a; intro a hl
        first | refine wl (w_load hl hh rfl trivial one44 rfl (by repeat (first | exact find_head | apply find_tail | apply find_skip)) (by first | rfl) ?_) | refine wl (wl_val hl rfl trivial (r_load hl rfl one44 (hh.mem _ _ (by repeat (first | exact hmemn | exact List.mem_append_left _ hmemn | apply List.mem_cons_of_mem | apply List.mem_append_right))) (List.getElem?_toArray.trans (by first | exact fcS hna0 jn | exact fcS hnb0 jn | exact fcS hna1 jn | exact fcS hnc0 jn))) ?_)
        clear hl a; intro a hl
        refine wl (wl_val hl rfl trivial (r_neq hl rfl rfl) ?_)
        clear hl a; intro a hl
        refine w_nil ?_
        have hl2 := hl.add (t := 3) (hl.add (t := 4) (hl.add (t := 8) (hl.add (t := 10) (hl.add (t := 31) (hl.add (t := 32) (hl.add (t := 33) (hl.add (t := 38) (hl.add (t := 39) (hl.add (t := 40) (hl.add (t := 46) (hl.nil) rfl) rfl) rfl) rfl) rfl) rfl) rfl) rfl) rfl) rfl) rfl; clear hl; have hl := hl2; clear hl2
        refine then_normal ?_
        refine c_cond hl rfl ?_ ?_
        · intro hc3
          try simp only [decide_eq_true_eq, decide_eq_false_iff_not, Bool.not_eq_true', Bool.not_eq_false', Bool.not_eq_true, Bool.not_eq_false, Bool.and_eq_true, Bool.or_eq_true, Bool.and_eq_false_iff, Bool.or_eq_false_iff, Bool.not_not, ne_eq, Int.not_lt, Int.not_le, Decidable.not_not, beq_iff_eq, bne_iff_ne] at hc3
          obtain ⟨m, q, hqm, hqn9⟩ := huI.at_ ((hN.mem r.p).2 ⟨r.ru, List.mem_map.2 ⟨r, hrm, rfl⟩, .inl rfl⟩)
          have hgA := ir_get (huI.nd hN.nd) (List.mem_of_getElem? hqm) hqn9
          obtain ⟨RS, hp1, hp2⟩ := ir_split hqm
          have hh9 := has_sw hh (A := (List.map irB u.irs)) (by repeat (first | exact keeps_nil | apply keeps_cons (by repeat (first | exact find_head | apply find_tail | apply find_skip)) (by first  | rfl) | exact keeps_self | exact keeps_left | apply keeps_app | apply keeps_mv | apply keeps_skip)) hp1
          clear hh; have hh := hh9; clear hh9
          try simp only [List.append_assoc, List.cons_append, List.nil_append] at hh
          refine c_region ?_
          refine wl (wl_val hl rfl trivial (r_move hl rfl) ?_)
          clear hl a; intro a hl
          refine wl (wl_val hl rfl trivial (r_field hl rfl fld57_0) ?_)
          clear hl a; intro a hl
          refine wl (wl_val hl rfl trivial (r_field hl rfl fld46_0) ?_)
          clear hl a; intro a hl
          first | refine wl (w_load hl hh rfl trivial one9 rfl (by repeat (first | exact find_head | apply find_tail | apply find_skip)) (by first | rfl) ?_) | refine wl (wl_val hl rfl trivial (r_load hl rfl one9 (hh.mem _ _ (by repeat (first | exact hmemn | exact List.mem_append_left _ hmemn | apply List.mem_cons_of_mem | apply List.mem_append_right))) (List.getElem?_toArray.trans (by first | exact fcS hna0 jn | exact fcS hnb0 jn | exact fcS hna1 jn | exact fcS hnc0 jn))) ?_)
          clear hl a; intro a hl
          refine wl (w_lookup (keyStr Tryz.underlying9) Tryz.underlying145 zero147 hl hh rfl trivial rfl rfl (by repeat (first | exact find_head | apply find_tail | apply find_skip)) ?_)
          clear hl a; intro a hl
          rw [hgA] at hl
          refine wl (wl_val hl rfl trivial (r_field hl rfl fld48_2) ?_)
          clear hl a; intro a hl
          refine wl (wl_val hl rfl trivial (r_field hl rfl fld46_0) ?_)
          clear hl a; intro a hl
          first | refine wl (w_load hl hh rfl trivial one9 rfl (by repeat (first | exact find_head | apply find_tail | apply find_skip)) (by first | rfl) ?_) | refine wl (wl_val hl rfl trivial (r_load hl rfl one9 (hh.mem _ _ (by repeat (first | exact hmemn | exact List.mem_append_left _ hmemn | apply List.mem_cons_of_mem | apply List.mem_append_right))) (List.getElem?_toArray.trans (by first | exact fcS hna0 jn | exact fcS hnb0 jn | exact fcS hna1 jn | exact fcS hnc0 jn))) ?_)
          clear hl a; intro a hl
          refine wl (w_mapUpdate (keyStr Tryz.underlying9) Tryz.underlying147 hl hh trivial rfl rfl rfl (by repeat (first | exact find_head | apply find_tail | apply find_skip)) ?_)
          clear hh w; intro w hh
          refine w_nil ?_
          have hl2 := hl.add (t := 3) (hl.add (t := 4) (hl.add (t := 8) (hl.add (t := 31) (hl.add (t := 32) (hl.add (t := 33) (hl.add (t := 38) (hl.add (t := 39) (hl.add (t := 40) (hl.nil) rfl) rfl) rfl) rfl) rfl) rfl) rfl) rfl) rfl; clear hl; have hl := hl2; clear hl2
          have hh9 := has_sw hh (A := ((q.b, MO kStr (mput q.l x.l.p (.bool true))) :: RS)) (by repeat (first | exact keeps_nil | apply keeps_cons (by repeat (first | exact find_head | apply find_tail | apply find_skip)) (by first  | rfl) | exact keeps_self | exact keeps_left | apply keeps_app | apply keeps_mv | apply keeps_skip)) (hp2 x.l.p)
          clear hh; have hh := hh9; clear hh9
          try simp only [List.append_assoc, List.cons_append, List.nil_append] at hh
          refine blk_normal ?_
          refine then_normal ?_
          refine c_region ?_
          first | refine wl (wl_val hl rfl trivial (r_add hl rfl rfl (by simp only [Fits]; omega)) ?_) | refine wl (wl_val hl rfl trivial (r_addW hl rfl rfl) ?_)
          clear hl a; intro a hl
          refine wl (wl_val hl rfl trivial (r_move hl rfl) ?_)
          clear hl a; intro a hl
          refine w_nil ?_
          have hl2 := hl.add (t := 3) (hl.add (t := 4) (hl.add (t := 8) (hl.add (t := 31) (hl.add (t := 32) (hl.add (t := 33) (hl.add (t := 38) (hl.add (t := 39) (hl.add (t := 40) (hl.nil) rfl) rfl) rfl) rfl) rfl) rfl) rfl) rfl) rfl; clear hl; have hl := hl2; clear hl2
          refine then_normal ?_
          refine ⟨⟨u.i + 1, irS u.irs m q x.l.p⟩, (by simp only; omega), ⟨by simp only; omega, huI.put hqm _, huE.hit (lt_at hxx) hc3 hqm hqn9⟩, hl.addE (t := 40) (hl.addE (t := 3) (hl.addE (t := 4) (hl.addE (t := 8) (hl.addE (t := 31) (hl.addE (t := 32) (hl.addE (t := 33) (hl.addE (t := 38) (hl.addE (t := 39) (hl.nil) rfl (by first | rfl | exact congrArg (Value.int .i64) (show (u.i : Int) + 1 = ((u.i + 1 : Nat) : Int) by omega) | (rw [hq2]))) rfl (by first | rfl | exact congrArg (Value.int .i64) (show (u.i : Int) + 1 = ((u.i + 1 : Nat) : Int) by omega) | (rw [hq2]))) rfl (by first | rfl | exact congrArg (Value.int .i64) (show (u.i : Int) + 1 = ((u.i + 1 : Nat) : Int) by omega) | (rw [hq2]))) rfl (by first | rfl | exact congrArg (Value.int .i64) (show (u.i : Int) + 1 = ((u.i + 1 : Nat) : Int) by omega) | (rw [hq2]))) rfl (by first | rfl | exact congrArg (Value.int .i64) (show (u.i : Int) + 1 = ((u.i + 1 : Nat) : Int) by omega) | (rw [hq2]))) rfl (by first | rfl | exact congrArg (Value.int .i64) (show (u.i : Int) + 1 = ((u.i + 1 : Nat) : Int) by omega) | (rw [hq2]))) rfl (by first | rfl | exact congrArg (Value.int .i64) (show (u.i : Int) + 1 = ((u.i + 1 : Nat) : Int) by omega) | (rw [hq2]))) rfl (by first | rfl | exact congrArg (Value.int .i64) (show (u.i : Int) + 1 = ((u.i + 1 : Nat) : Int) by omega) | (rw [hq2]))) rfl (by first | rfl | exact congrArg (Value.int .i64) (show (u.i : Int) + 1 = ((u.i + 1 : Nat) : Int) by omega) | (rw [hq2])), hh.keep (by repeat (first | exact keeps_nil | apply keeps_cons (by repeat (first | exact find_head | apply find_tail | apply find_skip)) (by first  | (rw [hq2]) | (rw [irS_k hqm]) | rfl) | exact keeps_self | exact keeps_left | apply keeps_app | apply keeps_mv | apply keeps_skip))⟩
        · intro hc3
          try simp only [decide_eq_true_eq, decide_eq_false_iff_not, Bool.not_eq_true', Bool.not_eq_false', Bool.not_eq_true, Bool.not_eq_false, Bool.and_eq_true, Bool.or_eq_true, Bool.and_eq_false_iff, Bool.or_eq_false_iff, Bool.not_not, ne_eq, Int.not_lt, Int.not_le, Decidable.not_not, beq_iff_eq, bne_iff_ne] at hc3
          refine wp_skip ?_
          refine blk_normal ?_
          refine then_normal ?_
          refine c_region ?_
          first | refine wl (wl_val hl rfl trivial (r_add hl rfl rfl (by simp only [Fits]; omega)) ?_) | refine wl (wl_val hl rfl trivial (r_addW hl rfl rfl) ?_)
          clear hl a; intro a hl
          refine wl (wl_val hl rfl trivial (r_move hl rfl) ?_)
          clear hl a; intro a hl
          refine w_nil ?_
          have hl2 := hl.add (t := 3) (hl.add (t := 4) (hl.add (t := 8) (hl.add (t := 31) (hl.add (t := 32) (hl.add (t := 33) (hl.add (t := 38) (hl.add (t := 39) (hl.add (t := 40) (hl.nil) rfl) rfl) rfl) rfl) rfl) rfl) rfl) rfl) rfl; clear hl; have hl := hl2; clear hl2
          refine then_normal ?_
          refine ⟨⟨u.i + 1, u.irs⟩, (by simp only; omega), ⟨by simp only; omega, huI, huE.miss (lt_at hxx) hc3⟩, hl.addE (t := 40) (hl.addE (t := 3) (hl.addE (t := 4) (hl.addE (t := 8) (hl.addE (t := 31) (hl.addE (t := 32) (hl.addE (t := 33) (hl.addE (t := 38) (hl.addE (t := 39) (hl.nil) rfl (by first | rfl | exact congrArg (Value.int .i64) (show (u.i : Int) + 1 = ((u.i + 1 : Nat) : Int) by omega) | (rw [hq2]))) rfl (by first | rfl | exact congrArg (Value.int .i64) (show (u.i : Int) + 1 = ((u.i + 1 : Nat) : Int) by omega) | (rw [hq2]))) rfl (by first | rfl | exact congrArg (Value.int .i64) (show (u.i : Int) + 1 = ((u.i + 1 : Nat) : Int) by omega) | (rw [hq2]))) rfl (by first | rfl | exact congrArg (Value.int .i64) (show (u.i : Int) + 1 = ((u.i + 1 : Nat) : Int) by omega) | (rw [hq2]))) rfl (by first | rfl | exact congrArg (Value.int .i64) (show (u.i : Int) + 1 = ((u.i + 1 : Nat) : Int) by omega) | (rw [hq2]))) rfl (by first | rfl | exact congrArg (Value.int .i64) (show (u.i : Int) + 1 = ((u.i + 1 : Nat) : Int) by omega) | (rw [hq2]))) rfl (by first | rfl | exact congrArg (Value.int .i64) (show (u.i : Int) + 1 = ((u.i + 1 : Nat) : Int) by omega) | (rw [hq2]))) rfl (by first | rfl | exact congrArg (Value.int .i64) (show (u.i : Int) + 1 = ((u.i + 1 : Nat) : Int) by omega) | (rw [hq2]))) rfl (by first | rfl | exact congrArg (Value.int .i64) (show (u.i : Int) + 1 = ((u.i + 1 : Nat) : Int) by omega) | (rw [hq2])), hh.keep (by repeat (first | exact keeps_nil | apply keeps_cons (by repeat (first | exact find_head | apply find_tail | apply find_skip)) (by first  | (rw [hq2]) | (rw [irS_k hqm]) | rfl) | exact keeps_self | exact keeps_left | apply keeps_app | apply keeps_mv | apply keeps_skip))⟩
      · intro hc2
        try simp only [decide_eq_true_eq, decide_eq_false_iff_not, Bool.not_eq_true', Bool.not_eq_false', Bool.not_eq_true, Bool.not_eq_false, Bool.and_eq_true, Bool.or_eq_true, Bool.and_eq_false_iff, Bool.or_eq_false_iff, Bool.not_not, ne_eq, Int.not_lt, Int.not_le, Decidable.not_not, beq_iff_eq, bne_iff_ne] at hc2
        have hue : u.i = r.ls.length := by omega
        refine wp_exit ?_
        refine then_exit ?_
        refine then_exit ?_
        refine blk_exit ?_
        refine blk_normal ?_
        refine then_normal ?_
        refine c_region ?_
        first | refine wl (wl_val hl rfl trivial (r_add hl rfl rfl (by simp only [Fits]; omega)) ?_) | refine wl (wl_val hl rfl trivial (r_addW hl rfl rfl) ?_)
        clear hl a; intro a hl
        refine wl (wl_val hl rfl trivial (r_move hl rfl) ?_)
        clear hl a; intro a hl
        refine w_nil ?_
        have hl2 := hl.add (t := 3) (hl.add (t := 4) (hl.add (t := 31) (hl.add (t := 32) (hl.add (t := 33) (hl.nil) rfl) rfl) rfl) rfl) rfl; clear hl; have hl := hl2; clear hl2
        refine then_normal ?_
        refine ⟨⟨y.i + 1, u.irs⟩, (by simp only; omega), ⟨by simp only; omega, huI, huE.out (ru_at hx) (by unfold RV.ru; rw [List.length_map]; exact hue)⟩, hl.addE (t := 33) (hl.addE (t := 3) (hl.addE (t := 4) (hl.addE (t := 31) (hl.addE (t := 32) (hl.nil) rfl (by first | rfl | exact congrArg (Value.int .i64) (show (y.i : Int) + 1 = ((y.i + 1 : Nat) : Int) by omega) | (rw [hq1]))) rfl (by first | rfl | exact congrArg (Value.int .i64) (show (y.i : Int) + 1 = ((y.i + 1 : Nat) : Int) by omega) | (rw [hq1]))) rfl (by first | rfl | exact congrArg (Value.int .i64) (show (y.i : Int) + 1 = ((y.i + 1 : Nat) : Int) by omega) | (rw [hq1]))) rfl (by first | rfl | exact congrArg (Value.int .i64) (show (y.i : Int) + 1 = ((y.i + 1 : Nat) : Int) by omega) | (rw [hq1]))) rfl (by first | rfl | exact congrArg (Value.int .i64) (show (y.i : Int) + 1 = ((y.i + 1 : Nat) : Int) by omega) | (rw [hq1])), hh.keep (by repeat (first | exact keeps_nil | apply keeps_cons (by repeat (first | exact find_head | apply find_tail | apply find_skip)) (by first  | (rw [hq1]) | rfl) | exact keeps_self | exact keeps_left | apply keeps_app | apply keeps_mv | apply keeps_skip))⟩
    · intro hc1
      try simp only [decide_eq_true_eq, decide_eq_false_iff_not, Bool.not_eq_true', Bool.not_eq_false', Bool.not_eq_true, Bool.not_eq_false, Bool.and_eq_true, Bool.or_eq_true, Bool.and_eq_false_iff, Bool.or_eq_false_iff, Bool.not_not, ne_eq, Int.not_lt, Int.not_le, Decidable.not_not, beq_iff_eq, bne_iff_ne] at hc1
      have hye : y.i = rs.length := by omega
      rw [hye, take_all (l := (rs.map RV.ru)) (by rw [List.length_map])] at hyE
      refine wp_exit ?_
      refine then_exit ?_
      refine then_exit ?_
      refine blk_exit ?_
      refine then_normal ?_
      refine c_seq ?_
      refine c_seq ?_
      refine c_region ?_
      refine wl (wl_val hl rfl trivial (r_move hl rfl) ?_)
      clear hl a; intro a hl
      refine wl (wl_val hl rfl trivial (r_lenS hl rfl slc89) ?_)
      clear hl a; intro a hl
      refine wl (wl_val hl rfl trivial (r_move hl rfl) ?_)
      clear hl a; intro a hl
      refine w_nil ?_
      have hl2 := hl.add (t := 3) (hl.add (t := 4) (hl.add (t := 57) (hl.add (t := 58) (hl.add (t := 59) (hl.nil) rfl) rfl) rfl) rfl) rfl; clear hl; have hl := hl2; clear hl2
      refine then_normal ?_
      refine wp_block ?_
      obtain ⟨KS3, hKS3, hk⟩ := (hl.add (t := 3) (hl.add (t := 4) (hl.add (t := 57) (hl.add (t := 58) (hl.nil) rfl) rfl) rfl) rfl).name
      obtain ⟨HS3, hHS3, hh2⟩ := hh.nameT (A := [(k19, MO kStr (List.map irk y.irs))]) (U := (List.map irB y.irs)) (keeps_cons (b := k19) (o' := MO kStr (List.map irk y.irs)) (by repeat (first | exact find_head | apply find_tail | apply find_skip)) (by first | rfl) ((by repeat (first | exact keeps_nil | exact keeps_self | exact keeps_left | apply keeps_app | apply keeps_mv | apply keeps_skip))))
      refine c_loop (α := RI) (fun s => ns.length - s.i) (fun s a w => (s.i ≤ ns.length ∧ IRI ns s.irs ∧ WsI (rs.map RV.ru) s.irs (fun x => x ∈ ns.take s.i)) ∧ Sl 95 ([(59, .int .i64 (s.i : Int))] ++ KS3) a ∧ Has _ w0 ([(k19, MO kStr (List.map irk s.irs))] ++ (HS3 ++ (List.map irB s.irs))) w) ⟨0, y.irs⟩ ⟨⟨Nat.zero_le _, hyI, hyE.ws⟩, hl.addE (t := 59) (hk) rfl (by first | rfl), hh2⟩ ?_
      clear hk hh2 hl hh a w
      intro s a w hI
      obtain ⟨⟨hsi, hsI, hsW⟩, hl, hh⟩ := hI
      subst hKS3; subst hHS3
      simp only [List.cons_append, List.nil_append, List.append_nil, List.append_assoc] at hl hh
      refine c_seq ?_
      refine c_region ?_
      refine wl (wl_val hl rfl trivial (r_lss hl rfl rfl) ?_)
      clear hl a; intro a hl
      refine w_nil ?_
      have hl2 := hl.add (t := 3) (hl.add (t := 4) (hl.add (t := 57) (hl.add (t := 58) (hl.add (t := 59) (hl.add (t := 60) (hl.nil) rfl) rfl) rfl) rfl) rfl) rfl; clear hl; have hl := hl2; clear hl2
      refine then_normal ?_
      refine c_seq ?_
      refine c_cond hl rfl ?_ ?_
      · intro hc4
        try simp only [decide_eq_true_eq, decide_eq_false_iff_not, Bool.not_eq_true', Bool.not_eq_false', Bool.not_eq_true, Bool.not_eq_false, Bool.and_eq_true, Bool.or_eq_true, Bool.and_eq_false_iff, Bool.or_eq_false_iff, Bool.not_not, ne_eq, Int.not_lt, Int.not_le, Decidable.not_not, beq_iff_eq, bne_iff_ne] at hc4
        obtain ⟨c0, hnc0⟩ : ∃ a, ns[s.i]? = some a := ⟨_, List.getElem?_eq_getElem (by omega)⟩
        obtain ⟨bn, jn, hqn, hjln, hjcn, hEn⟩ := row_pos hNR (by omega)
        have hmemn : (bn, C (fl stc ns ++ jn) 9) ∈ nE := by rw [hEn]; exact List.mem_singleton.2 rfl
        rw [hqn] at hl
        refine wp_skip ?_
        refine then_normal ?_
        refine c_seq ?_
        refine wp_block ?_
        refine c_seq ?_
        refine c_region ?_
        refine wl (wl_val hl rfl trivial (r_indexS hl rfl rfl slc89 (by omega) (by omega) (by first | (simp only [Int.reduceToNat]; rfl) | exact toNat_add1 _ | exact toNat_add2 _ _ | exact toNat_emod _ _ | exact Int.toNat_natCast _ | rfl)) ?_)
        clear hl a; intro a hl
        first | refine wl (w_load hl hh rfl trivial one9 rfl (by repeat (first | exact find_head | apply find_tail | apply find_skip)) (by first | rfl) ?_) | refine wl (wl_val hl rfl trivial (r_load hl rfl one9 (hh.mem _ _ (by repeat (first | exact hmemn | exact List.mem_append_left _ hmemn | apply List.mem_cons_of_mem | apply List.mem_append_right))) (List.getElem?_toArray.trans (by first | exact fcS hna0 jn | exact fcS hnb0 jn | exact fcS hna1 jn | exact fcS hnc0 jn))) ?_)
        clear hl a; intro a hl
        refine wl (wl_val hl rfl trivial (r_assign hl rfl) ?_)
        clear hl a; intro a hl
        refine w_nil ?_
        have hl2 := hl.add (t := 3) (hl.add (t := 4) (hl.add (t := 12) (hl.add (t := 57) (hl.add (t := 58) (hl.add (t := 59) (hl.nil) rfl) rfl) rfl) rfl) rfl) rfl; clear hl; have hl := hl2; clear hl2
        refine then_normal ?_
        refine c_seq ?_
        refine c_region ?_
        refine wl (wl_val hl rfl trivial (r_move hl rfl) ?_)
        clear hl a; intro a hl
        refine wl (wl_val hl rfl trivial (r_lenS hl rfl slc89) ?_)
        clear hl a; intro a hl
        refine wl (wl_val hl rfl trivial (r_move hl rfl) ?_)
        clear hl a; intro a hl
        refine w_nil ?_
        have hl2 := hl.add (t := 3) (hl.add (t := 4) (hl.add (t := 12) (hl.add (t := 57) (hl.add (t := 58) (hl.add (t := 59) (hl.add (t := 63) (hl.add (t := 64) (hl.add (t := 65) (hl.nil) rfl) rfl) rfl) rfl) rfl) rfl) rfl) rfl) rfl; clear hl; have hl := hl2; clear hl2
        refine then_normal ?_
        refine wp_block ?_
        obtain ⟨KS4, hKS4, hk⟩ := (hl.add (t := 3) (hl.add (t := 4) (hl.add (t := 12) (hl.add (t := 57) (hl.add (t := 58) (hl.add (t := 59) (hl.add (t := 63) (hl.add (t := 64) (hl.nil) rfl) rfl) rfl) rfl) rfl) rfl) rfl) rfl).name
        obtain ⟨HS4, hHS4, hh2⟩ := hh.nameT (A := [(k19, MO kStr (List.map irk s.irs))]) (U := (List.map irB s.irs)) (keeps_cons (b := k19) (o' := MO kStr (List.map irk s.irs)) (by repeat (first | exact find_head | apply find_tail | apply find_skip)) (by first | rfl) ((by repeat (first | exact keeps_nil | exact keeps_self | exact keeps_left | apply keeps_app | apply keeps_mv | apply keeps_skip))))
        refine c_loop (α := RI) (fun t => ns.length - t.i) (fun t a w => (t.i ≤ ns.length ∧ IRI ns t.irs ∧ WsJ (rs.map RV.ru) ns s.irs t.irs c0 t.i) ∧ Sl 95 ([(65, .int .i64 (t.i : Int))] ++ KS4) a ∧ Has _ w0 ([(k19, MO kStr (List.map irk t.irs))] ++ (HS4 ++ (List.map irB t.irs))) w) ⟨0, s.irs⟩ ⟨⟨Nat.zero_le _, hsI, hsW.into ns c0⟩, hl.addE (t := 65) (hk) rfl (by first | rfl), hh2⟩ ?_
        clear hk hh2 hl hh a w
        intro t a w hI
        obtain ⟨⟨hti, htI, htW⟩, hl, hh⟩ := hI
        subst hKS4; subst hHS4
        simp only [List.cons_append, List.nil_append, List.append_nil, List.append_assoc] at hl hh
        refine c_seq ?_
        refine c_region ?_
        refine wl (wl_val hl rfl trivial (r_lss hl rfl rfl) ?_)
        clear hl a; intro a hl
        refine w_nil ?_
        have hl2 := hl.add (t := 3) (hl.add (t := 4) (hl.add (t := 12) (hl.add (t := 57) (hl.add (t := 58) (hl.add (t := 59) (hl.add (t := 63) (hl.add (t := 64) (hl.add (t := 65) (hl.add (t := 66) (hl.nil) rfl) rfl) rfl) rfl) rfl) rfl) rfl) rfl) rfl) rfl; clear hl; have hl := hl2; clear hl2
        refine then_normal ?_
        refine c_seq ?_
        refine c_cond hl rfl ?_ ?_
        · intro hc5
          try simp only [decide_eq_true_eq, decide_eq_false_iff_not, Bool.not_eq_true', Bool.not_eq_false', Bool.not_eq_true, Bool.not_eq_false, Bool.and_eq_true, Bool.or_eq_true, Bool.and_eq_false_iff, Bool.or_eq_false_iff, Bool.not_not, ne_eq, Int.not_lt, Int.not_le, Decidable.not_not, beq_iff_eq, bne_iff_ne] at hc5
          obtain ⟨a1, hna1⟩ : ∃ a, ns[t.i]? = some a := ⟨_, List.getElem?_eq_getElem (by omega)⟩
          refine wp_skip ?_
          refine then_normal ?_
          refine c_seq ?_
          refine wp_block ?_
          refine c_seq ?_
          refine c_region ?_
          refine wl (wl_val hl rfl trivial (r_indexS hl rfl rfl slc89 (by omega) (by omega) (by first | (simp only [Int.reduceToNat]; rfl) | exact toNat_add1 _ | exact toNat_add2 _ _ | exact toNat_emod _ _ | exact Int.toNat_natCast _ | rfl)) ?_)
          clear hl a; intro a hl
          first | refine wl (w_load hl hh rfl trivial one9 rfl (by repeat (first | exact find_head | apply find_tail | apply find_skip)) (by first | rfl) ?_) | refine wl (wl_val hl rfl trivial (r_load hl rfl one9 (hh.mem _ _ (by repeat (first | exact hmemn | exact List.mem_append_left _ hmemn | apply List.mem_cons_of_mem | apply List.mem_append_right))) (List.getElem?_toArray.trans (by first | exact fcS hna0 jn | exact fcS hnb0 jn | exact fcS hna1 jn | exact fcS hnc0 jn))) ?_)
          clear hl a; intro a hl
          refine wl (wl_val hl rfl trivial (r_assign hl rfl) ?_)
          clear hl a; intro a hl
          refine w_nil ?_
          have hl2 := hl.add (t := 3) (hl.add (t := 4) (hl.add (t := 12) (hl.add (t := 14) (hl.add (t := 57) (hl.add (t := 58) (hl.add (t := 59) (hl.add (t := 63) (hl.add (t := 64) (hl.add (t := 65) (hl.nil) rfl) rfl) rfl) rfl) rfl) rfl) rfl) rfl) rfl) rfl; clear hl; have hl := hl2; clear hl2
          refine then_normal ?_
          refine c_seq ?_
          refine c_region ?_
          refine wl (wl_val hl rfl trivial (r_move hl rfl) ?_)
          clear hl a; intro a hl
          refine wl (wl_val hl rfl trivial (r_lenS hl rfl slc89) ?_)
          clear hl a; intro a hl
          refine wl (wl_val hl rfl trivial (r_move hl rfl) ?_)
          clear hl a; intro a hl
          refine w_nil ?_
          have hl2 := hl.add (t := 3) (hl.add (t := 4) (hl.add (t := 12) (hl.add (t := 14) (hl.add (t := 57) (hl.add (t := 58) (hl.add (t := 59) (hl.add (t := 63) (hl.add (t := 64) (hl.add (t := 65) (hl.add (t := 69) (hl.add (t := 70) (hl.add (t := 71) (hl.nil) rfl) rfl) rfl) rfl) rfl) rfl) rfl) rfl) rfl) rfl) rfl) rfl) rfl; clear hl; have hl := hl2; clear hl2
          refine then_normal ?_
          refine wp_block ?_
          obtain ⟨KS5, hKS5, hk⟩ := (hl.add (t := 3) (hl.add (t := 4) (hl.add (t := 12) (hl.add (t := 14) (hl.add (t := 57) (hl.add (t := 58) (hl.add (t := 59) (hl.add (t := 63) (hl.add (t := 64) (hl.add (t := 65) (hl.add (t := 69) (hl.add (t := 70) (hl.nil) rfl) rfl) rfl) rfl) rfl) rfl) rfl) rfl) rfl) rfl) rfl) rfl).name
          obtain ⟨HS5, hHS5, hh2⟩ := hh.nameT (A := [(k19, MO kStr (List.map irk t.irs))]) (U := (List.map irB t.irs)) (keeps_cons (b := k19) (o' := MO kStr (List.map irk t.irs)) (by repeat (first | exact find_head | apply find_tail | apply find_skip)) (by first | rfl) ((by repeat (first | exact keeps_nil | exact keeps_self | exact keeps_left | apply keeps_app | apply keeps_mv | apply keeps_skip))))
          refine c_loop (α := RI) (fun v => ns.length - v.i) (fun v a w => (v.i ≤ ns.length ∧ IRI ns v.irs ∧ WsK (rs.map RV.ru) ns s.irs v.irs c0 t.i a1 v.i) ∧ Sl 95 ([(71, .int .i64 (v.i : Int))] ++ KS5) a ∧ Has _ w0 ([(k19, MO kStr (List.map irk v.irs))] ++ (HS5 ++ (List.map irB v.irs))) w) ⟨0, t.irs⟩ ⟨⟨Nat.zero_le _, htI, htW.into a1⟩, hl.addE (t := 71) (hk) rfl (by first | rfl), hh2⟩ ?_
          clear hk hh2 hl hh a w
          intro v a w hI
          obtain ⟨⟨hvi, hvI, hvW⟩, hl, hh⟩ := hI
          subst hKS5; subst hHS5
          simp only [List.cons_append, List.nil_append, List.append_nil, List.append_assoc] at hl hh
          refine c_seq ?_
          refine c_region ?_
          refine wl (wl_val hl rfl trivial (r_lss hl rfl rfl) ?_)
          clear hl a; intro a hl
          refine w_nil ?_
          have hl2 := hl.add (t := 3) (hl.add (t := 4) (hl.add (t := 12) (hl.add (t := 14) (hl.add (t := 57) (hl.add (t := 58) (hl.add (t := 59) (hl.add (t := 63) (hl.add (t := 64) (hl.add (t := 65) (hl.add (t := 69) (hl.add (t := 70) (hl.add (t := 71) (hl.add (t := 72) (hl.nil) rfl) rfl) rfl) rfl) rfl) rfl) rfl) rfl) rfl) rfl) rfl) rfl) rfl) rfl; clear hl; have hl := hl2; clear hl2
          refine then_normal ?_
          refine c_seq ?_
          refine c_cond hl rfl ?_ ?_
          · intro hc6
            try simp only [decide_eq_true_eq, decide_eq_false_iff_not, Bool.not_eq_true', Bool.not_eq_false', Bool.not_eq_true, Bool.not_eq_false, Bool.and_eq_true, Bool.or_eq_true, Bool.and_eq_false_iff, Bool.or_eq_false_iff, Bool.not_not, ne_eq, Int.not_lt, Int.not_le, Decidable.not_not, beq_iff_eq, bne_iff_ne] at hc6
            obtain ⟨b0, hnb0⟩ : ∃ a, ns[v.i]? = some a := ⟨_, List.getElem?_eq_getElem (by omega)⟩
            obtain ⟨m, q, hqm, hqn9⟩ := hvI.at_ (List.mem_of_getElem? hna1)
            obtain ⟨mc, qc, hqmc, hqnc⟩ := hvI.at_ (List.mem_of_getElem? hnc0)
            have hgA := ir_get (hvI.nd hN.nd) (List.mem_of_getElem? hqm) hqn9
            have hgC := ir_get (hvI.nd hN.nd) (List.mem_of_getElem? hqmc) hqnc
            have hrA := mget_bool (fun p hp => hvI.tr q p (List.mem_of_getElem? hqm) hp) c0
            have hrC := mget_bool (fun p hp => hvI.tr qc p (List.mem_of_getElem? hqmc) hp) b0
            have hmA : (q.b, MO kStr q.l) ∈ List.map irB v.irs := List.mem_map.2 ⟨q, List.mem_of_getElem? hqm, rfl⟩
            have hmC : (qc.b, MO kStr qc.l) ∈ List.map irB v.irs := List.mem_map.2 ⟨qc, List.mem_of_getElem? hqmc, rfl⟩
            have hlA : c0 ∈ ks q.l ↔ Rel v.irs a1 c0 := by rw [← hqn9]; exact hvI.rel hN.nd (List.mem_of_getElem? hqm)
            have hlC : b0 ∈ ks qc.l ↔ Rel v.irs c0 b0 := by rw [← hqnc]; exact hvI.rel hN.nd (List.mem_of_getElem? hqmc)
            refine wp_skip ?_
            refine then_normal ?_
            refine c_seq ?_
            refine wp_block ?_
            refine c_seq ?_
            refine c_region ?_
            refine wl (wl_val hl rfl trivial (r_indexS hl rfl rfl slc89 (by omega) (by omega) (by first | (simp only [Int.reduceToNat]; rfl) | exact toNat_add1 _ | exact toNat_add2 _ _ | exact toNat_emod _ _ | exact Int.toNat_natCast _ | rfl)) ?_)
            clear hl a; intro a hl
            first | refine wl (w_load hl hh rfl trivial one9 rfl (by repeat (first | exact find_head | apply find_tail | apply find_skip)) (by first | rfl) ?_) | refine wl (wl_val hl rfl trivial (r_load hl rfl one9 (hh.mem _ _ (by repeat (first | exact hmemn | exact List.mem_append_left _ hmemn | apply List.mem_cons_of_mem | apply List.mem_append_right))) (List.getElem?_toArray.trans (by first | exact fcS hna0 jn | exact fcS hnb0 jn | exact fcS hna1 jn | exact fcS hnc0 jn))) ?_)
            clear hl a; intro a hl
            refine wl (wl_val hl rfl trivial (r_assign hl rfl) ?_)
            clear hl a; intro a hl
            refine w_nil ?_
            have hl2 := hl.add (t := 3) (hl.add (t := 4) (hl.add (t := 12) (hl.add (t := 14) (hl.add (t := 16) (hl.add (t := 57) (hl.add (t := 58) (hl.add (t := 59) (hl.add (t := 63) (hl.add (t := 64) (hl.add (t := 65) (hl.add (t := 69) (hl.add (t := 70) (hl.add (t := 71) (hl.nil) rfl) rfl) rfl) rfl) rfl) rfl) rfl) rfl) rfl) rfl) rfl) rfl) rfl) rfl; clear hl; have hl := hl2; clear hl2
            refine then_normal ?_
            refine c_seq ?_
            refine c_region ?_
            refine wl (wl_val hl rfl trivial (r_move hl rfl) ?_)
            clear hl a; intro a hl
            refine wl (wl_val hl rfl trivial (r_move hl rfl) ?_)
            clear hl a; intro a hl
            refine wl (w_lookup (keyStr Tryz.underlying9) Tryz.underlying145 zero147 hl hh rfl trivial rfl rfl (by repeat (first | exact find_head | apply find_tail | apply find_skip)) ?_)
            clear hl a; intro a hl
            first | rw [hgA] at hl | rw [hgC] at hl
            refine wl (wl_val hl rfl trivial (r_move hl rfl) ?_)
            clear hl a; intro a hl
            refine wl (wl_val hl rfl trivial (r_lookup (k := kStr) (ak := c0) (l := q.l) (keyStr Tryz.underlying9) Tryz.underlying147 zero4 hl rfl rfl (hh.mem _ _ (by repeat (first | exact hmA | exact List.mem_append_left _ hmA | apply List.mem_cons_of_mem | apply List.mem_append_right)))) ?_)
            clear hl a; intro a hl
            rw [hrA] at hl
            refine wl (wl_val hl rfl trivial (r_move hl rfl) ?_)
            clear hl a; intro a hl
            refine sl_split (t := 80) hl rfl ?_ ?_
            · intro hg1; clear hl; intro hl
              try simp only [decide_eq_true_eq, decide_eq_false_iff_not, Bool.not_eq_true', Bool.not_eq_false', Bool.not_eq_true, Bool.not_eq_false, Bool.and_eq_true, Bool.or_eq_true, Bool.and_eq_false_iff, Bool.or_eq_false_iff, Bool.not_not, ne_eq, Int.not_lt, Int.not_le, Decidable.not_not, beq_iff_eq, bne_iff_ne] at hg1
              refine wl (wl_val hl rfl ⟨_, _, rfl, rfl, rfl⟩ (r_move hl rfl) ?_)
              clear hl a; intro a hl
              refine wl (wl_val hl rfl ⟨_, _, rfl, rfl, rfl⟩ (r_move hl rfl) ?_)
              clear hl a; intro a hl
              refine wl (w_lookup (keyStr Tryz.underlying9) Tryz.underlying145 zero147 hl hh rfl ⟨_, _, rfl, rfl, rfl⟩ rfl rfl (by repeat (first | exact find_head | apply find_tail | apply find_skip)) ?_)
              clear hl a; intro a hl
              first | rw [hgA] at hl | rw [hgC] at hl
              refine wl (wl_val hl rfl ⟨_, _, rfl, rfl, rfl⟩ (r_move hl rfl) ?_)
              clear hl a; intro a hl
              refine wl (wl_val hl rfl ⟨_, _, rfl, rfl, rfl⟩ (r_lookup (k := kStr) (ak := b0) (l := qc.l) (keyStr Tryz.underlying9) Tryz.underlying147 zero4 hl rfl rfl (hh.mem _ _ (by repeat (first | exact hmC | exact List.mem_append_left _ hmC | apply List.mem_cons_of_mem | apply List.mem_append_right)))) ?_)
              clear hl a; intro a hl
              rw [hrC] at hl
              refine wl (wl_val hl rfl trivial (r_pickT hl rfl rfl) ?_)
              clear hl a; intro a hl
              refine w_nil ?_
              have hl2 := hl.add (t := 3) (hl.add (t := 4) (hl.add (t := 12) (hl.add (t := 14) (hl.add (t := 16) (hl.add (t := 57) (hl.add (t := 58) (hl.add (t := 59) (hl.add (t := 63) (hl.add (t := 64) (hl.add (t := 65) (hl.add (t := 69) (hl.add (t := 70) (hl.add (t := 71) (hl.add (t := 86) (hl.nil) rfl) rfl) rfl) rfl) rfl) rfl) rfl) rfl) rfl) rfl) rfl) rfl) rfl) rfl) rfl; clear hl; have hl := hl2; clear hl2
              refine then_normal ?_
              refine c_cond hl rfl ?_ ?_
              · intro hc7
                try simp only [decide_eq_true_eq, decide_eq_false_iff_not, Bool.not_eq_true', Bool.not_eq_false', Bool.not_eq_true, Bool.not_eq_false, Bool.and_eq_true, Bool.or_eq_true, Bool.and_eq_false_iff, Bool.or_eq_false_iff, Bool.not_not, ne_eq, Int.not_lt, Int.not_le, Decidable.not_not, beq_iff_eq, bne_iff_ne] at hc7
                obtain ⟨hRac, hRcb⟩ : Rel v.irs a1 c0 ∧ Rel v.irs c0 b0 := ⟨hlA.1 (by assumption), hlC.1 (by assumption)⟩
                obtain ⟨RS, hp1, hp2⟩ := ir_split hqm
                have hh9 := has_sw hh (A := (List.map irB v.irs)) (by repeat (first | exact keeps_nil | apply keeps_cons (by repeat (first | exact find_head | apply find_tail | apply find_skip)) (by first  | rfl) | exact keeps_self | exact keeps_left | apply keeps_app | apply keeps_mv | apply keeps_skip)) hp1
                clear hh; have hh := hh9; clear hh9
                try simp only [List.append_assoc, List.cons_append, List.nil_append] at hh
                refine c_region ?_
                refine wl (wl_val hl rfl trivial (r_move hl rfl) ?_)
                clear hl a; intro a hl
                refine wl (wl_val hl rfl trivial (r_move hl rfl) ?_)
                clear hl a; intro a hl
                refine wl (w_lookup (keyStr Tryz.underlying9) Tryz.underlying145 zero147 hl hh rfl trivial rfl rfl (by repeat (first | exact find_head | apply find_tail | apply find_skip)) ?_)
                clear hl a; intro a hl
                rw [hgA] at hl
                refine wl (wl_val hl rfl trivial (r_move hl rfl) ?_)
                clear hl a; intro a hl
                refine wl (w_mapUpdate (keyStr Tryz.underlying9) Tryz.underlying147 hl hh trivial rfl rfl rfl (by repeat (first | exact find_head | apply find_tail | apply find_skip)) ?_)
                clear hh w; intro w hh
                refine w_nil ?_
                have hl2 := hl.add (t := 3) (hl.add (t := 4) (hl.add (t := 12) (hl.add (t := 14) (hl.add (t := 57) (hl.add (t := 58) (hl.add (t := 59) (hl.add (t := 63) (hl.add (t := 64) (hl.add (t := 65) (hl.add (t := 69) (hl.add (t := 70) (hl.add (t := 71) (hl.nil) rfl) rfl) rfl) rfl) rfl) rfl) rfl) rfl) rfl) rfl) rfl) rfl) rfl; clear hl; have hl := hl2; clear hl2
                have hh9 := has_sw hh (A := ((q.b, MO kStr (mput q.l b0 (.bool true))) :: RS)) (by repeat (first | exact keeps_nil | apply keeps_cons (by repeat (first | exact find_head | apply find_tail | apply find_skip)) (by first  | rfl) | exact keeps_self | exact keeps_left | apply keeps_app | apply keeps_mv | apply keeps_skip)) (hp2 b0)
                clear hh; have hh := hh9; clear hh9
                try simp only [List.append_assoc, List.cons_append, List.nil_append] at hh
                refine blk_normal ?_
                refine then_normal ?_
                refine c_region ?_
                first | refine wl (wl_val hl rfl trivial (r_add hl rfl rfl (by simp only [Fits]; omega)) ?_) | refine wl (wl_val hl rfl trivial (r_addW hl rfl rfl) ?_)
                clear hl a; intro a hl
                refine wl (wl_val hl rfl trivial (r_move hl rfl) ?_)
                clear hl a; intro a hl
                refine w_nil ?_
                have hl2 := hl.add (t := 3) (hl.add (t := 4) (hl.add (t := 12) (hl.add (t := 14) (hl.add (t := 57) (hl.add (t := 58) (hl.add (t := 59) (hl.add (t := 63) (hl.add (t := 64) (hl.add (t := 65) (hl.add (t := 69) (hl.add (t := 70) (hl.add (t := 71) (hl.nil) rfl) rfl) rfl) rfl) rfl) rfl) rfl) rfl) rfl) rfl) rfl) rfl) rfl; clear hl; have hl := hl2; clear hl2
                refine then_normal ?_
                refine ⟨⟨v.i + 1, irS v.irs m q b0⟩, (by simp only; omega), ⟨by simp only; omega, hvI.put hqm _, hvW.hit hqm hqn9 hnb0 hRac hRcb⟩, hl.addE (t := 71) (hl.addE (t := 3) (hl.addE (t := 4) (hl.addE (t := 12) (hl.addE (t := 14) (hl.addE (t := 57) (hl.addE (t := 58) (hl.addE (t := 59) (hl.addE (t := 63) (hl.addE (t := 64) (hl.addE (t := 65) (hl.addE (t := 69) (hl.addE (t := 70) (hl.nil) rfl (by first | rfl | exact congrArg (Value.int .i64) (show (v.i : Int) + 1 = ((v.i + 1 : Nat) : Int) by omega) | (rw [hqn]))) rfl (by first | rfl | exact congrArg (Value.int .i64) (show (v.i : Int) + 1 = ((v.i + 1 : Nat) : Int) by omega) | (rw [hqn]))) rfl (by first | rfl | exact congrArg (Value.int .i64) (show (v.i : Int) + 1 = ((v.i + 1 : Nat) : Int) by omega) | (rw [hqn]))) rfl (by first | rfl | exact congrArg (Value.int .i64) (show (v.i : Int) + 1 = ((v.i + 1 : Nat) : Int) by omega) | (rw [hqn]))) rfl (by first | rfl | exact congrArg (Value.int .i64) (show (v.i : Int) + 1 = ((v.i + 1 : Nat) : Int) by omega) | (rw [hqn]))) rfl (by first | rfl | exact congrArg (Value.int .i64) (show (v.i : Int) + 1 = ((v.i + 1 : Nat) : Int) by omega) | (rw [hqn]))) rfl (by first | rfl | exact congrArg (Value.int .i64) (show (v.i : Int) + 1 = ((v.i + 1 : Nat) : Int) by omega) | (rw [hqn]))) rfl (by first | rfl | exact congrArg (Value.int .i64) (show (v.i : Int) + 1 = ((v.i + 1 : Nat) : Int) by omega) | (rw [hqn]))) rfl (by first | rfl | exact congrArg (Value.int .i64) (show (v.i : Int) + 1 = ((v.i + 1 : Nat) : Int) by omega) | (rw [hqn]))) rfl (by first | rfl | exact congrArg (Value.int .i64) (show (v.i : Int) + 1 = ((v.i + 1 : Nat) : Int) by omega) | (rw [hqn]))) rfl (by first | rfl | exact congrArg (Value.int .i64) (show (v.i : Int) + 1 = ((v.i + 1 : Nat) : Int) by omega) | (rw [hqn]))) rfl (by first | rfl | exact congrArg (Value.int .i64) (show (v.i : Int) + 1 = ((v.i + 1 : Nat) : Int) by omega) | (rw [hqn]))) rfl (by first | rfl | exact congrArg (Value.int .i64) (show (v.i : Int) + 1 = ((v.i + 1 : Nat) : Int) by omega) | (rw [hqn])), hh.keep (by repeat (first | exact keeps_nil | apply keeps_cons (by repeat (first | exact find_head | apply find_tail | apply find_skip)) (by first  | (rw [irS_k hqm]) | rfl) | exact keeps_self | exact keeps_left | apply keeps_app | apply keeps_mv | apply keeps_skip))⟩
              · intro hc7
                try simp only [decide_eq_true_eq, decide_eq_false_iff_not, Bool.not_eq_true', Bool.not_eq_false', Bool.not_eq_true, Bool.not_eq_false, Bool.and_eq_true, Bool.or_eq_true, Bool.and_eq_false_iff, Bool.or_eq_false_iff, Bool.not_not, ne_eq, Int.not_lt, Int.not_le, Decidable.not_not, beq_iff_eq, bne_iff_ne] at hc7
                have hRno : ¬ (Rel v.irs a1 c0 ∧ Rel v.irs c0 b0) := fun h9 => by have h7 := hlA.2 h9.1; have h8 := hlC.2 h9.2; first | contradiction | exact absurd h8 (by assumption) | exact absurd h7 (by assumption)
                refine wp_skip ?_
                refine blk_normal ?_
                refine then_normal ?_
                refine c_region ?_
                first | refine wl (wl_val hl rfl trivial (r_add hl rfl rfl (by simp only [Fits]; omega)) ?_) | refine wl (wl_val hl rfl trivial (r_addW hl rfl rfl) ?_)
                clear hl a; intro a hl
                refine wl (wl_val hl rfl trivial (r_move hl rfl) ?_)
                clear hl a; intro a hl
                refine w_nil ?_
                have hl2 := hl.add (t := 3) (hl.add (t := 4) (hl.add (t := 12) (hl.add (t := 14) (hl.add (t := 57) (hl.add (t := 58) (hl.add (t := 59) (hl.add (t := 63) (hl.add (t := 64) (hl.add (t := 65) (hl.add (t := 69) (hl.add (t := 70) (hl.add (t := 71) (hl.nil) rfl) rfl) rfl) rfl) rfl) rfl) rfl) rfl) rfl) rfl) rfl) rfl) rfl; clear hl; have hl := hl2; clear hl2
                refine then_normal ?_
                refine ⟨⟨v.i + 1, v.irs⟩, (by simp only; omega), ⟨by simp only; omega, hvI, hvW.miss hnb0 hRno⟩, hl.addE (t := 71) (hl.addE (t := 3) (hl.addE (t := 4) (hl.addE (t := 12) (hl.addE (t := 14) (hl.addE (t := 57) (hl.addE (t := 58) (hl.addE (t := 59) (hl.addE (t := 63) (hl.addE (t := 64) (hl.addE (t := 65) (hl.addE (t := 69) (hl.addE (t := 70) (hl.nil) rfl (by first | rfl | exact congrArg (Value.int .i64) (show (v.i : Int) + 1 = ((v.i + 1 : Nat) : Int) by omega) | (rw [hqn]))) rfl (by first | rfl | exact congrArg (Value.int .i64) (show (v.i : Int) + 1 = ((v.i + 1 : Nat) : Int) by omega) | (rw [hqn]))) rfl (by first | rfl | exact congrArg (Value.int .i64) (show (v.i : Int) + 1 = ((v.i + 1 : Nat) : Int) by omega) | (rw [hqn]))) rfl (by first | rfl | exact congrArg (Value.int .i64) (show (v.i : Int) + 1 = ((v.i + 1 : Nat) : Int) by omega) | (rw [hqn]))) rfl (by first | rfl | exact congrArg (Value.int .i64) (show (v.i : Int) + 1 = ((v.i + 1 : Nat) : Int) by omega) | (rw [hqn]))) rfl (by first | rfl | exact congrArg (Value.int .i64) (show (v.i : Int) + 1 = ((v.i + 1 : Nat) : Int) by omega) | (rw [hqn]))) rfl (by first | rfl | exact congrArg (Value.int .i64) (show (v.i : Int) + 1 = ((v.i + 1 : Nat) : Int) by omega) | (rw [hqn]))) rfl (by first | rfl | exact congrArg (Value.int .i64) (show (v.i : Int) + 1 = ((v.i + 1 : Nat) : Int) by omega) | (rw [hqn]))) rfl (by first | rfl | exact congrArg (Value.int .i64) (show (v.i : Int) + 1 = ((v.i + 1 : Nat) : Int) by omega) | (rw [hqn]))) rfl (by first | rfl | exact congrArg (Value.int .i64) (show (v.i : Int) + 1 = ((v.i + 1 : Nat) : Int) by omega) | (rw [hqn]))) rfl (by first | rfl | exact congrArg (Value.int .i64) (show (v.i : Int) + 1 = ((v.i + 1 : Nat) : Int) by omega) | (rw [hqn]))) rfl (by first | rfl | exact congrArg (Value.int .i64) (show (v.i : Int) + 1 = ((v.i + 1 : Nat) : Int) by omega) | (rw [hqn]))) rfl (by first | rfl | exact congrArg (Value.int .i64) (show (v.i : Int) + 1 = ((v.i + 1 : Nat) : Int) by omega) | (rw [hqn])), hh.keep (by repeat (first | exact keeps_nil | apply keeps_cons (by repeat (first | exact find_head | apply find_tail | apply find_skip)) (by first  | (rw [irS_k hqm]) | rfl) | exact keeps_self | exact keeps_left | apply keeps_app | apply keeps_mv | apply keeps_skip))⟩
            · intro hg1; clear hl; intro hl
              try simp only [decide_eq_true_eq, decide_eq_false_iff_not, Bool.not_eq_true', Bool.not_eq_false', Bool.not_eq_true, Bool.not_eq_false, Bool.and_eq_true, Bool.or_eq_true, Bool.and_eq_false_iff, Bool.or_eq_false_iff, Bool.not_not, ne_eq, Int.not_lt, Int.not_le, Decidable.not_not, beq_iff_eq, bne_iff_ne] at hg1
              refine wl (wl_skip hl rfl ⟨_, _, rfl, rfl, rfl⟩ ?_)
              clear hl a; intro a hl
              refine wl (wl_skip hl rfl ⟨_, _, rfl, rfl, rfl⟩ ?_)
              clear hl a; intro a hl
              refine wl (wl_skip hl rfl ⟨_, _, rfl, rfl, rfl⟩ ?_)
              clear hl a; intro a hl
              refine wl (wl_skip hl rfl ⟨_, _, rfl, rfl, rfl⟩ ?_)
              clear hl a; intro a hl
              refine wl (wl_skip hl rfl ⟨_, _, rfl, rfl, rfl⟩ ?_)
              clear hl a; intro a hl
              refine wl (wl_val hl rfl trivial (r_pickF hl rfl rfl) ?_)
              clear hl a; intro a hl
              refine w_nil ?_
              have hl2 := hl.add (t := 3) (hl.add (t := 4) (hl.add (t := 12) (hl.add (t := 14) (hl.add (t := 16) (hl.add (t := 57) (hl.add (t := 58) (hl.add (t := 59) (hl.add (t := 63) (hl.add (t := 64) (hl.add (t := 65) (hl.add (t := 69) (hl.add (t := 70) (hl.add (t := 71) (hl.add (t := 86) (hl.nil) rfl) rfl) rfl) rfl) rfl) rfl) rfl) rfl) rfl) rfl) rfl) rfl) rfl) rfl) rfl; clear hl; have hl := hl2; clear hl2
              refine then_normal ?_
              refine c_condF hl rfl ?_
              have hRno : ¬ (Rel v.irs a1 c0 ∧ Rel v.irs c0 b0) := fun h9 => by have h7 := hlA.2 h9.1; have h8 := hlC.2 h9.2; first | contradiction | exact absurd h8 (by assumption) | exact absurd h7 (by assumption)
              refine wp_skip ?_
              refine blk_normal ?_
              refine then_normal ?_
              refine c_region ?_
              first | refine wl (wl_val hl rfl trivial (r_add hl rfl rfl (by simp only [Fits]; omega)) ?_) | refine wl (wl_val hl rfl trivial (r_addW hl rfl rfl) ?_)
              clear hl a; intro a hl
              refine wl (wl_val hl rfl trivial (r_move hl rfl) ?_)
              clear hl a; intro a hl
              refine w_nil ?_
              have hl2 := hl.add (t := 3) (hl.add (t := 4) (hl.add (t := 12) (hl.add (t := 14) (hl.add (t := 57) (hl.add (t := 58) (hl.add (t := 59) (hl.add (t := 63) (hl.add (t := 64) (hl.add (t := 65) (hl.add (t := 69) (hl.add (t := 70) (hl.add (t := 71) (hl.nil) rfl) rfl) rfl) rfl) rfl) rfl) rfl) rfl) rfl) rfl) rfl) rfl) rfl; clear hl; have hl := hl2; clear hl2
              refine then_normal ?_
              refine ⟨⟨v.i + 1, v.irs⟩, (by simp only; omega), ⟨by simp only; omega, hvI, hvW.miss hnb0 hRno⟩, hl.addE (t := 71) (hl.addE (t := 3) (hl.addE (t := 4) (hl.addE (t := 12) (hl.addE (t := 14) (hl.addE (t := 57) (hl.addE (t := 58) (hl.addE (t := 59) (hl.addE (t := 63) (hl.addE (t := 64) (hl.addE (t := 65) (hl.addE (t := 69) (hl.addE (t := 70) (hl.nil) rfl (by first | rfl | exact congrArg (Value.int .i64) (show (v.i : Int) + 1 = ((v.i + 1 : Nat) : Int) by omega) | (rw [hqn]))) rfl (by first | rfl | exact congrArg (Value.int .i64) (show (v.i : Int) + 1 = ((v.i + 1 : Nat) : Int) by omega) | (rw [hqn]))) rfl (by first | rfl | exact congrArg (Value.int .i64) (show (v.i : Int) + 1 = ((v.i + 1 : Nat) : Int) by omega) | (rw [hqn]))) rfl (by first | rfl | exact congrArg (Value.int .i64) (show (v.i : Int) + 1 = ((v.i + 1 : Nat) : Int) by omega) | (rw [hqn]))) rfl (by first | rfl | exact congrArg (Value.int .i64) (show (v.i : Int) + 1 = ((v.i + 1 : Nat) : Int) by omega) | (rw [hqn]))) rfl (by first | rfl | exact congrArg (Value.int .i64) (show (v.i : Int) + 1 = ((v.i + 1 : Nat) : Int) by omega) | (rw [hqn]))) rfl (by first | rfl | exact congrArg (Value.int .i64) (show (v.i : Int) + 1 = ((v.i + 1 : Nat) : Int) by omega) | (rw [hqn]))) rfl (by first | rfl | exact congrArg (Value.int .i64) (show (v.i : Int) + 1 = ((v.i + 1 : Nat) : Int) by omega) | (rw [hqn]))) rfl (by first | rfl | exact congrArg (Value.int .i64) (show (v.i : Int) + 1 = ((v.i + 1 : Nat) : Int) by omega) | (rw [hqn]))) rfl (by first | rfl | exact congrArg (Value.int .i64) (show (v.i : Int) + 1 = ((v.i + 1 : Nat) : Int) by omega) | (rw [hqn]))) rfl (by first | rfl | exact congrArg (Value.int .i64) (show (v.i : Int) + 1 = ((v.i + 1 : Nat) : Int) by omega) | (rw [hqn]))) rfl (by first | rfl | exact congrArg (Value.int .i64) (show (v.i : Int) + 1 = ((v.i + 1 : Nat) : Int) by omega) | (rw [hqn]))) rfl (by first | rfl | exact congrArg (Value.int .i64) (show (v.i : Int) + 1 = ((v.i + 1 : Nat) : Int) by omega) | (rw [hqn])), hh.keep (by repeat (first | exact keeps_nil | apply keeps_cons (by repeat (first | exact find_head | apply find_tail | apply find_skip)) (by first  | (rw [irS_k hqm]) | rfl) | exact keeps_self | exact keeps_left | apply keeps_app | apply keeps_mv | apply keeps_skip))⟩
          · intro hc6
            try simp only [decide_eq_true_eq, decide_eq_false_iff_not, Bool.not_eq_true', Bool.not_eq_false', Bool.not_eq_true, Bool.not_eq_false, Bool.and_eq_true, Bool.or_eq_true, Bool.and_eq_false_iff, Bool.or_eq_false_iff, Bool.not_not, ne_eq, Int.not_lt, Int.not_le, Decidable.not_not, beq_iff_eq, bne_iff_ne] at hc6
            have hve : v.i = ns.length := by omega
            refine wp_exit ?_
            refine then_exit ?_
            refine then_exit ?_
            refine blk_exit ?_
            refine blk_normal ?_
            refine then_normal ?_
            refine c_region ?_
            first | refine wl (wl_val hl rfl trivial (r_add hl rfl rfl (by simp only [Fits]; omega)) ?_) | refine wl (wl_val hl rfl trivial (r_addW hl rfl rfl) ?_)
            clear hl a; intro a hl
            refine wl (wl_val hl rfl trivial (r_move hl rfl) ?_)
            clear hl a; intro a hl
            refine w_nil ?_
            have hl2 := hl.add (t := 3) (hl.add (t := 4) (hl.add (t := 12) (hl.add (t := 57) (hl.add (t := 58) (hl.add (t := 59) (hl.add (t := 63) (hl.add (t := 64) (hl.add (t := 65) (hl.nil) rfl) rfl) rfl) rfl) rfl) rfl) rfl) rfl) rfl; clear hl; have hl := hl2; clear hl2
            refine then_normal ?_
            refine ⟨⟨t.i + 1, v.irs⟩, (by simp only; omega), ⟨by simp only; omega, hvI, hvW.out hna1 hve⟩, hl.addE (t := 65) (hl.addE (t := 3) (hl.addE (t := 4) (hl.addE (t := 12) (hl.addE (t := 57) (hl.addE (t := 58) (hl.addE (t := 59) (hl.addE (t := 63) (hl.addE (t := 64) (hl.nil) rfl (by first | rfl | exact congrArg (Value.int .i64) (show (t.i : Int) + 1 = ((t.i + 1 : Nat) : Int) by omega) | (rw [hqn]))) rfl (by first | rfl | exact congrArg (Value.int .i64) (show (t.i : Int) + 1 = ((t.i + 1 : Nat) : Int) by omega) | (rw [hqn]))) rfl (by first | rfl | exact congrArg (Value.int .i64) (show (t.i : Int) + 1 = ((t.i + 1 : Nat) : Int) by omega) | (rw [hqn]))) rfl (by first | rfl | exact congrArg (Value.int .i64) (show (t.i : Int) + 1 = ((t.i + 1 : Nat) : Int) by omega) | (rw [hqn]))) rfl (by first | rfl | exact congrArg (Value.int .i64) (show (t.i : Int) + 1 = ((t.i + 1 : Nat) : Int) by omega) | (rw [hqn]))) rfl (by first | rfl | exact congrArg (Value.int .i64) (show (t.i : Int) + 1 = ((t.i + 1 : Nat) : Int) by omega) | (rw [hqn]))) rfl (by first | rfl | exact congrArg (Value.int .i64) (show (t.i : Int) + 1 = ((t.i + 1 : Nat) : Int) by omega) | (rw [hqn]))) rfl (by first | rfl | exact congrArg (Value.int .i64) (show (t.i : Int) + 1 = ((t.i + 1 : Nat) : Int) by omega) | (rw [hqn]))) rfl (by first | rfl | exact congrArg (Value.int .i64) (show (t.i : Int) + 1 = ((t.i + 1 : Nat) : Int) by omega) | (rw [hqn])), hh.keep (by repeat (first | exact keeps_nil | apply keeps_cons (by repeat (first | exact find_head | apply find_tail | apply find_skip)) (by first  | rfl) | exact keeps_self | exact keeps_left | apply keeps_app | apply keeps_mv | apply keeps_skip))⟩
        · intro hc5
          try simp only [decide_eq_true_eq, decide_eq_false_iff_not, Bool.not_eq_true', Bool.not_eq_false', Bool.not_eq_true, Bool.not_eq_false, Bool.and_eq_true, Bool.or_eq_true, Bool.and_eq_false_iff, Bool.or_eq_false_iff, Bool.not_not, ne_eq, Int.not_lt, Int.not_le, Decidable.not_not, beq_iff_eq, bne_iff_ne] at hc5
          have hte : t.i = ns.length := by omega
          refine wp_exit ?_
          refine then_exit ?_
          refine then_exit ?_
          refine blk_exit ?_
          refine blk_normal ?_
          refine then_normal ?_
          refine c_region ?_
          first | refine wl (wl_val hl rfl trivial (r_add hl rfl rfl (by simp only [Fits]; omega)) ?_) | refine wl (wl_val hl rfl trivial (r_addW hl rfl rfl) ?_)
          clear hl a; intro a hl
          refine wl (wl_val hl rfl trivial (r_move hl rfl) ?_)
          clear hl a; intro a hl
          refine w_nil ?_
          have hl2 := hl.add (t := 3) (hl.add (t := 4) (hl.add (t := 57) (hl.add (t := 58) (hl.add (t := 59) (hl.nil) rfl) rfl) rfl) rfl) rfl; clear hl; have hl := hl2; clear hl2
          refine then_normal ?_
          refine ⟨⟨s.i + 1, t.irs⟩, (by simp only; omega), ⟨by simp only; omega, htI, htW.out hsW hN hnc0 hte⟩, hl.addE (t := 59) (hl.addE (t := 3) (hl.addE (t := 4) (hl.addE (t := 57) (hl.addE (t := 58) (hl.nil) rfl (by first | rfl | exact congrArg (Value.int .i64) (show (s.i : Int) + 1 = ((s.i + 1 : Nat) : Int) by omega) | (rw [hqn]))) rfl (by first | rfl | exact congrArg (Value.int .i64) (show (s.i : Int) + 1 = ((s.i + 1 : Nat) : Int) by omega) | (rw [hqn]))) rfl (by first | rfl | exact congrArg (Value.int .i64) (show (s.i : Int) + 1 = ((s.i + 1 : Nat) : Int) by omega) | (rw [hqn]))) rfl (by first | rfl | exact congrArg (Value.int .i64) (show (s.i : Int) + 1 = ((s.i + 1 : Nat) : Int) by omega) | (rw [hqn]))) rfl (by first | rfl | exact congrArg (Value.int .i64) (show (s.i : Int) + 1 = ((s.i + 1 : Nat) : Int) by omega) | (rw [hqn])), hh.keep (by repeat (first | exact keeps_nil | apply keeps_cons (by repeat (first | exact find_head | apply find_tail | apply find_skip)) (by first  | rfl) | exact keeps_self | exact keeps_left | apply keeps_app | apply keeps_mv | apply keeps_skip))⟩
      · intro hc4
        try simp only [decide_eq_true_eq, decide_eq_false_iff_not, Bool.not_eq_true', Bool.not_eq_false', Bool.not_eq_true, Bool.not_eq_false, Bool.and_eq_true, Bool.or_eq_true, Bool.and_eq_false_iff, Bool.or_eq_false_iff, Bool.not_not, ne_eq, Int.not_lt, Int.not_le, Decidable.not_not, beq_iff_eq, bne_iff_ne] at hc4
        have hse : s.i = ns.length := by omega
        refine wp_exit ?_
        refine then_exit ?_
        refine then_exit ?_
        refine blk_exit ?_
        refine then_normal ?_
        refine c_seq ?_
        refine c_region ?_
        refine wl (wl_val hl rfl trivial (r_move hl rfl) ?_)
        clear hl a; intro a hl
        refine wl (wl_val hl rfl trivial (r_assign hl rfl) ?_)
        clear hl a; intro a hl
        refine w_nil ?_
        have hl2 := hl.add (t := 2) (hl.nil) rfl; clear hl; have hl := hl2; clear hl2
        refine then_normal ?_
        refine wp_ret ?_
        refine f_ret1 (F' := (k19, MO kStr (List.map irk s.irs)) :: (List.map irB s.irs)) hl hh rfl rfl (by repeat (first | exact keeps_nil | apply keeps_cons (by repeat (first | exact find_head | apply find_tail | apply find_skip)) (by first  | rfl) | exact keeps_self | exact keeps_left | apply keeps_app | apply keeps_mv | apply keeps_skip)) ?_
        exact ⟨ns, k19, s.irs, hN, hsI, hsW.fin hN hse, rfl, rfl⟩
end Go.Proofs.Qxb6500915aGreatDoor

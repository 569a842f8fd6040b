import Derived.Test.Qxb6500914aFmtJ1
namespace Go.Proofs.Qxb6500914aFmt
open Go.Eng
set_option linter.unusedVariables false
set_option linter.unusedSimpArgs false
theorem agg66 : aggOk Tryf.prog 66 9 = true := by kernel_rfl
theorem zero66 : zeroOk Tryf.prog 66 (.agg #[(.int .u64 0), (.int .i64 0), (.int .i64 0), (.int .i64 0), (.int .i64 0), (.int .i64 0), (.int .i64 0), (.int .i64 0), (.slice none 0 0)]) := by unfold zeroOk; kernel_rfl
theorem bld66 : buildOk Tryf.prog 66 [(0, 1), (1, 1), (2, 6), (8, 1)] = true := by kernel_rfl
theorem fld66_2 : fieldOk Tryf.prog 66 2 2 = true := by kernel_rfl
theorem arr63 : arrOk Tryf.prog 63 6 1 = true := by kernel_rfl
theorem fld66_1 : fieldOk Tryf.prog 66 1 1 = true := by kernel_rfl
theorem slc129 : slcOk Tryf.prog 129 1 = true := by kernel_rfl
theorem zero73 : zeroOk Tryf.prog 73 (.agg #[(.int .u64 0), (.int .u64 0)]) := by unfold zeroOk; kernel_rfl
theorem bld73 : buildOk Tryf.prog 73 [(0, 1), (1, 1)] = true := by kernel_rfl
theorem agg73 : aggOk Tryf.prog 73 2 = true := by kernel_rfl
theorem fld66_3 : fieldOk Tryf.prog 66 3 8 = true := by kernel_rfl
theorem one64 : oneOk Tryf.prog 64 = true := by kernel_rfl
theorem app64 : appOk Tryf.prog 64 73 2 16 = true := by kernel_rfl
theorem fld73_0 : fieldOk Tryf.prog 73 0 0 = true := by kernel_rfl
attribute [local irreducible] encM encP

theorem arrL_all (N : Nat) (f : Nat → Value) : ((arrL N f).drop 0).take N = arrL N f := by
  rw [List.drop_zero, List.take_of_length_le (by rw [arrL_length]; exact Nat.le_refl _)]
theorem setL_all (l l' : List Value) (h : l.length = l'.length) : setL l 0 l' = l' := by
  unfold setL; simp [h]
theorem arrL_one {N : Nat} {f : Nat → Value} (h : ∀ i, (f i).oneCell' = true) : (arrL N f).all (·.oneCell') = true := by
  unfold arrL; rw [List.all_map, List.all_eq_true]; intro i _; exact h i
theorem ld_wordE (m : MS) (x y : Nat) (h : x = y) (hy : y < 4096) : (arrL 16391 (encM m))[x]? = some (.int .u64 (m.word y)) := by
  have := ld_word m y hy
  rw [show 0 + 0 + y * 1 = x by omega] at this
  exact this
theorem box_at (k : Bool) (n : Nat) (h : n < 7) : ([.int .u64 ((65536 + hd k : Nat) : Int), .int .u64 ((65536 + nd k 0 : Nat) : Int), .int .u64 ((65536 + nd k 1 : Nat) : Int), .int .u64 ((65536 + nd k 2 : Nat) : Int), .int .u64 ((65536 + nd k 3 : Nat) : Int), .int .u64 ((65536 + nd k 4 : Nat) : Int), .int .u64 ((65536 + nd k 5 : Nat) : Int), .int .u64 ((65536 + nd k 6 : Nat) : Int), .int .i64 (wd k : Int)] : List Value)[0 + 1 + n * 1]? = some (.int .u64 ((65536 + nd k n : Nat) : Int)) := by
  match n, h with
  | 0, _ => rfl
  | 1, _ => rfl
  | 2, _ => rfl
  | 3, _ => rfl
  | 4, _ => rfl
  | 5, _ => rfl
  | 6, _ => rfl
def vwV (st cu : Int) (sp : Nat → Nat) (t : Nat) (lv : Value) (j : Nat) : Value := if j = 0 then .int .u64 st else if j = 1 then .int .i64 cu else if j < 8 then (if j < 2 + t then .int .i64 (sp (j - 2) : Int) else .int .i64 0) else lv
theorem vw_start (st cu : Int) (sp : Nat → Nat) : C [.int .u64 st, .int .i64 cu, .int .i64 0, .int .i64 0, .int .i64 0, .int .i64 0, .int .i64 0, .int .i64 0, .slice none 0 0] 66 = C (arrL 9 (vwV st cu sp 0 (.slice none 0 0))) 66 := by unfold arrL; rfl
theorem vw_sp (st cu : Int) (sp : Nat → Nat) (t : Nat) (lv : Value) (h : t < 6) : setL (arrL 9 (vwV st cu sp t lv)) (0 + 2 + t * 1) [.int .i64 (sp t : Int)] = arrL 9 (vwV st cu sp (t + 1) lv) := by
  rw [show 0 + 2 + t * 1 = 2 + t by omega, arrL_set (by omega)]
  refine arrL_congr fun j hj => ?_
  unfold updV vwV
  by_cases e : j = 2 + t
  · subst e
    rw [if_pos rfl, if_neg (by omega), if_neg (by omega), if_pos (by omega), if_pos (by omega), show 2 + t - 2 = t by omega]
  · rw [if_neg e]
    by_cases c0 : j = 0
    · rw [if_pos c0, if_pos c0]
    rw [if_neg c0, if_neg c0]
    by_cases c1 : j = 1
    · rw [if_pos c1, if_pos c1]
    rw [if_neg c1, if_neg c1]
    by_cases c2 : j < 8
    · rw [if_pos c2, if_pos c2]
      by_cases c3 : j < 2 + t
      · rw [if_pos c3, if_pos (by omega)]
      · rw [if_neg c3, if_neg (by omega)]
    · rw [if_neg c2, if_neg c2]
theorem vw_cur (st cu : Int) (sp : Nat → Nat) (t : Nat) (lv : Value) : (arrL 9 (vwV st cu sp t lv))[0 + 1]? = some (.int .i64 cu) := by rw [arrL_get (by omega)]; rfl
theorem vw_el (st cu : Int) (sp : Nat → Nat) (t : Nat) (lv : Value) : (arrL 9 (vwV st cu sp t lv))[0 + 8]? = some lv := by rw [arrL_get (by omega)]; rfl
theorem vw_elS (st cu : Int) (sp : Nat → Nat) (t : Nat) (lv lv' : Value) : setL (arrL 9 (vwV st cu sp t lv)) (0 + 8) [lv'] = arrL 9 (vwV st cu sp t lv') := by
  rw [arrL_set (by omega)]
  refine arrL_congr fun j hj => ?_
  unfold updV vwV
  by_cases e : j = 0 + 8
  · rw [if_pos e, if_neg (by omega), if_neg (by omega), if_neg (by omega)]
  · rw [if_neg e]
    by_cases c0 : j = 0
    · rw [if_pos c0, if_pos c0]
    rw [if_neg c0, if_neg c0]
    by_cases c1 : j = 1
    · rw [if_pos c1, if_pos c1]
    rw [if_neg c1, if_neg c1, if_pos (show j < 8 by omega), if_pos (show j < 8 by omega)]
theorem vw_one (st cu : Int) (sp : Nat → Nat) (t : Nat) (lv : Value) (h : lv.oneCell' = true) (j : Nat) : (vwV st cu sp t lv j).oneCell' = true := by
  unfold vwV; (repeat' split) <;> first | rfl | exact h
def elV (w : Nat → Int) (k : Bool) (a i : Nat) : List Value := if k then [.int .u64 (w (a + 1 + i * 2)), .int .u64 (w (a + 1 + i * 2 + 1))] else [.int .u64 0, .int .u64 (w (a + 1 + i))]
def elL (w : Nat → Int) (k : Bool) (a n : Nat) : List Value := (List.range n).flatMap (elV w k a)
theorem elL_succ (w : Nat → Int) (k : Bool) (a n : Nat) : elL w k a (n + 1) = elL w k a n ++ elV w k a n := by unfold elL; rw [List.range_succ, List.flatMap_append]; simp
theorem elL_len (w : Nat → Int) (k : Bool) (a : Nat) : ∀ n, (elL w k a n).length = n * 2
  | 0 => rfl
  | n + 1 => by
    rw [elL_succ, List.length_append, elL_len w k a n]
    have : (elV w k a n).length = 2 := by unfold elV; split <;> rfl
    omega
/-- a memory whose boxes can be viewed -/
structure VO (m : MS) (k : Bool) (r nn : Nat) (sp : Nat → Nat) : Prop where
  pre : DP m 2
  root : m.word (hd k) = (r : Int)
  r1 : r < 18446744073709551616
  r7 : r % 256 < 7
  cnt : m.word (nd k (r % 256)) = (nn : Int)
  n8 : nn ≤ 8
  sp : ∀ t, t < 6 → m.word (hd k + 1 + t) = (sp t : Int) ∧ sp t < 7
theorem VO.live {m : MS} {k : Bool} {r nn : Nat} {sp : Nat → Nat} (h : VO m k r nn sp) : (0 < m.size (hd k) ∧ m.gen (hd k) = 1) ∧ (0 < m.size (nd k (r % 256)) ∧ m.gen (nd k (r % 256)) = 1) := by
  have h1 := hd_le k
  have h2 := nd_le k (r % 256) (by have := h.r7; omega)
  have h3 : nd k (r % 256) < 214 := by
    have := nd_le k (r % 256 + 1) (by have := h.r7; omega)
    rw [nd_succ] at this
    have := wd_le k
    omega
  have h4 := (SZ_hd k).1
  have h5 := (SZ_nd k (r % 256) h.r7).1
  refine ⟨⟨?_, h.pre.gen _ (by omega) (by omega)⟩, ⟨?_, h.pre.gen _ (by omega) h3⟩⟩
  · rw [h.pre.size _ (by omega) (by omega), h4]; decide
  · rw [h.pre.size _ (by omega) h3, h5]; omega

attribute [local irreducible] hd nd wd

set_option maxHeartbeats 4000000 in
theorem view_false (b : Nat) (m : MS) (r nn : Nat) (sp : Nat → Nat) (h : VO m false r nn sp) : Sp Tryf.prog 30 #[.agg ⟨[.int .u64 ((65536 + hd false : Nat) : Int), .int .u64 ((65536 + nd false 0 : Nat) : Int), .int .u64 ((65536 + nd false 1 : Nat) : Int), .int .u64 ((65536 + nd false 2 : Nat) : Int), .int .u64 ((65536 + nd false 3 : Nat) : Int), .int .u64 ((65536 + nd false 4 : Nat) : Int), .int .u64 ((65536 + nd false 5 : Nat) : Int), .int .u64 ((65536 + nd false 6 : Nat) : Int), .int .i64 (wd false : Int)]⟩, .pointer (some ⟨b, 0, none⟩)] [(b, C (arrL 16391 (encM (m))) 119)] (fun v F' => ∃ lv E, Row lv nn (elL m.word false (nd false (r % 256)) nn) 2 73 E ∧ v = .tuple #[.agg ⟨arrL 9 (vwV (Int.fdiv (r : Int) (2 ^ (min (Int.toNat 8) IntKind.u64.bits))) ((r % 256 : Nat) : Int) sp 6 lv)⟩, .nilIface] ∧ F' = (b, C (arrL 16391 (encM (m))) 119) :: E) := by
  refine f_enter (args := [.agg ⟨[.int .u64 ((65536 + hd false : Nat) : Int), .int .u64 ((65536 + nd false 0 : Nat) : Int), .int .u64 ((65536 + nd false 1 : Nat) : Int), .int .u64 ((65536 + nd false 2 : Nat) : Int), .int .u64 ((65536 + nd false 3 : Nat) : Int), .int .u64 ((65536 + nd false 4 : Nat) : Int), .int .u64 ((65536 + nd false 5 : Nat) : Int), .int .u64 ((65536 + nd false 6 : Nat) : Int), .int .i64 (wd false : Int)]⟩, .pointer (some ⟨b, 0, none⟩)]) Tryf.func30 rfl Tryf.ntmps30 rfl ?_
  intro w0 w a hpre hl hh
  obtain ⟨⟨hv1, hv2⟩, hv3, hv4⟩ := h.live
  have hr7 := h.r7
  have hr1 := h.r1
  have hn8 := h.n8
  have hnl := nd_le false (r % 256) (by omega)
  have hdl := hd_le false
  have hw1 : ((wd false : Nat) : Int) = 1 := by (unfold wd; rfl)
  simp only [slotsFrom, Nat.reduceAdd] at hl
  refine c_seq ?_
  refine c_region ?_
  refine wl (w_box hl hh rfl trivial rfl rfl ?_)
  clear hl hh a w; intro k2 a w hl hh
  refine wl (w_alloc hl hh rfl trivial zero66 rfl ?_)
  clear hl hh a w; intro k4 a w hl hh
  refine wl (wl_val hl rfl trivial (r_assign hl rfl) ?_)
  clear hl a; intro a hl
  refine w_nil ?_
  have hl2 := hl.add (t := 1) (hl.add (t := 2) (hl.add (t := 4) (hl.nil) rfl) rfl) rfl; clear hl; have hl := hl2; clear hl2
  refine then_normal ?_
  refine c_seq ?_
  refine c_seq ?_
  refine c_region ?_
  refine wl (wl_val hl rfl trivial (r_move hl rfl) ?_)
  clear hl a; intro a hl
  refine wl (wl_val hl rfl trivial (r_field hl rfl fld53_0) ?_)
  clear hl a; intro a hl
  refine wl (w_load hl hh rfl trivial one50 rfl (by repeat (first | exact find_head | apply find_tail)) (by first | rfl) ?_)
  clear hl a; intro a hl
  refine wl (w_call hl hh rfl trivial rfl cal48 rfl (isLive_spec b m (hd false) (by omega) hv1 hv2) (by repeat (first | exact keeps_nil | apply keeps_cons (by repeat (first | exact find_head | apply find_tail)) (by first  | rfl) | exact keeps_self | exact keeps_left | exact keeps_right | exact keeps_swap | apply keeps_mv)) trivial ?_)
  clear hl hh a w; intro vc Fc a w hR hl hh
  obtain ⟨rfl, rfl⟩ := hR
  try simp only [List.cons_append, List.nil_append] at hh
  refine wl (wl_val hl rfl trivial (r_not hl rfl) ?_)
  clear hl a; intro a hl
  refine w_nil ?_
  have hl2 := hl.add (t := 1) (hl.add (t := 2) (hl.add (t := 4) (hl.add (t := 18) (hl.nil) rfl) rfl) rfl) rfl; clear hl; have hl := hl2; clear hl2
  refine then_normal ?_
  refine c_cond hl rfl ?_ ?_
  · intro hc0
    try simp only [decide_eq_true_eq, decide_eq_false_iff_not, Bool.not_eq_true', Bool.not_eq_false', Bool.not_eq_true, Bool.not_eq_false, Bool.and_eq_true, Bool.or_eq_true, Bool.and_eq_false_iff, Bool.or_eq_false_iff, Bool.not_not, ne_eq, Int.not_lt, Int.not_le, Decidable.not_not, beq_iff_eq, bne_iff_ne] at hc0
    exfalso; first | omega | (simp at *; done) | (simp at *; omega)
  · intro hc0
    try simp only [decide_eq_true_eq, decide_eq_false_iff_not, Bool.not_eq_true', Bool.not_eq_false', Bool.not_eq_true, Bool.not_eq_false, Bool.and_eq_true, Bool.or_eq_true, Bool.and_eq_false_iff, Bool.or_eq_false_iff, Bool.not_not, ne_eq, Int.not_lt, Int.not_le, Decidable.not_not, beq_iff_eq, bne_iff_ne] at hc0
    refine wp_skip ?_
    refine then_normal ?_
    refine c_seq ?_
    refine c_draw [(k2, C [.int .u64 ((65536 + hd false : Nat) : Int), .int .u64 ((65536 + nd false 0 : Nat) : Int), .int .u64 ((65536 + nd false 1 : Nat) : Int), .int .u64 ((65536 + nd false 2 : Nat) : Int), .int .u64 ((65536 + nd false 3 : Nat) : Int), .int .u64 ((65536 + nd false 4 : Nat) : Int), .int .u64 ((65536 + nd false 5 : Nat) : Int), .int .u64 ((65536 + nd false 6 : Nat) : Int), .int .i64 (wd false : Int)] 53), (b, C (arrL 16391 (encM (m))) 119)] [7] mixed hh ?_
    clear hh w; intro w hh
    have hM : Mem [(k2, C [.int .u64 ((65536 + hd false : Nat) : Int), .int .u64 ((65536 + nd false 0 : Nat) : Int), .int .u64 ((65536 + nd false 1 : Nat) : Int), .int .u64 ((65536 + nd false 2 : Nat) : Int), .int .u64 ((65536 + nd false 3 : Nat) : Int), .int .u64 ((65536 + nd false 4 : Nat) : Int), .int .u64 ((65536 + nd false 5 : Nat) : Int), .int .u64 ((65536 + nd false 6 : Nat) : Int), .int .i64 (wd false : Int)] 53), (b, C (arrL 16391 (encM (m))) 119)] w := (by repeat (first | exact Mem.nil | refine Mem.cons hh.mem (by repeat (first | exact find_head | apply find_tail)) ?_ | refine Mem.consR hh (by assumption) (by simp) ?_))
    refine d_take (i := 0) hl rfl (by kernel_rfl) (by kernel_rfl) (by kernel_rfl) (by kernel_rfl) (by kernel_rfl) rfl trivial (fun _ _ _ h => h) hM (fun w hC => r_move hl rfl) rfl ?_
    clear hl a; intro a hl
    refine d_take (i := 1) hl rfl (by kernel_rfl) (by kernel_rfl) (by kernel_rfl) (by kernel_rfl) (by kernel_rfl) rfl trivial (fun _ _ _ h => h) hM (fun w hC => r_loadCA hl rfl agg53 hC (by repeat (first | exact find_head | apply find_tail)) (by first | (simp only [List.getElem?_cons_zero, List.getElem?_cons_succ, Value.cells, List.take_zero, List.take_succ_cons, List.take_nil, List.drop_zero, List.drop_succ_cons, List.drop_nil, List.length_cons, List.length_nil, List.cons_append, List.nil_append, List.append_nil, Nat.zero_add, Nat.add_zero, Nat.reduceAdd, Nat.reduceBEq, Nat.reduceEqDiff, Nat.ble, BEq.rfl, Bool.and_true, Bool.and_self, cond_true, beq_self_eq_true]; rfl)) (by first | rfl | (simp; done))) rfl ?_
    clear hl a; intro a hl
    refine d_take (i := 3) hl rfl (by kernel_rfl) (by kernel_rfl) (by kernel_rfl) (by kernel_rfl) (by kernel_rfl) rfl trivial (fun _ _ _ h => h) hM (fun w hC => r_nilCheck hl rfl) rfl ?_
    clear hl a; intro a hl
    refine d_take (i := 4) hl rfl (by kernel_rfl) (by kernel_rfl) (by kernel_rfl) (by kernel_rfl) (by kernel_rfl) rfl trivial (fun _ _ _ h => h) hM (fun w hC => r_field hl rfl fld119_0) rfl ?_
    clear hl a; intro a hl
    refine d_one (i := 2) (by kernel_rfl) rfl ?_
    try clear hM
    refine id (w_call hl hh rfl trivial rfl cal49 rfl (rootCell_spec false) (by repeat (first | exact keeps_nil | apply keeps_cons (by repeat (first | exact find_head | apply find_tail)) (by first  | rfl) | exact keeps_self | exact keeps_left | exact keeps_right | exact keeps_swap | apply keeps_mv)) trivial ?_)
    clear hl hh a w; intro vc Fc a w hR hl hh
    obtain ⟨rfl, rfl⟩ := hR
    try simp only [List.cons_append, List.nil_append] at hh
    have hM : Mem [(k2, C [.int .u64 ((65536 + hd false : Nat) : Int), .int .u64 ((65536 + nd false 0 : Nat) : Int), .int .u64 ((65536 + nd false 1 : Nat) : Int), .int .u64 ((65536 + nd false 2 : Nat) : Int), .int .u64 ((65536 + nd false 3 : Nat) : Int), .int .u64 ((65536 + nd false 4 : Nat) : Int), .int .u64 ((65536 + nd false 5 : Nat) : Int), .int .u64 ((65536 + nd false 6 : Nat) : Int), .int .i64 (wd false : Int)] 53), (b, C (arrL 16391 (encM (m))) 119)] w := (by repeat (first | exact Mem.nil | refine Mem.cons hh.mem (by repeat (first | exact find_head | apply find_tail)) ?_ | refine Mem.consR hh (by assumption) (by simp) ?_))
    refine d_step (fun _ => hM) ?_
    refine d_take (i := 5) hl rfl (by kernel_rfl) (by kernel_rfl) (by kernel_rfl) (by kernel_rfl) (by kernel_rfl) rfl trivial (fun _ _ _ h => h) hM (fun w hC => r_indexA hl rfl rfl arr109 (by omega) (by omega) (by first | (simp only [Int.reduceToNat]; rfl) | exact toNat_add1 _ | exact toNat_add2 _ _ | exact toNat_emod _ _ | exact Int.toNat_natCast _ | rfl)) rfl ?_
    clear hl a; intro a hl
    refine d_take (i := 6) hl rfl (by kernel_rfl) (by kernel_rfl) (by kernel_rfl) (by kernel_rfl) (by kernel_rfl) rfl trivial (fun _ _ _ h => h) hM (fun w hC => r_loadC hl rfl one32 hC (by repeat (first | exact find_head | apply find_tail)) (by exact ld_word _ _ (by omega))) rfl ?_
    clear hl a; intro a hl
    first | rw [h.root] at hl | rw [hst1] at hl | rw [h.cnt] at hl | rw [hw1] at hl | skip
    refine d_takeL (i := 7) hl rfl (by kernel_rfl) (by kernel_rfl) (by kernel_rfl) (by kernel_rfl) (by kernel_rfl) rfl trivial (fun _ _ _ h => h) (fun w => r_assign hl rfl) rfl ?_
    clear hl a; intro a hl
    refine d_done (by kernel_rfl) ?_
    try clear hM
    have hl2 := hl.add (t := 1) (hl.add (t := 2) (hl.add (t := 4) (hl.add (t := 6) (hl.nil) rfl) rfl) rfl) rfl; clear hl; have hl := hl2; clear hl2
    refine then_normal ?_
    refine c_seq ?_
    refine c_region ?_
    refine wl (wl_val hl rfl trivial (r_move hl rfl) ?_)
    clear hl a; intro a hl
    refine wl (wl_val hl rfl trivial (r_shr hl rfl rfl (by omega)) ?_)
    clear hl a; intro a hl
    refine wl (wl_val hl rfl trivial (r_move hl rfl) ?_)
    clear hl a; intro a hl
    refine wl (w_call hl hh rfl trivial rfl cal50 rfl (indexOf_spec r hr1) (by repeat (first | exact keeps_nil | apply keeps_cons (by repeat (first | exact find_head | apply find_tail)) (by first  | rfl) | exact keeps_self | exact keeps_left | exact keeps_right | exact keeps_swap | apply keeps_mv)) trivial ?_)
    clear hl hh a w; intro vc Fc a w hR hl hh
    obtain ⟨rfl, rfl⟩ := hR
    try simp only [List.cons_append, List.nil_append] at hh
    refine wl (wl_val hl rfl trivial (r_build hl rfl zero66 bld66 (by simp only [fillL, setL, List.getElem?_cons_zero, List.getElem?_cons_succ, Value.cells, List.take_zero, List.take_succ_cons, List.take_nil, List.drop_zero, List.drop_succ_cons, List.drop_nil, List.length_cons, List.length_nil, List.cons_append, List.nil_append, List.append_nil, Nat.zero_add, Nat.add_zero, Nat.reduceAdd, Nat.reduceBEq, Nat.reduceEqDiff, Nat.ble, BEq.rfl, Bool.and_true, Bool.and_self, cond_true, beq_self_eq_true]; rfl)) ?_)
    clear hl a; intro a hl
    refine wl (w_alloc hl hh rfl trivial zero66 rfl ?_)
    clear hl hh a w; intro k7 a w hl hh
    refine wl (w_storeA hl hh trivial agg66 rfl rfl (by repeat (first | exact find_head | apply find_tail)) (by first | rfl | rw [arrL_length]) (by first | (show 0 + 9 ≤ 9; decide) | (simp; done) | (rw [arrL_length, arrL_length]; decide)) (by first | rfl | exact arrL_one (vw_one _ _ _ _ _ hone)) (by first | exact setL_all _ _ rfl | exact setL_all _ _ (by rw [arrL_length]; rfl) | exact setL_all _ _ (by rw [arrL_length, arrL_length])) ?_)
    clear hh w; intro w hh
    refine w_nil ?_
    have hl2 := hl.add (t := 1) (hl.add (t := 2) (hl.add (t := 4) (hl.add (t := 7) (hl.nil) rfl) rfl) rfl) rfl; clear hl; have hl := hl2; clear hl2
    refine then_normal ?_
    refine c_seq ?_
    refine c_seq ?_
    refine c_region ?_
    refine wl (wl_val hl rfl trivial (r_move hl rfl) ?_)
    clear hl a; intro a hl
    refine w_nil ?_
    have hl2 := hl.add (t := 1) (hl.add (t := 2) (hl.add (t := 4) (hl.add (t := 7) (hl.add (t := 33) (hl.nil) rfl) rfl) rfl) rfl) rfl; clear hl; have hl := hl2; clear hl2
    refine then_normal ?_
    refine wp_block ?_
    obtain ⟨KS0, hKS0, hk⟩ := (hl.add (t := 1) (hl.add (t := 2) (hl.add (t := 4) (hl.add (t := 7) (hl.nil) rfl) rfl) rfl) rfl).name
    obtain ⟨HS0, hHS0, hh2⟩ := hh.name (keeps_cons (b := k7) (o' := C (arrL 9 (vwV (Int.fdiv (r : Int) (2 ^ (min (Int.toNat 8) IntKind.u64.bits))) ((r % 256 : Nat) : Int) sp 0 (.slice none 0 0))) 66) (by repeat (first | exact find_head | apply find_tail)) (by first | exact vw_start _ _ _ | rfl) (keeps_nil))
    refine c_loop (α := Nat) (fun t => 6 - t) (fun t a w => (t ≤ 6) ∧ Sl 122 ([(33, .int .i64 t)] ++ KS0) a ∧ Has _ w0 ([(k7, C (arrL 9 (vwV (Int.fdiv (r : Int) (2 ^ (min (Int.toNat 8) IntKind.u64.bits))) ((r % 256 : Nat) : Int) sp t (.slice none 0 0))) 66)] ++ HS0) w) 0 ⟨Nat.zero_le _, hl.addE (t := 33) (hk) rfl (by first | rfl), hh2⟩ ?_
    clear hk hh2 hl hh a w
    intro t a w hI
    obtain ⟨ht, hl, hh⟩ := hI
    subst hKS0; subst hHS0
    simp only [List.cons_append, List.nil_append, List.append_nil] at hl hh
    refine c_seq ?_
    refine c_region ?_
    refine wl (wl_val hl rfl trivial (r_lss hl rfl rfl) ?_)
    clear hl a; intro a hl
    refine w_nil ?_
    have hl2 := hl.add (t := 1) (hl.add (t := 2) (hl.add (t := 4) (hl.add (t := 7) (hl.add (t := 33) (hl.add (t := 34) (hl.nil) rfl) rfl) rfl) rfl) rfl) rfl; clear hl; have hl := hl2; clear hl2
    refine then_normal ?_
    refine c_seq ?_
    refine c_cond hl rfl ?_ ?_
    · intro hc1
      try simp only [decide_eq_true_eq, decide_eq_false_iff_not, Bool.not_eq_true', Bool.not_eq_false', Bool.not_eq_true, Bool.not_eq_false, Bool.and_eq_true, Bool.or_eq_true, Bool.and_eq_false_iff, Bool.or_eq_false_iff, Bool.not_not, ne_eq, Int.not_lt, Int.not_le, Decidable.not_not, beq_iff_eq, bne_iff_ne] at hc1
      obtain ⟨hst1, hst2⟩ := h.sp t (by omega)
      refine wp_skip ?_
      refine then_normal ?_
      refine c_seq ?_
      refine wp_block ?_
      refine c_seq ?_
      refine c_region ?_
      refine wl (wl_val hl rfl trivial (r_move hl rfl) ?_)
      clear hl a; intro a hl
      refine wl (wl_val hl rfl trivial (r_assign hl rfl) ?_)
      clear hl a; intro a hl
      refine w_nil ?_
      have hl2 := hl.add (t := 1) (hl.add (t := 2) (hl.add (t := 4) (hl.add (t := 7) (hl.add (t := 8) (hl.add (t := 33) (hl.nil) rfl) rfl) rfl) rfl) rfl) rfl; clear hl; have hl := hl2; clear hl2
      refine then_normal ?_
      refine c_draw [(k2, C [.int .u64 ((65536 + hd false : Nat) : Int), .int .u64 ((65536 + nd false 0 : Nat) : Int), .int .u64 ((65536 + nd false 1 : Nat) : Int), .int .u64 ((65536 + nd false 2 : Nat) : Int), .int .u64 ((65536 + nd false 3 : Nat) : Int), .int .u64 ((65536 + nd false 4 : Nat) : Int), .int .u64 ((65536 + nd false 5 : Nat) : Int), .int .u64 ((65536 + nd false 6 : Nat) : Int), .int .i64 (wd false : Int)] 53), (b, C (arrL 16391 (encM (m))) 119)] [11, 12] mixed hh ?_
      clear hh w; intro w hh
      have hM : Mem [(k2, C [.int .u64 ((65536 + hd false : Nat) : Int), .int .u64 ((65536 + nd false 0 : Nat) : Int), .int .u64 ((65536 + nd false 1 : Nat) : Int), .int .u64 ((65536 + nd false 2 : Nat) : Int), .int .u64 ((65536 + nd false 3 : Nat) : Int), .int .u64 ((65536 + nd false 4 : Nat) : Int), .int .u64 ((65536 + nd false 5 : Nat) : Int), .int .u64 ((65536 + nd false 6 : Nat) : Int), .int .i64 (wd false : Int)] 53), (b, C (arrL 16391 (encM (m))) 119)] w := (by repeat (first | exact Mem.nil | refine Mem.cons hh.mem (by repeat (first | exact find_head | apply find_tail)) ?_ | refine Mem.consR hh (by assumption) (by simp) ?_))
      refine d_take (i := 0) hl rfl (by kernel_rfl) (by kernel_rfl) (by kernel_rfl) (by kernel_rfl) (by kernel_rfl) rfl trivial (fun _ _ _ h => h) hM (fun w hC => r_move hl rfl) rfl ?_
      clear hl a; intro a hl
      refine d_take (i := 1) hl rfl (by kernel_rfl) (by kernel_rfl) (by kernel_rfl) (by kernel_rfl) (by kernel_rfl) rfl trivial (fun _ _ _ h => h) hM (fun w hC => r_move hl rfl) rfl ?_
      clear hl a; intro a hl
      refine d_take (i := 2) hl rfl (by kernel_rfl) (by kernel_rfl) (by kernel_rfl) (by kernel_rfl) (by kernel_rfl) rfl trivial (fun _ _ _ h => h) hM (fun w hC => r_loadCA hl rfl agg53 hC (by repeat (first | exact find_head | apply find_tail)) (by first | (simp only [List.getElem?_cons_zero, List.getElem?_cons_succ, Value.cells, List.take_zero, List.take_succ_cons, List.take_nil, List.drop_zero, List.drop_succ_cons, List.drop_nil, List.length_cons, List.length_nil, List.cons_append, List.nil_append, List.append_nil, Nat.zero_add, Nat.add_zero, Nat.reduceAdd, Nat.reduceBEq, Nat.reduceEqDiff, Nat.ble, BEq.rfl, Bool.and_true, Bool.and_self, cond_true, beq_self_eq_true]; rfl)) (by first | rfl | (simp; done))) rfl ?_
      clear hl a; intro a hl
      refine d_take (i := 3) hl rfl (by kernel_rfl) (by kernel_rfl) (by kernel_rfl) (by kernel_rfl) (by kernel_rfl) rfl trivial (fun _ _ _ h => h) hM (fun w hC => r_move hl rfl) rfl ?_
      clear hl a; intro a hl
      refine d_take (i := 5) hl rfl (by kernel_rfl) (by kernel_rfl) (by kernel_rfl) (by kernel_rfl) (by kernel_rfl) rfl trivial (fun _ _ _ h => h) hM (fun w hC => r_nilCheck hl rfl) rfl ?_
      clear hl a; intro a hl
      refine d_take (i := 6) hl rfl (by kernel_rfl) (by kernel_rfl) (by kernel_rfl) (by kernel_rfl) (by kernel_rfl) rfl trivial (fun _ _ _ h => h) hM (fun w hC => r_field hl rfl fld119_0) rfl ?_
      clear hl a; intro a hl
      refine d_take (i := 10) hl rfl (by kernel_rfl) (by kernel_rfl) (by kernel_rfl) (by kernel_rfl) (by kernel_rfl) rfl trivial (fun _ _ _ h => h) hM (fun w hC => r_field hl rfl fld66_2) rfl ?_
      clear hl a; intro a hl
      refine d_one (i := 4) (by kernel_rfl) rfl ?_
      try clear hM
      refine id (w_call hl hh rfl trivial rfl cal51 rfl (spareCell_spec false t (by omega)) (by repeat (first | exact keeps_nil | apply keeps_cons (by repeat (first | exact find_head | apply find_tail)) (by first  | rfl) | exact keeps_self | exact keeps_left | exact keeps_right | exact keeps_swap | apply keeps_mv)) trivial ?_)
      clear hl hh a w; intro vc Fc a w hR hl hh
      obtain ⟨rfl, rfl⟩ := hR
      try simp only [List.cons_append, List.nil_append] at hh
      have hM : Mem [(k2, C [.int .u64 ((65536 + hd false : Nat) : Int), .int .u64 ((65536 + nd false 0 : Nat) : Int), .int .u64 ((65536 + nd false 1 : Nat) : Int), .int .u64 ((65536 + nd false 2 : Nat) : Int), .int .u64 ((65536 + nd false 3 : Nat) : Int), .int .u64 ((65536 + nd false 4 : Nat) : Int), .int .u64 ((65536 + nd false 5 : Nat) : Int), .int .u64 ((65536 + nd false 6 : Nat) : Int), .int .i64 (wd false : Int)] 53), (b, C (arrL 16391 (encM (m))) 119)] w := (by repeat (first | exact Mem.nil | refine Mem.cons hh.mem (by repeat (first | exact find_head | apply find_tail)) ?_ | refine Mem.consR hh (by assumption) (by simp) ?_))
      refine d_step (fun _ => hM) ?_
      refine d_take (i := 7) hl rfl (by kernel_rfl) (by kernel_rfl) (by kernel_rfl) (by kernel_rfl) (by kernel_rfl) rfl trivial (fun _ _ _ h => h) hM (fun w hC => r_indexA hl rfl rfl arr109 (by omega) (by omega) (by first | (simp only [Int.reduceToNat]; rfl) | exact toNat_add1 _ | exact toNat_add2 _ _ | exact toNat_emod _ _ | exact Int.toNat_natCast _ | rfl)) rfl ?_
      clear hl a; intro a hl
      refine d_take (i := 8) hl rfl (by kernel_rfl) (by kernel_rfl) (by kernel_rfl) (by kernel_rfl) (by kernel_rfl) rfl trivial (fun _ _ _ h => h) hM (fun w hC => r_loadC hl rfl one32 hC (by repeat (first | exact find_head | apply find_tail)) (by exact ld_word _ _ (by omega))) rfl ?_
      clear hl a; intro a hl
      first | rw [h.root] at hl | rw [hst1] at hl | rw [h.cnt] at hl | rw [hw1] at hl | skip
      first | refine d_take (i := 9) hl rfl (by kernel_rfl) (by kernel_rfl) (by kernel_rfl) (by kernel_rfl) (by kernel_rfl) rfl trivial (fun _ _ _ h => h) hM (fun w hC => r_conv hl rfl Tryf.underlying32 Tryf.underlying3 (by simp only [Fits]; omega)) rfl ?_ | refine d_take (i := 9) hl rfl (by kernel_rfl) (by kernel_rfl) (by kernel_rfl) (by kernel_rfl) (by kernel_rfl) rfl trivial (fun _ _ _ h => h) hM (fun w hC => r_convW hl rfl Tryf.underlying32 Tryf.underlying3) rfl ?_
      clear hl a; intro a hl
      refine d_takeL (i := 11) hl rfl (by kernel_rfl) (by kernel_rfl) (by kernel_rfl) (by kernel_rfl) (by kernel_rfl) rfl trivial (fun _ _ _ h => h) (fun w => r_indexA hl rfl rfl arr63 (by omega) (by omega) (by first | (simp only [Int.reduceToNat]; rfl) | exact toNat_add1 _ | exact toNat_add2 _ _ | exact toNat_emod _ _ | exact Int.toNat_natCast _ | rfl)) rfl ?_
      clear hl a; intro a hl
      refine d_one (i := 12) (by kernel_rfl) rfl ?_
      try clear hM
      refine id (w_store hl hh trivial one3 rfl rfl (by repeat (first | exact find_head | apply find_tail)) (by rw [arrL_length]; omega) (by first | rfl | assumption | (apply Row.one; assumption)) (by exact vw_sp _ _ _ _ _ (by omega)) ?_)
      clear hh w; intro w hh
      refine d_step (fun h => absurd h (by decide)) ?_
      refine d_done (by kernel_rfl) ?_
      try clear hM
      have hl2 := hl.add (t := 1) (hl.add (t := 2) (hl.add (t := 4) (hl.add (t := 7) (hl.add (t := 33) (hl.nil) rfl) rfl) rfl) rfl) rfl; clear hl; have hl := hl2; clear hl2
      refine blk_normal ?_
      refine then_normal ?_
      refine c_region ?_
      first | refine wl (wl_val hl rfl trivial (r_add hl rfl rfl (by simp only [Fits]; omega)) ?_) | refine wl (wl_val hl rfl trivial (r_addW hl rfl rfl) ?_)
      clear hl a; intro a hl
      refine wl (wl_val hl rfl trivial (r_move hl rfl) ?_)
      clear hl a; intro a hl
      refine w_nil ?_
      have hl2 := hl.add (t := 1) (hl.add (t := 2) (hl.add (t := 4) (hl.add (t := 7) (hl.add (t := 33) (hl.nil) rfl) rfl) rfl) rfl) rfl; clear hl; have hl := hl2; clear hl2
      refine then_normal ?_
      refine ⟨t + 1, (by omega), (by omega), hl.addE (t := 33) (hl.addE (t := 1) (hl.addE (t := 2) (hl.addE (t := 4) (hl.addE (t := 7) (hl.nil) rfl (by first | rfl | rfl)) rfl (by first | rfl | rfl)) rfl (by first | rfl | rfl)) rfl (by first | rfl | rfl)) rfl (by first | rfl | rfl), hh.keep (by repeat (first | exact keeps_nil | apply keeps_cons (by repeat (first | exact find_head | apply find_tail)) (by first  | rfl) | exact keeps_self | exact keeps_left | exact keeps_right | exact keeps_swap | apply keeps_mv))⟩
    · intro hc1
      try simp only [decide_eq_true_eq, decide_eq_false_iff_not, Bool.not_eq_true', Bool.not_eq_false', Bool.not_eq_true, Bool.not_eq_false, Bool.and_eq_true, Bool.or_eq_true, Bool.and_eq_false_iff, Bool.or_eq_false_iff, Bool.not_not, ne_eq, Int.not_lt, Int.not_le, Decidable.not_not, beq_iff_eq, bne_iff_ne] at hc1
      obtain rfl : t = 6 := by omega
      refine wp_exit ?_
      refine then_exit ?_
      refine then_exit ?_
      refine blk_exit ?_
      refine then_normal ?_
      refine c_seq ?_
      refine c_seq ?_
      refine c_region ?_
      refine wl (wl_val hl rfl trivial (r_field hl rfl fld66_1) ?_)
      clear hl a; intro a hl
      refine wl (w_load hl hh rfl trivial one3 rfl (by repeat (first | exact find_head | apply find_tail)) (by exact vw_cur _ _ _ _ _) ?_)
      clear hl a; intro a hl
      first | rw [h.root] at hl | rw [hst1] at hl | rw [h.cnt] at hl | rw [hw1] at hl | skip
      refine wl (wl_val hl rfl trivial (r_geq hl rfl rfl) ?_)
      clear hl a; intro a hl
      refine wl (wl_val hl rfl trivial (r_move hl rfl) ?_)
      clear hl a; intro a hl
      refine sl_split (t := 52) hl rfl ?_ ?_
      · intro hg1; clear hl; intro hl
        try simp only [decide_eq_true_eq, decide_eq_false_iff_not, Bool.not_eq_true', Bool.not_eq_false', Bool.not_eq_true, Bool.not_eq_false, Bool.and_eq_true, Bool.or_eq_true, Bool.and_eq_false_iff, Bool.or_eq_false_iff, Bool.not_not, ne_eq, Int.not_lt, Int.not_le, Decidable.not_not, beq_iff_eq, bne_iff_ne] at hg1
        exfalso; first | omega | (simp at *; done) | (simp at *; omega)
      · intro hg1; clear hl; intro hl
        try simp only [decide_eq_true_eq, decide_eq_false_iff_not, Bool.not_eq_true', Bool.not_eq_false', Bool.not_eq_true, Bool.not_eq_false, Bool.and_eq_true, Bool.or_eq_true, Bool.and_eq_false_iff, Bool.or_eq_false_iff, Bool.not_not, ne_eq, Int.not_lt, Int.not_le, Decidable.not_not, beq_iff_eq, bne_iff_ne] at hg1
        refine wl (wl_val hl rfl ⟨_, _, rfl, rfl, rfl⟩ (r_move hl rfl) ?_)
        clear hl a; intro a hl
        refine wl (wl_val hl rfl ⟨_, _, rfl, rfl, rfl⟩ (r_field hl rfl fld66_1) ?_)
        clear hl a; intro a hl
        refine wl (w_load hl hh rfl ⟨_, _, rfl, rfl, rfl⟩ one3 rfl (by repeat (first | exact find_head | apply find_tail)) (by exact vw_cur _ _ _ _ _) ?_)
        clear hl a; intro a hl
        first | rw [h.root] at hl | rw [hst1] at hl | rw [h.cnt] at hl | rw [hw1] at hl | skip
        refine wl (wl_val hl rfl ⟨_, _, rfl, rfl, rfl⟩ (r_field hl rfl fld53_1) ?_)
        clear hl a; intro a hl
        refine wl (wl_val hl rfl ⟨_, _, rfl, rfl, rfl⟩ (r_indexA hl rfl rfl arr51 (by omega) (by omega) (by first | (simp only [Int.reduceToNat]; rfl) | exact toNat_add1 _ | exact toNat_add2 _ _ | exact toNat_emod _ _ | exact Int.toNat_natCast _ | rfl)) ?_)
        clear hl a; intro a hl
        refine wl (w_load hl hh rfl ⟨_, _, rfl, rfl, rfl⟩ one50 rfl (by repeat (first | exact find_head | apply find_tail)) (by exact box_at false _ (by omega)) ?_)
        clear hl a; intro a hl
        first | rw [h.root] at hl | rw [hst1] at hl | rw [h.cnt] at hl | rw [hw1] at hl | skip
        refine wl (w_call hl hh rfl ⟨_, _, rfl, rfl, rfl⟩ rfl cal48 rfl (isLive_spec b m (nd false (r % 256)) (by omega) hv3 hv4) (by repeat (first | exact keeps_nil | apply keeps_cons (by repeat (first | exact find_head | apply find_tail)) (by first  | rfl) | exact keeps_self | exact keeps_left | exact keeps_right | exact keeps_swap | apply keeps_mv)) trivial ?_)
        clear hl hh a w; intro vc Fc a w hR hl hh
        obtain ⟨rfl, rfl⟩ := hR
        try simp only [List.cons_append, List.nil_append] at hh
        refine wl (wl_val hl rfl ⟨_, _, rfl, rfl, rfl⟩ (r_not hl rfl) ?_)
        clear hl a; intro a hl
        refine wl (wl_val hl rfl trivial (r_pickF hl rfl rfl) ?_)
        clear hl a; intro a hl
        refine w_nil ?_
        have hl2 := hl.add (t := 1) (hl.add (t := 2) (hl.add (t := 4) (hl.add (t := 7) (hl.add (t := 61) (hl.nil) rfl) rfl) rfl) rfl) rfl; clear hl; have hl := hl2; clear hl2
        refine then_normal ?_
        refine c_cond hl rfl ?_ ?_
        · intro hc2
          try simp only [decide_eq_true_eq, decide_eq_false_iff_not, Bool.not_eq_true', Bool.not_eq_false', Bool.not_eq_true, Bool.not_eq_false, Bool.and_eq_true, Bool.or_eq_true, Bool.and_eq_false_iff, Bool.or_eq_false_iff, Bool.not_not, ne_eq, Int.not_lt, Int.not_le, Decidable.not_not, beq_iff_eq, bne_iff_ne] at hc2
          exfalso; first | omega | (simp at *; done) | (simp at *; omega)
        · intro hc2
          try simp only [decide_eq_true_eq, decide_eq_false_iff_not, Bool.not_eq_true', Bool.not_eq_false', Bool.not_eq_true, Bool.not_eq_false, Bool.and_eq_true, Bool.or_eq_true, Bool.and_eq_false_iff, Bool.or_eq_false_iff, Bool.not_not, ne_eq, Int.not_lt, Int.not_le, Decidable.not_not, beq_iff_eq, bne_iff_ne] at hc2
          refine wp_skip ?_
          refine then_normal ?_
          refine c_seq ?_
          refine c_draw [(k7, C (arrL 9 (vwV (Int.fdiv (r : Int) (2 ^ (min (Int.toNat 8) IntKind.u64.bits))) ((r % 256 : Nat) : Int) sp 6 (.slice none 0 0))) 66), (k2, C [.int .u64 ((65536 + hd false : Nat) : Int), .int .u64 ((65536 + nd false 0 : Nat) : Int), .int .u64 ((65536 + nd false 1 : Nat) : Int), .int .u64 ((65536 + nd false 2 : Nat) : Int), .int .u64 ((65536 + nd false 3 : Nat) : Int), .int .u64 ((65536 + nd false 4 : Nat) : Int), .int .u64 ((65536 + nd false 5 : Nat) : Int), .int .u64 ((65536 + nd false 6 : Nat) : Int), .int .i64 (wd false : Int)] 53)] [9, 10] mixed hh ?_
          clear hh w; intro w hh
          have hM : Mem [(k7, C (arrL 9 (vwV (Int.fdiv (r : Int) (2 ^ (min (Int.toNat 8) IntKind.u64.bits))) ((r % 256 : Nat) : Int) sp 6 (.slice none 0 0))) 66), (k2, C [.int .u64 ((65536 + hd false : Nat) : Int), .int .u64 ((65536 + nd false 0 : Nat) : Int), .int .u64 ((65536 + nd false 1 : Nat) : Int), .int .u64 ((65536 + nd false 2 : Nat) : Int), .int .u64 ((65536 + nd false 3 : Nat) : Int), .int .u64 ((65536 + nd false 4 : Nat) : Int), .int .u64 ((65536 + nd false 5 : Nat) : Int), .int .u64 ((65536 + nd false 6 : Nat) : Int), .int .i64 (wd false : Int)] 53)] w := (by repeat (first | exact Mem.nil | refine Mem.cons hh.mem (by repeat (first | exact find_head | apply find_tail)) ?_ | refine Mem.consR hh (by assumption) (by simp) ?_))
          refine d_take (i := 0) hl rfl (by kernel_rfl) (by kernel_rfl) (by kernel_rfl) (by kernel_rfl) (by kernel_rfl) rfl trivial (fun _ _ _ h => h) hM (fun w hC => r_move hl rfl) rfl ?_
          clear hl a; intro a hl
          refine d_take (i := 1) hl rfl (by kernel_rfl) (by kernel_rfl) (by kernel_rfl) (by kernel_rfl) (by kernel_rfl) rfl trivial (fun _ _ _ h => h) hM (fun w hC => r_nilCheck hl rfl) rfl ?_
          clear hl a; intro a hl
          refine d_take (i := 2) hl rfl (by kernel_rfl) (by kernel_rfl) (by kernel_rfl) (by kernel_rfl) (by kernel_rfl) rfl trivial (fun _ _ _ h => h) hM (fun w hC => r_field hl rfl fld119_0) rfl ?_
          clear hl a; intro a hl
          refine d_take (i := 3) hl rfl (by kernel_rfl) (by kernel_rfl) (by kernel_rfl) (by kernel_rfl) (by kernel_rfl) rfl trivial (fun _ _ _ h => h) hM (fun w hC => r_field hl rfl fld66_1) rfl ?_
          clear hl a; intro a hl
          refine d_take (i := 4) hl rfl (by kernel_rfl) (by kernel_rfl) (by kernel_rfl) (by kernel_rfl) (by kernel_rfl) rfl trivial (fun _ _ _ h => h) hM (fun w hC => r_loadC hl rfl one3 hC (by repeat (first | exact find_head | apply find_tail)) (by exact vw_cur _ _ _ _ _)) rfl ?_
          clear hl a; intro a hl
          first | rw [h.root] at hl | rw [hst1] at hl | rw [h.cnt] at hl | rw [hw1] at hl | skip
          refine d_take (i := 5) hl rfl (by kernel_rfl) (by kernel_rfl) (by kernel_rfl) (by kernel_rfl) (by kernel_rfl) rfl trivial (fun _ _ _ h => h) hM (fun w hC => r_field hl rfl fld53_1) rfl ?_
          clear hl a; intro a hl
          refine d_take (i := 6) hl rfl (by kernel_rfl) (by kernel_rfl) (by kernel_rfl) (by kernel_rfl) (by kernel_rfl) rfl trivial (fun _ _ _ h => h) hM (fun w hC => r_indexA hl rfl rfl arr51 (by omega) (by omega) (by first | (simp only [Int.reduceToNat]; rfl) | exact toNat_add1 _ | exact toNat_add2 _ _ | exact toNat_emod _ _ | exact Int.toNat_natCast _ | rfl)) rfl ?_
          clear hl a; intro a hl
          refine d_take (i := 7) hl rfl (by kernel_rfl) (by kernel_rfl) (by kernel_rfl) (by kernel_rfl) (by kernel_rfl) rfl trivial (fun _ _ _ h => h) hM (fun w hC => r_loadC hl rfl one50 hC (by repeat (first | exact find_head | apply find_tail)) (by exact box_at false _ (by omega))) rfl ?_
          clear hl a; intro a hl
          first | rw [h.root] at hl | rw [hst1] at hl | rw [h.cnt] at hl | rw [hw1] at hl | skip
          refine d_one (i := 8) (by kernel_rfl) rfl ?_
          try clear hM
          refine id (w_call hl hh rfl trivial rfl cal52 rfl (refAddr_spec _) (by repeat (first | exact keeps_nil | apply keeps_cons (by repeat (first | exact find_head | apply find_tail)) (by first  | rfl) | exact keeps_self | exact keeps_left | exact keeps_right | exact keeps_swap | apply keeps_mv)) trivial ?_)
          clear hl hh a w; intro vc Fc a w hR hl hh
          obtain ⟨rfl, rfl⟩ := hR
          try simp only [List.cons_append, List.nil_append] at hh
          rw [ref_mod _ (by omega)] at hl
          have hM : Mem [(k7, C (arrL 9 (vwV (Int.fdiv (r : Int) (2 ^ (min (Int.toNat 8) IntKind.u64.bits))) ((r % 256 : Nat) : Int) sp 6 (.slice none 0 0))) 66), (k2, C [.int .u64 ((65536 + hd false : Nat) : Int), .int .u64 ((65536 + nd false 0 : Nat) : Int), .int .u64 ((65536 + nd false 1 : Nat) : Int), .int .u64 ((65536 + nd false 2 : Nat) : Int), .int .u64 ((65536 + nd false 3 : Nat) : Int), .int .u64 ((65536 + nd false 4 : Nat) : Int), .int .u64 ((65536 + nd false 5 : Nat) : Int), .int .u64 ((65536 + nd false 6 : Nat) : Int), .int .i64 (wd false : Int)] 53)] w := (by repeat (first | exact Mem.nil | refine Mem.cons hh.mem (by repeat (first | exact find_head | apply find_tail)) ?_ | refine Mem.consR hh (by assumption) (by simp) ?_))
          refine d_step (fun _ => hM) ?_
          refine d_takeL (i := 9) hl rfl (by kernel_rfl) (by kernel_rfl) (by kernel_rfl) (by kernel_rfl) (by kernel_rfl) rfl trivial (fun _ _ _ h => h) (fun w => r_sliceA10 hl rfl rfl arr109 (by first | (refine ⟨?_, ?_, ?_⟩ <;> omega) | (refine ⟨?_, ?_⟩ <;> omega)) (by first | (simp only [Int.reduceToNat]; rfl) | exact toNat_add1 _ | exact toNat_add2 _ _ | exact toNat_emod _ _ | exact Int.toNat_natCast _ | rfl)) rfl ?_
          clear hl a; intro a hl
          refine d_takeL (i := 10) hl rfl (by kernel_rfl) (by kernel_rfl) (by kernel_rfl) (by kernel_rfl) (by kernel_rfl) rfl trivial (fun _ _ _ h => h) (fun w => r_assign hl rfl) rfl ?_
          clear hl a; intro a hl
          refine d_done (by kernel_rfl) ?_
          try clear hM
          have hl2 := hl.add (t := 2) (hl.add (t := 4) (hl.add (t := 7) (hl.add (t := 9) (hl.nil) rfl) rfl) rfl) rfl; clear hl; have hl := hl2; clear hl2
          refine then_normal ?_
          refine c_seq ?_
          refine c_region ?_
          refine wl (wl_val hl rfl trivial (r_move hl rfl) ?_)
          clear hl a; intro a hl
          refine wl (wl_val hl rfl trivial (r_indexS hl rfl rfl slc129 (by omega) (by omega) (by first | (simp only [Int.reduceToNat]; rfl) | exact toNat_add1 _ | exact toNat_add2 _ _ | exact toNat_emod _ _ | exact Int.toNat_natCast _ | rfl)) ?_)
          clear hl a; intro a hl
          refine wl (w_load hl hh rfl trivial one32 rfl (by repeat (first | exact find_head | apply find_tail)) (by first | exact ld_wordE m _ (nd false (r % 256)) (by omega) (by omega) | exact ld_wordE m _ (nd false (r % 256) + 1 + s.1) (by omega) (by omega)) ?_)
          clear hl a; intro a hl
          first | rw [h.root] at hl | rw [hst1] at hl | rw [h.cnt] at hl | rw [hw1] at hl | skip
          refine wl (wl_val hl rfl trivial (r_assign hl rfl) ?_)
          clear hl a; intro a hl
          refine w_nil ?_
          have hl2 := hl.add (t := 2) (hl.add (t := 4) (hl.add (t := 7) (hl.add (t := 9) (hl.add (t := 10) (hl.nil) rfl) rfl) rfl) rfl) rfl; clear hl; have hl := hl2; clear hl2
          refine then_normal ?_
          refine c_seq ?_
          refine c_seq ?_
          refine c_region ?_
          refine wl (wl_val hl rfl trivial (r_move hl rfl) ?_)
          clear hl a; intro a hl
          refine wl (wl_val hl rfl trivial (r_gtr hl rfl rfl) ?_)
          clear hl a; intro a hl
          refine w_nil ?_
          have hl2 := hl.add (t := 2) (hl.add (t := 4) (hl.add (t := 7) (hl.add (t := 9) (hl.add (t := 10) (hl.add (t := 82) (hl.nil) rfl) rfl) rfl) rfl) rfl) rfl; clear hl; have hl := hl2; clear hl2
          refine then_normal ?_
          refine c_cond hl rfl ?_ ?_
          · intro hc3
            try simp only [decide_eq_true_eq, decide_eq_false_iff_not, Bool.not_eq_true', Bool.not_eq_false', Bool.not_eq_true, Bool.not_eq_false, Bool.and_eq_true, Bool.or_eq_true, Bool.and_eq_false_iff, Bool.or_eq_false_iff, Bool.not_not, ne_eq, Int.not_lt, Int.not_le, Decidable.not_not, beq_iff_eq, bne_iff_ne] at hc3
            exfalso; first | omega | (simp at *; done) | (simp at *; omega)
          · intro hc3
            try simp only [decide_eq_true_eq, decide_eq_false_iff_not, Bool.not_eq_true', Bool.not_eq_false', Bool.not_eq_true, Bool.not_eq_false, Bool.and_eq_true, Bool.or_eq_true, Bool.and_eq_false_iff, Bool.or_eq_false_iff, Bool.not_not, ne_eq, Int.not_lt, Int.not_le, Decidable.not_not, beq_iff_eq, bne_iff_ne] at hc3
            refine wp_skip ?_
            refine then_normal ?_
            refine c_seq ?_
            refine c_seq ?_
            refine c_region ?_
            refine wl (wl_val hl rfl trivial (r_assign hl rfl) ?_)
            clear hl a; intro a hl
            refine w_nil ?_
            have hl2 := hl.add (t := 2) (hl.add (t := 4) (hl.add (t := 7) (hl.add (t := 9) (hl.add (t := 10) (hl.add (t := 11) (hl.nil) rfl) rfl) rfl) rfl) rfl) rfl; clear hl; have hl := hl2; clear hl2
            refine then_normal ?_
            refine wp_block ?_
            obtain ⟨KS1, hKS1, hk⟩ := (hl.add (t := 2) (hl.add (t := 4) (hl.add (t := 7) (hl.add (t := 9) (hl.add (t := 10) (hl.nil) rfl) rfl) rfl) rfl) rfl).name
            obtain ⟨HS1, hHS1, hh2⟩ := hh.nameT (A := [(k7, C (arrL 9 (vwV (Int.fdiv (r : Int) (2 ^ (min (Int.toNat 8) IntKind.u64.bits))) ((r % 256 : Nat) : Int) sp 6 (.slice none 0 0))) 66)]) (U := []) (keeps_cons (b := k7) (o' := C (arrL 9 (vwV (Int.fdiv (r : Int) (2 ^ (min (Int.toNat 8) IntKind.u64.bits))) ((r % 256 : Nat) : Int) sp 6 (.slice none 0 0))) 66) (by repeat (first | exact find_head | apply find_tail)) (by first | rfl) ((by repeat (first | exact keeps_nil | exact keeps_self | exact keeps_swap | apply keeps_mv))))
            refine c_loop (α := Nat × Value × List (Nat × Obj)) (fun s => nn - s.1) (fun s a w => (s.1 ≤ nn ∧ Row s.2.1 s.1 (elL m.word false (nd false (r % 256)) s.1) 2 73 s.2.2) ∧ Sl 122 ([(11, .int .i64 s.1)] ++ KS1) a ∧ Has _ w0 ([(k7, C (arrL 9 (vwV (Int.fdiv (r : Int) (2 ^ (min (Int.toNat 8) IntKind.u64.bits))) ((r % 256 : Nat) : Int) sp 6 s.2.1)) 66)] ++ (HS1 ++ s.2.2)) w) (0, .slice none 0 0, []) ⟨⟨Nat.zero_le _, Row.nil _ _⟩, hl.addE (t := 11) (hk) rfl (by first | rfl), (by simp only [List.append_nil]; simp only [List.append_nil] at hh2; exact hh2)⟩ ?_
            clear hk hh2 hl hh a w
            intro s a w hI
            obtain ⟨⟨hs, hrow⟩, hl, hh⟩ := hI
            subst hKS1; subst hHS1
            simp only [List.cons_append, List.nil_append, List.append_nil] at hl hh
            have hone : s.2.1.oneCell' = true := hrow.one
            refine c_seq ?_
            refine c_seq ?_
            refine c_region ?_
            refine wl (wl_val hl rfl trivial (r_move hl rfl) ?_)
            clear hl a; intro a hl
            refine wl (wl_val hl rfl trivial (r_move hl rfl) ?_)
            clear hl a; intro a hl
            first | refine wl (wl_val hl rfl trivial (r_conv hl rfl Tryf.underlying32 Tryf.underlying3 (by simp only [Fits]; omega)) ?_) | refine wl (wl_val hl rfl trivial (r_convW hl rfl Tryf.underlying32 Tryf.underlying3) ?_)
            clear hl a; intro a hl
            refine wl (wl_val hl rfl trivial (r_lss hl rfl rfl) ?_)
            clear hl a; intro a hl
            refine w_nil ?_
            have hl2 := hl.add (t := 2) (hl.add (t := 4) (hl.add (t := 7) (hl.add (t := 9) (hl.add (t := 10) (hl.add (t := 11) (hl.add (t := 91) (hl.nil) rfl) rfl) rfl) rfl) rfl) rfl) rfl; clear hl; have hl := hl2; clear hl2
            refine then_normal ?_
            refine c_cond hl rfl ?_ ?_
            · intro hc4
              try simp only [decide_eq_true_eq, decide_eq_false_iff_not, Bool.not_eq_true', Bool.not_eq_false', Bool.not_eq_true, Bool.not_eq_false, Bool.and_eq_true, Bool.or_eq_true, Bool.and_eq_false_iff, Bool.or_eq_false_iff, Bool.not_not, ne_eq, Int.not_lt, Int.not_le, Decidable.not_not, beq_iff_eq, bne_iff_ne] at hc4
              refine wp_skip ?_
              refine then_normal ?_
              refine c_seq ?_
              refine wp_block ?_
              refine c_seq ?_
              refine c_region ?_
              refine wl (wl_val hl rfl trivial (r_move hl rfl) ?_)
              clear hl a; intro a hl
              refine wl (wl_val hl rfl trivial (r_move hl rfl) ?_)
              clear hl a; intro a hl
              refine wl (wl_val hl rfl trivial (r_field hl rfl fld53_2) ?_)
              clear hl a; intro a hl
              refine wl (w_load hl hh rfl trivial one3 rfl (by repeat (first | exact find_head | apply find_tail)) (by rfl) ?_)
              clear hl a; intro a hl
              first | rw [h.root] at hl | rw [hst1] at hl | rw [h.cnt] at hl | rw [hw1] at hl | skip
              first | refine wl (wl_val hl rfl trivial (r_mul hl rfl rfl (by simp only [Fits]; omega)) ?_) | refine wl (wl_val hl rfl trivial (r_mulW hl rfl rfl) ?_)
              clear hl a; intro a hl
              rw [Int.mul_one] at hl
              first | refine wl (wl_val hl rfl trivial (r_add hl rfl rfl (by simp only [Fits]; omega)) ?_) | refine wl (wl_val hl rfl trivial (r_addW hl rfl rfl) ?_)
              clear hl a; intro a hl
              rw [show (1 : Int) + (s.1 : Int) = ((1 + s.1 : Nat) : Int) by omega] at hl
              refine wl (wl_val hl rfl trivial (r_sliceS10 hl rfl rfl slc129 (by first | (refine ⟨?_, ?_, ?_⟩ <;> omega) | (refine ⟨?_, ?_⟩ <;> omega)) (by first | (simp only [Int.reduceToNat]; rfl) | exact toNat_add1 _ | exact toNat_add2 _ _ | exact toNat_emod _ _ | exact Int.toNat_natCast _ | rfl)) ?_)
              clear hl a; intro a hl
              refine wl (wl_val hl rfl trivial (r_assign hl rfl) ?_)
              clear hl a; intro a hl
              refine w_nil ?_
              have hl2 := hl.add (t := 2) (hl.add (t := 4) (hl.add (t := 7) (hl.add (t := 9) (hl.add (t := 10) (hl.add (t := 11) (hl.add (t := 12) (hl.nil) rfl) rfl) rfl) rfl) rfl) rfl) rfl; clear hl; have hl := hl2; clear hl2
              refine then_normal ?_
              refine c_seq ?_
              refine c_region ?_
              refine wl (wl_val hl rfl trivial (r_move hl rfl) ?_)
              clear hl a; intro a hl
              refine wl (wl_val hl rfl trivial (r_field hl rfl fld53_2) ?_)
              clear hl a; intro a hl
              refine wl (w_load hl hh rfl trivial one3 rfl (by repeat (first | exact find_head | apply find_tail)) (by rfl) ?_)
              clear hl a; intro a hl
              first | rw [h.root] at hl | rw [hst1] at hl | rw [h.cnt] at hl | rw [hw1] at hl | skip
              first | refine wl (wl_val hl rfl trivial (r_sub hl rfl rfl (by simp only [Fits]; omega)) ?_) | refine wl (wl_val hl rfl trivial (r_subW hl rfl rfl) ?_)
              clear hl a; intro a hl
              rw [show (1 : Int) - 1 = ((0 : Nat) : Int) from rfl] at hl
              refine wl (wl_val hl rfl trivial (r_indexS hl rfl rfl slc129 (by omega) (by omega) (by first | (simp only [Int.reduceToNat]; rfl) | exact toNat_add1 _ | exact toNat_add2 _ _ | exact toNat_emod _ _ | exact Int.toNat_natCast _ | rfl)) ?_)
              clear hl a; intro a hl
              refine wl (w_load hl hh rfl trivial one32 rfl (by repeat (first | exact find_head | apply find_tail)) (by first | exact ld_wordE m _ (nd false (r % 256)) (by omega) (by omega) | exact ld_wordE m _ (nd false (r % 256) + 1 + s.1) (by omega) (by omega)) ?_)
              clear hl a; intro a hl
              first | rw [h.root] at hl | rw [hst1] at hl | rw [h.cnt] at hl | rw [hw1] at hl | skip
              refine wl (wl_val hl rfl trivial (r_build hl rfl zero73 bld73 (by simp only [fillL, setL, List.getElem?_cons_zero, List.getElem?_cons_succ, Value.cells, List.take_zero, List.take_succ_cons, List.take_nil, List.drop_zero, List.drop_succ_cons, List.drop_nil, List.length_cons, List.length_nil, List.cons_append, List.nil_append, List.append_nil, Nat.zero_add, Nat.add_zero, Nat.reduceAdd, Nat.reduceBEq, Nat.reduceEqDiff, Nat.ble, BEq.rfl, Bool.and_true, Bool.and_self, cond_true, beq_self_eq_true]; rfl)) ?_)
              clear hl a; intro a hl
              refine wl (w_alloc hl hh rfl trivial zero73 rfl ?_)
              clear hl hh a w; intro k13 a w hl hh
              refine wl (w_storeA hl hh trivial agg73 rfl rfl (by repeat (first | exact find_head | apply find_tail)) (by first | rfl | (simp; done)) (by first | (simp; done) | (simp; omega)) (by first | rfl | (simp; done)) (by first | (simp only [setL, List.getElem?_cons_zero, List.getElem?_cons_succ, Value.cells, List.take_zero, List.take_succ_cons, List.take_nil, List.drop_zero, List.drop_succ_cons, List.drop_nil, List.length_cons, List.length_nil, List.cons_append, List.nil_append, List.append_nil, Nat.zero_add, Nat.add_zero, Nat.reduceAdd, Nat.reduceBEq, Nat.reduceEqDiff, Nat.ble, BEq.rfl, Bool.and_true, Bool.and_self, cond_true, beq_self_eq_true]; rfl)) ?_)
              clear hh w; intro w hh
              refine w_nil ?_
              have hl2 := hl.add (t := 2) (hl.add (t := 4) (hl.add (t := 7) (hl.add (t := 9) (hl.add (t := 10) (hl.add (t := 11) (hl.add (t := 12) (hl.add (t := 13) (hl.nil) rfl) rfl) rfl) rfl) rfl) rfl) rfl) rfl; clear hl; have hl := hl2; clear hl2
              refine then_normal ?_
              refine c_seq ?_
              refine c_seq ?_
              refine c_region ?_
              refine wl (wl_val hl rfl trivial (r_field hl rfl fld53_2) ?_)
              clear hl a; intro a hl
              refine wl (w_load hl hh rfl trivial one3 rfl (by repeat (first | exact find_head | apply find_tail)) (by rfl) ?_)
              clear hl a; intro a hl
              first | rw [h.root] at hl | rw [hst1] at hl | rw [h.cnt] at hl | rw [hw1] at hl | skip
              refine wl (wl_val hl rfl trivial (r_eql hl rfl rfl) ?_)
              clear hl a; intro a hl
              refine w_nil ?_
              have hl2 := hl.add (t := 2) (hl.add (t := 4) (hl.add (t := 7) (hl.add (t := 9) (hl.add (t := 10) (hl.add (t := 11) (hl.add (t := 12) (hl.add (t := 13) (hl.add (t := 110) (hl.nil) rfl) rfl) rfl) rfl) rfl) rfl) rfl) rfl) rfl; clear hl; have hl := hl2; clear hl2
              refine then_normal ?_
              refine c_cond hl rfl ?_ ?_
              · intro hc5
                try simp only [decide_eq_true_eq, decide_eq_false_iff_not, Bool.not_eq_true', Bool.not_eq_false', Bool.not_eq_true, Bool.not_eq_false, Bool.and_eq_true, Bool.or_eq_true, Bool.and_eq_false_iff, Bool.or_eq_false_iff, Bool.not_not, ne_eq, Int.not_lt, Int.not_le, Decidable.not_not, beq_iff_eq, bne_iff_ne] at hc5
                exfalso; first | omega | (simp at *; done) | (simp at *; omega)
              · intro hc5
                try simp only [decide_eq_true_eq, decide_eq_false_iff_not, Bool.not_eq_true', Bool.not_eq_false', Bool.not_eq_true, Bool.not_eq_false, Bool.and_eq_true, Bool.or_eq_true, Bool.and_eq_false_iff, Bool.or_eq_false_iff, Bool.not_not, ne_eq, Int.not_lt, Int.not_le, Decidable.not_not, beq_iff_eq, bne_iff_ne] at hc5
                refine wp_skip ?_
                refine then_normal ?_
                refine c_region ?_
                refine wl (wl_val hl rfl trivial (r_field hl rfl fld66_3) ?_)
                clear hl a; intro a hl
                refine wl (w_load hl hh rfl trivial one64 rfl (by repeat (first | exact find_head | apply find_tail)) (by exact vw_el _ _ _ _ _) ?_)
                clear hl a; intro a hl
                first | rw [h.root] at hl | rw [hst1] at hl | rw [h.cnt] at hl | rw [hw1] at hl | skip
                refine wl (w_loadA hl hh rfl trivial agg73 rfl (by repeat (first | exact find_head | apply find_tail)) (by first | (simp only [List.getElem?_cons_zero, List.getElem?_cons_succ, Value.cells, List.take_zero, List.take_succ_cons, List.take_nil, List.drop_zero, List.drop_succ_cons, List.drop_nil, List.length_cons, List.length_nil, List.cons_append, List.nil_append, List.append_nil, Nat.zero_add, Nat.add_zero, Nat.reduceAdd, Nat.reduceBEq, Nat.reduceEqDiff, Nat.ble, BEq.rfl, Bool.and_true, Bool.and_self, cond_true, beq_self_eq_true]; rfl)) (by first | rfl | (simp; done)) ?_)
                clear hl a; intro a hl
                refine wl (w_buildSlice hl hh rfl trivial app64 zero73 rfl rfl rfl rfl rfl (by simp only [fillL, arrPl, List.range_succ, List.range_zero, List.map_cons, List.map_nil, List.map_append, List.nil_append, List.replicate_succ, List.replicate_zero, List.flatten_cons, List.flatten_nil, Nat.zero_mul, Nat.mul_one, Nat.one_mul, Nat.reduceMul, setL, List.getElem?_cons_zero, List.getElem?_cons_succ, Value.cells, List.take_zero, List.take_succ_cons, List.take_nil, List.drop_zero, List.drop_succ_cons, List.drop_nil, List.length_cons, List.length_nil, List.cons_append, List.nil_append, List.append_nil, Nat.zero_add, Nat.add_zero, Nat.reduceAdd, Nat.reduceBEq, Nat.reduceEqDiff, Nat.ble, BEq.rfl, Bool.and_true, Bool.and_self, cond_true, beq_self_eq_true]; rfl) ?_)
                clear hl hh a w; intro k118 a w hl hh
                refine wl (w_append (news := [.int .u64 0, .int .u64 (m.word (nd false (r % 256) + 1 + s.1))]) hl hh rfl trivial app64 rfl rfl rfl hrow (by repeat (first | exact keeps_nil | apply keeps_cons (by repeat (first | exact find_head | apply find_tail)) (by first  | rfl) | exact keeps_self | exact keeps_left | exact keeps_right | exact keeps_swap | apply keeps_mv)) (hh.mem _ _ (Find.mem (by repeat (first | exact find_head | apply find_tail)))) rfl rfl rfl (by omega) (by omega) (by omega) (by decide) ?_)
                clear hl hh a w; intro rv2 E2 a w hR2 hl hh
                have hh3 := hh.comm; clear hh; have hh := hh3; clear hh3
                simp only [List.cons_append, List.nil_append] at hh
                refine wl (wl_val hl rfl trivial (r_field hl rfl fld66_3) ?_)
                clear hl a; intro a hl
                refine wl (w_store hl hh trivial one64 rfl rfl (by repeat (first | exact find_head | apply find_tail)) (by rw [arrL_length]; decide) (by first | rfl | assumption | (apply Row.one; assumption)) (by exact vw_elS _ _ _ _ _ _) ?_)
                clear hh w; intro w hh
                refine w_nil ?_
                have hl2 := hl.add (t := 2) (hl.add (t := 4) (hl.add (t := 7) (hl.add (t := 9) (hl.add (t := 10) (hl.add (t := 11) (hl.nil) rfl) rfl) rfl) rfl) rfl) rfl; clear hl; have hl := hl2; clear hl2
                refine blk_normal ?_
                refine then_normal ?_
                refine c_region ?_
                refine wl (wl_val hl rfl trivial (r_move hl rfl) ?_)
                clear hl a; intro a hl
                first | refine wl (wl_val hl rfl trivial (r_add hl rfl rfl (by simp only [Fits]; omega)) ?_) | refine wl (wl_val hl rfl trivial (r_addW hl rfl rfl) ?_)
                clear hl a; intro a hl
                refine wl (wl_val hl rfl trivial (r_assign hl rfl) ?_)
                clear hl a; intro a hl
                refine w_nil ?_
                have hl2 := hl.add (t := 2) (hl.add (t := 4) (hl.add (t := 7) (hl.add (t := 9) (hl.add (t := 10) (hl.add (t := 11) (hl.nil) rfl) rfl) rfl) rfl) rfl) rfl; clear hl; have hl := hl2; clear hl2
                refine then_normal ?_
                refine ⟨(s.1 + 1, rv2, E2), (by show nn - (s.1 + 1) < nn - s.1; omega), ⟨by show s.1 + 1 ≤ nn; omega, by rw [elL_succ]; exact hR2⟩, hl.addE (t := 11) (hl.addE (t := 2) (hl.addE (t := 4) (hl.addE (t := 7) (hl.addE (t := 9) (hl.addE (t := 10) (hl.nil) rfl (by first | rfl | rfl)) rfl (by first | rfl | rfl)) rfl (by first | rfl | rfl)) rfl (by first | rfl | rfl)) rfl (by first | rfl | rfl)) rfl (by first | rfl | rfl), hh.keep (by repeat (first | exact keeps_nil | apply keeps_cons (by repeat (first | exact find_head | apply find_tail)) (by first  | rfl) | exact keeps_self | exact keeps_left | exact keeps_right | exact keeps_swap | apply keeps_mv))⟩
            · intro hc4
              try simp only [decide_eq_true_eq, decide_eq_false_iff_not, Bool.not_eq_true', Bool.not_eq_false', Bool.not_eq_true, Bool.not_eq_false, Bool.and_eq_true, Bool.or_eq_true, Bool.and_eq_false_iff, Bool.or_eq_false_iff, Bool.not_not, ne_eq, Int.not_lt, Int.not_le, Decidable.not_not, beq_iff_eq, bne_iff_ne] at hc4
              have hsn : s.1 = nn := by omega
              rw [hsn] at hrow
              refine wp_exit ?_
              refine then_exit ?_
              refine then_exit ?_
              refine blk_exit ?_
              refine then_normal ?_
              refine c_seq ?_
              refine c_region ?_
              refine wl (w_loadA hl hh rfl trivial agg66 rfl (by repeat (first | exact find_head | apply find_tail)) (by exact arrL_all _ _) (by first | rfl | rw [arrL_length]) ?_)
              clear hl a; intro a hl
              refine wl (w_storeA hl hh trivial agg66 rfl rfl (by repeat (first | exact find_head | apply find_tail)) (by first | rfl | rw [arrL_length]) (by first | (show 0 + 9 ≤ 9; decide) | (simp; done) | (rw [arrL_length, arrL_length]; decide)) (by first | rfl | exact arrL_one (vw_one _ _ _ _ _ hone)) (by first | exact setL_all _ _ rfl | exact setL_all _ _ (by rw [arrL_length]; rfl) | exact setL_all _ _ (by rw [arrL_length, arrL_length])) ?_)
              clear hh w; intro w hh
              refine wl (wl_val hl rfl trivial (r_assign hl rfl) ?_)
              clear hl a; intro a hl
              refine w_nil ?_
              have hl2 := hl.add (t := 4) (hl.add (t := 5) (hl.nil) rfl) rfl; clear hl; have hl := hl2; clear hl2
              refine then_normal ?_
              refine wp_ret ?_
              refine f_retCT (F' := (b, C (arrL 16391 (encM (m))) 119) :: s.2.2) hl hh rfl rfl agg66 (by repeat (first | exact find_head | apply find_tail)) (by rw [arrL_length]) rfl (by repeat (first | exact keeps_nil | apply keeps_cons (by repeat (first | exact find_head | apply find_tail)) (by first  | rfl) | exact keeps_self | exact keeps_left | exact keeps_right | exact keeps_swap | apply keeps_mv)) ?_
              exact ⟨s.2.1, s.2.2, hrow, rfl, rfl⟩

set_option maxHeartbeats 4000000 in
theorem view_true (b : Nat) (m : MS) (r nn : Nat) (sp : Nat → Nat) (h : VO m true r nn sp) : Sp Tryf.prog 30 #[.agg ⟨[.int .u64 ((65536 + hd true : Nat) : Int), .int .u64 ((65536 + nd true 0 : Nat) : Int), .int .u64 ((65536 + nd true 1 : Nat) : Int), .int .u64 ((65536 + nd true 2 : Nat) : Int), .int .u64 ((65536 + nd true 3 : Nat) : Int), .int .u64 ((65536 + nd true 4 : Nat) : Int), .int .u64 ((65536 + nd true 5 : Nat) : Int), .int .u64 ((65536 + nd true 6 : Nat) : Int), .int .i64 (wd true : Int)]⟩, .pointer (some ⟨b, 0, none⟩)] [(b, C (arrL 16391 (encM (m))) 119)] (fun v F' => ∃ lv E, Row lv nn (elL m.word true (nd true (r % 256)) nn) 2 73 E ∧ v = .tuple #[.agg ⟨arrL 9 (vwV (Int.fdiv (r : Int) (2 ^ (min (Int.toNat 8) IntKind.u64.bits))) ((r % 256 : Nat) : Int) sp 6 lv)⟩, .nilIface] ∧ F' = (b, C (arrL 16391 (encM (m))) 119) :: E) := by
  refine f_enter (args := [.agg ⟨[.int .u64 ((65536 + hd true : Nat) : Int), .int .u64 ((65536 + nd true 0 : Nat) : Int), .int .u64 ((65536 + nd true 1 : Nat) : Int), .int .u64 ((65536 + nd true 2 : Nat) : Int), .int .u64 ((65536 + nd true 3 : Nat) : Int), .int .u64 ((65536 + nd true 4 : Nat) : Int), .int .u64 ((65536 + nd true 5 : Nat) : Int), .int .u64 ((65536 + nd true 6 : Nat) : Int), .int .i64 (wd true : Int)]⟩, .pointer (some ⟨b, 0, none⟩)]) Tryf.func30 rfl Tryf.ntmps30 rfl ?_
  intro w0 w a hpre hl hh
  obtain ⟨⟨hv1, hv2⟩, hv3, hv4⟩ := h.live
  have hr7 := h.r7
  have hr1 := h.r1
  have hn8 := h.n8
  have hnl := nd_le true (r % 256) (by omega)
  have hdl := hd_le true
  have hw1 : ((wd true : Nat) : Int) = 2 := by (unfold wd; rfl)
  simp only [slotsFrom, Nat.reduceAdd] at hl
  refine c_seq ?_
  refine c_region ?_
  refine wl (w_box hl hh rfl trivial rfl rfl ?_)
  clear hl hh a w; intro k2 a w hl hh
  refine wl (w_alloc hl hh rfl trivial zero66 rfl ?_)
  clear hl hh a w; intro k4 a w hl hh
  refine wl (wl_val hl rfl trivial (r_assign hl rfl) ?_)
  clear hl a; intro a hl
  refine w_nil ?_
  have hl2 := hl.add (t := 1) (hl.add (t := 2) (hl.add (t := 4) (hl.nil) rfl) rfl) rfl; clear hl; have hl := hl2; clear hl2
  refine then_normal ?_
  refine c_seq ?_
  refine c_seq ?_
  refine c_region ?_
  refine wl (wl_val hl rfl trivial (r_move hl rfl) ?_)
  clear hl a; intro a hl
  refine wl (wl_val hl rfl trivial (r_field hl rfl fld53_0) ?_)
  clear hl a; intro a hl
  refine wl (w_load hl hh rfl trivial one50 rfl (by repeat (first | exact find_head | apply find_tail)) (by first | rfl) ?_)
  clear hl a; intro a hl
  refine wl (w_call hl hh rfl trivial rfl cal48 rfl (isLive_spec b m (hd true) (by omega) hv1 hv2) (by repeat (first | exact keeps_nil | apply keeps_cons (by repeat (first | exact find_head | apply find_tail)) (by first  | rfl) | exact keeps_self | exact keeps_left | exact keeps_right | exact keeps_swap | apply keeps_mv)) trivial ?_)
  clear hl hh a w; intro vc Fc a w hR hl hh
  obtain ⟨rfl, rfl⟩ := hR
  try simp only [List.cons_append, List.nil_append] at hh
  refine wl (wl_val hl rfl trivial (r_not hl rfl) ?_)
  clear hl a; intro a hl
  refine w_nil ?_
  have hl2 := hl.add (t := 1) (hl.add (t := 2) (hl.add (t := 4) (hl.add (t := 18) (hl.nil) rfl) rfl) rfl) rfl; clear hl; have hl := hl2; clear hl2
  refine then_normal ?_
  refine c_cond hl rfl ?_ ?_
  · intro hc0
    try simp only [decide_eq_true_eq, decide_eq_false_iff_not, Bool.not_eq_true', Bool.not_eq_false', Bool.not_eq_true, Bool.not_eq_false, Bool.and_eq_true, Bool.or_eq_true, Bool.and_eq_false_iff, Bool.or_eq_false_iff, Bool.not_not, ne_eq, Int.not_lt, Int.not_le, Decidable.not_not, beq_iff_eq, bne_iff_ne] at hc0
    exfalso; first | omega | (simp at *; done) | (simp at *; omega)
  · intro hc0
    try simp only [decide_eq_true_eq, decide_eq_false_iff_not, Bool.not_eq_true', Bool.not_eq_false', Bool.not_eq_true, Bool.not_eq_false, Bool.and_eq_true, Bool.or_eq_true, Bool.and_eq_false_iff, Bool.or_eq_false_iff, Bool.not_not, ne_eq, Int.not_lt, Int.not_le, Decidable.not_not, beq_iff_eq, bne_iff_ne] at hc0
    refine wp_skip ?_
    refine then_normal ?_
    refine c_seq ?_
    refine c_draw [(k2, C [.int .u64 ((65536 + hd true : Nat) : Int), .int .u64 ((65536 + nd true 0 : Nat) : Int), .int .u64 ((65536 + nd true 1 : Nat) : Int), .int .u64 ((65536 + nd true 2 : Nat) : Int), .int .u64 ((65536 + nd true 3 : Nat) : Int), .int .u64 ((65536 + nd true 4 : Nat) : Int), .int .u64 ((65536 + nd true 5 : Nat) : Int), .int .u64 ((65536 + nd true 6 : Nat) : Int), .int .i64 (wd true : Int)] 53), (b, C (arrL 16391 (encM (m))) 119)] [7] mixed hh ?_
    clear hh w; intro w hh
    have hM : Mem [(k2, C [.int .u64 ((65536 + hd true : Nat) : Int), .int .u64 ((65536 + nd true 0 : Nat) : Int), .int .u64 ((65536 + nd true 1 : Nat) : Int), .int .u64 ((65536 + nd true 2 : Nat) : Int), .int .u64 ((65536 + nd true 3 : Nat) : Int), .int .u64 ((65536 + nd true 4 : Nat) : Int), .int .u64 ((65536 + nd true 5 : Nat) : Int), .int .u64 ((65536 + nd true 6 : Nat) : Int), .int .i64 (wd true : Int)] 53), (b, C (arrL 16391 (encM (m))) 119)] w := (by repeat (first | exact Mem.nil | refine Mem.cons hh.mem (by repeat (first | exact find_head | apply find_tail)) ?_ | refine Mem.consR hh (by assumption) (by simp) ?_))
    refine d_take (i := 0) hl rfl (by kernel_rfl) (by kernel_rfl) (by kernel_rfl) (by kernel_rfl) (by kernel_rfl) rfl trivial (fun _ _ _ h => h) hM (fun w hC => r_move hl rfl) rfl ?_
    clear hl a; intro a hl
    refine d_take (i := 1) hl rfl (by kernel_rfl) (by kernel_rfl) (by kernel_rfl) (by kernel_rfl) (by kernel_rfl) rfl trivial (fun _ _ _ h => h) hM (fun w hC => r_loadCA hl rfl agg53 hC (by repeat (first | exact find_head | apply find_tail)) (by first | (simp only [List.getElem?_cons_zero, List.getElem?_cons_succ, Value.cells, List.take_zero, List.take_succ_cons, List.take_nil, List.drop_zero, List.drop_succ_cons, List.drop_nil, List.length_cons, List.length_nil, List.cons_append, List.nil_append, List.append_nil, Nat.zero_add, Nat.add_zero, Nat.reduceAdd, Nat.reduceBEq, Nat.reduceEqDiff, Nat.ble, BEq.rfl, Bool.and_true, Bool.and_self, cond_true, beq_self_eq_true]; rfl)) (by first | rfl | (simp; done))) rfl ?_
    clear hl a; intro a hl
    refine d_take (i := 3) hl rfl (by kernel_rfl) (by kernel_rfl) (by kernel_rfl) (by kernel_rfl) (by kernel_rfl) rfl trivial (fun _ _ _ h => h) hM (fun w hC => r_nilCheck hl rfl) rfl ?_
    clear hl a; intro a hl
    refine d_take (i := 4) hl rfl (by kernel_rfl) (by kernel_rfl) (by kernel_rfl) (by kernel_rfl) (by kernel_rfl) rfl trivial (fun _ _ _ h => h) hM (fun w hC => r_field hl rfl fld119_0) rfl ?_
    clear hl a; intro a hl
    refine d_one (i := 2) (by kernel_rfl) rfl ?_
    try clear hM
    refine id (w_call hl hh rfl trivial rfl cal49 rfl (rootCell_spec true) (by repeat (first | exact keeps_nil | apply keeps_cons (by repeat (first | exact find_head | apply find_tail)) (by first  | rfl) | exact keeps_self | exact keeps_left | exact keeps_right | exact keeps_swap | apply keeps_mv)) trivial ?_)
    clear hl hh a w; intro vc Fc a w hR hl hh
    obtain ⟨rfl, rfl⟩ := hR
    try simp only [List.cons_append, List.nil_append] at hh
    have hM : Mem [(k2, C [.int .u64 ((65536 + hd true : Nat) : Int), .int .u64 ((65536 + nd true 0 : Nat) : Int), .int .u64 ((65536 + nd true 1 : Nat) : Int), .int .u64 ((65536 + nd true 2 : Nat) : Int), .int .u64 ((65536 + nd true 3 : Nat) : Int), .int .u64 ((65536 + nd true 4 : Nat) : Int), .int .u64 ((65536 + nd true 5 : Nat) : Int), .int .u64 ((65536 + nd true 6 : Nat) : Int), .int .i64 (wd true : Int)] 53), (b, C (arrL 16391 (encM (m))) 119)] w := (by repeat (first | exact Mem.nil | refine Mem.cons hh.mem (by repeat (first | exact find_head | apply find_tail)) ?_ | refine Mem.consR hh (by assumption) (by simp) ?_))
    refine d_step (fun _ => hM) ?_
    refine d_take (i := 5) hl rfl (by kernel_rfl) (by kernel_rfl) (by kernel_rfl) (by kernel_rfl) (by kernel_rfl) rfl trivial (fun _ _ _ h => h) hM (fun w hC => r_indexA hl rfl rfl arr109 (by omega) (by omega) (by first | (simp only [Int.reduceToNat]; rfl) | exact toNat_add1 _ | exact toNat_add2 _ _ | exact toNat_emod _ _ | exact Int.toNat_natCast _ | rfl)) rfl ?_
    clear hl a; intro a hl
    refine d_take (i := 6) hl rfl (by kernel_rfl) (by kernel_rfl) (by kernel_rfl) (by kernel_rfl) (by kernel_rfl) rfl trivial (fun _ _ _ h => h) hM (fun w hC => r_loadC hl rfl one32 hC (by repeat (first | exact find_head | apply find_tail)) (by exact ld_word _ _ (by omega))) rfl ?_
    clear hl a; intro a hl
    first | rw [h.root] at hl | rw [hst1] at hl | rw [h.cnt] at hl | rw [hw1] at hl | skip
    refine d_takeL (i := 7) hl rfl (by kernel_rfl) (by kernel_rfl) (by kernel_rfl) (by kernel_rfl) (by kernel_rfl) rfl trivial (fun _ _ _ h => h) (fun w => r_assign hl rfl) rfl ?_
    clear hl a; intro a hl
    refine d_done (by kernel_rfl) ?_
    try clear hM
    have hl2 := hl.add (t := 1) (hl.add (t := 2) (hl.add (t := 4) (hl.add (t := 6) (hl.nil) rfl) rfl) rfl) rfl; clear hl; have hl := hl2; clear hl2
    refine then_normal ?_
    refine c_seq ?_
    refine c_region ?_
    refine wl (wl_val hl rfl trivial (r_move hl rfl) ?_)
    clear hl a; intro a hl
    refine wl (wl_val hl rfl trivial (r_shr hl rfl rfl (by omega)) ?_)
    clear hl a; intro a hl
    refine wl (wl_val hl rfl trivial (r_move hl rfl) ?_)
    clear hl a; intro a hl
    refine wl (w_call hl hh rfl trivial rfl cal50 rfl (indexOf_spec r hr1) (by repeat (first | exact keeps_nil | apply keeps_cons (by repeat (first | exact find_head | apply find_tail)) (by first  | rfl) | exact keeps_self | exact keeps_left | exact keeps_right | exact keeps_swap | apply keeps_mv)) trivial ?_)
    clear hl hh a w; intro vc Fc a w hR hl hh
    obtain ⟨rfl, rfl⟩ := hR
    try simp only [List.cons_append, List.nil_append] at hh
    refine wl (wl_val hl rfl trivial (r_build hl rfl zero66 bld66 (by simp only [fillL, setL, List.getElem?_cons_zero, List.getElem?_cons_succ, Value.cells, List.take_zero, List.take_succ_cons, List.take_nil, List.drop_zero, List.drop_succ_cons, List.drop_nil, List.length_cons, List.length_nil, List.cons_append, List.nil_append, List.append_nil, Nat.zero_add, Nat.add_zero, Nat.reduceAdd, Nat.reduceBEq, Nat.reduceEqDiff, Nat.ble, BEq.rfl, Bool.and_true, Bool.and_self, cond_true, beq_self_eq_true]; rfl)) ?_)
    clear hl a; intro a hl
    refine wl (w_alloc hl hh rfl trivial zero66 rfl ?_)
    clear hl hh a w; intro k7 a w hl hh
    refine wl (w_storeA hl hh trivial agg66 rfl rfl (by repeat (first | exact find_head | apply find_tail)) (by first | rfl | rw [arrL_length]) (by first | (show 0 + 9 ≤ 9; decide) | (simp; done) | (rw [arrL_length, arrL_length]; decide)) (by first | rfl | exact arrL_one (vw_one _ _ _ _ _ hone)) (by first | exact setL_all _ _ rfl | exact setL_all _ _ (by rw [arrL_length]; rfl) | exact setL_all _ _ (by rw [arrL_length, arrL_length])) ?_)
    clear hh w; intro w hh
    refine w_nil ?_
    have hl2 := hl.add (t := 1) (hl.add (t := 2) (hl.add (t := 4) (hl.add (t := 7) (hl.nil) rfl) rfl) rfl) rfl; clear hl; have hl := hl2; clear hl2
    refine then_normal ?_
    refine c_seq ?_
    refine c_seq ?_
    refine c_region ?_
    refine wl (wl_val hl rfl trivial (r_move hl rfl) ?_)
    clear hl a; intro a hl
    refine w_nil ?_
    have hl2 := hl.add (t := 1) (hl.add (t := 2) (hl.add (t := 4) (hl.add (t := 7) (hl.add (t := 33) (hl.nil) rfl) rfl) rfl) rfl) rfl; clear hl; have hl := hl2; clear hl2
    refine then_normal ?_
    refine wp_block ?_
    obtain ⟨KS0, hKS0, hk⟩ := (hl.add (t := 1) (hl.add (t := 2) (hl.add (t := 4) (hl.add (t := 7) (hl.nil) rfl) rfl) rfl) rfl).name
    obtain ⟨HS0, hHS0, hh2⟩ := hh.name (keeps_cons (b := k7) (o' := C (arrL 9 (vwV (Int.fdiv (r : Int) (2 ^ (min (Int.toNat 8) IntKind.u64.bits))) ((r % 256 : Nat) : Int) sp 0 (.slice none 0 0))) 66) (by repeat (first | exact find_head | apply find_tail)) (by first | exact vw_start _ _ _ | rfl) (keeps_nil))
    refine c_loop (α := Nat) (fun t => 6 - t) (fun t a w => (t ≤ 6) ∧ Sl 122 ([(33, .int .i64 t)] ++ KS0) a ∧ Has _ w0 ([(k7, C (arrL 9 (vwV (Int.fdiv (r : Int) (2 ^ (min (Int.toNat 8) IntKind.u64.bits))) ((r % 256 : Nat) : Int) sp t (.slice none 0 0))) 66)] ++ HS0) w) 0 ⟨Nat.zero_le _, hl.addE (t := 33) (hk) rfl (by first | rfl), hh2⟩ ?_
    clear hk hh2 hl hh a w
    intro t a w hI
    obtain ⟨ht, hl, hh⟩ := hI
    subst hKS0; subst hHS0
    simp only [List.cons_append, List.nil_append, List.append_nil] at hl hh
    refine c_seq ?_
    refine c_region ?_
    refine wl (wl_val hl rfl trivial (r_lss hl rfl rfl) ?_)
    clear hl a; intro a hl
    refine w_nil ?_
    have hl2 := hl.add (t := 1) (hl.add (t := 2) (hl.add (t := 4) (hl.add (t := 7) (hl.add (t := 33) (hl.add (t := 34) (hl.nil) rfl) rfl) rfl) rfl) rfl) rfl; clear hl; have hl := hl2; clear hl2
    refine then_normal ?_
    refine c_seq ?_
    refine c_cond hl rfl ?_ ?_
    · intro hc1
      try simp only [decide_eq_true_eq, decide_eq_false_iff_not, Bool.not_eq_true', Bool.not_eq_false', Bool.not_eq_true, Bool.not_eq_false, Bool.and_eq_true, Bool.or_eq_true, Bool.and_eq_false_iff, Bool.or_eq_false_iff, Bool.not_not, ne_eq, Int.not_lt, Int.not_le, Decidable.not_not, beq_iff_eq, bne_iff_ne] at hc1
      obtain ⟨hst1, hst2⟩ := h.sp t (by omega)
      refine wp_skip ?_
      refine then_normal ?_
      refine c_seq ?_
      refine wp_block ?_
      refine c_seq ?_
      refine c_region ?_
      refine wl (wl_val hl rfl trivial (r_move hl rfl) ?_)
      clear hl a; intro a hl
      refine wl (wl_val hl rfl trivial (r_assign hl rfl) ?_)
      clear hl a; intro a hl
      refine w_nil ?_
      have hl2 := hl.add (t := 1) (hl.add (t := 2) (hl.add (t := 4) (hl.add (t := 7) (hl.add (t := 8) (hl.add (t := 33) (hl.nil) rfl) rfl) rfl) rfl) rfl) rfl; clear hl; have hl := hl2; clear hl2
      refine then_normal ?_
      refine c_draw [(k2, C [.int .u64 ((65536 + hd true : Nat) : Int), .int .u64 ((65536 + nd true 0 : Nat) : Int), .int .u64 ((65536 + nd true 1 : Nat) : Int), .int .u64 ((65536 + nd true 2 : Nat) : Int), .int .u64 ((65536 + nd true 3 : Nat) : Int), .int .u64 ((65536 + nd true 4 : Nat) : Int), .int .u64 ((65536 + nd true 5 : Nat) : Int), .int .u64 ((65536 + nd true 6 : Nat) : Int), .int .i64 (wd true : Int)] 53), (b, C (arrL 16391 (encM (m))) 119)] [11, 12] mixed hh ?_
      clear hh w; intro w hh
      have hM : Mem [(k2, C [.int .u64 ((65536 + hd true : Nat) : Int), .int .u64 ((65536 + nd true 0 : Nat) : Int), .int .u64 ((65536 + nd true 1 : Nat) : Int), .int .u64 ((65536 + nd true 2 : Nat) : Int), .int .u64 ((65536 + nd true 3 : Nat) : Int), .int .u64 ((65536 + nd true 4 : Nat) : Int), .int .u64 ((65536 + nd true 5 : Nat) : Int), .int .u64 ((65536 + nd true 6 : Nat) : Int), .int .i64 (wd true : Int)] 53), (b, C (arrL 16391 (encM (m))) 119)] w := (by repeat (first | exact Mem.nil | refine Mem.cons hh.mem (by repeat (first | exact find_head | apply find_tail)) ?_ | refine Mem.consR hh (by assumption) (by simp) ?_))
      refine d_take (i := 0) hl rfl (by kernel_rfl) (by kernel_rfl) (by kernel_rfl) (by kernel_rfl) (by kernel_rfl) rfl trivial (fun _ _ _ h => h) hM (fun w hC => r_move hl rfl) rfl ?_
      clear hl a; intro a hl
      refine d_take (i := 1) hl rfl (by kernel_rfl) (by kernel_rfl) (by kernel_rfl) (by kernel_rfl) (by kernel_rfl) rfl trivial (fun _ _ _ h => h) hM (fun w hC => r_move hl rfl) rfl ?_
      clear hl a; intro a hl
      refine d_take (i := 2) hl rfl (by kernel_rfl) (by kernel_rfl) (by kernel_rfl) (by kernel_rfl) (by kernel_rfl) rfl trivial (fun _ _ _ h => h) hM (fun w hC => r_loadCA hl rfl agg53 hC (by repeat (first | exact find_head | apply find_tail)) (by first | (simp only [List.getElem?_cons_zero, List.getElem?_cons_succ, Value.cells, List.take_zero, List.take_succ_cons, List.take_nil, List.drop_zero, List.drop_succ_cons, List.drop_nil, List.length_cons, List.length_nil, List.cons_append, List.nil_append, List.append_nil, Nat.zero_add, Nat.add_zero, Nat.reduceAdd, Nat.reduceBEq, Nat.reduceEqDiff, Nat.ble, BEq.rfl, Bool.and_true, Bool.and_self, cond_true, beq_self_eq_true]; rfl)) (by first | rfl | (simp; done))) rfl ?_
      clear hl a; intro a hl
      refine d_take (i := 3) hl rfl (by kernel_rfl) (by kernel_rfl) (by kernel_rfl) (by kernel_rfl) (by kernel_rfl) rfl trivial (fun _ _ _ h => h) hM (fun w hC => r_move hl rfl) rfl ?_
      clear hl a; intro a hl
      refine d_take (i := 5) hl rfl (by kernel_rfl) (by kernel_rfl) (by kernel_rfl) (by kernel_rfl) (by kernel_rfl) rfl trivial (fun _ _ _ h => h) hM (fun w hC => r_nilCheck hl rfl) rfl ?_
      clear hl a; intro a hl
      refine d_take (i := 6) hl rfl (by kernel_rfl) (by kernel_rfl) (by kernel_rfl) (by kernel_rfl) (by kernel_rfl) rfl trivial (fun _ _ _ h => h) hM (fun w hC => r_field hl rfl fld119_0) rfl ?_
      clear hl a; intro a hl
      refine d_take (i := 10) hl rfl (by kernel_rfl) (by kernel_rfl) (by kernel_rfl) (by kernel_rfl) (by kernel_rfl) rfl trivial (fun _ _ _ h => h) hM (fun w hC => r_field hl rfl fld66_2) rfl ?_
      clear hl a; intro a hl
      refine d_one (i := 4) (by kernel_rfl) rfl ?_
      try clear hM
      refine id (w_call hl hh rfl trivial rfl cal51 rfl (spareCell_spec true t (by omega)) (by repeat (first | exact keeps_nil | apply keeps_cons (by repeat (first | exact find_head | apply find_tail)) (by first  | rfl) | exact keeps_self | exact keeps_left | exact keeps_right | exact keeps_swap | apply keeps_mv)) trivial ?_)
      clear hl hh a w; intro vc Fc a w hR hl hh
      obtain ⟨rfl, rfl⟩ := hR
      try simp only [List.cons_append, List.nil_append] at hh
      have hM : Mem [(k2, C [.int .u64 ((65536 + hd true : Nat) : Int), .int .u64 ((65536 + nd true 0 : Nat) : Int), .int .u64 ((65536 + nd true 1 : Nat) : Int), .int .u64 ((65536 + nd true 2 : Nat) : Int), .int .u64 ((65536 + nd true 3 : Nat) : Int), .int .u64 ((65536 + nd true 4 : Nat) : Int), .int .u64 ((65536 + nd true 5 : Nat) : Int), .int .u64 ((65536 + nd true 6 : Nat) : Int), .int .i64 (wd true : Int)] 53), (b, C (arrL 16391 (encM (m))) 119)] w := (by repeat (first | exact Mem.nil | refine Mem.cons hh.mem (by repeat (first | exact find_head | apply find_tail)) ?_ | refine Mem.consR hh (by assumption) (by simp) ?_))
      refine d_step (fun _ => hM) ?_
      refine d_take (i := 7) hl rfl (by kernel_rfl) (by kernel_rfl) (by kernel_rfl) (by kernel_rfl) (by kernel_rfl) rfl trivial (fun _ _ _ h => h) hM (fun w hC => r_indexA hl rfl rfl arr109 (by omega) (by omega) (by first | (simp only [Int.reduceToNat]; rfl) | exact toNat_add1 _ | exact toNat_add2 _ _ | exact toNat_emod _ _ | exact Int.toNat_natCast _ | rfl)) rfl ?_
      clear hl a; intro a hl
      refine d_take (i := 8) hl rfl (by kernel_rfl) (by kernel_rfl) (by kernel_rfl) (by kernel_rfl) (by kernel_rfl) rfl trivial (fun _ _ _ h => h) hM (fun w hC => r_loadC hl rfl one32 hC (by repeat (first | exact find_head | apply find_tail)) (by exact ld_word _ _ (by omega))) rfl ?_
      clear hl a; intro a hl
      first | rw [h.root] at hl | rw [hst1] at hl | rw [h.cnt] at hl | rw [hw1] at hl | skip
      first | refine d_take (i := 9) hl rfl (by kernel_rfl) (by kernel_rfl) (by kernel_rfl) (by kernel_rfl) (by kernel_rfl) rfl trivial (fun _ _ _ h => h) hM (fun w hC => r_conv hl rfl Tryf.underlying32 Tryf.underlying3 (by simp only [Fits]; omega)) rfl ?_ | refine d_take (i := 9) hl rfl (by kernel_rfl) (by kernel_rfl) (by kernel_rfl) (by kernel_rfl) (by kernel_rfl) rfl trivial (fun _ _ _ h => h) hM (fun w hC => r_convW hl rfl Tryf.underlying32 Tryf.underlying3) rfl ?_
      clear hl a; intro a hl
      refine d_takeL (i := 11) hl rfl (by kernel_rfl) (by kernel_rfl) (by kernel_rfl) (by kernel_rfl) (by kernel_rfl) rfl trivial (fun _ _ _ h => h) (fun w => r_indexA hl rfl rfl arr63 (by omega) (by omega) (by first | (simp only [Int.reduceToNat]; rfl) | exact toNat_add1 _ | exact toNat_add2 _ _ | exact toNat_emod _ _ | exact Int.toNat_natCast _ | rfl)) rfl ?_
      clear hl a; intro a hl
      refine d_one (i := 12) (by kernel_rfl) rfl ?_
      try clear hM
      refine id (w_store hl hh trivial one3 rfl rfl (by repeat (first | exact find_head | apply find_tail)) (by rw [arrL_length]; omega) (by first | rfl | assumption | (apply Row.one; assumption)) (by exact vw_sp _ _ _ _ _ (by omega)) ?_)
      clear hh w; intro w hh
      refine d_step (fun h => absurd h (by decide)) ?_
      refine d_done (by kernel_rfl) ?_
      try clear hM
      have hl2 := hl.add (t := 1) (hl.add (t := 2) (hl.add (t := 4) (hl.add (t := 7) (hl.add (t := 33) (hl.nil) rfl) rfl) rfl) rfl) rfl; clear hl; have hl := hl2; clear hl2
      refine blk_normal ?_
      refine then_normal ?_
      refine c_region ?_
      first | refine wl (wl_val hl rfl trivial (r_add hl rfl rfl (by simp only [Fits]; omega)) ?_) | refine wl (wl_val hl rfl trivial (r_addW hl rfl rfl) ?_)
      clear hl a; intro a hl
      refine wl (wl_val hl rfl trivial (r_move hl rfl) ?_)
      clear hl a; intro a hl
      refine w_nil ?_
      have hl2 := hl.add (t := 1) (hl.add (t := 2) (hl.add (t := 4) (hl.add (t := 7) (hl.add (t := 33) (hl.nil) rfl) rfl) rfl) rfl) rfl; clear hl; have hl := hl2; clear hl2
      refine then_normal ?_
      refine ⟨t + 1, (by omega), (by omega), hl.addE (t := 33) (hl.addE (t := 1) (hl.addE (t := 2) (hl.addE (t := 4) (hl.addE (t := 7) (hl.nil) rfl (by first | rfl | rfl)) rfl (by first | rfl | rfl)) rfl (by first | rfl | rfl)) rfl (by first | rfl | rfl)) rfl (by first | rfl | rfl), hh.keep (by repeat (first | exact keeps_nil | apply keeps_cons (by repeat (first | exact find_head | apply find_tail)) (by first  | rfl) | exact keeps_self | exact keeps_left | exact keeps_right | exact keeps_swap | apply keeps_mv))⟩
    · intro hc1
      try simp only [decide_eq_true_eq, decide_eq_false_iff_not, Bool.not_eq_true', Bool.not_eq_false', Bool.not_eq_true, Bool.not_eq_false, Bool.and_eq_true, Bool.or_eq_true, Bool.and_eq_false_iff, Bool.or_eq_false_iff, Bool.not_not, ne_eq, Int.not_lt, Int.not_le, Decidable.not_not, beq_iff_eq, bne_iff_ne] at hc1
      obtain rfl : t = 6 := by omega
      refine wp_exit ?_
      refine then_exit ?_
      refine then_exit ?_
      refine blk_exit ?_
      refine then_normal ?_
      refine c_seq ?_
      refine c_seq ?_
      refine c_region ?_
      refine wl (wl_val hl rfl trivial (r_field hl rfl fld66_1) ?_)
      clear hl a; intro a hl
      refine wl (w_load hl hh rfl trivial one3 rfl (by repeat (first | exact find_head | apply find_tail)) (by exact vw_cur _ _ _ _ _) ?_)
      clear hl a; intro a hl
      first | rw [h.root] at hl | rw [hst1] at hl | rw [h.cnt] at hl | rw [hw1] at hl | skip
      refine wl (wl_val hl rfl trivial (r_geq hl rfl rfl) ?_)
      clear hl a; intro a hl
      refine wl (wl_val hl rfl trivial (r_move hl rfl) ?_)
      clear hl a; intro a hl
      refine sl_split (t := 52) hl rfl ?_ ?_
      · intro hg1; clear hl; intro hl
        try simp only [decide_eq_true_eq, decide_eq_false_iff_not, Bool.not_eq_true', Bool.not_eq_false', Bool.not_eq_true, Bool.not_eq_false, Bool.and_eq_true, Bool.or_eq_true, Bool.and_eq_false_iff, Bool.or_eq_false_iff, Bool.not_not, ne_eq, Int.not_lt, Int.not_le, Decidable.not_not, beq_iff_eq, bne_iff_ne] at hg1
        exfalso; first | omega | (simp at *; done) | (simp at *; omega)
      · intro hg1; clear hl; intro hl
        try simp only [decide_eq_true_eq, decide_eq_false_iff_not, Bool.not_eq_true', Bool.not_eq_false', Bool.not_eq_true, Bool.not_eq_false, Bool.and_eq_true, Bool.or_eq_true, Bool.and_eq_false_iff, Bool.or_eq_false_iff, Bool.not_not, ne_eq, Int.not_lt, Int.not_le, Decidable.not_not, beq_iff_eq, bne_iff_ne] at hg1
        refine wl (wl_val hl rfl ⟨_, _, rfl, rfl, rfl⟩ (r_move hl rfl) ?_)
        clear hl a; intro a hl
        refine wl (wl_val hl rfl ⟨_, _, rfl, rfl, rfl⟩ (r_field hl rfl fld66_1) ?_)
        clear hl a; intro a hl
        refine wl (w_load hl hh rfl ⟨_, _, rfl, rfl, rfl⟩ one3 rfl (by repeat (first | exact find_head | apply find_tail)) (by exact vw_cur _ _ _ _ _) ?_)
        clear hl a; intro a hl
        first | rw [h.root] at hl | rw [hst1] at hl | rw [h.cnt] at hl | rw [hw1] at hl | skip
        refine wl (wl_val hl rfl ⟨_, _, rfl, rfl, rfl⟩ (r_field hl rfl fld53_1) ?_)
        clear hl a; intro a hl
        refine wl (wl_val hl rfl ⟨_, _, rfl, rfl, rfl⟩ (r_indexA hl rfl rfl arr51 (by omega) (by omega) (by first | (simp only [Int.reduceToNat]; rfl) | exact toNat_add1 _ | exact toNat_add2 _ _ | exact toNat_emod _ _ | exact Int.toNat_natCast _ | rfl)) ?_)
        clear hl a; intro a hl
        refine wl (w_load hl hh rfl ⟨_, _, rfl, rfl, rfl⟩ one50 rfl (by repeat (first | exact find_head | apply find_tail)) (by exact box_at true _ (by omega)) ?_)
        clear hl a; intro a hl
        first | rw [h.root] at hl | rw [hst1] at hl | rw [h.cnt] at hl | rw [hw1] at hl | skip
        refine wl (w_call hl hh rfl ⟨_, _, rfl, rfl, rfl⟩ rfl cal48 rfl (isLive_spec b m (nd true (r % 256)) (by omega) hv3 hv4) (by repeat (first | exact keeps_nil | apply keeps_cons (by repeat (first | exact find_head | apply find_tail)) (by first  | rfl) | exact keeps_self | exact keeps_left | exact keeps_right | exact keeps_swap | apply keeps_mv)) trivial ?_)
        clear hl hh a w; intro vc Fc a w hR hl hh
        obtain ⟨rfl, rfl⟩ := hR
        try simp only [List.cons_append, List.nil_append] at hh
        refine wl (wl_val hl rfl ⟨_, _, rfl, rfl, rfl⟩ (r_not hl rfl) ?_)
        clear hl a; intro a hl
        refine wl (wl_val hl rfl trivial (r_pickF hl rfl rfl) ?_)
        clear hl a; intro a hl
        refine w_nil ?_
        have hl2 := hl.add (t := 1) (hl.add (t := 2) (hl.add (t := 4) (hl.add (t := 7) (hl.add (t := 61) (hl.nil) rfl) rfl) rfl) rfl) rfl; clear hl; have hl := hl2; clear hl2
        refine then_normal ?_
        refine c_cond hl rfl ?_ ?_
        · intro hc2
          try simp only [decide_eq_true_eq, decide_eq_false_iff_not, Bool.not_eq_true', Bool.not_eq_false', Bool.not_eq_true, Bool.not_eq_false, Bool.and_eq_true, Bool.or_eq_true, Bool.and_eq_false_iff, Bool.or_eq_false_iff, Bool.not_not, ne_eq, Int.not_lt, Int.not_le, Decidable.not_not, beq_iff_eq, bne_iff_ne] at hc2
          exfalso; first | omega | (simp at *; done) | (simp at *; omega)
        · intro hc2
          try simp only [decide_eq_true_eq, decide_eq_false_iff_not, Bool.not_eq_true', Bool.not_eq_false', Bool.not_eq_true, Bool.not_eq_false, Bool.and_eq_true, Bool.or_eq_true, Bool.and_eq_false_iff, Bool.or_eq_false_iff, Bool.not_not, ne_eq, Int.not_lt, Int.not_le, Decidable.not_not, beq_iff_eq, bne_iff_ne] at hc2
          refine wp_skip ?_
          refine then_normal ?_
          refine c_seq ?_
          refine c_draw [(k7, C (arrL 9 (vwV (Int.fdiv (r : Int) (2 ^ (min (Int.toNat 8) IntKind.u64.bits))) ((r % 256 : Nat) : Int) sp 6 (.slice none 0 0))) 66), (k2, C [.int .u64 ((65536 + hd true : Nat) : Int), .int .u64 ((65536 + nd true 0 : Nat) : Int), .int .u64 ((65536 + nd true 1 : Nat) : Int), .int .u64 ((65536 + nd true 2 : Nat) : Int), .int .u64 ((65536 + nd true 3 : Nat) : Int), .int .u64 ((65536 + nd true 4 : Nat) : Int), .int .u64 ((65536 + nd true 5 : Nat) : Int), .int .u64 ((65536 + nd true 6 : Nat) : Int), .int .i64 (wd true : Int)] 53)] [9, 10] mixed hh ?_
          clear hh w; intro w hh
          have hM : Mem [(k7, C (arrL 9 (vwV (Int.fdiv (r : Int) (2 ^ (min (Int.toNat 8) IntKind.u64.bits))) ((r % 256 : Nat) : Int) sp 6 (.slice none 0 0))) 66), (k2, C [.int .u64 ((65536 + hd true : Nat) : Int), .int .u64 ((65536 + nd true 0 : Nat) : Int), .int .u64 ((65536 + nd true 1 : Nat) : Int), .int .u64 ((65536 + nd true 2 : Nat) : Int), .int .u64 ((65536 + nd true 3 : Nat) : Int), .int .u64 ((65536 + nd true 4 : Nat) : Int), .int .u64 ((65536 + nd true 5 : Nat) : Int), .int .u64 ((65536 + nd true 6 : Nat) : Int), .int .i64 (wd true : Int)] 53)] w := (by repeat (first | exact Mem.nil | refine Mem.cons hh.mem (by repeat (first | exact find_head | apply find_tail)) ?_ | refine Mem.consR hh (by assumption) (by simp) ?_))
          refine d_take (i := 0) hl rfl (by kernel_rfl) (by kernel_rfl) (by kernel_rfl) (by kernel_rfl) (by kernel_rfl) rfl trivial (fun _ _ _ h => h) hM (fun w hC => r_move hl rfl) rfl ?_
          clear hl a; intro a hl
          refine d_take (i := 1) hl rfl (by kernel_rfl) (by kernel_rfl) (by kernel_rfl) (by kernel_rfl) (by kernel_rfl) rfl trivial (fun _ _ _ h => h) hM (fun w hC => r_nilCheck hl rfl) rfl ?_
          clear hl a; intro a hl
          refine d_take (i := 2) hl rfl (by kernel_rfl) (by kernel_rfl) (by kernel_rfl) (by kernel_rfl) (by kernel_rfl) rfl trivial (fun _ _ _ h => h) hM (fun w hC => r_field hl rfl fld119_0) rfl ?_
          clear hl a; intro a hl
          refine d_take (i := 3) hl rfl (by kernel_rfl) (by kernel_rfl) (by kernel_rfl) (by kernel_rfl) (by kernel_rfl) rfl trivial (fun _ _ _ h => h) hM (fun w hC => r_field hl rfl fld66_1) rfl ?_
          clear hl a; intro a hl
          refine d_take (i := 4) hl rfl (by kernel_rfl) (by kernel_rfl) (by kernel_rfl) (by kernel_rfl) (by kernel_rfl) rfl trivial (fun _ _ _ h => h) hM (fun w hC => r_loadC hl rfl one3 hC (by repeat (first | exact find_head | apply find_tail)) (by exact vw_cur _ _ _ _ _)) rfl ?_
          clear hl a; intro a hl
          first | rw [h.root] at hl | rw [hst1] at hl | rw [h.cnt] at hl | rw [hw1] at hl | skip
          refine d_take (i := 5) hl rfl (by kernel_rfl) (by kernel_rfl) (by kernel_rfl) (by kernel_rfl) (by kernel_rfl) rfl trivial (fun _ _ _ h => h) hM (fun w hC => r_field hl rfl fld53_1) rfl ?_
          clear hl a; intro a hl
          refine d_take (i := 6) hl rfl (by kernel_rfl) (by kernel_rfl) (by kernel_rfl) (by kernel_rfl) (by kernel_rfl) rfl trivial (fun _ _ _ h => h) hM (fun w hC => r_indexA hl rfl rfl arr51 (by omega) (by omega) (by first | (simp only [Int.reduceToNat]; rfl) | exact toNat_add1 _ | exact toNat_add2 _ _ | exact toNat_emod _ _ | exact Int.toNat_natCast _ | rfl)) rfl ?_
          clear hl a; intro a hl
          refine d_take (i := 7) hl rfl (by kernel_rfl) (by kernel_rfl) (by kernel_rfl) (by kernel_rfl) (by kernel_rfl) rfl trivial (fun _ _ _ h => h) hM (fun w hC => r_loadC hl rfl one50 hC (by repeat (first | exact find_head | apply find_tail)) (by exact box_at true _ (by omega))) rfl ?_
          clear hl a; intro a hl
          first | rw [h.root] at hl | rw [hst1] at hl | rw [h.cnt] at hl | rw [hw1] at hl | skip
          refine d_one (i := 8) (by kernel_rfl) rfl ?_
          try clear hM
          refine id (w_call hl hh rfl trivial rfl cal52 rfl (refAddr_spec _) (by repeat (first | exact keeps_nil | apply keeps_cons (by repeat (first | exact find_head | apply find_tail)) (by first  | rfl) | exact keeps_self | exact keeps_left | exact keeps_right | exact keeps_swap | apply keeps_mv)) trivial ?_)
          clear hl hh a w; intro vc Fc a w hR hl hh
          obtain ⟨rfl, rfl⟩ := hR
          try simp only [List.cons_append, List.nil_append] at hh
          rw [ref_mod _ (by omega)] at hl
          have hM : Mem [(k7, C (arrL 9 (vwV (Int.fdiv (r : Int) (2 ^ (min (Int.toNat 8) IntKind.u64.bits))) ((r % 256 : Nat) : Int) sp 6 (.slice none 0 0))) 66), (k2, C [.int .u64 ((65536 + hd true : Nat) : Int), .int .u64 ((65536 + nd true 0 : Nat) : Int), .int .u64 ((65536 + nd true 1 : Nat) : Int), .int .u64 ((65536 + nd true 2 : Nat) : Int), .int .u64 ((65536 + nd true 3 : Nat) : Int), .int .u64 ((65536 + nd true 4 : Nat) : Int), .int .u64 ((65536 + nd true 5 : Nat) : Int), .int .u64 ((65536 + nd true 6 : Nat) : Int), .int .i64 (wd true : Int)] 53)] w := (by repeat (first | exact Mem.nil | refine Mem.cons hh.mem (by repeat (first | exact find_head | apply find_tail)) ?_ | refine Mem.consR hh (by assumption) (by simp) ?_))
          refine d_step (fun _ => hM) ?_
          refine d_takeL (i := 9) hl rfl (by kernel_rfl) (by kernel_rfl) (by kernel_rfl) (by kernel_rfl) (by kernel_rfl) rfl trivial (fun _ _ _ h => h) (fun w => r_sliceA10 hl rfl rfl arr109 (by first | (refine ⟨?_, ?_, ?_⟩ <;> omega) | (refine ⟨?_, ?_⟩ <;> omega)) (by first | (simp only [Int.reduceToNat]; rfl) | exact toNat_add1 _ | exact toNat_add2 _ _ | exact toNat_emod _ _ | exact Int.toNat_natCast _ | rfl)) rfl ?_
          clear hl a; intro a hl
          refine d_takeL (i := 10) hl rfl (by kernel_rfl) (by kernel_rfl) (by kernel_rfl) (by kernel_rfl) (by kernel_rfl) rfl trivial (fun _ _ _ h => h) (fun w => r_assign hl rfl) rfl ?_
          clear hl a; intro a hl
          refine d_done (by kernel_rfl) ?_
          try clear hM
          have hl2 := hl.add (t := 2) (hl.add (t := 4) (hl.add (t := 7) (hl.add (t := 9) (hl.nil) rfl) rfl) rfl) rfl; clear hl; have hl := hl2; clear hl2
          refine then_normal ?_
          refine c_seq ?_
          refine c_region ?_
          refine wl (wl_val hl rfl trivial (r_move hl rfl) ?_)
          clear hl a; intro a hl
          refine wl (wl_val hl rfl trivial (r_indexS hl rfl rfl slc129 (by omega) (by omega) (by first | (simp only [Int.reduceToNat]; rfl) | exact toNat_add1 _ | exact toNat_add2 _ _ | exact toNat_emod _ _ | exact Int.toNat_natCast _ | rfl)) ?_)
          clear hl a; intro a hl
          refine wl (w_load hl hh rfl trivial one32 rfl (by repeat (first | exact find_head | apply find_tail)) (by first | exact ld_wordE m _ (nd true (r % 256)) (by omega) (by omega) | exact ld_wordE m _ (nd true (r % 256) + 1 + s.1 * 2) (by omega) (by omega) | exact ld_wordE m _ (nd true (r % 256) + 1 + s.1 * 2 + 1) (by omega) (by omega)) ?_)
          clear hl a; intro a hl
          first | rw [h.root] at hl | rw [hst1] at hl | rw [h.cnt] at hl | rw [hw1] at hl | skip
          refine wl (wl_val hl rfl trivial (r_assign hl rfl) ?_)
          clear hl a; intro a hl
          refine w_nil ?_
          have hl2 := hl.add (t := 2) (hl.add (t := 4) (hl.add (t := 7) (hl.add (t := 9) (hl.add (t := 10) (hl.nil) rfl) rfl) rfl) rfl) rfl; clear hl; have hl := hl2; clear hl2
          refine then_normal ?_
          refine c_seq ?_
          refine c_seq ?_
          refine c_region ?_
          refine wl (wl_val hl rfl trivial (r_move hl rfl) ?_)
          clear hl a; intro a hl
          refine wl (wl_val hl rfl trivial (r_gtr hl rfl rfl) ?_)
          clear hl a; intro a hl
          refine w_nil ?_
          have hl2 := hl.add (t := 2) (hl.add (t := 4) (hl.add (t := 7) (hl.add (t := 9) (hl.add (t := 10) (hl.add (t := 82) (hl.nil) rfl) rfl) rfl) rfl) rfl) rfl; clear hl; have hl := hl2; clear hl2
          refine then_normal ?_
          refine c_cond hl rfl ?_ ?_
          · intro hc3
            try simp only [decide_eq_true_eq, decide_eq_false_iff_not, Bool.not_eq_true', Bool.not_eq_false', Bool.not_eq_true, Bool.not_eq_false, Bool.and_eq_true, Bool.or_eq_true, Bool.and_eq_false_iff, Bool.or_eq_false_iff, Bool.not_not, ne_eq, Int.not_lt, Int.not_le, Decidable.not_not, beq_iff_eq, bne_iff_ne] at hc3
            exfalso; first | omega | (simp at *; done) | (simp at *; omega)
          · intro hc3
            try simp only [decide_eq_true_eq, decide_eq_false_iff_not, Bool.not_eq_true', Bool.not_eq_false', Bool.not_eq_true, Bool.not_eq_false, Bool.and_eq_true, Bool.or_eq_true, Bool.and_eq_false_iff, Bool.or_eq_false_iff, Bool.not_not, ne_eq, Int.not_lt, Int.not_le, Decidable.not_not, beq_iff_eq, bne_iff_ne] at hc3
            refine wp_skip ?_
            refine then_normal ?_
            refine c_seq ?_
            refine c_seq ?_
            refine c_region ?_
            refine wl (wl_val hl rfl trivial (r_assign hl rfl) ?_)
            clear hl a; intro a hl
            refine w_nil ?_
            have hl2 := hl.add (t := 2) (hl.add (t := 4) (hl.add (t := 7) (hl.add (t := 9) (hl.add (t := 10) (hl.add (t := 11) (hl.nil) rfl) rfl) rfl) rfl) rfl) rfl; clear hl; have hl := hl2; clear hl2
            refine then_normal ?_
            refine wp_block ?_
            obtain ⟨KS1, hKS1, hk⟩ := (hl.add (t := 2) (hl.add (t := 4) (hl.add (t := 7) (hl.add (t := 9) (hl.add (t := 10) (hl.nil) rfl) rfl) rfl) rfl) rfl).name
            obtain ⟨HS1, hHS1, hh2⟩ := hh.nameT (A := [(k7, C (arrL 9 (vwV (Int.fdiv (r : Int) (2 ^ (min (Int.toNat 8) IntKind.u64.bits))) ((r % 256 : Nat) : Int) sp 6 (.slice none 0 0))) 66)]) (U := []) (keeps_cons (b := k7) (o' := C (arrL 9 (vwV (Int.fdiv (r : Int) (2 ^ (min (Int.toNat 8) IntKind.u64.bits))) ((r % 256 : Nat) : Int) sp 6 (.slice none 0 0))) 66) (by repeat (first | exact find_head | apply find_tail)) (by first | rfl) ((by repeat (first | exact keeps_nil | exact keeps_self | exact keeps_swap | apply keeps_mv))))
            refine c_loop (α := Nat × Value × List (Nat × Obj)) (fun s => nn - s.1) (fun s a w => (s.1 ≤ nn ∧ Row s.2.1 s.1 (elL m.word true (nd true (r % 256)) s.1) 2 73 s.2.2) ∧ Sl 122 ([(11, .int .i64 s.1)] ++ KS1) a ∧ Has _ w0 ([(k7, C (arrL 9 (vwV (Int.fdiv (r : Int) (2 ^ (min (Int.toNat 8) IntKind.u64.bits))) ((r % 256 : Nat) : Int) sp 6 s.2.1)) 66)] ++ (HS1 ++ s.2.2)) w) (0, .slice none 0 0, []) ⟨⟨Nat.zero_le _, Row.nil _ _⟩, hl.addE (t := 11) (hk) rfl (by first | rfl), (by simp only [List.append_nil]; simp only [List.append_nil] at hh2; exact hh2)⟩ ?_
            clear hk hh2 hl hh a w
            intro s a w hI
            obtain ⟨⟨hs, hrow⟩, hl, hh⟩ := hI
            subst hKS1; subst hHS1
            simp only [List.cons_append, List.nil_append, List.append_nil] at hl hh
            have hone : s.2.1.oneCell' = true := hrow.one
            refine c_seq ?_
            refine c_seq ?_
            refine c_region ?_
            refine wl (wl_val hl rfl trivial (r_move hl rfl) ?_)
            clear hl a; intro a hl
            refine wl (wl_val hl rfl trivial (r_move hl rfl) ?_)
            clear hl a; intro a hl
            first | refine wl (wl_val hl rfl trivial (r_conv hl rfl Tryf.underlying32 Tryf.underlying3 (by simp only [Fits]; omega)) ?_) | refine wl (wl_val hl rfl trivial (r_convW hl rfl Tryf.underlying32 Tryf.underlying3) ?_)
            clear hl a; intro a hl
            refine wl (wl_val hl rfl trivial (r_lss hl rfl rfl) ?_)
            clear hl a; intro a hl
            refine w_nil ?_
            have hl2 := hl.add (t := 2) (hl.add (t := 4) (hl.add (t := 7) (hl.add (t := 9) (hl.add (t := 10) (hl.add (t := 11) (hl.add (t := 91) (hl.nil) rfl) rfl) rfl) rfl) rfl) rfl) rfl; clear hl; have hl := hl2; clear hl2
            refine then_normal ?_
            refine c_cond hl rfl ?_ ?_
            · intro hc4
              try simp only [decide_eq_true_eq, decide_eq_false_iff_not, Bool.not_eq_true', Bool.not_eq_false', Bool.not_eq_true, Bool.not_eq_false, Bool.and_eq_true, Bool.or_eq_true, Bool.and_eq_false_iff, Bool.or_eq_false_iff, Bool.not_not, ne_eq, Int.not_lt, Int.not_le, Decidable.not_not, beq_iff_eq, bne_iff_ne] at hc4
              refine wp_skip ?_
              refine then_normal ?_
              refine c_seq ?_
              refine wp_block ?_
              refine c_seq ?_
              refine c_region ?_
              refine wl (wl_val hl rfl trivial (r_move hl rfl) ?_)
              clear hl a; intro a hl
              refine wl (wl_val hl rfl trivial (r_move hl rfl) ?_)
              clear hl a; intro a hl
              refine wl (wl_val hl rfl trivial (r_field hl rfl fld53_2) ?_)
              clear hl a; intro a hl
              refine wl (w_load hl hh rfl trivial one3 rfl (by repeat (first | exact find_head | apply find_tail)) (by rfl) ?_)
              clear hl a; intro a hl
              first | rw [h.root] at hl | rw [hst1] at hl | rw [h.cnt] at hl | rw [hw1] at hl | skip
              first | refine wl (wl_val hl rfl trivial (r_mul hl rfl rfl (by simp only [Fits]; omega)) ?_) | refine wl (wl_val hl rfl trivial (r_mulW hl rfl rfl) ?_)
              clear hl a; intro a hl
              skip
              first | refine wl (wl_val hl rfl trivial (r_add hl rfl rfl (by simp only [Fits]; omega)) ?_) | refine wl (wl_val hl rfl trivial (r_addW hl rfl rfl) ?_)
              clear hl a; intro a hl
              rw [show (1 : Int) + (s.1 : Int) * 2 = ((1 + s.1 * 2 : Nat) : Int) by omega] at hl
              refine wl (wl_val hl rfl trivial (r_sliceS10 hl rfl rfl slc129 (by first | (refine ⟨?_, ?_, ?_⟩ <;> omega) | (refine ⟨?_, ?_⟩ <;> omega)) (by first | (simp only [Int.reduceToNat]; rfl) | exact toNat_add1 _ | exact toNat_add2 _ _ | exact toNat_emod _ _ | exact Int.toNat_natCast _ | rfl)) ?_)
              clear hl a; intro a hl
              refine wl (wl_val hl rfl trivial (r_assign hl rfl) ?_)
              clear hl a; intro a hl
              refine w_nil ?_
              have hl2 := hl.add (t := 2) (hl.add (t := 4) (hl.add (t := 7) (hl.add (t := 9) (hl.add (t := 10) (hl.add (t := 11) (hl.add (t := 12) (hl.nil) rfl) rfl) rfl) rfl) rfl) rfl) rfl; clear hl; have hl := hl2; clear hl2
              refine then_normal ?_
              refine c_seq ?_
              refine c_region ?_
              refine wl (wl_val hl rfl trivial (r_move hl rfl) ?_)
              clear hl a; intro a hl
              refine wl (wl_val hl rfl trivial (r_field hl rfl fld53_2) ?_)
              clear hl a; intro a hl
              refine wl (w_load hl hh rfl trivial one3 rfl (by repeat (first | exact find_head | apply find_tail)) (by rfl) ?_)
              clear hl a; intro a hl
              first | rw [h.root] at hl | rw [hst1] at hl | rw [h.cnt] at hl | rw [hw1] at hl | skip
              first | refine wl (wl_val hl rfl trivial (r_sub hl rfl rfl (by simp only [Fits]; omega)) ?_) | refine wl (wl_val hl rfl trivial (r_subW hl rfl rfl) ?_)
              clear hl a; intro a hl
              rw [show (2 : Int) - 1 = ((1 : Nat) : Int) from rfl] at hl
              refine wl (wl_val hl rfl trivial (r_indexS hl rfl rfl slc129 (by omega) (by omega) (by first | (simp only [Int.reduceToNat]; rfl) | exact toNat_add1 _ | exact toNat_add2 _ _ | exact toNat_emod _ _ | exact Int.toNat_natCast _ | rfl)) ?_)
              clear hl a; intro a hl
              refine wl (w_load hl hh rfl trivial one32 rfl (by repeat (first | exact find_head | apply find_tail)) (by first | exact ld_wordE m _ (nd true (r % 256)) (by omega) (by omega) | exact ld_wordE m _ (nd true (r % 256) + 1 + s.1 * 2) (by omega) (by omega) | exact ld_wordE m _ (nd true (r % 256) + 1 + s.1 * 2 + 1) (by omega) (by omega)) ?_)
              clear hl a; intro a hl
              first | rw [h.root] at hl | rw [hst1] at hl | rw [h.cnt] at hl | rw [hw1] at hl | skip
              refine wl (wl_val hl rfl trivial (r_build hl rfl zero73 bld73 (by simp only [fillL, setL, List.getElem?_cons_zero, List.getElem?_cons_succ, Value.cells, List.take_zero, List.take_succ_cons, List.take_nil, List.drop_zero, List.drop_succ_cons, List.drop_nil, List.length_cons, List.length_nil, List.cons_append, List.nil_append, List.append_nil, Nat.zero_add, Nat.add_zero, Nat.reduceAdd, Nat.reduceBEq, Nat.reduceEqDiff, Nat.ble, BEq.rfl, Bool.and_true, Bool.and_self, cond_true, beq_self_eq_true]; rfl)) ?_)
              clear hl a; intro a hl
              refine wl (w_alloc hl hh rfl trivial zero73 rfl ?_)
              clear hl hh a w; intro k13 a w hl hh
              refine wl (w_storeA hl hh trivial agg73 rfl rfl (by repeat (first | exact find_head | apply find_tail)) (by first | rfl | (simp; done)) (by first | (simp; done) | (simp; omega)) (by first | rfl | (simp; done)) (by first | (simp only [setL, List.getElem?_cons_zero, List.getElem?_cons_succ, Value.cells, List.take_zero, List.take_succ_cons, List.take_nil, List.drop_zero, List.drop_succ_cons, List.drop_nil, List.length_cons, List.length_nil, List.cons_append, List.nil_append, List.append_nil, Nat.zero_add, Nat.add_zero, Nat.reduceAdd, Nat.reduceBEq, Nat.reduceEqDiff, Nat.ble, BEq.rfl, Bool.and_true, Bool.and_self, cond_true, beq_self_eq_true]; rfl)) ?_)
              clear hh w; intro w hh
              refine w_nil ?_
              have hl2 := hl.add (t := 2) (hl.add (t := 4) (hl.add (t := 7) (hl.add (t := 9) (hl.add (t := 10) (hl.add (t := 11) (hl.add (t := 12) (hl.add (t := 13) (hl.nil) rfl) rfl) rfl) rfl) rfl) rfl) rfl) rfl; clear hl; have hl := hl2; clear hl2
              refine then_normal ?_
              refine c_seq ?_
              refine c_seq ?_
              refine c_region ?_
              refine wl (wl_val hl rfl trivial (r_field hl rfl fld53_2) ?_)
              clear hl a; intro a hl
              refine wl (w_load hl hh rfl trivial one3 rfl (by repeat (first | exact find_head | apply find_tail)) (by rfl) ?_)
              clear hl a; intro a hl
              first | rw [h.root] at hl | rw [hst1] at hl | rw [h.cnt] at hl | rw [hw1] at hl | skip
              refine wl (wl_val hl rfl trivial (r_eql hl rfl rfl) ?_)
              clear hl a; intro a hl
              refine w_nil ?_
              have hl2 := hl.add (t := 2) (hl.add (t := 4) (hl.add (t := 7) (hl.add (t := 9) (hl.add (t := 10) (hl.add (t := 11) (hl.add (t := 12) (hl.add (t := 13) (hl.add (t := 110) (hl.nil) rfl) rfl) rfl) rfl) rfl) rfl) rfl) rfl) rfl; clear hl; have hl := hl2; clear hl2
              refine then_normal ?_
              refine c_cond hl rfl ?_ ?_
              · intro hc5
                try simp only [decide_eq_true_eq, decide_eq_false_iff_not, Bool.not_eq_true', Bool.not_eq_false', Bool.not_eq_true, Bool.not_eq_false, Bool.and_eq_true, Bool.or_eq_true, Bool.and_eq_false_iff, Bool.or_eq_false_iff, Bool.not_not, ne_eq, Int.not_lt, Int.not_le, Decidable.not_not, beq_iff_eq, bne_iff_ne] at hc5
                refine c_region ?_
                refine wl (wl_val hl rfl trivial (r_move hl rfl) ?_)
                clear hl a; intro a hl
                refine wl (wl_val hl rfl trivial (r_indexS hl rfl rfl slc129 (by omega) (by omega) (by first | (simp only [Int.reduceToNat]; rfl) | exact toNat_add1 _ | exact toNat_add2 _ _ | exact toNat_emod _ _ | exact Int.toNat_natCast _ | rfl)) ?_)
                clear hl a; intro a hl
                refine wl (w_load hl hh rfl trivial one32 rfl (by repeat (first | exact find_head | apply find_tail)) (by first | exact ld_wordE m _ (nd true (r % 256)) (by omega) (by omega) | exact ld_wordE m _ (nd true (r % 256) + 1 + s.1 * 2) (by omega) (by omega) | exact ld_wordE m _ (nd true (r % 256) + 1 + s.1 * 2 + 1) (by omega) (by omega)) ?_)
                clear hl a; intro a hl
                first | rw [h.root] at hl | rw [hst1] at hl | rw [h.cnt] at hl | rw [hw1] at hl | skip
                refine wl (wl_val hl rfl trivial (r_field hl rfl fld73_0) ?_)
                clear hl a; intro a hl
                refine wl (w_store hl hh trivial one32 rfl rfl (by repeat (first | exact find_head | apply find_tail)) (by first | (simp; done) | (simp; omega)) (by first | rfl | assumption | (apply Row.one; assumption)) (by first | (simp only [setL, List.getElem?_cons_zero, List.getElem?_cons_succ, Value.cells, List.take_zero, List.take_succ_cons, List.take_nil, List.drop_zero, List.drop_succ_cons, List.drop_nil, List.length_cons, List.length_nil, List.cons_append, List.nil_append, List.append_nil, Nat.zero_add, Nat.add_zero, Nat.reduceAdd, Nat.reduceBEq, Nat.reduceEqDiff, Nat.ble, BEq.rfl, Bool.and_true, Bool.and_self, cond_true, beq_self_eq_true]; rfl)) ?_)
                clear hh w; intro w hh
                refine w_nil ?_
                have hl2 := hl.add (t := 2) (hl.add (t := 4) (hl.add (t := 7) (hl.add (t := 9) (hl.add (t := 10) (hl.add (t := 11) (hl.add (t := 13) (hl.nil) rfl) rfl) rfl) rfl) rfl) rfl) rfl; clear hl; have hl := hl2; clear hl2
                refine then_normal ?_
                refine c_region ?_
                refine wl (wl_val hl rfl trivial (r_field hl rfl fld66_3) ?_)
                clear hl a; intro a hl
                refine wl (w_load hl hh rfl trivial one64 rfl (by repeat (first | exact find_head | apply find_tail)) (by exact vw_el _ _ _ _ _) ?_)
                clear hl a; intro a hl
                first | rw [h.root] at hl | rw [hst1] at hl | rw [h.cnt] at hl | rw [hw1] at hl | skip
                refine wl (w_loadA hl hh rfl trivial agg73 rfl (by repeat (first | exact find_head | apply find_tail)) (by first | (simp only [List.getElem?_cons_zero, List.getElem?_cons_succ, Value.cells, List.take_zero, List.take_succ_cons, List.take_nil, List.drop_zero, List.drop_succ_cons, List.drop_nil, List.length_cons, List.length_nil, List.cons_append, List.nil_append, List.append_nil, Nat.zero_add, Nat.add_zero, Nat.reduceAdd, Nat.reduceBEq, Nat.reduceEqDiff, Nat.ble, BEq.rfl, Bool.and_true, Bool.and_self, cond_true, beq_self_eq_true]; rfl)) (by first | rfl | (simp; done)) ?_)
                clear hl a; intro a hl
                refine wl (w_buildSlice hl hh rfl trivial app64 zero73 rfl rfl rfl rfl rfl (by simp only [fillL, arrPl, List.range_succ, List.range_zero, List.map_cons, List.map_nil, List.map_append, List.nil_append, List.replicate_succ, List.replicate_zero, List.flatten_cons, List.flatten_nil, Nat.zero_mul, Nat.mul_one, Nat.one_mul, Nat.reduceMul, setL, List.getElem?_cons_zero, List.getElem?_cons_succ, Value.cells, List.take_zero, List.take_succ_cons, List.take_nil, List.drop_zero, List.drop_succ_cons, List.drop_nil, List.length_cons, List.length_nil, List.cons_append, List.nil_append, List.append_nil, Nat.zero_add, Nat.add_zero, Nat.reduceAdd, Nat.reduceBEq, Nat.reduceEqDiff, Nat.ble, BEq.rfl, Bool.and_true, Bool.and_self, cond_true, beq_self_eq_true]; rfl) ?_)
                clear hl hh a w; intro k118 a w hl hh
                refine wl (w_append (news := [.int .u64 (m.word (nd true (r % 256) + 1 + s.1 * 2)), .int .u64 (m.word (nd true (r % 256) + 1 + s.1 * 2 + 1))]) hl hh rfl trivial app64 rfl rfl rfl hrow (by repeat (first | exact keeps_nil | apply keeps_cons (by repeat (first | exact find_head | apply find_tail)) (by first  | rfl) | exact keeps_self | exact keeps_left | exact keeps_right | exact keeps_swap | apply keeps_mv)) (hh.mem _ _ (Find.mem (by repeat (first | exact find_head | apply find_tail)))) rfl rfl rfl (by omega) (by omega) (by omega) (by decide) ?_)
                clear hl hh a w; intro rv2 E2 a w hR2 hl hh
                have hh3 := hh.comm; clear hh; have hh := hh3; clear hh3
                simp only [List.cons_append, List.nil_append] at hh
                refine wl (wl_val hl rfl trivial (r_field hl rfl fld66_3) ?_)
                clear hl a; intro a hl
                refine wl (w_store hl hh trivial one64 rfl rfl (by repeat (first | exact find_head | apply find_tail)) (by rw [arrL_length]; decide) (by first | rfl | assumption | (apply Row.one; assumption)) (by exact vw_elS _ _ _ _ _ _) ?_)
                clear hh w; intro w hh
                refine w_nil ?_
                have hl2 := hl.add (t := 2) (hl.add (t := 4) (hl.add (t := 7) (hl.add (t := 9) (hl.add (t := 10) (hl.add (t := 11) (hl.nil) rfl) rfl) rfl) rfl) rfl) rfl; clear hl; have hl := hl2; clear hl2
                refine blk_normal ?_
                refine then_normal ?_
                refine c_region ?_
                refine wl (wl_val hl rfl trivial (r_move hl rfl) ?_)
                clear hl a; intro a hl
                first | refine wl (wl_val hl rfl trivial (r_add hl rfl rfl (by simp only [Fits]; omega)) ?_) | refine wl (wl_val hl rfl trivial (r_addW hl rfl rfl) ?_)
                clear hl a; intro a hl
                refine wl (wl_val hl rfl trivial (r_assign hl rfl) ?_)
                clear hl a; intro a hl
                refine w_nil ?_
                have hl2 := hl.add (t := 2) (hl.add (t := 4) (hl.add (t := 7) (hl.add (t := 9) (hl.add (t := 10) (hl.add (t := 11) (hl.nil) rfl) rfl) rfl) rfl) rfl) rfl; clear hl; have hl := hl2; clear hl2
                refine then_normal ?_
                refine ⟨(s.1 + 1, rv2, E2), (by show nn - (s.1 + 1) < nn - s.1; omega), ⟨by show s.1 + 1 ≤ nn; omega, by rw [elL_succ]; exact hR2⟩, hl.addE (t := 11) (hl.addE (t := 2) (hl.addE (t := 4) (hl.addE (t := 7) (hl.addE (t := 9) (hl.addE (t := 10) (hl.nil) rfl (by first | rfl | rfl)) rfl (by first | rfl | rfl)) rfl (by first | rfl | rfl)) rfl (by first | rfl | rfl)) rfl (by first | rfl | rfl)) rfl (by first | rfl | rfl), hh.keep (by repeat (first | exact keeps_nil | apply keeps_cons (by repeat (first | exact find_head | apply find_tail)) (by first  | rfl) | exact keeps_self | exact keeps_left | exact keeps_right | exact keeps_swap | apply keeps_mv))⟩
              · intro hc5
                try simp only [decide_eq_true_eq, decide_eq_false_iff_not, Bool.not_eq_true', Bool.not_eq_false', Bool.not_eq_true, Bool.not_eq_false, Bool.and_eq_true, Bool.or_eq_true, Bool.and_eq_false_iff, Bool.or_eq_false_iff, Bool.not_not, ne_eq, Int.not_lt, Int.not_le, Decidable.not_not, beq_iff_eq, bne_iff_ne] at hc5
                exfalso; first | omega | (simp at *; done) | (simp at *; omega)
            · intro hc4
              try simp only [decide_eq_true_eq, decide_eq_false_iff_not, Bool.not_eq_true', Bool.not_eq_false', Bool.not_eq_true, Bool.not_eq_false, Bool.and_eq_true, Bool.or_eq_true, Bool.and_eq_false_iff, Bool.or_eq_false_iff, Bool.not_not, ne_eq, Int.not_lt, Int.not_le, Decidable.not_not, beq_iff_eq, bne_iff_ne] at hc4
              have hsn : s.1 = nn := by omega
              rw [hsn] at hrow
              refine wp_exit ?_
              refine then_exit ?_
              refine then_exit ?_
              refine blk_exit ?_
              refine then_normal ?_
              refine c_seq ?_
              refine c_region ?_
              refine wl (w_loadA hl hh rfl trivial agg66 rfl (by repeat (first | exact find_head | apply find_tail)) (by exact arrL_all _ _) (by first | rfl | rw [arrL_length]) ?_)
              clear hl a; intro a hl
              refine wl (w_storeA hl hh trivial agg66 rfl rfl (by repeat (first | exact find_head | apply find_tail)) (by first | rfl | rw [arrL_length]) (by first | (show 0 + 9 ≤ 9; decide) | (simp; done) | (rw [arrL_length, arrL_length]; decide)) (by first | rfl | exact arrL_one (vw_one _ _ _ _ _ hone)) (by first | exact setL_all _ _ rfl | exact setL_all _ _ (by rw [arrL_length]; rfl) | exact setL_all _ _ (by rw [arrL_length, arrL_length])) ?_)
              clear hh w; intro w hh
              refine wl (wl_val hl rfl trivial (r_assign hl rfl) ?_)
              clear hl a; intro a hl
              refine w_nil ?_
              have hl2 := hl.add (t := 4) (hl.add (t := 5) (hl.nil) rfl) rfl; clear hl; have hl := hl2; clear hl2
              refine then_normal ?_
              refine wp_ret ?_
              refine f_retCT (F' := (b, C (arrL 16391 (encM (m))) 119) :: s.2.2) hl hh rfl rfl agg66 (by repeat (first | exact find_head | apply find_tail)) (by rw [arrL_length]) rfl (by repeat (first | exact keeps_nil | apply keeps_cons (by repeat (first | exact find_head | apply find_tail)) (by first  | rfl) | exact keeps_self | exact keeps_left | exact keeps_right | exact keeps_swap | apply keeps_mv)) ?_
              exact ⟨s.2.1, s.2.2, hrow, rfl, rfl⟩
end Go.Proofs.Qxb6500914aFmt

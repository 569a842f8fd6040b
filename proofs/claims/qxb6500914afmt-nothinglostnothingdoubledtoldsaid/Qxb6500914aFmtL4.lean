import Derived.Test.Qxb6500914aFmtQ5
namespace Go.Proofs.Qxb6500914aFmt
open Go.Eng
set_option linter.unusedVariables false
set_option linter.unusedSimpArgs false
theorem cal14 : callable Tryf.prog 14 = true := by kernel_rfl
theorem zero24 : zeroOk Tryf.prog 24 (.pointer none) := by unfold zeroOk; kernel_rfl
theorem cal17 : callable Tryf.prog 17 = true := by kernel_rfl
theorem app78 : appOk Tryf.prog 78 4 1 1 = true := by kernel_rfl
theorem zero4 : zeroOk Tryf.prog 4 (.bool false) := by unfold zeroOk; kernel_rfl
theorem slc78 : slcOk Tryf.prog 78 1 = true := by kernel_rfl
theorem agg81 : aggOk Tryf.prog 81 2 = true := by kernel_rfl
theorem nodup_le : ∀ {l m : List Nat}, l.Nodup → (∀ x, x ∈ l → x ∈ m) → l.length ≤ m.length
  | [], _, _, _ => Nat.zero_le _
  | x :: l, m, hn, h => by
    obtain ⟨n1, n2⟩ := List.nodup_cons.1 hn
    have hx := h x (List.mem_cons_self ..)
    have h1 := nodup_le (l := l) (m := m.erase x) n2 fun y hy => by
      have hne : y ≠ x := fun e => n1 (e ▸ hy)
      exact (List.mem_erase_of_ne hne).2 (h y (List.mem_cons_of_mem _ hy))
    rw [List.length_erase_of_mem hx] at h1
    have h2 : 0 < m.length := List.length_pos_of_mem hx
    show l.length + 1 ≤ m.length
    omega
structure SeenOk (n : Nat) (seen : List Nat) : Prop where
  nd : seen.Nodup
  lt : ∀ j, j ∈ seen → j < n
theorem SeenOk.start (n : Nat) : SeenOk n [] := ⟨List.nodup_nil, fun j h => by cases h⟩
theorem SeenOk.next {n j : Nat} {seen : List Nat} (h : SeenOk n seen) (hj : j < n) (hn : j ∉ seen) : SeenOk n (seen ++ [j]) := by
  refine ⟨List.nodup_append.2 ⟨h.nd, List.nodup_cons.2 ⟨by simp, List.nodup_nil⟩, ?_⟩, fun i hi => ?_⟩
  · intro a ha b hb e
    rw [List.mem_singleton] at hb
    exact hn (hb ▸ e ▸ ha)
  · rcases List.mem_append.1 hi with q | q
    · exact h.lt i q
    · rw [List.mem_singleton.1 q]; exact hj
theorem SeenOk.len {n : Nat} {seen : List Nat} (h : SeenOk n seen) : seen.length ≤ n := by
  have := nodup_le (m := List.range n) h.nd fun x hx => List.mem_range.2 (h.lt x hx)
  rw [List.length_range] at this; exact this
theorem k81d (a : EK) : k81 a = .agg ⟨[.int .u64 ((a.1.toNat : Nat) : Int), .int .u64 ((a.2.toNat : Nat) : Int)]⟩ := rfl
theorem wd_open {b kb : Nat} {W : WS} {F : List (Nat × Obj)} (h : Wd b kb W [] F) : ∃ K R0, F = (kb, K) :: (b, C (arrL 16391 (encM W.m)) 119) :: R0 := by
  obtain ⟨q, lv, E, _, e⟩ := h
  exact ⟨_, _, e⟩
theorem has_mid2 {D : List Nat} {w0 w : World} {A E : List (Nat × Obj)} {x y c d : Nat × Obj} (h : Has D w0 (x :: y :: (A ++ (c :: d :: E))) w) : Has D w0 (x :: y :: c :: d :: (A ++ E)) w :=
  h.perm (List.Perm.cons x (List.Perm.cons y (List.perm_middle.trans (List.Perm.cons c List.perm_middle))))
theorem bb_at (i : Nat) (h : i < 2) : ([.bool false, .bool true] : List Value)[0 + i * 1]? = some (.bool (decide (i = 1))) := by
  rcases (show i = 0 ∨ i = 1 by omega) with rfl | rfl <;> rfl
theorem tm_end {W : WS} (hg : Good7 W) (hL : LW W ≤ 1000100) (hi : ∀ s, W.run s = none) (k : Bool) (hc : cLi W.m.word k = []) {M N : List (EK × Value)} {n : Nat} (hn : n = W.log.length) (hM : TM M (inC k (W.log.take n))) (hN : TM N (ouC k (W.log.take n))) : ∃ f, TM M f ∧ TM N f := by
  rw [hn, List.take_length] at hM hN
  exact ⟨_, hM, hN.congr fun a => count_end hg hL hi k hc a⟩
theorem vw_hso {W : WS} (h : SG W) {r nn : Nat} {sp : Nat → Nat} (hv : VO W.m true r nn sp) (hcr : crN W.m.word true = r % 256) (i : Nat) (hi : i + 1 < nn) : W.m.word (nd true (r % 256) + 1 + i * 2) ≤ W.m.word (nd true (r % 256) + 1 + (i + 1) * 2) := by
  have := h.sc i (by rw [hcr, hv.cnt]; omega)
  unfold ndC at this
  rw [hcr, Nat.mul_comm 2 i, Nat.mul_comm 2 (i + 1)] at this
  exact this
theorem vw_row {W : WS} {k : Bool} {r nn : Nat} {sp : Nat → Nat} (hv : VO W.m k r nn sp) (hcr : crN W.m.word k = r % 256) {lv : Value} {E : List (Nat × Obj)} (hrow : Row lv nn (elL W.m.word k (nd k (r % 256)) nn) 2 73 E) : ∃ p c, lv = .slice p (cLi W.m.word k).length c ∧ Row (.slice p (cLi W.m.word k).length c) (cLi W.m.word k).length (fl elc (cLi W.m.word k)) 2 73 E := by
  have hc := hv.cnt
  rw [← hcr] at hrow hc
  obtain ⟨e1, e2⟩ := el_cLi W.m.word k nn hc
  rw [e1, ← e2] at hrow
  obtain ⟨p, c, rfl⟩ := row_val hrow
  exact ⟨p, c, rfl, hrow⟩
theorem has_last3 {D : List Nat} {w0 w : World} {R : List (Nat × Obj)} {x y z k : Nat × Obj} (h : Has D w0 (x :: y :: z :: (R ++ [k])) w) : Has D w0 (k :: x :: y :: z :: R) w :=
  h.perm (show ((x :: y :: z :: R) ++ [k]).Perm (k :: x :: y :: z :: R) from List.perm_append_comm)


attribute [local irreducible] encM encP fl

set_option maxHeartbeats 4000000 in
theorem law4 (sb : Nat) (c : List Value) (T : TypeId) (fr : Nat × Nat) (p : Option Addr) (n cap : Nat) (ops : List SOp) (hn : n = ops.length) (hlen : n ≤ 9223372036854775807) (h : Ops sb c p cap ops) : SpK Tryf.prog 4 #[.slice p n cap] (OpsIn sb c T fr ops) [] (fun v F' => v = .bool true ∧ F' = []) := by
  refine f_enter (args := [.slice p n cap]) Tryf.func4 rfl Tryf.ntmps4 rfl ?_
  intro w0 w a hpre hl hh
  simp only [slotsFrom, Nat.reduceAdd] at hl
  refine c_seq ?_
  refine c_region ?_
  refine wl (wl_val hl rfl trivial (r_assign hl rfl) ?_)
  clear hl a; intro a hl
  refine w_nil ?_
  have hl2 := hl.add (t := 0) (hl.nil) rfl; clear hl; have hl := hl2; clear hl2
  refine then_normal ?_
  refine c_seq ?_
  refine c_seq ?_
  refine c_region ?_
  refine wl (wl_val hl rfl trivial (r_move hl rfl) ?_)
  clear hl a; intro a hl
  refine wl (w_call hl hh rfl trivial rfl cal6 rfl (small_spec p n cap hlen) (by repeat (first | exact keeps_nil | apply keeps_cons (by repeat (first | exact find_head | apply find_tail | apply find_skip)) (by first  | rfl) | exact keeps_self | exact keeps_left | apply keeps_app | apply keeps_mv | apply keeps_skip)) trivial ?_)
  clear hl hh a w; intro vc Fc a w hR hl hh
  obtain ⟨rfl, rfl⟩ := hR
  try simp only [List.cons_append, List.nil_append, List.append_assoc, List.append_nil] at hh
  refine wl (wl_val hl rfl trivial (r_not hl rfl) ?_)
  clear hl a; intro a hl
  refine w_nil ?_
  have hl2 := hl.add (t := 0) (hl.add (t := 17) (hl.nil) rfl) rfl; clear hl; have hl := hl2; clear hl2
  refine then_normal ?_
  refine c_cond hl rfl ?_ ?_
  · intro hc0
    try simp only [decide_eq_true_eq, decide_eq_false_iff_not, Bool.not_eq_true', Bool.not_eq_false', Bool.not_eq_true, Bool.not_eq_false, Bool.and_eq_true, Bool.or_eq_true, Bool.and_eq_false_iff, Bool.or_eq_false_iff, Bool.not_not, ne_eq, Int.not_lt, Int.not_le, Decidable.not_not, beq_iff_eq, bne_iff_ne] at hc0
    refine c_seq ?_
    refine c_region ?_
    refine wl (wl_val hl rfl trivial (r_assign hl rfl) ?_)
    clear hl a; intro a hl
    refine w_nil ?_
    have hl2 := hl.add (t := 2) (hl.nil) rfl; clear hl; have hl := hl2; clear hl2
    refine then_normal ?_
    refine wp_ret ?_
    refine then_ret ?_
    refine f_ret1 (F' := []) hl hh rfl rfl (by repeat (first | exact keeps_nil | apply keeps_cons (by repeat (first | exact find_head | apply find_tail | apply find_skip)) (by first  | rfl) | exact keeps_self | exact keeps_left | apply keeps_app | apply keeps_mv | apply keeps_skip)) ?_
    exact ⟨rfl, rfl⟩
  · intro hc0
    try simp only [decide_eq_true_eq, decide_eq_false_iff_not, Bool.not_eq_true', Bool.not_eq_false', Bool.not_eq_true, Bool.not_eq_false, Bool.and_eq_true, Bool.or_eq_true, Bool.and_eq_false_iff, Bool.or_eq_false_iff, Bool.not_not, ne_eq, Int.not_lt, Int.not_le, Decidable.not_not, beq_iff_eq, bne_iff_ne] at hc0
    refine wp_skip ?_
    refine then_normal ?_
    refine c_seq ?_
    refine c_region ?_
    refine wl (wl_val hl rfl trivial (r_move hl rfl) ?_)
    clear hl a; intro a hl
    refine wl (w_call hl hh rfl trivial rfl cal7 rfl (played_spec (I := Good7) keepG7 (fun m h => start_G7 h) sb c T fr p n cap ops hn hlen h (by omega)) (by repeat (first | exact keeps_nil | apply keeps_cons (by repeat (first | exact find_head | apply find_tail | apply find_skip)) (by first  | rfl) | exact keeps_self | exact keeps_left | apply keeps_app | apply keeps_mv | apply keeps_skip)) (OpsIn.keep (fun b hb => hh.frm.block b hb (by simp)) hpre) ?_)
    clear hl hh a w; intro vc Fc a w hR hl hh
    obtain ⟨wb, b, kb, m, steps, F1, hM, hok, hst, rfl, hG1, hLW1, hWd1, rfl⟩ := hR
    try simp only [List.cons_append, List.nil_append, List.append_assoc, List.append_nil] at hh
    try simp only [List.cons_append, List.nil_append, List.append_nil, List.append_assoc] at hh
    generalize playsN (W0 m) steps = W1 at hG1 hLW1 hWd1
    refine wl (w_alloc hl hh rfl trivial zero24 rfl ?_)
    clear hl hh a w; intro k3 a w hl hh
    refine wl (w_store hl hh trivial one24 rfl rfl (by repeat (first | exact find_head | apply find_tail | apply find_skip)) (by first | (simp; done) | (simp; omega)) (by first | rfl | assumption | (apply Row.one; assumption)) (by first | (simp only [setL, List.getElem?_cons_zero, List.getElem?_cons_succ, Value.cells, List.take_zero, List.take_succ_cons, List.take_nil, List.drop_zero, List.drop_succ_cons, List.drop_nil, List.length_cons, List.length_nil, List.cons_append, List.nil_append, List.append_nil, Nat.zero_add, Nat.add_zero, Nat.reduceAdd, Nat.reduceBEq, Nat.reduceEqDiff, Nat.ble, BEq.rfl, Bool.and_true, Bool.and_self, cond_true, beq_self_eq_true]; rfl)) ?_)
    clear hh w; intro w hh
    refine w_nil ?_
    have hl2 := hl.add (t := 3) (hl.nil) rfl; clear hl; have hl := hl2; clear hl2
    refine then_normal ?_
    refine c_seq ?_
    refine c_seq ?_
    refine c_region ?_
    refine wl (w_load hl hh rfl trivial one24 rfl (by repeat (first | exact find_head | apply find_tail | apply find_skip)) (by first | exact bb_at i (by omega) | rfl) ?_)
    clear hl a; intro a hl
    refine wl (w_call hl hh rfl trivial rfl cal8 rfl (runOut_spec wb b kb (noEye wb b kb keepG7) W1 (nox wb b kb keepG7) F1 hWd1 hG1 (by omega)) (by repeat (first | exact keeps_nil | apply keeps_cons (by repeat (first | exact find_head | apply find_tail | apply find_skip)) (by first  | rfl) | exact keeps_self | exact keeps_left | apply keeps_app | apply keeps_mv | apply keeps_skip)) trivial ?_)
    clear hl hh a w; intro vc Fc a w hR hl hh
    obtain ⟨rfl, F2, hW2, rfl⟩ := hR
    try simp only [List.cons_append, List.nil_append, List.append_assoc, List.append_nil] at hh
    rw [noEye_run] at hW2 hl
    have hq2 := run_quiet 4096 W1 hG1.1.1 (Nat.le_trans (phi_le hG1.1.1) (by omega))
    rw [hq2] at hl
    have hG2 : Good7 (runN 4096 W1) := keepG7.run 4096 W1 hG1
    have hLW2 := LW_runN 4096 W1 hG1.1.1
    have hW2b : Wd b kb (runN 4096 W1) [] F2 := hW2
    clear hW2
    generalize runN 4096 W1 = W2 at hq2 hG2 hLW2 hW2b
    have hi2 := idle_all hG2.1.1 hq2
    have hs2 := (hG2.1.2 (by omega)).1
    obtain ⟨r1, n1, sp1, hv1, hcr1⟩ := hs2.vo false
    obtain ⟨r2, n2, sp2, hv2, hcr2⟩ := hs2.vo true
    have ha1 := vo_idle hs2 hi2 hv1
    have ha2 := vo_idle hs2 hi2 hv2
    obtain ⟨K2, R0, rfl⟩ := wd_open hW2b
    try simp only [List.cons_append, List.nil_append, List.append_nil, List.append_assoc] at hh
    replace hh := has_last3 hh
    refine wl (wl_val hl rfl trivial (r_not hl rfl) ?_)
    clear hl a; intro a hl
    refine w_nil ?_
    have hl2 := hl.add (t := 3) (hl.add (t := 22) (hl.nil) rfl) rfl; clear hl; have hl := hl2; clear hl2
    refine then_normal ?_
    refine c_cond hl rfl ?_ ?_
    · intro hc1
      try simp only [decide_eq_true_eq, decide_eq_false_iff_not, Bool.not_eq_true', Bool.not_eq_false', Bool.not_eq_true, Bool.not_eq_false, Bool.and_eq_true, Bool.or_eq_true, Bool.and_eq_false_iff, Bool.or_eq_false_iff, Bool.not_not, ne_eq, Int.not_lt, Int.not_le, Decidable.not_not, beq_iff_eq, bne_iff_ne] at hc1
      exfalso; first | omega | (simp at *; done)
    · intro hc1
      try simp only [decide_eq_true_eq, decide_eq_false_iff_not, Bool.not_eq_true', Bool.not_eq_false', Bool.not_eq_true, Bool.not_eq_false, Bool.and_eq_true, Bool.or_eq_true, Bool.and_eq_false_iff, Bool.or_eq_false_iff, Bool.not_not, ne_eq, Int.not_lt, Int.not_le, Decidable.not_not, beq_iff_eq, bne_iff_ne] at hc1
      refine wp_skip ?_
      refine then_normal ?_
      refine c_seq ?_
      refine c_region ?_
      refine wl (wl_val hl rfl trivial (r_makeFunc hl rfl) ?_)
      clear hl a; intro a hl
      refine wl (wl_val hl rfl trivial (r_assign hl rfl) ?_)
      clear hl a; intro a hl
      refine w_nil ?_
      have hl2 := hl.add (t := 3) (hl.add (t := 4) (hl.nil) rfl) rfl; clear hl; have hl := hl2; clear hl2
      refine then_normal ?_
      refine c_seq ?_
      refine c_draw [(k3, C [.pointer (some ⟨wb, 0, none⟩)] 24), (wb, C [.pointer (some ⟨b, 0, none⟩), .pointer (some ⟨kb, 0, none⟩), .int .u64 ((65536 + hd false : Nat) : Int), .int .u64 ((65536 + nd false 0 : Nat) : Int), .int .u64 ((65536 + nd false 1 : Nat) : Int), .int .u64 ((65536 + nd false 2 : Nat) : Int), .int .u64 ((65536 + nd false 3 : Nat) : Int), .int .u64 ((65536 + nd false 4 : Nat) : Int), .int .u64 ((65536 + nd false 5 : Nat) : Int), .int .u64 ((65536 + nd false 6 : Nat) : Int), .int .i64 (wd false : Int), .int .u64 ((65536 + hd true : Nat) : Int), .int .u64 ((65536 + nd true 0 : Nat) : Int), .int .u64 ((65536 + nd true 1 : Nat) : Int), .int .u64 ((65536 + nd true 2 : Nat) : Int), .int .u64 ((65536 + nd true 3 : Nat) : Int), .int .u64 ((65536 + nd true 4 : Nat) : Int), .int .u64 ((65536 + nd true 5 : Nat) : Int), .int .u64 ((65536 + nd true 6 : Nat) : Int), .int .i64 (wd true : Int)] 58)] [14] mixed hh ?_
      clear hh w; intro w hh
      have hM : Mem [(k3, C [.pointer (some ⟨wb, 0, none⟩)] 24), (wb, C [.pointer (some ⟨b, 0, none⟩), .pointer (some ⟨kb, 0, none⟩), .int .u64 ((65536 + hd false : Nat) : Int), .int .u64 ((65536 + nd false 0 : Nat) : Int), .int .u64 ((65536 + nd false 1 : Nat) : Int), .int .u64 ((65536 + nd false 2 : Nat) : Int), .int .u64 ((65536 + nd false 3 : Nat) : Int), .int .u64 ((65536 + nd false 4 : Nat) : Int), .int .u64 ((65536 + nd false 5 : Nat) : Int), .int .u64 ((65536 + nd false 6 : Nat) : Int), .int .i64 (wd false : Int), .int .u64 ((65536 + hd true : Nat) : Int), .int .u64 ((65536 + nd true 0 : Nat) : Int), .int .u64 ((65536 + nd true 1 : Nat) : Int), .int .u64 ((65536 + nd true 2 : Nat) : Int), .int .u64 ((65536 + nd true 3 : Nat) : Int), .int .u64 ((65536 + nd true 4 : Nat) : Int), .int .u64 ((65536 + nd true 5 : Nat) : Int), .int .u64 ((65536 + nd true 6 : Nat) : Int), .int .i64 (wd true : Int)] 58)] w := (memK hh (by repeat (first | exact keeps_nil | apply keeps_cons (by repeat (first | exact find_head | apply find_tail | apply find_skip)) (by first  | rfl) | exact keeps_self | exact keeps_left | apply keeps_app | apply keeps_mv | apply keeps_skip)))
      refine d_take (i := 0) hl rfl (by kernel_rfl) (by kernel_rfl) (by kernel_rfl) (by kernel_rfl) (by kernel_rfl) rfl trivial (fun _ _ _ h => h) hM (fun w hC => r_loadC hl rfl one24 hC (by repeat (first | exact find_head | apply find_tail | apply find_skip)) (by first | exact bb_at i (by omega) | rfl)) rfl ?_
      clear hl a; intro a hl
      refine d_take (i := 1) hl rfl (by kernel_rfl) (by kernel_rfl) (by kernel_rfl) (by kernel_rfl) (by kernel_rfl) rfl trivial (fun _ _ _ h => h) hM (fun w hC => r_nilCheck hl rfl) rfl ?_
      clear hl a; intro a hl
      refine d_take (i := 2) hl rfl (by kernel_rfl) (by kernel_rfl) (by kernel_rfl) (by kernel_rfl) (by kernel_rfl) rfl trivial (fun _ _ _ h => h) hM (fun w hC => r_field hl rfl fld58_2) rfl ?_
      clear hl a; intro a hl
      refine d_take (i := 3) hl rfl (by kernel_rfl) (by kernel_rfl) (by kernel_rfl) (by kernel_rfl) (by kernel_rfl) rfl trivial (fun _ _ _ h => h) hM (fun w hC => r_loadCA hl rfl agg55 hC (by repeat (first | exact find_head | apply find_tail | apply find_skip)) (by first | (simp only [List.getElem?_cons_zero, List.getElem?_cons_succ, Value.cells, List.take_zero, List.take_succ_cons, List.take_nil, List.drop_zero, List.drop_succ_cons, List.drop_nil, List.length_cons, List.length_nil, List.cons_append, List.nil_append, List.append_nil, Nat.zero_add, Nat.add_zero, Nat.reduceAdd, Nat.reduceBEq, Nat.reduceEqDiff, Nat.ble, BEq.rfl, Bool.and_true, Bool.and_self, cond_true, beq_self_eq_true]; rfl)) (by first | rfl | (simp; done))) rfl ?_
      clear hl a; intro a hl
      refine d_take (i := 4) hl rfl (by kernel_rfl) (by kernel_rfl) (by kernel_rfl) (by kernel_rfl) (by kernel_rfl) rfl trivial (fun _ _ _ h => h) hM (fun w hC => r_loadC hl rfl one24 hC (by repeat (first | exact find_head | apply find_tail | apply find_skip)) (by first | exact bb_at i (by omega) | rfl)) rfl ?_
      clear hl a; intro a hl
      refine d_take (i := 5) hl rfl (by kernel_rfl) (by kernel_rfl) (by kernel_rfl) (by kernel_rfl) (by kernel_rfl) rfl trivial (fun _ _ _ h => h) hM (fun w hC => r_nilCheck hl rfl) rfl ?_
      clear hl a; intro a hl
      refine d_take (i := 6) hl rfl (by kernel_rfl) (by kernel_rfl) (by kernel_rfl) (by kernel_rfl) (by kernel_rfl) rfl trivial (fun _ _ _ h => h) hM (fun w hC => r_field hl rfl fld58_0) rfl ?_
      clear hl a; intro a hl
      refine d_take (i := 7) hl rfl (by kernel_rfl) (by kernel_rfl) (by kernel_rfl) (by kernel_rfl) (by kernel_rfl) rfl trivial (fun _ _ _ h => h) hM (fun w hC => r_loadC hl rfl one39 hC (by repeat (first | exact find_head | apply find_tail | apply find_skip)) (by first | exact bb_at i (by omega) | rfl)) rfl ?_
      clear hl a; intro a hl
      refine d_two (i := 8) (j := 12) (by kernel_rfl) rfl rfl ?_ ?_
      ·
        try clear hM
        refine id (w_call hl hh rfl trivial rfl cal13 rfl (viewD_spec b W2.m r1 n1 sp1 hv1) (by repeat (first | exact keeps_nil | apply keeps_cons (by repeat (first | exact find_head | apply find_tail | apply find_skip)) (by first  | rfl) | exact keeps_self | exact keeps_left | apply keeps_app | apply keeps_mv | apply keeps_skip)) trivial ?_)
        clear hl hh a w; intro vc Fc a w hR hl hh
        obtain ⟨lvD, ED, hrowD, rfl, rfl⟩ := hR
        try simp only [List.cons_append, List.nil_append, List.append_assoc, List.append_nil] at hh
        try simp only [List.cons_append, List.nil_append, List.append_nil, List.append_assoc] at hh
        have hone : lvD.oneCell' = true := hrowD.one
        obtain ⟨pD, cD, rfl, hRD⟩ := vw_row hv1 hcr1 hrowD
        have hh5 := has_tail1 hh; clear hh; have hh := hh5; clear hh5
        try simp only [List.cons_append, List.nil_append, List.append_nil, List.append_assoc] at hh
        have hM : Mem [(k3, C [.pointer (some ⟨wb, 0, none⟩)] 24), (wb, C [.pointer (some ⟨b, 0, none⟩), .pointer (some ⟨kb, 0, none⟩), .int .u64 ((65536 + hd false : Nat) : Int), .int .u64 ((65536 + nd false 0 : Nat) : Int), .int .u64 ((65536 + nd false 1 : Nat) : Int), .int .u64 ((65536 + nd false 2 : Nat) : Int), .int .u64 ((65536 + nd false 3 : Nat) : Int), .int .u64 ((65536 + nd false 4 : Nat) : Int), .int .u64 ((65536 + nd false 5 : Nat) : Int), .int .u64 ((65536 + nd false 6 : Nat) : Int), .int .i64 (wd false : Int), .int .u64 ((65536 + hd true : Nat) : Int), .int .u64 ((65536 + nd true 0 : Nat) : Int), .int .u64 ((65536 + nd true 1 : Nat) : Int), .int .u64 ((65536 + nd true 2 : Nat) : Int), .int .u64 ((65536 + nd true 3 : Nat) : Int), .int .u64 ((65536 + nd true 4 : Nat) : Int), .int .u64 ((65536 + nd true 5 : Nat) : Int), .int .u64 ((65536 + nd true 6 : Nat) : Int), .int .i64 (wd true : Int)] 58)] w := (memK hh (by repeat (first | exact keeps_nil | apply keeps_cons (by repeat (first | exact find_head | apply find_tail | apply find_skip)) (by first  | rfl) | exact keeps_self | exact keeps_left | apply keeps_app | apply keeps_mv | apply keeps_skip)))
        refine d_step (fun _ => hM) ?_
        refine d_take (i := 9) hl rfl (by kernel_rfl) (by kernel_rfl) (by kernel_rfl) (by kernel_rfl) (by kernel_rfl) rfl trivial (fun _ _ _ h => h) hM (fun w hC => r_move hl rfl) rfl ?_
        clear hl a; intro a hl
        refine d_take (i := 10) hl rfl (by kernel_rfl) (by kernel_rfl) (by kernel_rfl) (by kernel_rfl) (by kernel_rfl) rfl trivial (fun _ _ _ h => h) hM (fun w hC => r_extract hl rfl (by simp only [List.getElem?_toArray, List.getElem?_cons_zero, List.getElem?_cons_succ]; rfl)) rfl ?_
        clear hl a; intro a hl
        refine d_take (i := 11) hl rfl (by kernel_rfl) (by kernel_rfl) (by kernel_rfl) (by kernel_rfl) (by kernel_rfl) rfl trivial (fun _ _ _ h => h) hM (fun w hC => r_extract hl rfl (by simp only [List.getElem?_toArray, List.getElem?_cons_zero, List.getElem?_cons_succ]; rfl)) rfl ?_
        clear hl a; intro a hl
        refine d_one (i := 12) (by kernel_rfl) rfl ?_
        try clear hM
        refine id (w_alloc hl hh rfl trivial zero66 rfl ?_)
        clear hl hh a w; intro k5 a w hl hh
        have hM : Mem [(k3, C [.pointer (some ⟨wb, 0, none⟩)] 24), (wb, C [.pointer (some ⟨b, 0, none⟩), .pointer (some ⟨kb, 0, none⟩), .int .u64 ((65536 + hd false : Nat) : Int), .int .u64 ((65536 + nd false 0 : Nat) : Int), .int .u64 ((65536 + nd false 1 : Nat) : Int), .int .u64 ((65536 + nd false 2 : Nat) : Int), .int .u64 ((65536 + nd false 3 : Nat) : Int), .int .u64 ((65536 + nd false 4 : Nat) : Int), .int .u64 ((65536 + nd false 5 : Nat) : Int), .int .u64 ((65536 + nd false 6 : Nat) : Int), .int .i64 (wd false : Int), .int .u64 ((65536 + hd true : Nat) : Int), .int .u64 ((65536 + nd true 0 : Nat) : Int), .int .u64 ((65536 + nd true 1 : Nat) : Int), .int .u64 ((65536 + nd true 2 : Nat) : Int), .int .u64 ((65536 + nd true 3 : Nat) : Int), .int .u64 ((65536 + nd true 4 : Nat) : Int), .int .u64 ((65536 + nd true 5 : Nat) : Int), .int .u64 ((65536 + nd true 6 : Nat) : Int), .int .i64 (wd true : Int)] 58)] w := (memK hh (by repeat (first | exact keeps_nil | apply keeps_cons (by repeat (first | exact find_head | apply find_tail | apply find_skip)) (by first  | rfl) | exact keeps_self | exact keeps_left | apply keeps_app | apply keeps_mv | apply keeps_skip)))
        refine d_step (fun _ => hM) ?_
        refine d_one (i := 13) (by kernel_rfl) rfl ?_
        try clear hM
        refine id (w_storeA hl hh trivial agg66 rfl rfl (by repeat (first | exact find_head | apply find_tail | apply find_skip)) (by first | rfl | rw [arrL_length]) (by first | (show 0 + 9 ≤ 9; decide) | (simp; done) | (rw [arrL_length, arrL_length]; decide)) (by first | rfl | exact arrL_one (vw_one _ _ _ _ _ hone)) (by first | exact setL_all _ _ rfl | exact setL_all _ _ (by rw [arrL_length]; rfl) | exact setL_all _ _ (by rw [arrL_length, arrL_length])) ?_)
        clear hh w; intro w hh
        have hM : Mem [(k3, C [.pointer (some ⟨wb, 0, none⟩)] 24), (wb, C [.pointer (some ⟨b, 0, none⟩), .pointer (some ⟨kb, 0, none⟩), .int .u64 ((65536 + hd false : Nat) : Int), .int .u64 ((65536 + nd false 0 : Nat) : Int), .int .u64 ((65536 + nd false 1 : Nat) : Int), .int .u64 ((65536 + nd false 2 : Nat) : Int), .int .u64 ((65536 + nd false 3 : Nat) : Int), .int .u64 ((65536 + nd false 4 : Nat) : Int), .int .u64 ((65536 + nd false 5 : Nat) : Int), .int .u64 ((65536 + nd false 6 : Nat) : Int), .int .i64 (wd false : Int), .int .u64 ((65536 + hd true : Nat) : Int), .int .u64 ((65536 + nd true 0 : Nat) : Int), .int .u64 ((65536 + nd true 1 : Nat) : Int), .int .u64 ((65536 + nd true 2 : Nat) : Int), .int .u64 ((65536 + nd true 3 : Nat) : Int), .int .u64 ((65536 + nd true 4 : Nat) : Int), .int .u64 ((65536 + nd true 5 : Nat) : Int), .int .u64 ((65536 + nd true 6 : Nat) : Int), .int .i64 (wd true : Int)] 58)] w := (memK hh (by repeat (first | exact keeps_nil | apply keeps_cons (by repeat (first | exact find_head | apply find_tail | apply find_skip)) (by first  | rfl) | exact keeps_self | exact keeps_left | apply keeps_app | apply keeps_mv | apply keeps_skip)))
        refine d_step (fun _ => hM) ?_
        refine d_takeL (i := 14) hl rfl (by kernel_rfl) (by kernel_rfl) (by kernel_rfl) (by kernel_rfl) (by kernel_rfl) rfl trivial (fun _ _ _ h => h) (fun w => r_assign hl rfl) rfl ?_
        clear hl a; intro a hl
        refine d_done (by kernel_rfl) ?_
        try clear hM
        have hl2 := hl.add (t := 3) (hl.add (t := 4) (hl.add (t := 5) (hl.add (t := 6) (hl.nil) rfl) rfl) rfl) rfl; clear hl; have hl := hl2; clear hl2
        refine then_normal ?_
        refine c_seq ?_
        refine c_draw [(k3, C [.pointer (some ⟨wb, 0, none⟩)] 24), (wb, C [.pointer (some ⟨b, 0, none⟩), .pointer (some ⟨kb, 0, none⟩), .int .u64 ((65536 + hd false : Nat) : Int), .int .u64 ((65536 + nd false 0 : Nat) : Int), .int .u64 ((65536 + nd false 1 : Nat) : Int), .int .u64 ((65536 + nd false 2 : Nat) : Int), .int .u64 ((65536 + nd false 3 : Nat) : Int), .int .u64 ((65536 + nd false 4 : Nat) : Int), .int .u64 ((65536 + nd false 5 : Nat) : Int), .int .u64 ((65536 + nd false 6 : Nat) : Int), .int .i64 (wd false : Int), .int .u64 ((65536 + hd true : Nat) : Int), .int .u64 ((65536 + nd true 0 : Nat) : Int), .int .u64 ((65536 + nd true 1 : Nat) : Int), .int .u64 ((65536 + nd true 2 : Nat) : Int), .int .u64 ((65536 + nd true 3 : Nat) : Int), .int .u64 ((65536 + nd true 4 : Nat) : Int), .int .u64 ((65536 + nd true 5 : Nat) : Int), .int .u64 ((65536 + nd true 6 : Nat) : Int), .int .i64 (wd true : Int)] 58)] [14] mixed hh ?_
        clear hh w; intro w hh
        have hM : Mem [(k3, C [.pointer (some ⟨wb, 0, none⟩)] 24), (wb, C [.pointer (some ⟨b, 0, none⟩), .pointer (some ⟨kb, 0, none⟩), .int .u64 ((65536 + hd false : Nat) : Int), .int .u64 ((65536 + nd false 0 : Nat) : Int), .int .u64 ((65536 + nd false 1 : Nat) : Int), .int .u64 ((65536 + nd false 2 : Nat) : Int), .int .u64 ((65536 + nd false 3 : Nat) : Int), .int .u64 ((65536 + nd false 4 : Nat) : Int), .int .u64 ((65536 + nd false 5 : Nat) : Int), .int .u64 ((65536 + nd false 6 : Nat) : Int), .int .i64 (wd false : Int), .int .u64 ((65536 + hd true : Nat) : Int), .int .u64 ((65536 + nd true 0 : Nat) : Int), .int .u64 ((65536 + nd true 1 : Nat) : Int), .int .u64 ((65536 + nd true 2 : Nat) : Int), .int .u64 ((65536 + nd true 3 : Nat) : Int), .int .u64 ((65536 + nd true 4 : Nat) : Int), .int .u64 ((65536 + nd true 5 : Nat) : Int), .int .u64 ((65536 + nd true 6 : Nat) : Int), .int .i64 (wd true : Int)] 58)] w := (memK hh (by repeat (first | exact keeps_nil | apply keeps_cons (by repeat (first | exact find_head | apply find_tail | apply find_skip)) (by first  | rfl) | exact keeps_self | exact keeps_left | apply keeps_app | apply keeps_mv | apply keeps_skip)))
        refine d_take (i := 0) hl rfl (by kernel_rfl) (by kernel_rfl) (by kernel_rfl) (by kernel_rfl) (by kernel_rfl) rfl trivial (fun _ _ _ h => h) hM (fun w hC => r_loadC hl rfl one24 hC (by repeat (first | exact find_head | apply find_tail | apply find_skip)) (by first | exact bb_at i (by omega) | rfl)) rfl ?_
        clear hl a; intro a hl
        refine d_take (i := 1) hl rfl (by kernel_rfl) (by kernel_rfl) (by kernel_rfl) (by kernel_rfl) (by kernel_rfl) rfl trivial (fun _ _ _ h => h) hM (fun w hC => r_nilCheck hl rfl) rfl ?_
        clear hl a; intro a hl
        refine d_take (i := 2) hl rfl (by kernel_rfl) (by kernel_rfl) (by kernel_rfl) (by kernel_rfl) (by kernel_rfl) rfl trivial (fun _ _ _ h => h) hM (fun w hC => r_field hl rfl fld58_3) rfl ?_
        clear hl a; intro a hl
        refine d_take (i := 3) hl rfl (by kernel_rfl) (by kernel_rfl) (by kernel_rfl) (by kernel_rfl) (by kernel_rfl) rfl trivial (fun _ _ _ h => h) hM (fun w hC => r_loadCA hl rfl agg56 hC (by repeat (first | exact find_head | apply find_tail | apply find_skip)) (by first | (simp only [List.getElem?_cons_zero, List.getElem?_cons_succ, Value.cells, List.take_zero, List.take_succ_cons, List.take_nil, List.drop_zero, List.drop_succ_cons, List.drop_nil, List.length_cons, List.length_nil, List.cons_append, List.nil_append, List.append_nil, Nat.zero_add, Nat.add_zero, Nat.reduceAdd, Nat.reduceBEq, Nat.reduceEqDiff, Nat.ble, BEq.rfl, Bool.and_true, Bool.and_self, cond_true, beq_self_eq_true]; rfl)) (by first | rfl | (simp; done))) rfl ?_
        clear hl a; intro a hl
        refine d_take (i := 4) hl rfl (by kernel_rfl) (by kernel_rfl) (by kernel_rfl) (by kernel_rfl) (by kernel_rfl) rfl trivial (fun _ _ _ h => h) hM (fun w hC => r_loadC hl rfl one24 hC (by repeat (first | exact find_head | apply find_tail | apply find_skip)) (by first | exact bb_at i (by omega) | rfl)) rfl ?_
        clear hl a; intro a hl
        refine d_take (i := 5) hl rfl (by kernel_rfl) (by kernel_rfl) (by kernel_rfl) (by kernel_rfl) (by kernel_rfl) rfl trivial (fun _ _ _ h => h) hM (fun w hC => r_nilCheck hl rfl) rfl ?_
        clear hl a; intro a hl
        refine d_take (i := 6) hl rfl (by kernel_rfl) (by kernel_rfl) (by kernel_rfl) (by kernel_rfl) (by kernel_rfl) rfl trivial (fun _ _ _ h => h) hM (fun w hC => r_field hl rfl fld58_0) rfl ?_
        clear hl a; intro a hl
        refine d_take (i := 7) hl rfl (by kernel_rfl) (by kernel_rfl) (by kernel_rfl) (by kernel_rfl) (by kernel_rfl) rfl trivial (fun _ _ _ h => h) hM (fun w hC => r_loadC hl rfl one39 hC (by repeat (first | exact find_head | apply find_tail | apply find_skip)) (by first | exact bb_at i (by omega) | rfl)) rfl ?_
        clear hl a; intro a hl
        refine d_two (i := 8) (j := 12) (by kernel_rfl) rfl rfl ?_ ?_
        ·
          try clear hM
          refine id (w_call hl hh rfl trivial rfl cal16 rfl (viewB_spec b W2.m r2 n2 sp2 hv2 (vw_hso hs2 hv2 hcr2)) (by repeat (first | exact keeps_nil | apply keeps_cons (by repeat (first | exact find_head | apply find_tail | apply find_skip)) (by first  | rfl) | exact keeps_self | exact keeps_left | apply keeps_app | apply keeps_mv | apply keeps_skip)) trivial ?_)
          clear hl hh a w; intro vc Fc a w hR hl hh
          obtain ⟨lvB, EB, hrowB, rfl, rfl⟩ := hR
          try simp only [List.cons_append, List.nil_append, List.append_assoc, List.append_nil] at hh
          try simp only [List.cons_append, List.nil_append, List.append_nil, List.append_assoc] at hh
          have hone : lvB.oneCell' = true := hrowB.one
          obtain ⟨pB, cB, rfl, hRB⟩ := vw_row hv2 hcr2 hrowB
          have hh5 := has_tail1 hh; clear hh; have hh := hh5; clear hh5
          try simp only [List.cons_append, List.nil_append, List.append_nil, List.append_assoc] at hh
          have hM : Mem [(k3, C [.pointer (some ⟨wb, 0, none⟩)] 24), (wb, C [.pointer (some ⟨b, 0, none⟩), .pointer (some ⟨kb, 0, none⟩), .int .u64 ((65536 + hd false : Nat) : Int), .int .u64 ((65536 + nd false 0 : Nat) : Int), .int .u64 ((65536 + nd false 1 : Nat) : Int), .int .u64 ((65536 + nd false 2 : Nat) : Int), .int .u64 ((65536 + nd false 3 : Nat) : Int), .int .u64 ((65536 + nd false 4 : Nat) : Int), .int .u64 ((65536 + nd false 5 : Nat) : Int), .int .u64 ((65536 + nd false 6 : Nat) : Int), .int .i64 (wd false : Int), .int .u64 ((65536 + hd true : Nat) : Int), .int .u64 ((65536 + nd true 0 : Nat) : Int), .int .u64 ((65536 + nd true 1 : Nat) : Int), .int .u64 ((65536 + nd true 2 : Nat) : Int), .int .u64 ((65536 + nd true 3 : Nat) : Int), .int .u64 ((65536 + nd true 4 : Nat) : Int), .int .u64 ((65536 + nd true 5 : Nat) : Int), .int .u64 ((65536 + nd true 6 : Nat) : Int), .int .i64 (wd true : Int)] 58)] w := (memK hh (by repeat (first | exact keeps_nil | apply keeps_cons (by repeat (first | exact find_head | apply find_tail | apply find_skip)) (by first  | rfl) | exact keeps_self | exact keeps_left | apply keeps_app | apply keeps_mv | apply keeps_skip)))
          refine d_step (fun _ => hM) ?_
          refine d_take (i := 9) hl rfl (by kernel_rfl) (by kernel_rfl) (by kernel_rfl) (by kernel_rfl) (by kernel_rfl) rfl trivial (fun _ _ _ h => h) hM (fun w hC => r_move hl rfl) rfl ?_
          clear hl a; intro a hl
          refine d_take (i := 10) hl rfl (by kernel_rfl) (by kernel_rfl) (by kernel_rfl) (by kernel_rfl) (by kernel_rfl) rfl trivial (fun _ _ _ h => h) hM (fun w hC => r_extract hl rfl (by simp only [List.getElem?_toArray, List.getElem?_cons_zero, List.getElem?_cons_succ]; rfl)) rfl ?_
          clear hl a; intro a hl
          refine d_take (i := 11) hl rfl (by kernel_rfl) (by kernel_rfl) (by kernel_rfl) (by kernel_rfl) (by kernel_rfl) rfl trivial (fun _ _ _ h => h) hM (fun w hC => r_extract hl rfl (by simp only [List.getElem?_toArray, List.getElem?_cons_zero, List.getElem?_cons_succ]; rfl)) rfl ?_
          clear hl a; intro a hl
          refine d_one (i := 12) (by kernel_rfl) rfl ?_
          try clear hM
          refine id (w_alloc hl hh rfl trivial zero66 rfl ?_)
          clear hl hh a w; intro k7 a w hl hh
          have hM : Mem [(k3, C [.pointer (some ⟨wb, 0, none⟩)] 24), (wb, C [.pointer (some ⟨b, 0, none⟩), .pointer (some ⟨kb, 0, none⟩), .int .u64 ((65536 + hd false : Nat) : Int), .int .u64 ((65536 + nd false 0 : Nat) : Int), .int .u64 ((65536 + nd false 1 : Nat) : Int), .int .u64 ((65536 + nd false 2 : Nat) : Int), .int .u64 ((65536 + nd false 3 : Nat) : Int), .int .u64 ((65536 + nd false 4 : Nat) : Int), .int .u64 ((65536 + nd false 5 : Nat) : Int), .int .u64 ((65536 + nd false 6 : Nat) : Int), .int .i64 (wd false : Int), .int .u64 ((65536 + hd true : Nat) : Int), .int .u64 ((65536 + nd true 0 : Nat) : Int), .int .u64 ((65536 + nd true 1 : Nat) : Int), .int .u64 ((65536 + nd true 2 : Nat) : Int), .int .u64 ((65536 + nd true 3 : Nat) : Int), .int .u64 ((65536 + nd true 4 : Nat) : Int), .int .u64 ((65536 + nd true 5 : Nat) : Int), .int .u64 ((65536 + nd true 6 : Nat) : Int), .int .i64 (wd true : Int)] 58)] w := (memK hh (by repeat (first | exact keeps_nil | apply keeps_cons (by repeat (first | exact find_head | apply find_tail | apply find_skip)) (by first  | rfl) | exact keeps_self | exact keeps_left | apply keeps_app | apply keeps_mv | apply keeps_skip)))
          refine d_step (fun _ => hM) ?_
          refine d_one (i := 13) (by kernel_rfl) rfl ?_
          try clear hM
          refine id (w_storeA hl hh trivial agg66 rfl rfl (by repeat (first | exact find_head | apply find_tail | apply find_skip)) (by first | rfl | rw [arrL_length]) (by first | (show 0 + 9 ≤ 9; decide) | (simp; done) | (rw [arrL_length, arrL_length]; decide)) (by first | rfl | exact arrL_one (vw_one _ _ _ _ _ hone)) (by first | exact setL_all _ _ rfl | exact setL_all _ _ (by rw [arrL_length]; rfl) | exact setL_all _ _ (by rw [arrL_length, arrL_length])) ?_)
          clear hh w; intro w hh
          have hM : Mem [(k3, C [.pointer (some ⟨wb, 0, none⟩)] 24), (wb, C [.pointer (some ⟨b, 0, none⟩), .pointer (some ⟨kb, 0, none⟩), .int .u64 ((65536 + hd false : Nat) : Int), .int .u64 ((65536 + nd false 0 : Nat) : Int), .int .u64 ((65536 + nd false 1 : Nat) : Int), .int .u64 ((65536 + nd false 2 : Nat) : Int), .int .u64 ((65536 + nd false 3 : Nat) : Int), .int .u64 ((65536 + nd false 4 : Nat) : Int), .int .u64 ((65536 + nd false 5 : Nat) : Int), .int .u64 ((65536 + nd false 6 : Nat) : Int), .int .i64 (wd false : Int), .int .u64 ((65536 + hd true : Nat) : Int), .int .u64 ((65536 + nd true 0 : Nat) : Int), .int .u64 ((65536 + nd true 1 : Nat) : Int), .int .u64 ((65536 + nd true 2 : Nat) : Int), .int .u64 ((65536 + nd true 3 : Nat) : Int), .int .u64 ((65536 + nd true 4 : Nat) : Int), .int .u64 ((65536 + nd true 5 : Nat) : Int), .int .u64 ((65536 + nd true 6 : Nat) : Int), .int .i64 (wd true : Int)] 58)] w := (memK hh (by repeat (first | exact keeps_nil | apply keeps_cons (by repeat (first | exact find_head | apply find_tail | apply find_skip)) (by first  | rfl) | exact keeps_self | exact keeps_left | apply keeps_app | apply keeps_mv | apply keeps_skip)))
          refine d_step (fun _ => hM) ?_
          refine d_takeL (i := 14) hl rfl (by kernel_rfl) (by kernel_rfl) (by kernel_rfl) (by kernel_rfl) (by kernel_rfl) rfl trivial (fun _ _ _ h => h) (fun w => r_assign hl rfl) rfl ?_
          clear hl a; intro a hl
          refine d_done (by kernel_rfl) ?_
          try clear hM
          have hl2 := hl.add (t := 3) (hl.add (t := 4) (hl.add (t := 5) (hl.add (t := 6) (hl.add (t := 7) (hl.add (t := 8) (hl.nil) rfl) rfl) rfl) rfl) rfl) rfl; clear hl; have hl := hl2; clear hl2
          refine then_normal ?_
          refine c_seq ?_
          refine c_seq ?_
          refine c_region ?_
          refine wl (wl_val hl rfl trivial (r_move hl rfl) ?_)
          clear hl a; intro a hl
          refine wl (w_loadA hl hh rfl trivial agg66 rfl (by repeat (first | exact find_head | apply find_tail | apply find_skip)) (by exact arrL_all _ _) (by first | rfl | rw [arrL_length]) ?_)
          clear hl a; intro a hl
          refine wl (wl_val hl rfl trivial (r_move hl rfl) ?_)
          clear hl a; intro a hl
          refine wl (w_call hl hh rfl trivial rfl cal14 rfl (same_false wb b kb k3 W2 _ ED _ _ (r1 % 256) sp1 pD cD hv1.r7 (fun t ht => (hv1.sp t ht).2) ha1.1 ha1.2 hW2b hG2 (by omega) hi2 rfl hRD) (by repeat (first | exact keeps_nil | apply keeps_cons (by repeat (first | exact find_head | apply find_tail | apply find_skip)) (by first  | rfl) | exact keeps_self | exact keeps_left | apply keeps_app | apply keeps_mv | apply keeps_skip)) trivial ?_)
          clear hl hh a w; intro vc Fc a w hR hl hh
          obtain ⟨rfl, W3, F3, hG3, hLW3, hi3, hW3, hc3a, hco3, hlp3, rfl⟩ := hR
          try simp only [List.cons_append, List.nil_append, List.append_assoc, List.append_nil] at hh
          try simp only [List.cons_append, List.nil_append, List.append_nil, List.append_assoc] at hh
          replace hh := has_mid2 hh
          refine wl (wl_val hl rfl trivial (r_not hl rfl) ?_)
          clear hl a; intro a hl
          refine wl (wl_val hl rfl trivial (r_move hl rfl) ?_)
          clear hl a; intro a hl
          refine sl_split (t := 53) hl rfl ?_ ?_
          · intro hg1; clear hl; intro hl
            try simp only [decide_eq_true_eq, decide_eq_false_iff_not, Bool.not_eq_true', Bool.not_eq_false', Bool.not_eq_true, Bool.not_eq_false, Bool.and_eq_true, Bool.or_eq_true, Bool.and_eq_false_iff, Bool.or_eq_false_iff, Bool.not_not, ne_eq, Int.not_lt, Int.not_le, Decidable.not_not, beq_iff_eq, bne_iff_ne] at hg1
            exfalso; first | omega | (simp at *; done)
          · intro hg1; clear hl; intro hl
            try simp only [decide_eq_true_eq, decide_eq_false_iff_not, Bool.not_eq_true', Bool.not_eq_false', Bool.not_eq_true, Bool.not_eq_false, Bool.and_eq_true, Bool.or_eq_true, Bool.and_eq_false_iff, Bool.or_eq_false_iff, Bool.not_not, ne_eq, Int.not_lt, Int.not_le, Decidable.not_not, beq_iff_eq, bne_iff_ne] at hg1
            refine wl (wl_val hl rfl ⟨_, _, rfl, rfl, rfl⟩ (r_move hl rfl) ?_)
            clear hl a; intro a hl
            refine wl (w_loadA hl hh rfl ⟨_, _, rfl, rfl, rfl⟩ agg66 rfl (by repeat (first | exact find_head | apply find_tail | apply find_skip)) (by exact arrL_all _ _) (by first | rfl | rw [arrL_length]) ?_)
            clear hl a; intro a hl
            refine wl (wl_val hl rfl ⟨_, _, rfl, rfl, rfl⟩ (r_move hl rfl) ?_)
            clear hl a; intro a hl
            refine wl (w_call hl hh rfl ⟨_, _, rfl, rfl, rfl⟩ rfl cal14 rfl (same_true wb b kb k3 W3 F3 EB _ _ (r2 % 256) sp2 pB cB hv2.r7 (fun t ht => (hv2.sp t ht).2) ha2.1 ha2.2 hW3 hG3 (by omega) hi3 hco3 hRB) (by repeat (first | exact keeps_nil | apply keeps_cons (by repeat (first | exact find_head | apply find_tail | apply find_skip)) (by first  | rfl) | exact keeps_self | exact keeps_left | apply keeps_app | apply keeps_mv | apply keeps_skip)) trivial ?_)
            clear hl hh a w; intro vc Fc a w hR hl hh
            obtain ⟨rfl, W4, F4, hG4, hLW4, hi4, hW4, hc4a, hco4, hlp4, rfl⟩ := hR
            try simp only [List.cons_append, List.nil_append, List.append_assoc, List.append_nil] at hh
            have hL4 : LW W4 ≤ 1000100 := by omega
            have hlg4 := (hG4.2 hL4).2.2.log
            have hLl : W4.log.length ≤ 1000100 := by (unfold LW at hL4; omega)
            obtain ⟨q, lv, E4, hrow4, rfl⟩ := hW4
            rcases hrow4 with ⟨_, qq, _, _⟩ | ⟨lb, cap9, junk, r1, r2, r3, r4, rfl⟩
            · exfalso; omega
            have hpr := progs_none q W4.run hi4
            rw [hpr] at hh
            try simp only [List.cons_append, List.nil_append, List.append_nil, List.append_assoc] at hh
            refine wl (wl_val hl rfl ⟨_, _, rfl, rfl, rfl⟩ (r_not hl rfl) ?_)
            clear hl a; intro a hl
            refine wl (wl_val hl rfl trivial (r_pickF hl rfl rfl) ?_)
            clear hl a; intro a hl
            refine w_nil ?_
            have hl2 := hl.add (t := 3) (hl.add (t := 59) (hl.nil) rfl) rfl; clear hl; have hl := hl2; clear hl2
            refine then_normal ?_
            refine c_cond hl rfl ?_ ?_
            · intro hc2
              try simp only [decide_eq_true_eq, decide_eq_false_iff_not, Bool.not_eq_true', Bool.not_eq_false', Bool.not_eq_true, Bool.not_eq_false, Bool.and_eq_true, Bool.or_eq_true, Bool.and_eq_false_iff, Bool.or_eq_false_iff, Bool.not_not, ne_eq, Int.not_lt, Int.not_le, Decidable.not_not, beq_iff_eq, bne_iff_ne] at hc2
              exfalso; first | omega | (simp at *; done)
            · intro hc2
              try simp only [decide_eq_true_eq, decide_eq_false_iff_not, Bool.not_eq_true', Bool.not_eq_false', Bool.not_eq_true, Bool.not_eq_false, Bool.and_eq_true, Bool.or_eq_true, Bool.and_eq_false_iff, Bool.or_eq_false_iff, Bool.not_not, ne_eq, Int.not_lt, Int.not_le, Decidable.not_not, beq_iff_eq, bne_iff_ne] at hc2
              refine wp_skip ?_
              refine then_normal ?_
              refine c_seq ?_
              refine c_region ?_
              refine wl (w_load hl hh rfl trivial one24 rfl (by repeat (first | exact find_head | apply find_tail | apply find_skip)) (by first | exact bb_at i (by omega) | rfl) ?_)
              clear hl a; intro a hl
              refine wl (wl_val hl rfl trivial (r_nilCheck hl rfl) ?_)
              clear hl a; intro a hl
              refine wl (wl_val hl rfl trivial (r_field hl rfl fld58_1) ?_)
              clear hl a; intro a hl
              refine wl (w_load hl hh rfl trivial one49 rfl (by repeat (first | exact find_head | apply find_tail | apply find_skip)) (by first | exact bb_at i (by omega) | rfl) ?_)
              clear hl a; intro a hl
              refine wl (wl_val hl rfl trivial (r_nilCheck hl rfl) ?_)
              clear hl a; intro a hl
              refine wl (wl_val hl rfl trivial (r_field hl rfl fld48_3) ?_)
              clear hl a; intro a hl
              refine wl (w_load hl hh rfl trivial one46 rfl (by repeat (first | exact find_head | apply find_tail | apply find_skip)) (by exact kd_log _) ?_)
              clear hl a; intro a hl
              try dsimp only [KOf] at hl
              try rw [r1] at hl
              refine wl (w_call hl hh rfl trivial rfl cal17 rfl (tally_spec lb cap9 junk W4.log hLl hlg4) (by repeat (first | exact keeps_nil | apply keeps_cons (by repeat (first | exact find_head | apply find_tail | apply find_skip)) (by first  | rfl) | exact keeps_self | exact keeps_left | apply keeps_app | apply keeps_mv | apply keeps_skip)) trivial ?_)
              clear hl hh a w; intro vc Fc a w hR hl hh
              obtain ⟨o1, o2, i0, i1, j0, j1, ts, hTF, hts, rfl, rfl⟩ := hR
              try simp only [List.cons_append, List.nil_append, List.append_assoc, List.append_nil] at hh
              obtain ⟨ti, I0, I1, O0, O1⟩ := ts
              dsimp only at hts hh
              have hf0 := tm_end hG4 hL4 hi4 false (hco4.trans hc3a) hts hTF.I0 hTF.O0
              have hf1 := tm_end hG4 hL4 hi4 true hc4a hts hTF.I1 hTF.O1
              clear hTF
              dsimp only at hf0 hf1
              try simp only [List.cons_append, List.nil_append, List.append_nil, List.append_assoc] at hh
              refine wl (wl_val hl rfl trivial (r_move hl rfl) ?_)
              clear hl a; intro a hl
              refine wl (wl_val hl rfl trivial (r_extract hl rfl (by simp only [List.getElem?_toArray, List.getElem?_cons_zero, List.getElem?_cons_succ]; rfl)) ?_)
              clear hl a; intro a hl
              refine wl (wl_val hl rfl trivial (r_extract hl rfl (by simp only [List.getElem?_toArray, List.getElem?_cons_zero, List.getElem?_cons_succ]; rfl)) ?_)
              clear hl a; intro a hl
              refine wl (wl_val hl rfl trivial (r_assign hl rfl) ?_)
              clear hl a; intro a hl
              refine wl (wl_val hl rfl trivial (r_assign hl rfl) ?_)
              clear hl a; intro a hl
              refine w_nil ?_
              have hl2 := hl.add (t := 9) (hl.add (t := 10) (hl.nil) rfl) rfl; clear hl; have hl := hl2; clear hl2
              refine then_normal ?_
              refine c_seq ?_
              refine c_seq ?_
              refine c_region ?_
              refine wl (w_buildSlice hl hh rfl trivial app78 zero4 rfl rfl rfl rfl rfl (by simp only [fillL, arrPl, List.range_succ, List.range_zero, List.map_cons, List.map_nil, List.map_append, List.nil_append, List.replicate_succ, List.replicate_zero, List.flatten_cons, List.flatten_nil, Nat.zero_mul, Nat.mul_one, Nat.one_mul, Nat.reduceMul, setL, List.getElem?_cons_zero, List.getElem?_cons_succ, Value.cells, List.take_zero, List.take_succ_cons, List.take_nil, List.drop_zero, List.drop_succ_cons, List.drop_nil, List.length_cons, List.length_nil, List.cons_append, List.nil_append, List.append_nil, Nat.zero_add, Nat.add_zero, Nat.reduceAdd, Nat.reduceBEq, Nat.reduceEqDiff, Nat.ble, BEq.rfl, Bool.and_true, Bool.and_self, cond_true, beq_self_eq_true]; rfl) ?_)
              clear hl hh a w; intro k71 a w hl hh
              refine wl (wl_val hl rfl trivial (r_lenS hl rfl slc78) ?_)
              clear hl a; intro a hl
              refine wl (wl_val hl rfl trivial (r_move hl rfl) ?_)
              clear hl a; intro a hl
              refine w_nil ?_
              have hl2 := hl.add (t := 9) (hl.add (t := 10) (hl.add (t := 71) (hl.add (t := 72) (hl.add (t := 73) (hl.nil) rfl) rfl) rfl) rfl) rfl; clear hl; have hl := hl2; clear hl2
              refine then_normal ?_
              refine wp_block ?_
              obtain ⟨KS0, hKS0, hk⟩ := (hl.add (t := 9) (hl.add (t := 10) (hl.add (t := 71) (hl.add (t := 72) (hl.nil) rfl) rfl) rfl) rfl).name
              obtain ⟨HS0, hHS0, hh2⟩ := hh.name (keeps_nil)
              refine c_loop (α := Nat) (fun i => 2 - i) (fun i a w => (i ≤ 2) ∧ Sl 103 ([(73, .int .i64 (i : Int))] ++ KS0) a ∧ Has _ w0 ([] ++ HS0) w) 0 ⟨Nat.zero_le _, hl.addE (t := 73) (hk) rfl (by first | rfl), hh2⟩ ?_
              clear hk hh2 hl hh a w
              intro i a w hI
              obtain ⟨hi9, hl, hh⟩ := hI
              subst hKS0; subst hHS0
              simp only [List.cons_append, List.nil_append, List.append_nil, List.append_assoc] at hl hh
              refine c_seq ?_
              refine c_region ?_
              refine wl (wl_val hl rfl trivial (r_lss hl rfl rfl) ?_)
              clear hl a; intro a hl
              refine w_nil ?_
              have hl2 := hl.add (t := 9) (hl.add (t := 10) (hl.add (t := 71) (hl.add (t := 72) (hl.add (t := 73) (hl.add (t := 74) (hl.nil) rfl) rfl) rfl) rfl) rfl) rfl; clear hl; have hl := hl2; clear hl2
              refine then_normal ?_
              refine c_seq ?_
              refine c_cond hl rfl ?_ ?_
              · intro hc3
                try simp only [decide_eq_true_eq, decide_eq_false_iff_not, Bool.not_eq_true', Bool.not_eq_false', Bool.not_eq_true, Bool.not_eq_false, Bool.and_eq_true, Bool.or_eq_true, Bool.and_eq_false_iff, Bool.or_eq_false_iff, Bool.not_not, ne_eq, Int.not_lt, Int.not_le, Decidable.not_not, beq_iff_eq, bne_iff_ne] at hc3
                refine wp_skip ?_
                refine then_normal ?_
                refine c_seq ?_
                refine wp_block ?_
                refine c_seq ?_
                refine c_region ?_
                refine wl (wl_val hl rfl trivial (r_indexS hl rfl rfl slc78 (by omega) (by omega) (by first | (simp only [Int.reduceToNat]; rfl) | exact toNat_add1 _ | exact toNat_add2 _ _ | exact toNat_emod _ _ | exact Int.toNat_natCast _ | rfl)) ?_)
                clear hl a; intro a hl
                refine wl (w_load hl hh rfl trivial one4 rfl (by repeat (first | exact find_head | apply find_tail | apply find_skip)) (by first | exact bb_at i (by omega) | rfl) ?_)
                clear hl a; intro a hl
                refine wl (wl_val hl rfl trivial (r_assign hl rfl) ?_)
                clear hl a; intro a hl
                refine w_nil ?_
                have hl2 := hl.add (t := 9) (hl.add (t := 10) (hl.add (t := 12) (hl.add (t := 71) (hl.add (t := 72) (hl.add (t := 73) (hl.nil) rfl) rfl) rfl) rfl) rfl) rfl; clear hl; have hl := hl2; clear hl2
                rcases (show i = 0 ∨ i = 1 by omega) with rfl | rfl
                ·
                  skip
                  rw [show decide ((0 : Nat) = 1) = false from rfl] at hl
                  obtain ⟨mb, rfl⟩ : ∃ mb, mb = i0 := ⟨_, rfl⟩
                  obtain ⟨nb, rfl⟩ : ∃ nb, nb = j0 := ⟨_, rfl⟩
                  obtain ⟨MA, rfl⟩ : ∃ M, M = I0 := ⟨_, rfl⟩
                  obtain ⟨MB, rfl⟩ : ∃ M, M = O0 := ⟨_, rfl⟩
                  obtain ⟨fA, hTA, hTB⟩ := hf0
                  have hln := hTA.len hTB
                  refine then_normal ?_
                  refine c_seq ?_
                  refine c_seq ?_
                  refine c_region ?_
                  refine wl (wl_val hl rfl trivial (r_move hl rfl) ?_)
                  clear hl a; intro a hl
                  refine wl (wl_val hl rfl trivial (r_move hl rfl) ?_)
                  clear hl a; intro a hl
                  refine wl (w_lookup (keyBool Tryf.underlying4) Tryf.underlying75 zero79 hl hh rfl trivial rfl rfl (by repeat (first | exact find_head | apply find_tail | apply find_skip)) ?_)
                  clear hl a; intro a hl
                  first | rw [om_f] at hl | rw [om_t] at hl
                  refine wl (w_lenM Tryf.underlying79 hl hh rfl trivial rfl (by repeat (first | exact find_head | apply find_tail | apply find_skip)) ?_)
                  clear hl a; intro a hl
                  refine wl (wl_val hl rfl trivial (r_move hl rfl) ?_)
                  clear hl a; intro a hl
                  refine wl (wl_val hl rfl trivial (r_move hl rfl) ?_)
                  clear hl a; intro a hl
                  refine wl (w_lookup (keyBool Tryf.underlying4) Tryf.underlying75 zero79 hl hh rfl trivial rfl rfl (by repeat (first | exact find_head | apply find_tail | apply find_skip)) ?_)
                  clear hl a; intro a hl
                  first | rw [om_f] at hl | rw [om_t] at hl
                  refine wl (w_lenM Tryf.underlying79 hl hh rfl trivial rfl (by repeat (first | exact find_head | apply find_tail | apply find_skip)) ?_)
                  clear hl a; intro a hl
                  refine wl (wl_val hl rfl trivial (r_neq hl rfl rfl) ?_)
                  clear hl a; intro a hl
                  refine w_nil ?_
                  have hl2 := hl.add (t := 9) (hl.add (t := 10) (hl.add (t := 12) (hl.add (t := 71) (hl.add (t := 72) (hl.add (t := 73) (hl.add (t := 85) (hl.nil) rfl) rfl) rfl) rfl) rfl) rfl) rfl; clear hl; have hl := hl2; clear hl2
                  refine then_normal ?_
                  refine c_cond hl rfl ?_ ?_
                  · intro hc4
                    try simp only [decide_eq_true_eq, decide_eq_false_iff_not, Bool.not_eq_true', Bool.not_eq_false', Bool.not_eq_true, Bool.not_eq_false, Bool.and_eq_true, Bool.or_eq_true, Bool.and_eq_false_iff, Bool.or_eq_false_iff, Bool.not_not, ne_eq, Int.not_lt, Int.not_le, Decidable.not_not, beq_iff_eq, bne_iff_ne] at hc4
                    exfalso; first | omega | (simp at *; done)
                  · intro hc4
                    try simp only [decide_eq_true_eq, decide_eq_false_iff_not, Bool.not_eq_true', Bool.not_eq_false', Bool.not_eq_true, Bool.not_eq_false, Bool.and_eq_true, Bool.or_eq_true, Bool.and_eq_false_iff, Bool.or_eq_false_iff, Bool.not_not, ne_eq, Int.not_lt, Int.not_le, Decidable.not_not, beq_iff_eq, bne_iff_ne] at hc4
                    refine wp_skip ?_
                    refine then_normal ?_
                    refine c_seq ?_
                    refine c_region ?_
                    refine wl (wl_val hl rfl trivial (r_move hl rfl) ?_)
                    clear hl a; intro a hl
                    refine wl (wl_val hl rfl trivial (r_move hl rfl) ?_)
                    clear hl a; intro a hl
                    refine wl (w_lookup (keyBool Tryf.underlying4) Tryf.underlying75 zero79 hl hh rfl trivial rfl rfl (by repeat (first | exact find_head | apply find_tail | apply find_skip)) ?_)
                    clear hl a; intro a hl
                    first | rw [om_f] at hl | rw [om_t] at hl
                    refine wl (w_range Tryf.underlying79 hl hh rfl trivial rfl (by repeat (first | exact find_head | apply find_tail | apply find_skip)) ?_)
                    clear hl hh a w; intro k89 a w hl hh
                    refine w_nil ?_
                    have hl2 := hl.add (t := 9) (hl.add (t := 10) (hl.add (t := 12) (hl.add (t := 71) (hl.add (t := 72) (hl.add (t := 73) (hl.add (t := 89) (hl.nil) rfl) rfl) rfl) rfl) rfl) rfl) rfl; clear hl; have hl := hl2; clear hl2
                    refine then_normal ?_
                    refine wp_block ?_
                    obtain ⟨KS1, hKS1, hk⟩ := (hl.add (t := 9) (hl.add (t := 10) (hl.add (t := 12) (hl.add (t := 71) (hl.add (t := 72) (hl.add (t := 73) (hl.add (t := 89) (hl.nil) rfl) rfl) rfl) rfl) rfl) rfl) rfl).name
                    obtain ⟨HS1, hHS1, hh2⟩ := hh.name (keeps_cons (b := k89) (o' := IT mb MA.length []) (by repeat (first | exact find_head | apply find_tail | apply find_skip)) (by first | rfl) (keeps_nil))
                    refine c_loop (α := List Nat) (fun seen => MA.length - seen.length) (fun seen a w => (SeenOk MA.length seen) ∧ Sl 103 ([] ++ KS1) a ∧ Has _ w0 ([(k89, IT mb MA.length seen)] ++ HS1) w) [] ⟨SeenOk.start _, hk, hh2⟩ ?_
                    clear hk hh2 hl hh a w
                    intro seen a w hI
                    obtain ⟨hS, hl, hh⟩ := hI
                    subst hKS1; subst hHS1
                    simp only [List.cons_append, List.nil_append, List.append_nil, List.append_assoc] at hl hh
                    refine c_seq ?_
                    refine c_region ?_
                    refine wl (w_next hl hh rfl trivial rfl (by repeat (first | exact find_head | apply find_tail | apply find_skip)) (by repeat (first | exact find_head | apply find_tail | apply find_skip)) ?_ ?_)
                    ·
                      intro hall; clear hl a; intro a hl
                      refine wl (wl_val hl rfl trivial (r_extract hl rfl (by simp only [List.getElem?_toArray, List.getElem?_cons_zero, List.getElem?_cons_succ]; rfl)) ?_)
                      clear hl a; intro a hl
                      refine w_nil ?_
                      have hl2 := hl.add (t := 9) (hl.add (t := 10) (hl.add (t := 12) (hl.add (t := 71) (hl.add (t := 72) (hl.add (t := 73) (hl.add (t := 89) (hl.add (t := 91) (hl.nil) rfl) rfl) rfl) rfl) rfl) rfl) rfl) rfl; clear hl; have hl := hl2; clear hl2
                      refine then_normal ?_
                      refine c_seq ?_
                      refine c_condF hl rfl ?_
                      refine wp_exit ?_
                      refine then_exit ?_
                      refine then_exit ?_
                      refine blk_exit ?_
                      refine blk_normal ?_
                      refine then_normal ?_
                      refine c_region ?_
                      first | refine wl (wl_val hl rfl trivial (r_add hl rfl rfl (by simp only [Fits]; omega)) ?_) | refine wl (wl_val hl rfl trivial (r_addW hl rfl rfl) ?_)
                      clear hl a; intro a hl
                      refine wl (wl_val hl rfl trivial (r_move hl rfl) ?_)
                      clear hl a; intro a hl
                      refine w_nil ?_
                      have hl2 := hl.add (t := 9) (hl.add (t := 10) (hl.add (t := 71) (hl.add (t := 72) (hl.add (t := 73) (hl.nil) rfl) rfl) rfl) rfl) rfl; clear hl; have hl := hl2; clear hl2
                      refine then_normal ?_
                      first | refine ⟨0 + 1, (by omega), (by omega), hl.addE (t := 73) (hl.addE (t := 9) (hl.addE (t := 10) (hl.addE (t := 71) (hl.addE (t := 72) (hl.nil) rfl (by first | rfl | rfl)) rfl (by first | rfl | rfl)) rfl (by first | rfl | rfl)) rfl (by first | rfl | rfl)) rfl (by first | rfl | rfl), hh.keep (by repeat (first | exact keeps_nil | apply keeps_cons (by repeat (first | exact find_head | apply find_tail | apply find_skip)) (by first  | rfl) | exact keeps_self | exact keeps_left | apply keeps_app | apply keeps_mv | apply keeps_skip))⟩ | refine ⟨1 + 1, (by omega), (by omega), hl.addE (t := 73) (hl.addE (t := 9) (hl.addE (t := 10) (hl.addE (t := 71) (hl.addE (t := 72) (hl.nil) rfl (by first | rfl | rfl)) rfl (by first | rfl | rfl)) rfl (by first | rfl | rfl)) rfl (by first | rfl | rfl)) rfl (by first | rfl | rfl), hh.keep (by repeat (first | exact keeps_nil | apply keeps_cons (by repeat (first | exact find_head | apply find_tail | apply find_skip)) (by first  | rfl) | exact keeps_self | exact keeps_left | apply keeps_app | apply keeps_mv | apply keeps_skip))⟩
                    ·
                      intro j90 p90 hjn90 hn90; clear hl hh a w; intro a w hl hh
                      have hjl := (List.getElem?_eq_some_iff.1 hjn90).1
                      have hS2 := hS.next hjl hn90
                      have hval := hTA.at hjn90
                      obtain ⟨ke, ve⟩ := p90
                      dsimp only at hval
                      subst hval
                      refine wl (wl_val hl rfl trivial (r_extract hl rfl (by simp only [List.getElem?_toArray, List.getElem?_cons_zero, List.getElem?_cons_succ]; rfl)) ?_)
                      clear hl a; intro a hl
                      refine w_nil ?_
                      have hl2 := hl.add (t := 9) (hl.add (t := 10) (hl.add (t := 12) (hl.add (t := 71) (hl.add (t := 72) (hl.add (t := 73) (hl.add (t := 89) (hl.add (t := 91) (hl.nil) rfl) rfl) rfl) rfl) rfl) rfl) rfl) rfl; clear hl; have hl := hl2; clear hl2
                      refine then_normal ?_
                      refine c_seq ?_
                      refine c_condT hl rfl ?_
                      refine wp_skip ?_
                      refine then_normal ?_
                      refine wp_block ?_
                      refine c_seq ?_
                      refine c_region ?_
                      refine wl (w_entry hjn90 hl hh rfl trivial rfl (by repeat (first | exact find_head | apply find_tail | apply find_skip)) (by repeat (first | exact find_head | apply find_tail | apply find_skip)) ?_)
                      clear hl a; intro a hl
                      refine wl (wl_val hl rfl trivial (r_extract hl rfl (by simp only [List.getElem?_toArray, List.getElem?_cons_zero, List.getElem?_cons_succ]; rfl)) ?_)
                      clear hl a; intro a hl
                      rw [k81d] at hl
                      refine wl (wl_val hl rfl trivial (r_extract hl rfl (by simp only [List.getElem?_toArray, List.getElem?_cons_zero, List.getElem?_cons_succ]; rfl)) ?_)
                      clear hl a; intro a hl
                      refine wl (w_alloc hl hh rfl trivial zero81 rfl ?_)
                      clear hl hh a w; intro k13 a w hl hh
                      refine wl (w_storeA hl hh trivial agg81 rfl rfl (by repeat (first | exact find_head | apply find_tail | apply find_skip)) (by first | rfl | (simp; done)) (by first | (simp; done) | (simp; omega)) (by first | rfl | (simp; done)) (by first | (simp only [setL, List.getElem?_cons_zero, List.getElem?_cons_succ, Value.cells, List.take_zero, List.take_succ_cons, List.take_nil, List.drop_zero, List.drop_succ_cons, List.drop_nil, List.length_cons, List.length_nil, List.cons_append, List.nil_append, List.append_nil, Nat.zero_add, Nat.add_zero, Nat.reduceAdd, Nat.reduceBEq, Nat.reduceEqDiff, Nat.ble, BEq.rfl, Bool.and_true, Bool.and_self, cond_true, beq_self_eq_true]; rfl)) ?_)
                      clear hh w; intro w hh
                      refine wl (wl_val hl rfl trivial (r_assign hl rfl) ?_)
                      clear hl a; intro a hl
                      refine w_nil ?_
                      have hl2 := hl.add (t := 9) (hl.add (t := 10) (hl.add (t := 12) (hl.add (t := 13) (hl.add (t := 14) (hl.add (t := 71) (hl.add (t := 72) (hl.add (t := 73) (hl.add (t := 89) (hl.nil) rfl) rfl) rfl) rfl) rfl) rfl) rfl) rfl) rfl; clear hl; have hl := hl2; clear hl2
                      refine then_normal ?_
                      refine c_seq ?_
                      refine c_region ?_
                      refine wl (wl_val hl rfl trivial (r_move hl rfl) ?_)
                      clear hl a; intro a hl
                      refine wl (wl_val hl rfl trivial (r_move hl rfl) ?_)
                      clear hl a; intro a hl
                      refine wl (w_lookup (keyBool Tryf.underlying4) Tryf.underlying75 zero79 hl hh rfl trivial rfl rfl (by repeat (first | exact find_head | apply find_tail | apply find_skip)) ?_)
                      clear hl a; intro a hl
                      first | rw [om_f] at hl | rw [om_t] at hl | rw [hTB.val] at hl
                      refine wl (w_loadA hl hh rfl trivial agg81 rfl (by repeat (first | exact find_head | apply find_tail | apply find_skip)) (by first | (simp only [List.getElem?_cons_zero, List.getElem?_cons_succ, Value.cells, List.take_zero, List.take_succ_cons, List.take_nil, List.drop_zero, List.drop_succ_cons, List.drop_nil, List.length_cons, List.length_nil, List.cons_append, List.nil_append, List.append_nil, Nat.zero_add, Nat.add_zero, Nat.reduceAdd, Nat.reduceBEq, Nat.reduceEqDiff, Nat.ble, BEq.rfl, Bool.and_true, Bool.and_self, cond_true, beq_self_eq_true]; rfl)) (by first | rfl | (simp; done)) ?_)
                      clear hl a; intro a hl
                      rw [← k81d ke] at hl
                      refine wl (w_lookup key81 Tryf.underlying79 zero3 hl hh rfl trivial rfl rfl (by repeat (first | exact find_head | apply find_tail | apply find_skip)) ?_)
                      clear hl a; intro a hl
                      first | rw [om_f] at hl | rw [om_t] at hl | rw [hTB.val] at hl
                      refine wl (wl_val hl rfl trivial (r_move hl rfl) ?_)
                      clear hl a; intro a hl
                      refine wl (wl_val hl rfl trivial (r_neq hl rfl rfl) ?_)
                      clear hl a; intro a hl
                      refine w_nil ?_
                      have hl2 := hl.add (t := 9) (hl.add (t := 10) (hl.add (t := 12) (hl.add (t := 71) (hl.add (t := 72) (hl.add (t := 73) (hl.add (t := 89) (hl.add (t := 101) (hl.nil) rfl) rfl) rfl) rfl) rfl) rfl) rfl) rfl; clear hl; have hl := hl2; clear hl2
                      refine then_normal ?_
                      refine c_cond hl rfl ?_ ?_
                      · intro hc6
                        try simp only [decide_eq_true_eq, decide_eq_false_iff_not, Bool.not_eq_true', Bool.not_eq_false', Bool.not_eq_true, Bool.not_eq_false, Bool.and_eq_true, Bool.or_eq_true, Bool.and_eq_false_iff, Bool.or_eq_false_iff, Bool.not_not, ne_eq, Int.not_lt, Int.not_le, Decidable.not_not, beq_iff_eq, bne_iff_ne] at hc6
                        exfalso; first | omega | (simp at *; done)
                      · intro hc6
                        try simp only [decide_eq_true_eq, decide_eq_false_iff_not, Bool.not_eq_true', Bool.not_eq_false', Bool.not_eq_true, Bool.not_eq_false, Bool.and_eq_true, Bool.or_eq_true, Bool.and_eq_false_iff, Bool.or_eq_false_iff, Bool.not_not, ne_eq, Int.not_lt, Int.not_le, Decidable.not_not, beq_iff_eq, bne_iff_ne] at hc6
                        refine wp_skip ?_
                        refine blk_normal ?_
                        refine then_normal ?_
                        refine ⟨seen ++ [j90], (by have := hS2.len; rw [List.length_append] at this ⊢; simp only [List.length_cons, List.length_nil] at this ⊢; omega), hS2, hl.addE (t := 9) (hl.addE (t := 10) (hl.addE (t := 12) (hl.addE (t := 71) (hl.addE (t := 72) (hl.addE (t := 73) (hl.addE (t := 89) (hl.nil) rfl (by first | rfl | (congr 1; omega))) rfl (by first | rfl | (congr 1; omega))) rfl (by first | rfl | (congr 1; omega))) rfl (by first | rfl | (congr 1; omega))) rfl (by first | rfl | (congr 1; omega))) rfl (by first | rfl | (congr 1; omega))) rfl (by first | rfl | (congr 1; omega)), hh.keep (by repeat (first | exact keeps_nil | apply keeps_cons (by repeat (first | exact find_head | apply find_tail | apply find_skip)) (by first  | rfl) | exact keeps_self | exact keeps_left | apply keeps_app | apply keeps_mv | apply keeps_skip))⟩
                ·
                  skip
                  rw [show decide ((1 : Nat) = 1) = true from rfl] at hl
                  obtain ⟨mb, rfl⟩ : ∃ mb, mb = i1 := ⟨_, rfl⟩
                  obtain ⟨nb, rfl⟩ : ∃ nb, nb = j1 := ⟨_, rfl⟩
                  obtain ⟨MA, rfl⟩ : ∃ M, M = I1 := ⟨_, rfl⟩
                  obtain ⟨MB, rfl⟩ : ∃ M, M = O1 := ⟨_, rfl⟩
                  obtain ⟨fA, hTA, hTB⟩ := hf1
                  have hln := hTA.len hTB
                  refine then_normal ?_
                  refine c_seq ?_
                  refine c_seq ?_
                  refine c_region ?_
                  refine wl (wl_val hl rfl trivial (r_move hl rfl) ?_)
                  clear hl a; intro a hl
                  refine wl (wl_val hl rfl trivial (r_move hl rfl) ?_)
                  clear hl a; intro a hl
                  refine wl (w_lookup (keyBool Tryf.underlying4) Tryf.underlying75 zero79 hl hh rfl trivial rfl rfl (by repeat (first | exact find_head | apply find_tail | apply find_skip)) ?_)
                  clear hl a; intro a hl
                  first | rw [om_f] at hl | rw [om_t] at hl
                  refine wl (w_lenM Tryf.underlying79 hl hh rfl trivial rfl (by repeat (first | exact find_head | apply find_tail | apply find_skip)) ?_)
                  clear hl a; intro a hl
                  refine wl (wl_val hl rfl trivial (r_move hl rfl) ?_)
                  clear hl a; intro a hl
                  refine wl (wl_val hl rfl trivial (r_move hl rfl) ?_)
                  clear hl a; intro a hl
                  refine wl (w_lookup (keyBool Tryf.underlying4) Tryf.underlying75 zero79 hl hh rfl trivial rfl rfl (by repeat (first | exact find_head | apply find_tail | apply find_skip)) ?_)
                  clear hl a; intro a hl
                  first | rw [om_f] at hl | rw [om_t] at hl
                  refine wl (w_lenM Tryf.underlying79 hl hh rfl trivial rfl (by repeat (first | exact find_head | apply find_tail | apply find_skip)) ?_)
                  clear hl a; intro a hl
                  refine wl (wl_val hl rfl trivial (r_neq hl rfl rfl) ?_)
                  clear hl a; intro a hl
                  refine w_nil ?_
                  have hl2 := hl.add (t := 9) (hl.add (t := 10) (hl.add (t := 12) (hl.add (t := 71) (hl.add (t := 72) (hl.add (t := 73) (hl.add (t := 85) (hl.nil) rfl) rfl) rfl) rfl) rfl) rfl) rfl; clear hl; have hl := hl2; clear hl2
                  refine then_normal ?_
                  refine c_cond hl rfl ?_ ?_
                  · intro hc4
                    try simp only [decide_eq_true_eq, decide_eq_false_iff_not, Bool.not_eq_true', Bool.not_eq_false', Bool.not_eq_true, Bool.not_eq_false, Bool.and_eq_true, Bool.or_eq_true, Bool.and_eq_false_iff, Bool.or_eq_false_iff, Bool.not_not, ne_eq, Int.not_lt, Int.not_le, Decidable.not_not, beq_iff_eq, bne_iff_ne] at hc4
                    exfalso; first | omega | (simp at *; done)
                  · intro hc4
                    try simp only [decide_eq_true_eq, decide_eq_false_iff_not, Bool.not_eq_true', Bool.not_eq_false', Bool.not_eq_true, Bool.not_eq_false, Bool.and_eq_true, Bool.or_eq_true, Bool.and_eq_false_iff, Bool.or_eq_false_iff, Bool.not_not, ne_eq, Int.not_lt, Int.not_le, Decidable.not_not, beq_iff_eq, bne_iff_ne] at hc4
                    refine wp_skip ?_
                    refine then_normal ?_
                    refine c_seq ?_
                    refine c_region ?_
                    refine wl (wl_val hl rfl trivial (r_move hl rfl) ?_)
                    clear hl a; intro a hl
                    refine wl (wl_val hl rfl trivial (r_move hl rfl) ?_)
                    clear hl a; intro a hl
                    refine wl (w_lookup (keyBool Tryf.underlying4) Tryf.underlying75 zero79 hl hh rfl trivial rfl rfl (by repeat (first | exact find_head | apply find_tail | apply find_skip)) ?_)
                    clear hl a; intro a hl
                    first | rw [om_f] at hl | rw [om_t] at hl
                    refine wl (w_range Tryf.underlying79 hl hh rfl trivial rfl (by repeat (first | exact find_head | apply find_tail | apply find_skip)) ?_)
                    clear hl hh a w; intro k89 a w hl hh
                    refine w_nil ?_
                    have hl2 := hl.add (t := 9) (hl.add (t := 10) (hl.add (t := 12) (hl.add (t := 71) (hl.add (t := 72) (hl.add (t := 73) (hl.add (t := 89) (hl.nil) rfl) rfl) rfl) rfl) rfl) rfl) rfl; clear hl; have hl := hl2; clear hl2
                    refine then_normal ?_
                    refine wp_block ?_
                    obtain ⟨KS1, hKS1, hk⟩ := (hl.add (t := 9) (hl.add (t := 10) (hl.add (t := 12) (hl.add (t := 71) (hl.add (t := 72) (hl.add (t := 73) (hl.add (t := 89) (hl.nil) rfl) rfl) rfl) rfl) rfl) rfl) rfl).name
                    obtain ⟨HS1, hHS1, hh2⟩ := hh.name (keeps_cons (b := k89) (o' := IT mb MA.length []) (by repeat (first | exact find_head | apply find_tail | apply find_skip)) (by first | rfl) (keeps_nil))
                    refine c_loop (α := List Nat) (fun seen => MA.length - seen.length) (fun seen a w => (SeenOk MA.length seen) ∧ Sl 103 ([] ++ KS1) a ∧ Has _ w0 ([(k89, IT mb MA.length seen)] ++ HS1) w) [] ⟨SeenOk.start _, hk, hh2⟩ ?_
                    clear hk hh2 hl hh a w
                    intro seen a w hI
                    obtain ⟨hS, hl, hh⟩ := hI
                    subst hKS1; subst hHS1
                    simp only [List.cons_append, List.nil_append, List.append_nil, List.append_assoc] at hl hh
                    refine c_seq ?_
                    refine c_region ?_
                    refine wl (w_next hl hh rfl trivial rfl (by repeat (first | exact find_head | apply find_tail | apply find_skip)) (by repeat (first | exact find_head | apply find_tail | apply find_skip)) ?_ ?_)
                    ·
                      intro hall; clear hl a; intro a hl
                      refine wl (wl_val hl rfl trivial (r_extract hl rfl (by simp only [List.getElem?_toArray, List.getElem?_cons_zero, List.getElem?_cons_succ]; rfl)) ?_)
                      clear hl a; intro a hl
                      refine w_nil ?_
                      have hl2 := hl.add (t := 9) (hl.add (t := 10) (hl.add (t := 12) (hl.add (t := 71) (hl.add (t := 72) (hl.add (t := 73) (hl.add (t := 89) (hl.add (t := 91) (hl.nil) rfl) rfl) rfl) rfl) rfl) rfl) rfl) rfl; clear hl; have hl := hl2; clear hl2
                      refine then_normal ?_
                      refine c_seq ?_
                      refine c_condF hl rfl ?_
                      refine wp_exit ?_
                      refine then_exit ?_
                      refine then_exit ?_
                      refine blk_exit ?_
                      refine blk_normal ?_
                      refine then_normal ?_
                      refine c_region ?_
                      first | refine wl (wl_val hl rfl trivial (r_add hl rfl rfl (by simp only [Fits]; omega)) ?_) | refine wl (wl_val hl rfl trivial (r_addW hl rfl rfl) ?_)
                      clear hl a; intro a hl
                      refine wl (wl_val hl rfl trivial (r_move hl rfl) ?_)
                      clear hl a; intro a hl
                      refine w_nil ?_
                      have hl2 := hl.add (t := 9) (hl.add (t := 10) (hl.add (t := 71) (hl.add (t := 72) (hl.add (t := 73) (hl.nil) rfl) rfl) rfl) rfl) rfl; clear hl; have hl := hl2; clear hl2
                      refine then_normal ?_
                      first | refine ⟨0 + 1, (by omega), (by omega), hl.addE (t := 73) (hl.addE (t := 9) (hl.addE (t := 10) (hl.addE (t := 71) (hl.addE (t := 72) (hl.nil) rfl (by first | rfl | rfl)) rfl (by first | rfl | rfl)) rfl (by first | rfl | rfl)) rfl (by first | rfl | rfl)) rfl (by first | rfl | rfl), hh.keep (by repeat (first | exact keeps_nil | apply keeps_cons (by repeat (first | exact find_head | apply find_tail | apply find_skip)) (by first  | rfl) | exact keeps_self | exact keeps_left | apply keeps_app | apply keeps_mv | apply keeps_skip))⟩ | refine ⟨1 + 1, (by omega), (by omega), hl.addE (t := 73) (hl.addE (t := 9) (hl.addE (t := 10) (hl.addE (t := 71) (hl.addE (t := 72) (hl.nil) rfl (by first | rfl | rfl)) rfl (by first | rfl | rfl)) rfl (by first | rfl | rfl)) rfl (by first | rfl | rfl)) rfl (by first | rfl | rfl), hh.keep (by repeat (first | exact keeps_nil | apply keeps_cons (by repeat (first | exact find_head | apply find_tail | apply find_skip)) (by first  | rfl) | exact keeps_self | exact keeps_left | apply keeps_app | apply keeps_mv | apply keeps_skip))⟩
                    ·
                      intro j90 p90 hjn90 hn90; clear hl hh a w; intro a w hl hh
                      have hjl := (List.getElem?_eq_some_iff.1 hjn90).1
                      have hS2 := hS.next hjl hn90
                      have hval := hTA.at hjn90
                      obtain ⟨ke, ve⟩ := p90
                      dsimp only at hval
                      subst hval
                      refine wl (wl_val hl rfl trivial (r_extract hl rfl (by simp only [List.getElem?_toArray, List.getElem?_cons_zero, List.getElem?_cons_succ]; rfl)) ?_)
                      clear hl a; intro a hl
                      refine w_nil ?_
                      have hl2 := hl.add (t := 9) (hl.add (t := 10) (hl.add (t := 12) (hl.add (t := 71) (hl.add (t := 72) (hl.add (t := 73) (hl.add (t := 89) (hl.add (t := 91) (hl.nil) rfl) rfl) rfl) rfl) rfl) rfl) rfl) rfl; clear hl; have hl := hl2; clear hl2
                      refine then_normal ?_
                      refine c_seq ?_
                      refine c_condT hl rfl ?_
                      refine wp_skip ?_
                      refine then_normal ?_
                      refine wp_block ?_
                      refine c_seq ?_
                      refine c_region ?_
                      refine wl (w_entry hjn90 hl hh rfl trivial rfl (by repeat (first | exact find_head | apply find_tail | apply find_skip)) (by repeat (first | exact find_head | apply find_tail | apply find_skip)) ?_)
                      clear hl a; intro a hl
                      refine wl (wl_val hl rfl trivial (r_extract hl rfl (by simp only [List.getElem?_toArray, List.getElem?_cons_zero, List.getElem?_cons_succ]; rfl)) ?_)
                      clear hl a; intro a hl
                      rw [k81d] at hl
                      refine wl (wl_val hl rfl trivial (r_extract hl rfl (by simp only [List.getElem?_toArray, List.getElem?_cons_zero, List.getElem?_cons_succ]; rfl)) ?_)
                      clear hl a; intro a hl
                      refine wl (w_alloc hl hh rfl trivial zero81 rfl ?_)
                      clear hl hh a w; intro k13 a w hl hh
                      refine wl (w_storeA hl hh trivial agg81 rfl rfl (by repeat (first | exact find_head | apply find_tail | apply find_skip)) (by first | rfl | (simp; done)) (by first | (simp; done) | (simp; omega)) (by first | rfl | (simp; done)) (by first | (simp only [setL, List.getElem?_cons_zero, List.getElem?_cons_succ, Value.cells, List.take_zero, List.take_succ_cons, List.take_nil, List.drop_zero, List.drop_succ_cons, List.drop_nil, List.length_cons, List.length_nil, List.cons_append, List.nil_append, List.append_nil, Nat.zero_add, Nat.add_zero, Nat.reduceAdd, Nat.reduceBEq, Nat.reduceEqDiff, Nat.ble, BEq.rfl, Bool.and_true, Bool.and_self, cond_true, beq_self_eq_true]; rfl)) ?_)
                      clear hh w; intro w hh
                      refine wl (wl_val hl rfl trivial (r_assign hl rfl) ?_)
                      clear hl a; intro a hl
                      refine w_nil ?_
                      have hl2 := hl.add (t := 9) (hl.add (t := 10) (hl.add (t := 12) (hl.add (t := 13) (hl.add (t := 14) (hl.add (t := 71) (hl.add (t := 72) (hl.add (t := 73) (hl.add (t := 89) (hl.nil) rfl) rfl) rfl) rfl) rfl) rfl) rfl) rfl) rfl; clear hl; have hl := hl2; clear hl2
                      refine then_normal ?_
                      refine c_seq ?_
                      refine c_region ?_
                      refine wl (wl_val hl rfl trivial (r_move hl rfl) ?_)
                      clear hl a; intro a hl
                      refine wl (wl_val hl rfl trivial (r_move hl rfl) ?_)
                      clear hl a; intro a hl
                      refine wl (w_lookup (keyBool Tryf.underlying4) Tryf.underlying75 zero79 hl hh rfl trivial rfl rfl (by repeat (first | exact find_head | apply find_tail | apply find_skip)) ?_)
                      clear hl a; intro a hl
                      first | rw [om_f] at hl | rw [om_t] at hl | rw [hTB.val] at hl
                      refine wl (w_loadA hl hh rfl trivial agg81 rfl (by repeat (first | exact find_head | apply find_tail | apply find_skip)) (by first | (simp only [List.getElem?_cons_zero, List.getElem?_cons_succ, Value.cells, List.take_zero, List.take_succ_cons, List.take_nil, List.drop_zero, List.drop_succ_cons, List.drop_nil, List.length_cons, List.length_nil, List.cons_append, List.nil_append, List.append_nil, Nat.zero_add, Nat.add_zero, Nat.reduceAdd, Nat.reduceBEq, Nat.reduceEqDiff, Nat.ble, BEq.rfl, Bool.and_true, Bool.and_self, cond_true, beq_self_eq_true]; rfl)) (by first | rfl | (simp; done)) ?_)
                      clear hl a; intro a hl
                      rw [← k81d ke] at hl
                      refine wl (w_lookup key81 Tryf.underlying79 zero3 hl hh rfl trivial rfl rfl (by repeat (first | exact find_head | apply find_tail | apply find_skip)) ?_)
                      clear hl a; intro a hl
                      first | rw [om_f] at hl | rw [om_t] at hl | rw [hTB.val] at hl
                      refine wl (wl_val hl rfl trivial (r_move hl rfl) ?_)
                      clear hl a; intro a hl
                      refine wl (wl_val hl rfl trivial (r_neq hl rfl rfl) ?_)
                      clear hl a; intro a hl
                      refine w_nil ?_
                      have hl2 := hl.add (t := 9) (hl.add (t := 10) (hl.add (t := 12) (hl.add (t := 71) (hl.add (t := 72) (hl.add (t := 73) (hl.add (t := 89) (hl.add (t := 101) (hl.nil) rfl) rfl) rfl) rfl) rfl) rfl) rfl) rfl; clear hl; have hl := hl2; clear hl2
                      refine then_normal ?_
                      refine c_cond hl rfl ?_ ?_
                      · intro hc6
                        try simp only [decide_eq_true_eq, decide_eq_false_iff_not, Bool.not_eq_true', Bool.not_eq_false', Bool.not_eq_true, Bool.not_eq_false, Bool.and_eq_true, Bool.or_eq_true, Bool.and_eq_false_iff, Bool.or_eq_false_iff, Bool.not_not, ne_eq, Int.not_lt, Int.not_le, Decidable.not_not, beq_iff_eq, bne_iff_ne] at hc6
                        exfalso; first | omega | (simp at *; done)
                      · intro hc6
                        try simp only [decide_eq_true_eq, decide_eq_false_iff_not, Bool.not_eq_true', Bool.not_eq_false', Bool.not_eq_true, Bool.not_eq_false, Bool.and_eq_true, Bool.or_eq_true, Bool.and_eq_false_iff, Bool.or_eq_false_iff, Bool.not_not, ne_eq, Int.not_lt, Int.not_le, Decidable.not_not, beq_iff_eq, bne_iff_ne] at hc6
                        refine wp_skip ?_
                        refine blk_normal ?_
                        refine then_normal ?_
                        refine ⟨seen ++ [j90], (by have := hS2.len; rw [List.length_append] at this ⊢; simp only [List.length_cons, List.length_nil] at this ⊢; omega), hS2, hl.addE (t := 9) (hl.addE (t := 10) (hl.addE (t := 12) (hl.addE (t := 71) (hl.addE (t := 72) (hl.addE (t := 73) (hl.addE (t := 89) (hl.nil) rfl (by first | rfl | (congr 1; omega))) rfl (by first | rfl | (congr 1; omega))) rfl (by first | rfl | (congr 1; omega))) rfl (by first | rfl | (congr 1; omega))) rfl (by first | rfl | (congr 1; omega))) rfl (by first | rfl | (congr 1; omega))) rfl (by first | rfl | (congr 1; omega)), hh.keep (by repeat (first | exact keeps_nil | apply keeps_cons (by repeat (first | exact find_head | apply find_tail | apply find_skip)) (by first  | rfl) | exact keeps_self | exact keeps_left | apply keeps_app | apply keeps_mv | apply keeps_skip))⟩
              · intro hc3
                try simp only [decide_eq_true_eq, decide_eq_false_iff_not, Bool.not_eq_true', Bool.not_eq_false', Bool.not_eq_true, Bool.not_eq_false, Bool.and_eq_true, Bool.or_eq_true, Bool.and_eq_false_iff, Bool.or_eq_false_iff, Bool.not_not, ne_eq, Int.not_lt, Int.not_le, Decidable.not_not, beq_iff_eq, bne_iff_ne] at hc3
                refine wp_exit ?_
                refine then_exit ?_
                refine then_exit ?_
                refine blk_exit ?_
                refine then_normal ?_
                refine c_seq ?_
                refine c_region ?_
                refine wl (wl_val hl rfl trivial (r_assign hl rfl) ?_)
                clear hl a; intro a hl
                refine w_nil ?_
                have hl2 := hl.add (t := 2) (hl.nil) rfl; clear hl; have hl := hl2; clear hl2
                refine then_normal ?_
                refine wp_ret ?_
                refine f_ret1 (F' := []) hl hh rfl rfl (by repeat (first | exact keeps_nil | apply keeps_cons (by repeat (first | exact find_head | apply find_tail | apply find_skip)) (by first  | rfl) | exact keeps_self | exact keeps_left | apply keeps_app | apply keeps_mv | apply keeps_skip)) ?_
                exact ⟨rfl, rfl⟩
        ·
          try clear hM
          refine id (w_alloc hl hh rfl trivial zero66 rfl ?_)
          clear hl hh a w; intro k7 a w hl hh
          have hM : Mem [(k3, C [.pointer (some ⟨wb, 0, none⟩)] 24), (wb, C [.pointer (some ⟨b, 0, none⟩), .pointer (some ⟨kb, 0, none⟩), .int .u64 ((65536 + hd false : Nat) : Int), .int .u64 ((65536 + nd false 0 : Nat) : Int), .int .u64 ((65536 + nd false 1 : Nat) : Int), .int .u64 ((65536 + nd false 2 : Nat) : Int), .int .u64 ((65536 + nd false 3 : Nat) : Int), .int .u64 ((65536 + nd false 4 : Nat) : Int), .int .u64 ((65536 + nd false 5 : Nat) : Int), .int .u64 ((65536 + nd false 6 : Nat) : Int), .int .i64 (wd false : Int), .int .u64 ((65536 + hd true : Nat) : Int), .int .u64 ((65536 + nd true 0 : Nat) : Int), .int .u64 ((65536 + nd true 1 : Nat) : Int), .int .u64 ((65536 + nd true 2 : Nat) : Int), .int .u64 ((65536 + nd true 3 : Nat) : Int), .int .u64 ((65536 + nd true 4 : Nat) : Int), .int .u64 ((65536 + nd true 5 : Nat) : Int), .int .u64 ((65536 + nd true 6 : Nat) : Int), .int .i64 (wd true : Int)] 58)] w := (memK hh (by repeat (first | exact keeps_nil | apply keeps_cons (by repeat (first | exact find_head | apply find_tail | apply find_skip)) (by first  | rfl) | exact keeps_self | exact keeps_left | apply keeps_app | apply keeps_mv | apply keeps_skip)))
          refine d_step (fun _ => hM) ?_
          refine d_one (i := 8) (by kernel_rfl) rfl ?_
          try clear hM
          refine id (w_call hl hh rfl trivial rfl cal16 rfl (viewB_spec b W2.m r2 n2 sp2 hv2 (vw_hso hs2 hv2 hcr2)) (by repeat (first | exact keeps_nil | apply keeps_cons (by repeat (first | exact find_head | apply find_tail | apply find_skip)) (by first  | rfl) | exact keeps_self | exact keeps_left | apply keeps_app | apply keeps_mv | apply keeps_skip)) trivial ?_)
          clear hl hh a w; intro vc Fc a w hR hl hh
          obtain ⟨lvB, EB, hrowB, rfl, rfl⟩ := hR
          try simp only [List.cons_append, List.nil_append, List.append_assoc, List.append_nil] at hh
          try simp only [List.cons_append, List.nil_append, List.append_nil, List.append_assoc] at hh
          have hone : lvB.oneCell' = true := hrowB.one
          obtain ⟨pB, cB, rfl, hRB⟩ := vw_row hv2 hcr2 hrowB
          have hh5 := has_tail1 hh; clear hh; have hh := hh5; clear hh5
          try simp only [List.cons_append, List.nil_append, List.append_nil, List.append_assoc] at hh
          have hM : Mem [(k3, C [.pointer (some ⟨wb, 0, none⟩)] 24), (wb, C [.pointer (some ⟨b, 0, none⟩), .pointer (some ⟨kb, 0, none⟩), .int .u64 ((65536 + hd false : Nat) : Int), .int .u64 ((65536 + nd false 0 : Nat) : Int), .int .u64 ((65536 + nd false 1 : Nat) : Int), .int .u64 ((65536 + nd false 2 : Nat) : Int), .int .u64 ((65536 + nd false 3 : Nat) : Int), .int .u64 ((65536 + nd false 4 : Nat) : Int), .int .u64 ((65536 + nd false 5 : Nat) : Int), .int .u64 ((65536 + nd false 6 : Nat) : Int), .int .i64 (wd false : Int), .int .u64 ((65536 + hd true : Nat) : Int), .int .u64 ((65536 + nd true 0 : Nat) : Int), .int .u64 ((65536 + nd true 1 : Nat) : Int), .int .u64 ((65536 + nd true 2 : Nat) : Int), .int .u64 ((65536 + nd true 3 : Nat) : Int), .int .u64 ((65536 + nd true 4 : Nat) : Int), .int .u64 ((65536 + nd true 5 : Nat) : Int), .int .u64 ((65536 + nd true 6 : Nat) : Int), .int .i64 (wd true : Int)] 58)] w := (memK hh (by repeat (first | exact keeps_nil | apply keeps_cons (by repeat (first | exact find_head | apply find_tail | apply find_skip)) (by first  | rfl) | exact keeps_self | exact keeps_left | apply keeps_app | apply keeps_mv | apply keeps_skip)))
          refine d_step (fun _ => hM) ?_
          refine d_take (i := 9) hl rfl (by kernel_rfl) (by kernel_rfl) (by kernel_rfl) (by kernel_rfl) (by kernel_rfl) rfl trivial (fun _ _ _ h => h) hM (fun w hC => r_move hl rfl) rfl ?_
          clear hl a; intro a hl
          refine d_take (i := 10) hl rfl (by kernel_rfl) (by kernel_rfl) (by kernel_rfl) (by kernel_rfl) (by kernel_rfl) rfl trivial (fun _ _ _ h => h) hM (fun w hC => r_extract hl rfl (by simp only [List.getElem?_toArray, List.getElem?_cons_zero, List.getElem?_cons_succ]; rfl)) rfl ?_
          clear hl a; intro a hl
          refine d_take (i := 11) hl rfl (by kernel_rfl) (by kernel_rfl) (by kernel_rfl) (by kernel_rfl) (by kernel_rfl) rfl trivial (fun _ _ _ h => h) hM (fun w hC => r_extract hl rfl (by simp only [List.getElem?_toArray, List.getElem?_cons_zero, List.getElem?_cons_succ]; rfl)) rfl ?_
          clear hl a; intro a hl
          refine d_one (i := 13) (by kernel_rfl) rfl ?_
          try clear hM
          refine id (w_storeA hl hh trivial agg66 rfl rfl (by repeat (first | exact find_head | apply find_tail | apply find_skip)) (by first | rfl | rw [arrL_length]) (by first | (show 0 + 9 ≤ 9; decide) | (simp; done) | (rw [arrL_length, arrL_length]; decide)) (by first | rfl | exact arrL_one (vw_one _ _ _ _ _ hone)) (by first | exact setL_all _ _ rfl | exact setL_all _ _ (by rw [arrL_length]; rfl) | exact setL_all _ _ (by rw [arrL_length, arrL_length])) ?_)
          clear hh w; intro w hh
          have hM : Mem [(k3, C [.pointer (some ⟨wb, 0, none⟩)] 24), (wb, C [.pointer (some ⟨b, 0, none⟩), .pointer (some ⟨kb, 0, none⟩), .int .u64 ((65536 + hd false : Nat) : Int), .int .u64 ((65536 + nd false 0 : Nat) : Int), .int .u64 ((65536 + nd false 1 : Nat) : Int), .int .u64 ((65536 + nd false 2 : Nat) : Int), .int .u64 ((65536 + nd false 3 : Nat) : Int), .int .u64 ((65536 + nd false 4 : Nat) : Int), .int .u64 ((65536 + nd false 5 : Nat) : Int), .int .u64 ((65536 + nd false 6 : Nat) : Int), .int .i64 (wd false : Int), .int .u64 ((65536 + hd true : Nat) : Int), .int .u64 ((65536 + nd true 0 : Nat) : Int), .int .u64 ((65536 + nd true 1 : Nat) : Int), .int .u64 ((65536 + nd true 2 : Nat) : Int), .int .u64 ((65536 + nd true 3 : Nat) : Int), .int .u64 ((65536 + nd true 4 : Nat) : Int), .int .u64 ((65536 + nd true 5 : Nat) : Int), .int .u64 ((65536 + nd true 6 : Nat) : Int), .int .i64 (wd true : Int)] 58)] w := (memK hh (by repeat (first | exact keeps_nil | apply keeps_cons (by repeat (first | exact find_head | apply find_tail | apply find_skip)) (by first  | rfl) | exact keeps_self | exact keeps_left | apply keeps_app | apply keeps_mv | apply keeps_skip)))
          refine d_step (fun _ => hM) ?_
          refine d_takeL (i := 14) hl rfl (by kernel_rfl) (by kernel_rfl) (by kernel_rfl) (by kernel_rfl) (by kernel_rfl) rfl trivial (fun _ _ _ h => h) (fun w => r_assign hl rfl) rfl ?_
          clear hl a; intro a hl
          refine d_done (by kernel_rfl) ?_
          try clear hM
          have hl2 := hl.add (t := 3) (hl.add (t := 4) (hl.add (t := 5) (hl.add (t := 6) (hl.add (t := 7) (hl.add (t := 8) (hl.nil) rfl) rfl) rfl) rfl) rfl) rfl; clear hl; have hl := hl2; clear hl2
          refine then_normal ?_
          refine c_seq ?_
          refine c_seq ?_
          refine c_region ?_
          refine wl (wl_val hl rfl trivial (r_move hl rfl) ?_)
          clear hl a; intro a hl
          refine wl (w_loadA hl hh rfl trivial agg66 rfl (by repeat (first | exact find_head | apply find_tail | apply find_skip)) (by exact arrL_all _ _) (by first | rfl | rw [arrL_length]) ?_)
          clear hl a; intro a hl
          refine wl (wl_val hl rfl trivial (r_move hl rfl) ?_)
          clear hl a; intro a hl
          refine wl (w_call hl hh rfl trivial rfl cal14 rfl (same_false wb b kb k3 W2 _ ED _ _ (r1 % 256) sp1 pD cD hv1.r7 (fun t ht => (hv1.sp t ht).2) ha1.1 ha1.2 hW2b hG2 (by omega) hi2 rfl hRD) (by repeat (first | exact keeps_nil | apply keeps_cons (by repeat (first | exact find_head | apply find_tail | apply find_skip)) (by first  | rfl) | exact keeps_self | exact keeps_left | apply keeps_app | apply keeps_mv | apply keeps_skip)) trivial ?_)
          clear hl hh a w; intro vc Fc a w hR hl hh
          obtain ⟨rfl, W3, F3, hG3, hLW3, hi3, hW3, hc3a, hco3, hlp3, rfl⟩ := hR
          try simp only [List.cons_append, List.nil_append, List.append_assoc, List.append_nil] at hh
          try simp only [List.cons_append, List.nil_append, List.append_nil, List.append_assoc] at hh
          replace hh := has_mid2 hh
          refine wl (wl_val hl rfl trivial (r_not hl rfl) ?_)
          clear hl a; intro a hl
          refine wl (wl_val hl rfl trivial (r_move hl rfl) ?_)
          clear hl a; intro a hl
          refine sl_split (t := 53) hl rfl ?_ ?_
          · intro hg2; clear hl; intro hl
            try simp only [decide_eq_true_eq, decide_eq_false_iff_not, Bool.not_eq_true', Bool.not_eq_false', Bool.not_eq_true, Bool.not_eq_false, Bool.and_eq_true, Bool.or_eq_true, Bool.and_eq_false_iff, Bool.or_eq_false_iff, Bool.not_not, ne_eq, Int.not_lt, Int.not_le, Decidable.not_not, beq_iff_eq, bne_iff_ne] at hg2
            exfalso; first | omega | (simp at *; done)
          · intro hg2; clear hl; intro hl
            try simp only [decide_eq_true_eq, decide_eq_false_iff_not, Bool.not_eq_true', Bool.not_eq_false', Bool.not_eq_true, Bool.not_eq_false, Bool.and_eq_true, Bool.or_eq_true, Bool.and_eq_false_iff, Bool.or_eq_false_iff, Bool.not_not, ne_eq, Int.not_lt, Int.not_le, Decidable.not_not, beq_iff_eq, bne_iff_ne] at hg2
            refine wl (wl_val hl rfl ⟨_, _, rfl, rfl, rfl⟩ (r_move hl rfl) ?_)
            clear hl a; intro a hl
            refine wl (w_loadA hl hh rfl ⟨_, _, rfl, rfl, rfl⟩ agg66 rfl (by repeat (first | exact find_head | apply find_tail | apply find_skip)) (by exact arrL_all _ _) (by first | rfl | rw [arrL_length]) ?_)
            clear hl a; intro a hl
            refine wl (wl_val hl rfl ⟨_, _, rfl, rfl, rfl⟩ (r_move hl rfl) ?_)
            clear hl a; intro a hl
            refine wl (w_call hl hh rfl ⟨_, _, rfl, rfl, rfl⟩ rfl cal14 rfl (same_true wb b kb k3 W3 F3 EB _ _ (r2 % 256) sp2 pB cB hv2.r7 (fun t ht => (hv2.sp t ht).2) ha2.1 ha2.2 hW3 hG3 (by omega) hi3 hco3 hRB) (by repeat (first | exact keeps_nil | apply keeps_cons (by repeat (first | exact find_head | apply find_tail | apply find_skip)) (by first  | rfl) | exact keeps_self | exact keeps_left | apply keeps_app | apply keeps_mv | apply keeps_skip)) trivial ?_)
            clear hl hh a w; intro vc Fc a w hR hl hh
            obtain ⟨rfl, W4, F4, hG4, hLW4, hi4, hW4, hc4a, hco4, hlp4, rfl⟩ := hR
            try simp only [List.cons_append, List.nil_append, List.append_assoc, List.append_nil] at hh
            have hL4 : LW W4 ≤ 1000100 := by omega
            have hlg4 := (hG4.2 hL4).2.2.log
            have hLl : W4.log.length ≤ 1000100 := by (unfold LW at hL4; omega)
            obtain ⟨q, lv, E4, hrow4, rfl⟩ := hW4
            rcases hrow4 with ⟨_, qq, _, _⟩ | ⟨lb, cap9, junk, r1, r2, r3, r4, rfl⟩
            · exfalso; omega
            have hpr := progs_none q W4.run hi4
            rw [hpr] at hh
            try simp only [List.cons_append, List.nil_append, List.append_nil, List.append_assoc] at hh
            refine wl (wl_val hl rfl ⟨_, _, rfl, rfl, rfl⟩ (r_not hl rfl) ?_)
            clear hl a; intro a hl
            refine wl (wl_val hl rfl trivial (r_pickF hl rfl rfl) ?_)
            clear hl a; intro a hl
            refine w_nil ?_
            have hl2 := hl.add (t := 3) (hl.add (t := 59) (hl.nil) rfl) rfl; clear hl; have hl := hl2; clear hl2
            refine then_normal ?_
            refine c_cond hl rfl ?_ ?_
            · intro hc2
              try simp only [decide_eq_true_eq, decide_eq_false_iff_not, Bool.not_eq_true', Bool.not_eq_false', Bool.not_eq_true, Bool.not_eq_false, Bool.and_eq_true, Bool.or_eq_true, Bool.and_eq_false_iff, Bool.or_eq_false_iff, Bool.not_not, ne_eq, Int.not_lt, Int.not_le, Decidable.not_not, beq_iff_eq, bne_iff_ne] at hc2
              exfalso; first | omega | (simp at *; done)
            · intro hc2
              try simp only [decide_eq_true_eq, decide_eq_false_iff_not, Bool.not_eq_true', Bool.not_eq_false', Bool.not_eq_true, Bool.not_eq_false, Bool.and_eq_true, Bool.or_eq_true, Bool.and_eq_false_iff, Bool.or_eq_false_iff, Bool.not_not, ne_eq, Int.not_lt, Int.not_le, Decidable.not_not, beq_iff_eq, bne_iff_ne] at hc2
              refine wp_skip ?_
              refine then_normal ?_
              refine c_seq ?_
              refine c_region ?_
              refine wl (w_load hl hh rfl trivial one24 rfl (by repeat (first | exact find_head | apply find_tail | apply find_skip)) (by first | exact bb_at i (by omega) | rfl) ?_)
              clear hl a; intro a hl
              refine wl (wl_val hl rfl trivial (r_nilCheck hl rfl) ?_)
              clear hl a; intro a hl
              refine wl (wl_val hl rfl trivial (r_field hl rfl fld58_1) ?_)
              clear hl a; intro a hl
              refine wl (w_load hl hh rfl trivial one49 rfl (by repeat (first | exact find_head | apply find_tail | apply find_skip)) (by first | exact bb_at i (by omega) | rfl) ?_)
              clear hl a; intro a hl
              refine wl (wl_val hl rfl trivial (r_nilCheck hl rfl) ?_)
              clear hl a; intro a hl
              refine wl (wl_val hl rfl trivial (r_field hl rfl fld48_3) ?_)
              clear hl a; intro a hl
              refine wl (w_load hl hh rfl trivial one46 rfl (by repeat (first | exact find_head | apply find_tail | apply find_skip)) (by exact kd_log _) ?_)
              clear hl a; intro a hl
              try dsimp only [KOf] at hl
              try rw [r1] at hl
              refine wl (w_call hl hh rfl trivial rfl cal17 rfl (tally_spec lb cap9 junk W4.log hLl hlg4) (by repeat (first | exact keeps_nil | apply keeps_cons (by repeat (first | exact find_head | apply find_tail | apply find_skip)) (by first  | rfl) | exact keeps_self | exact keeps_left | apply keeps_app | apply keeps_mv | apply keeps_skip)) trivial ?_)
              clear hl hh a w; intro vc Fc a w hR hl hh
              obtain ⟨o1, o2, i0, i1, j0, j1, ts, hTF, hts, rfl, rfl⟩ := hR
              try simp only [List.cons_append, List.nil_append, List.append_assoc, List.append_nil] at hh
              obtain ⟨ti, I0, I1, O0, O1⟩ := ts
              dsimp only at hts hh
              have hf0 := tm_end hG4 hL4 hi4 false (hco4.trans hc3a) hts hTF.I0 hTF.O0
              have hf1 := tm_end hG4 hL4 hi4 true hc4a hts hTF.I1 hTF.O1
              clear hTF
              dsimp only at hf0 hf1
              try simp only [List.cons_append, List.nil_append, List.append_nil, List.append_assoc] at hh
              refine wl (wl_val hl rfl trivial (r_move hl rfl) ?_)
              clear hl a; intro a hl
              refine wl (wl_val hl rfl trivial (r_extract hl rfl (by simp only [List.getElem?_toArray, List.getElem?_cons_zero, List.getElem?_cons_succ]; rfl)) ?_)
              clear hl a; intro a hl
              refine wl (wl_val hl rfl trivial (r_extract hl rfl (by simp only [List.getElem?_toArray, List.getElem?_cons_zero, List.getElem?_cons_succ]; rfl)) ?_)
              clear hl a; intro a hl
              refine wl (wl_val hl rfl trivial (r_assign hl rfl) ?_)
              clear hl a; intro a hl
              refine wl (wl_val hl rfl trivial (r_assign hl rfl) ?_)
              clear hl a; intro a hl
              refine w_nil ?_
              have hl2 := hl.add (t := 9) (hl.add (t := 10) (hl.nil) rfl) rfl; clear hl; have hl := hl2; clear hl2
              refine then_normal ?_
              refine c_seq ?_
              refine c_seq ?_
              refine c_region ?_
              refine wl (w_buildSlice hl hh rfl trivial app78 zero4 rfl rfl rfl rfl rfl (by simp only [fillL, arrPl, List.range_succ, List.range_zero, List.map_cons, List.map_nil, List.map_append, List.nil_append, List.replicate_succ, List.replicate_zero, List.flatten_cons, List.flatten_nil, Nat.zero_mul, Nat.mul_one, Nat.one_mul, Nat.reduceMul, setL, List.getElem?_cons_zero, List.getElem?_cons_succ, Value.cells, List.take_zero, List.take_succ_cons, List.take_nil, List.drop_zero, List.drop_succ_cons, List.drop_nil, List.length_cons, List.length_nil, List.cons_append, List.nil_append, List.append_nil, Nat.zero_add, Nat.add_zero, Nat.reduceAdd, Nat.reduceBEq, Nat.reduceEqDiff, Nat.ble, BEq.rfl, Bool.and_true, Bool.and_self, cond_true, beq_self_eq_true]; rfl) ?_)
              clear hl hh a w; intro k71 a w hl hh
              refine wl (wl_val hl rfl trivial (r_lenS hl rfl slc78) ?_)
              clear hl a; intro a hl
              refine wl (wl_val hl rfl trivial (r_move hl rfl) ?_)
              clear hl a; intro a hl
              refine w_nil ?_
              have hl2 := hl.add (t := 9) (hl.add (t := 10) (hl.add (t := 71) (hl.add (t := 72) (hl.add (t := 73) (hl.nil) rfl) rfl) rfl) rfl) rfl; clear hl; have hl := hl2; clear hl2
              refine then_normal ?_
              refine wp_block ?_
              obtain ⟨KS0, hKS0, hk⟩ := (hl.add (t := 9) (hl.add (t := 10) (hl.add (t := 71) (hl.add (t := 72) (hl.nil) rfl) rfl) rfl) rfl).name
              obtain ⟨HS0, hHS0, hh2⟩ := hh.name (keeps_nil)
              refine c_loop (α := Nat) (fun i => 2 - i) (fun i a w => (i ≤ 2) ∧ Sl 103 ([(73, .int .i64 (i : Int))] ++ KS0) a ∧ Has _ w0 ([] ++ HS0) w) 0 ⟨Nat.zero_le _, hl.addE (t := 73) (hk) rfl (by first | rfl), hh2⟩ ?_
              clear hk hh2 hl hh a w
              intro i a w hI
              obtain ⟨hi9, hl, hh⟩ := hI
              subst hKS0; subst hHS0
              simp only [List.cons_append, List.nil_append, List.append_nil, List.append_assoc] at hl hh
              refine c_seq ?_
              refine c_region ?_
              refine wl (wl_val hl rfl trivial (r_lss hl rfl rfl) ?_)
              clear hl a; intro a hl
              refine w_nil ?_
              have hl2 := hl.add (t := 9) (hl.add (t := 10) (hl.add (t := 71) (hl.add (t := 72) (hl.add (t := 73) (hl.add (t := 74) (hl.nil) rfl) rfl) rfl) rfl) rfl) rfl; clear hl; have hl := hl2; clear hl2
              refine then_normal ?_
              refine c_seq ?_
              refine c_cond hl rfl ?_ ?_
              · intro hc3
                try simp only [decide_eq_true_eq, decide_eq_false_iff_not, Bool.not_eq_true', Bool.not_eq_false', Bool.not_eq_true, Bool.not_eq_false, Bool.and_eq_true, Bool.or_eq_true, Bool.and_eq_false_iff, Bool.or_eq_false_iff, Bool.not_not, ne_eq, Int.not_lt, Int.not_le, Decidable.not_not, beq_iff_eq, bne_iff_ne] at hc3
                refine wp_skip ?_
                refine then_normal ?_
                refine c_seq ?_
                refine wp_block ?_
                refine c_seq ?_
                refine c_region ?_
                refine wl (wl_val hl rfl trivial (r_indexS hl rfl rfl slc78 (by omega) (by omega) (by first | (simp only [Int.reduceToNat]; rfl) | exact toNat_add1 _ | exact toNat_add2 _ _ | exact toNat_emod _ _ | exact Int.toNat_natCast _ | rfl)) ?_)
                clear hl a; intro a hl
                refine wl (w_load hl hh rfl trivial one4 rfl (by repeat (first | exact find_head | apply find_tail | apply find_skip)) (by first | exact bb_at i (by omega) | rfl) ?_)
                clear hl a; intro a hl
                refine wl (wl_val hl rfl trivial (r_assign hl rfl) ?_)
                clear hl a; intro a hl
                refine w_nil ?_
                have hl2 := hl.add (t := 9) (hl.add (t := 10) (hl.add (t := 12) (hl.add (t := 71) (hl.add (t := 72) (hl.add (t := 73) (hl.nil) rfl) rfl) rfl) rfl) rfl) rfl; clear hl; have hl := hl2; clear hl2
                rcases (show i = 0 ∨ i = 1 by omega) with rfl | rfl
                ·
                  skip
                  rw [show decide ((0 : Nat) = 1) = false from rfl] at hl
                  obtain ⟨mb, rfl⟩ : ∃ mb, mb = i0 := ⟨_, rfl⟩
                  obtain ⟨nb, rfl⟩ : ∃ nb, nb = j0 := ⟨_, rfl⟩
                  obtain ⟨MA, rfl⟩ : ∃ M, M = I0 := ⟨_, rfl⟩
                  obtain ⟨MB, rfl⟩ : ∃ M, M = O0 := ⟨_, rfl⟩
                  obtain ⟨fA, hTA, hTB⟩ := hf0
                  have hln := hTA.len hTB
                  refine then_normal ?_
                  refine c_seq ?_
                  refine c_seq ?_
                  refine c_region ?_
                  refine wl (wl_val hl rfl trivial (r_move hl rfl) ?_)
                  clear hl a; intro a hl
                  refine wl (wl_val hl rfl trivial (r_move hl rfl) ?_)
                  clear hl a; intro a hl
                  refine wl (w_lookup (keyBool Tryf.underlying4) Tryf.underlying75 zero79 hl hh rfl trivial rfl rfl (by repeat (first | exact find_head | apply find_tail | apply find_skip)) ?_)
                  clear hl a; intro a hl
                  first | rw [om_f] at hl | rw [om_t] at hl
                  refine wl (w_lenM Tryf.underlying79 hl hh rfl trivial rfl (by repeat (first | exact find_head | apply find_tail | apply find_skip)) ?_)
                  clear hl a; intro a hl
                  refine wl (wl_val hl rfl trivial (r_move hl rfl) ?_)
                  clear hl a; intro a hl
                  refine wl (wl_val hl rfl trivial (r_move hl rfl) ?_)
                  clear hl a; intro a hl
                  refine wl (w_lookup (keyBool Tryf.underlying4) Tryf.underlying75 zero79 hl hh rfl trivial rfl rfl (by repeat (first | exact find_head | apply find_tail | apply find_skip)) ?_)
                  clear hl a; intro a hl
                  first | rw [om_f] at hl | rw [om_t] at hl
                  refine wl (w_lenM Tryf.underlying79 hl hh rfl trivial rfl (by repeat (first | exact find_head | apply find_tail | apply find_skip)) ?_)
                  clear hl a; intro a hl
                  refine wl (wl_val hl rfl trivial (r_neq hl rfl rfl) ?_)
                  clear hl a; intro a hl
                  refine w_nil ?_
                  have hl2 := hl.add (t := 9) (hl.add (t := 10) (hl.add (t := 12) (hl.add (t := 71) (hl.add (t := 72) (hl.add (t := 73) (hl.add (t := 85) (hl.nil) rfl) rfl) rfl) rfl) rfl) rfl) rfl; clear hl; have hl := hl2; clear hl2
                  refine then_normal ?_
                  refine c_cond hl rfl ?_ ?_
                  · intro hc4
                    try simp only [decide_eq_true_eq, decide_eq_false_iff_not, Bool.not_eq_true', Bool.not_eq_false', Bool.not_eq_true, Bool.not_eq_false, Bool.and_eq_true, Bool.or_eq_true, Bool.and_eq_false_iff, Bool.or_eq_false_iff, Bool.not_not, ne_eq, Int.not_lt, Int.not_le, Decidable.not_not, beq_iff_eq, bne_iff_ne] at hc4
                    exfalso; first | omega | (simp at *; done)
                  · intro hc4
                    try simp only [decide_eq_true_eq, decide_eq_false_iff_not, Bool.not_eq_true', Bool.not_eq_false', Bool.not_eq_true, Bool.not_eq_false, Bool.and_eq_true, Bool.or_eq_true, Bool.and_eq_false_iff, Bool.or_eq_false_iff, Bool.not_not, ne_eq, Int.not_lt, Int.not_le, Decidable.not_not, beq_iff_eq, bne_iff_ne] at hc4
                    refine wp_skip ?_
                    refine then_normal ?_
                    refine c_seq ?_
                    refine c_region ?_
                    refine wl (wl_val hl rfl trivial (r_move hl rfl) ?_)
                    clear hl a; intro a hl
                    refine wl (wl_val hl rfl trivial (r_move hl rfl) ?_)
                    clear hl a; intro a hl
                    refine wl (w_lookup (keyBool Tryf.underlying4) Tryf.underlying75 zero79 hl hh rfl trivial rfl rfl (by repeat (first | exact find_head | apply find_tail | apply find_skip)) ?_)
                    clear hl a; intro a hl
                    first | rw [om_f] at hl | rw [om_t] at hl
                    refine wl (w_range Tryf.underlying79 hl hh rfl trivial rfl (by repeat (first | exact find_head | apply find_tail | apply find_skip)) ?_)
                    clear hl hh a w; intro k89 a w hl hh
                    refine w_nil ?_
                    have hl2 := hl.add (t := 9) (hl.add (t := 10) (hl.add (t := 12) (hl.add (t := 71) (hl.add (t := 72) (hl.add (t := 73) (hl.add (t := 89) (hl.nil) rfl) rfl) rfl) rfl) rfl) rfl) rfl; clear hl; have hl := hl2; clear hl2
                    refine then_normal ?_
                    refine wp_block ?_
                    obtain ⟨KS1, hKS1, hk⟩ := (hl.add (t := 9) (hl.add (t := 10) (hl.add (t := 12) (hl.add (t := 71) (hl.add (t := 72) (hl.add (t := 73) (hl.add (t := 89) (hl.nil) rfl) rfl) rfl) rfl) rfl) rfl) rfl).name
                    obtain ⟨HS1, hHS1, hh2⟩ := hh.name (keeps_cons (b := k89) (o' := IT mb MA.length []) (by repeat (first | exact find_head | apply find_tail | apply find_skip)) (by first | rfl) (keeps_nil))
                    refine c_loop (α := List Nat) (fun seen => MA.length - seen.length) (fun seen a w => (SeenOk MA.length seen) ∧ Sl 103 ([] ++ KS1) a ∧ Has _ w0 ([(k89, IT mb MA.length seen)] ++ HS1) w) [] ⟨SeenOk.start _, hk, hh2⟩ ?_
                    clear hk hh2 hl hh a w
                    intro seen a w hI
                    obtain ⟨hS, hl, hh⟩ := hI
                    subst hKS1; subst hHS1
                    simp only [List.cons_append, List.nil_append, List.append_nil, List.append_assoc] at hl hh
                    refine c_seq ?_
                    refine c_region ?_
                    refine wl (w_next hl hh rfl trivial rfl (by repeat (first | exact find_head | apply find_tail | apply find_skip)) (by repeat (first | exact find_head | apply find_tail | apply find_skip)) ?_ ?_)
                    ·
                      intro hall; clear hl a; intro a hl
                      refine wl (wl_val hl rfl trivial (r_extract hl rfl (by simp only [List.getElem?_toArray, List.getElem?_cons_zero, List.getElem?_cons_succ]; rfl)) ?_)
                      clear hl a; intro a hl
                      refine w_nil ?_
                      have hl2 := hl.add (t := 9) (hl.add (t := 10) (hl.add (t := 12) (hl.add (t := 71) (hl.add (t := 72) (hl.add (t := 73) (hl.add (t := 89) (hl.add (t := 91) (hl.nil) rfl) rfl) rfl) rfl) rfl) rfl) rfl) rfl; clear hl; have hl := hl2; clear hl2
                      refine then_normal ?_
                      refine c_seq ?_
                      refine c_condF hl rfl ?_
                      refine wp_exit ?_
                      refine then_exit ?_
                      refine then_exit ?_
                      refine blk_exit ?_
                      refine blk_normal ?_
                      refine then_normal ?_
                      refine c_region ?_
                      first | refine wl (wl_val hl rfl trivial (r_add hl rfl rfl (by simp only [Fits]; omega)) ?_) | refine wl (wl_val hl rfl trivial (r_addW hl rfl rfl) ?_)
                      clear hl a; intro a hl
                      refine wl (wl_val hl rfl trivial (r_move hl rfl) ?_)
                      clear hl a; intro a hl
                      refine w_nil ?_
                      have hl2 := hl.add (t := 9) (hl.add (t := 10) (hl.add (t := 71) (hl.add (t := 72) (hl.add (t := 73) (hl.nil) rfl) rfl) rfl) rfl) rfl; clear hl; have hl := hl2; clear hl2
                      refine then_normal ?_
                      first | refine ⟨0 + 1, (by omega), (by omega), hl.addE (t := 73) (hl.addE (t := 9) (hl.addE (t := 10) (hl.addE (t := 71) (hl.addE (t := 72) (hl.nil) rfl (by first | rfl | rfl)) rfl (by first | rfl | rfl)) rfl (by first | rfl | rfl)) rfl (by first | rfl | rfl)) rfl (by first | rfl | rfl), hh.keep (by repeat (first | exact keeps_nil | apply keeps_cons (by repeat (first | exact find_head | apply find_tail | apply find_skip)) (by first  | rfl) | exact keeps_self | exact keeps_left | apply keeps_app | apply keeps_mv | apply keeps_skip))⟩ | refine ⟨1 + 1, (by omega), (by omega), hl.addE (t := 73) (hl.addE (t := 9) (hl.addE (t := 10) (hl.addE (t := 71) (hl.addE (t := 72) (hl.nil) rfl (by first | rfl | rfl)) rfl (by first | rfl | rfl)) rfl (by first | rfl | rfl)) rfl (by first | rfl | rfl)) rfl (by first | rfl | rfl), hh.keep (by repeat (first | exact keeps_nil | apply keeps_cons (by repeat (first | exact find_head | apply find_tail | apply find_skip)) (by first  | rfl) | exact keeps_self | exact keeps_left | apply keeps_app | apply keeps_mv | apply keeps_skip))⟩
                    ·
                      intro j90 p90 hjn90 hn90; clear hl hh a w; intro a w hl hh
                      have hjl := (List.getElem?_eq_some_iff.1 hjn90).1
                      have hS2 := hS.next hjl hn90
                      have hval := hTA.at hjn90
                      obtain ⟨ke, ve⟩ := p90
                      dsimp only at hval
                      subst hval
                      refine wl (wl_val hl rfl trivial (r_extract hl rfl (by simp only [List.getElem?_toArray, List.getElem?_cons_zero, List.getElem?_cons_succ]; rfl)) ?_)
                      clear hl a; intro a hl
                      refine w_nil ?_
                      have hl2 := hl.add (t := 9) (hl.add (t := 10) (hl.add (t := 12) (hl.add (t := 71) (hl.add (t := 72) (hl.add (t := 73) (hl.add (t := 89) (hl.add (t := 91) (hl.nil) rfl) rfl) rfl) rfl) rfl) rfl) rfl) rfl; clear hl; have hl := hl2; clear hl2
                      refine then_normal ?_
                      refine c_seq ?_
                      refine c_condT hl rfl ?_
                      refine wp_skip ?_
                      refine then_normal ?_
                      refine wp_block ?_
                      refine c_seq ?_
                      refine c_region ?_
                      refine wl (w_entry hjn90 hl hh rfl trivial rfl (by repeat (first | exact find_head | apply find_tail | apply find_skip)) (by repeat (first | exact find_head | apply find_tail | apply find_skip)) ?_)
                      clear hl a; intro a hl
                      refine wl (wl_val hl rfl trivial (r_extract hl rfl (by simp only [List.getElem?_toArray, List.getElem?_cons_zero, List.getElem?_cons_succ]; rfl)) ?_)
                      clear hl a; intro a hl
                      rw [k81d] at hl
                      refine wl (wl_val hl rfl trivial (r_extract hl rfl (by simp only [List.getElem?_toArray, List.getElem?_cons_zero, List.getElem?_cons_succ]; rfl)) ?_)
                      clear hl a; intro a hl
                      refine wl (w_alloc hl hh rfl trivial zero81 rfl ?_)
                      clear hl hh a w; intro k13 a w hl hh
                      refine wl (w_storeA hl hh trivial agg81 rfl rfl (by repeat (first | exact find_head | apply find_tail | apply find_skip)) (by first | rfl | (simp; done)) (by first | (simp; done) | (simp; omega)) (by first | rfl | (simp; done)) (by first | (simp only [setL, List.getElem?_cons_zero, List.getElem?_cons_succ, Value.cells, List.take_zero, List.take_succ_cons, List.take_nil, List.drop_zero, List.drop_succ_cons, List.drop_nil, List.length_cons, List.length_nil, List.cons_append, List.nil_append, List.append_nil, Nat.zero_add, Nat.add_zero, Nat.reduceAdd, Nat.reduceBEq, Nat.reduceEqDiff, Nat.ble, BEq.rfl, Bool.and_true, Bool.and_self, cond_true, beq_self_eq_true]; rfl)) ?_)
                      clear hh w; intro w hh
                      refine wl (wl_val hl rfl trivial (r_assign hl rfl) ?_)
                      clear hl a; intro a hl
                      refine w_nil ?_
                      have hl2 := hl.add (t := 9) (hl.add (t := 10) (hl.add (t := 12) (hl.add (t := 13) (hl.add (t := 14) (hl.add (t := 71) (hl.add (t := 72) (hl.add (t := 73) (hl.add (t := 89) (hl.nil) rfl) rfl) rfl) rfl) rfl) rfl) rfl) rfl) rfl; clear hl; have hl := hl2; clear hl2
                      refine then_normal ?_
                      refine c_seq ?_
                      refine c_region ?_
                      refine wl (wl_val hl rfl trivial (r_move hl rfl) ?_)
                      clear hl a; intro a hl
                      refine wl (wl_val hl rfl trivial (r_move hl rfl) ?_)
                      clear hl a; intro a hl
                      refine wl (w_lookup (keyBool Tryf.underlying4) Tryf.underlying75 zero79 hl hh rfl trivial rfl rfl (by repeat (first | exact find_head | apply find_tail | apply find_skip)) ?_)
                      clear hl a; intro a hl
                      first | rw [om_f] at hl | rw [om_t] at hl | rw [hTB.val] at hl
                      refine wl (w_loadA hl hh rfl trivial agg81 rfl (by repeat (first | exact find_head | apply find_tail | apply find_skip)) (by first | (simp only [List.getElem?_cons_zero, List.getElem?_cons_succ, Value.cells, List.take_zero, List.take_succ_cons, List.take_nil, List.drop_zero, List.drop_succ_cons, List.drop_nil, List.length_cons, List.length_nil, List.cons_append, List.nil_append, List.append_nil, Nat.zero_add, Nat.add_zero, Nat.reduceAdd, Nat.reduceBEq, Nat.reduceEqDiff, Nat.ble, BEq.rfl, Bool.and_true, Bool.and_self, cond_true, beq_self_eq_true]; rfl)) (by first | rfl | (simp; done)) ?_)
                      clear hl a; intro a hl
                      rw [← k81d ke] at hl
                      refine wl (w_lookup key81 Tryf.underlying79 zero3 hl hh rfl trivial rfl rfl (by repeat (first | exact find_head | apply find_tail | apply find_skip)) ?_)
                      clear hl a; intro a hl
                      first | rw [om_f] at hl | rw [om_t] at hl | rw [hTB.val] at hl
                      refine wl (wl_val hl rfl trivial (r_move hl rfl) ?_)
                      clear hl a; intro a hl
                      refine wl (wl_val hl rfl trivial (r_neq hl rfl rfl) ?_)
                      clear hl a; intro a hl
                      refine w_nil ?_
                      have hl2 := hl.add (t := 9) (hl.add (t := 10) (hl.add (t := 12) (hl.add (t := 71) (hl.add (t := 72) (hl.add (t := 73) (hl.add (t := 89) (hl.add (t := 101) (hl.nil) rfl) rfl) rfl) rfl) rfl) rfl) rfl) rfl; clear hl; have hl := hl2; clear hl2
                      refine then_normal ?_
                      refine c_cond hl rfl ?_ ?_
                      · intro hc6
                        try simp only [decide_eq_true_eq, decide_eq_false_iff_not, Bool.not_eq_true', Bool.not_eq_false', Bool.not_eq_true, Bool.not_eq_false, Bool.and_eq_true, Bool.or_eq_true, Bool.and_eq_false_iff, Bool.or_eq_false_iff, Bool.not_not, ne_eq, Int.not_lt, Int.not_le, Decidable.not_not, beq_iff_eq, bne_iff_ne] at hc6
                        exfalso; first | omega | (simp at *; done)
                      · intro hc6
                        try simp only [decide_eq_true_eq, decide_eq_false_iff_not, Bool.not_eq_true', Bool.not_eq_false', Bool.not_eq_true, Bool.not_eq_false, Bool.and_eq_true, Bool.or_eq_true, Bool.and_eq_false_iff, Bool.or_eq_false_iff, Bool.not_not, ne_eq, Int.not_lt, Int.not_le, Decidable.not_not, beq_iff_eq, bne_iff_ne] at hc6
                        refine wp_skip ?_
                        refine blk_normal ?_
                        refine then_normal ?_
                        refine ⟨seen ++ [j90], (by have := hS2.len; rw [List.length_append] at this ⊢; simp only [List.length_cons, List.length_nil] at this ⊢; omega), hS2, hl.addE (t := 9) (hl.addE (t := 10) (hl.addE (t := 12) (hl.addE (t := 71) (hl.addE (t := 72) (hl.addE (t := 73) (hl.addE (t := 89) (hl.nil) rfl (by first | rfl | (congr 1; omega))) rfl (by first | rfl | (congr 1; omega))) rfl (by first | rfl | (congr 1; omega))) rfl (by first | rfl | (congr 1; omega))) rfl (by first | rfl | (congr 1; omega))) rfl (by first | rfl | (congr 1; omega))) rfl (by first | rfl | (congr 1; omega)), hh.keep (by repeat (first | exact keeps_nil | apply keeps_cons (by repeat (first | exact find_head | apply find_tail | apply find_skip)) (by first  | rfl) | exact keeps_self | exact keeps_left | apply keeps_app | apply keeps_mv | apply keeps_skip))⟩
                ·
                  skip
                  rw [show decide ((1 : Nat) = 1) = true from rfl] at hl
                  obtain ⟨mb, rfl⟩ : ∃ mb, mb = i1 := ⟨_, rfl⟩
                  obtain ⟨nb, rfl⟩ : ∃ nb, nb = j1 := ⟨_, rfl⟩
                  obtain ⟨MA, rfl⟩ : ∃ M, M = I1 := ⟨_, rfl⟩
                  obtain ⟨MB, rfl⟩ : ∃ M, M = O1 := ⟨_, rfl⟩
                  obtain ⟨fA, hTA, hTB⟩ := hf1
                  have hln := hTA.len hTB
                  refine then_normal ?_
                  refine c_seq ?_
                  refine c_seq ?_
                  refine c_region ?_
                  refine wl (wl_val hl rfl trivial (r_move hl rfl) ?_)
                  clear hl a; intro a hl
                  refine wl (wl_val hl rfl trivial (r_move hl rfl) ?_)
                  clear hl a; intro a hl
                  refine wl (w_lookup (keyBool Tryf.underlying4) Tryf.underlying75 zero79 hl hh rfl trivial rfl rfl (by repeat (first | exact find_head | apply find_tail | apply find_skip)) ?_)
                  clear hl a; intro a hl
                  first | rw [om_f] at hl | rw [om_t] at hl
                  refine wl (w_lenM Tryf.underlying79 hl hh rfl trivial rfl (by repeat (first | exact find_head | apply find_tail | apply find_skip)) ?_)
                  clear hl a; intro a hl
                  refine wl (wl_val hl rfl trivial (r_move hl rfl) ?_)
                  clear hl a; intro a hl
                  refine wl (wl_val hl rfl trivial (r_move hl rfl) ?_)
                  clear hl a; intro a hl
                  refine wl (w_lookup (keyBool Tryf.underlying4) Tryf.underlying75 zero79 hl hh rfl trivial rfl rfl (by repeat (first | exact find_head | apply find_tail | apply find_skip)) ?_)
                  clear hl a; intro a hl
                  first | rw [om_f] at hl | rw [om_t] at hl
                  refine wl (w_lenM Tryf.underlying79 hl hh rfl trivial rfl (by repeat (first | exact find_head | apply find_tail | apply find_skip)) ?_)
                  clear hl a; intro a hl
                  refine wl (wl_val hl rfl trivial (r_neq hl rfl rfl) ?_)
                  clear hl a; intro a hl
                  refine w_nil ?_
                  have hl2 := hl.add (t := 9) (hl.add (t := 10) (hl.add (t := 12) (hl.add (t := 71) (hl.add (t := 72) (hl.add (t := 73) (hl.add (t := 85) (hl.nil) rfl) rfl) rfl) rfl) rfl) rfl) rfl; clear hl; have hl := hl2; clear hl2
                  refine then_normal ?_
                  refine c_cond hl rfl ?_ ?_
                  · intro hc4
                    try simp only [decide_eq_true_eq, decide_eq_false_iff_not, Bool.not_eq_true', Bool.not_eq_false', Bool.not_eq_true, Bool.not_eq_false, Bool.and_eq_true, Bool.or_eq_true, Bool.and_eq_false_iff, Bool.or_eq_false_iff, Bool.not_not, ne_eq, Int.not_lt, Int.not_le, Decidable.not_not, beq_iff_eq, bne_iff_ne] at hc4
                    exfalso; first | omega | (simp at *; done)
                  · intro hc4
                    try simp only [decide_eq_true_eq, decide_eq_false_iff_not, Bool.not_eq_true', Bool.not_eq_false', Bool.not_eq_true, Bool.not_eq_false, Bool.and_eq_true, Bool.or_eq_true, Bool.and_eq_false_iff, Bool.or_eq_false_iff, Bool.not_not, ne_eq, Int.not_lt, Int.not_le, Decidable.not_not, beq_iff_eq, bne_iff_ne] at hc4
                    refine wp_skip ?_
                    refine then_normal ?_
                    refine c_seq ?_
                    refine c_region ?_
                    refine wl (wl_val hl rfl trivial (r_move hl rfl) ?_)
                    clear hl a; intro a hl
                    refine wl (wl_val hl rfl trivial (r_move hl rfl) ?_)
                    clear hl a; intro a hl
                    refine wl (w_lookup (keyBool Tryf.underlying4) Tryf.underlying75 zero79 hl hh rfl trivial rfl rfl (by repeat (first | exact find_head | apply find_tail | apply find_skip)) ?_)
                    clear hl a; intro a hl
                    first | rw [om_f] at hl | rw [om_t] at hl
                    refine wl (w_range Tryf.underlying79 hl hh rfl trivial rfl (by repeat (first | exact find_head | apply find_tail | apply find_skip)) ?_)
                    clear hl hh a w; intro k89 a w hl hh
                    refine w_nil ?_
                    have hl2 := hl.add (t := 9) (hl.add (t := 10) (hl.add (t := 12) (hl.add (t := 71) (hl.add (t := 72) (hl.add (t := 73) (hl.add (t := 89) (hl.nil) rfl) rfl) rfl) rfl) rfl) rfl) rfl; clear hl; have hl := hl2; clear hl2
                    refine then_normal ?_
                    refine wp_block ?_
                    obtain ⟨KS1, hKS1, hk⟩ := (hl.add (t := 9) (hl.add (t := 10) (hl.add (t := 12) (hl.add (t := 71) (hl.add (t := 72) (hl.add (t := 73) (hl.add (t := 89) (hl.nil) rfl) rfl) rfl) rfl) rfl) rfl) rfl).name
                    obtain ⟨HS1, hHS1, hh2⟩ := hh.name (keeps_cons (b := k89) (o' := IT mb MA.length []) (by repeat (first | exact find_head | apply find_tail | apply find_skip)) (by first | rfl) (keeps_nil))
                    refine c_loop (α := List Nat) (fun seen => MA.length - seen.length) (fun seen a w => (SeenOk MA.length seen) ∧ Sl 103 ([] ++ KS1) a ∧ Has _ w0 ([(k89, IT mb MA.length seen)] ++ HS1) w) [] ⟨SeenOk.start _, hk, hh2⟩ ?_
                    clear hk hh2 hl hh a w
                    intro seen a w hI
                    obtain ⟨hS, hl, hh⟩ := hI
                    subst hKS1; subst hHS1
                    simp only [List.cons_append, List.nil_append, List.append_nil, List.append_assoc] at hl hh
                    refine c_seq ?_
                    refine c_region ?_
                    refine wl (w_next hl hh rfl trivial rfl (by repeat (first | exact find_head | apply find_tail | apply find_skip)) (by repeat (first | exact find_head | apply find_tail | apply find_skip)) ?_ ?_)
                    ·
                      intro hall; clear hl a; intro a hl
                      refine wl (wl_val hl rfl trivial (r_extract hl rfl (by simp only [List.getElem?_toArray, List.getElem?_cons_zero, List.getElem?_cons_succ]; rfl)) ?_)
                      clear hl a; intro a hl
                      refine w_nil ?_
                      have hl2 := hl.add (t := 9) (hl.add (t := 10) (hl.add (t := 12) (hl.add (t := 71) (hl.add (t := 72) (hl.add (t := 73) (hl.add (t := 89) (hl.add (t := 91) (hl.nil) rfl) rfl) rfl) rfl) rfl) rfl) rfl) rfl; clear hl; have hl := hl2; clear hl2
                      refine then_normal ?_
                      refine c_seq ?_
                      refine c_condF hl rfl ?_
                      refine wp_exit ?_
                      refine then_exit ?_
                      refine then_exit ?_
                      refine blk_exit ?_
                      refine blk_normal ?_
                      refine then_normal ?_
                      refine c_region ?_
                      first | refine wl (wl_val hl rfl trivial (r_add hl rfl rfl (by simp only [Fits]; omega)) ?_) | refine wl (wl_val hl rfl trivial (r_addW hl rfl rfl) ?_)
                      clear hl a; intro a hl
                      refine wl (wl_val hl rfl trivial (r_move hl rfl) ?_)
                      clear hl a; intro a hl
                      refine w_nil ?_
                      have hl2 := hl.add (t := 9) (hl.add (t := 10) (hl.add (t := 71) (hl.add (t := 72) (hl.add (t := 73) (hl.nil) rfl) rfl) rfl) rfl) rfl; clear hl; have hl := hl2; clear hl2
                      refine then_normal ?_
                      first | refine ⟨0 + 1, (by omega), (by omega), hl.addE (t := 73) (hl.addE (t := 9) (hl.addE (t := 10) (hl.addE (t := 71) (hl.addE (t := 72) (hl.nil) rfl (by first | rfl | rfl)) rfl (by first | rfl | rfl)) rfl (by first | rfl | rfl)) rfl (by first | rfl | rfl)) rfl (by first | rfl | rfl), hh.keep (by repeat (first | exact keeps_nil | apply keeps_cons (by repeat (first | exact find_head | apply find_tail | apply find_skip)) (by first  | rfl) | exact keeps_self | exact keeps_left | apply keeps_app | apply keeps_mv | apply keeps_skip))⟩ | refine ⟨1 + 1, (by omega), (by omega), hl.addE (t := 73) (hl.addE (t := 9) (hl.addE (t := 10) (hl.addE (t := 71) (hl.addE (t := 72) (hl.nil) rfl (by first | rfl | rfl)) rfl (by first | rfl | rfl)) rfl (by first | rfl | rfl)) rfl (by first | rfl | rfl)) rfl (by first | rfl | rfl), hh.keep (by repeat (first | exact keeps_nil | apply keeps_cons (by repeat (first | exact find_head | apply find_tail | apply find_skip)) (by first  | rfl) | exact keeps_self | exact keeps_left | apply keeps_app | apply keeps_mv | apply keeps_skip))⟩
                    ·
                      intro j90 p90 hjn90 hn90; clear hl hh a w; intro a w hl hh
                      have hjl := (List.getElem?_eq_some_iff.1 hjn90).1
                      have hS2 := hS.next hjl hn90
                      have hval := hTA.at hjn90
                      obtain ⟨ke, ve⟩ := p90
                      dsimp only at hval
                      subst hval
                      refine wl (wl_val hl rfl trivial (r_extract hl rfl (by simp only [List.getElem?_toArray, List.getElem?_cons_zero, List.getElem?_cons_succ]; rfl)) ?_)
                      clear hl a; intro a hl
                      refine w_nil ?_
                      have hl2 := hl.add (t := 9) (hl.add (t := 10) (hl.add (t := 12) (hl.add (t := 71) (hl.add (t := 72) (hl.add (t := 73) (hl.add (t := 89) (hl.add (t := 91) (hl.nil) rfl) rfl) rfl) rfl) rfl) rfl) rfl) rfl; clear hl; have hl := hl2; clear hl2
                      refine then_normal ?_
                      refine c_seq ?_
                      refine c_condT hl rfl ?_
                      refine wp_skip ?_
                      refine then_normal ?_
                      refine wp_block ?_
                      refine c_seq ?_
                      refine c_region ?_
                      refine wl (w_entry hjn90 hl hh rfl trivial rfl (by repeat (first | exact find_head | apply find_tail | apply find_skip)) (by repeat (first | exact find_head | apply find_tail | apply find_skip)) ?_)
                      clear hl a; intro a hl
                      refine wl (wl_val hl rfl trivial (r_extract hl rfl (by simp only [List.getElem?_toArray, List.getElem?_cons_zero, List.getElem?_cons_succ]; rfl)) ?_)
                      clear hl a; intro a hl
                      rw [k81d] at hl
                      refine wl (wl_val hl rfl trivial (r_extract hl rfl (by simp only [List.getElem?_toArray, List.getElem?_cons_zero, List.getElem?_cons_succ]; rfl)) ?_)
                      clear hl a; intro a hl
                      refine wl (w_alloc hl hh rfl trivial zero81 rfl ?_)
                      clear hl hh a w; intro k13 a w hl hh
                      refine wl (w_storeA hl hh trivial agg81 rfl rfl (by repeat (first | exact find_head | apply find_tail | apply find_skip)) (by first | rfl | (simp; done)) (by first | (simp; done) | (simp; omega)) (by first | rfl | (simp; done)) (by first | (simp only [setL, List.getElem?_cons_zero, List.getElem?_cons_succ, Value.cells, List.take_zero, List.take_succ_cons, List.take_nil, List.drop_zero, List.drop_succ_cons, List.drop_nil, List.length_cons, List.length_nil, List.cons_append, List.nil_append, List.append_nil, Nat.zero_add, Nat.add_zero, Nat.reduceAdd, Nat.reduceBEq, Nat.reduceEqDiff, Nat.ble, BEq.rfl, Bool.and_true, Bool.and_self, cond_true, beq_self_eq_true]; rfl)) ?_)
                      clear hh w; intro w hh
                      refine wl (wl_val hl rfl trivial (r_assign hl rfl) ?_)
                      clear hl a; intro a hl
                      refine w_nil ?_
                      have hl2 := hl.add (t := 9) (hl.add (t := 10) (hl.add (t := 12) (hl.add (t := 13) (hl.add (t := 14) (hl.add (t := 71) (hl.add (t := 72) (hl.add (t := 73) (hl.add (t := 89) (hl.nil) rfl) rfl) rfl) rfl) rfl) rfl) rfl) rfl) rfl; clear hl; have hl := hl2; clear hl2
                      refine then_normal ?_
                      refine c_seq ?_
                      refine c_region ?_
                      refine wl (wl_val hl rfl trivial (r_move hl rfl) ?_)
                      clear hl a; intro a hl
                      refine wl (wl_val hl rfl trivial (r_move hl rfl) ?_)
                      clear hl a; intro a hl
                      refine wl (w_lookup (keyBool Tryf.underlying4) Tryf.underlying75 zero79 hl hh rfl trivial rfl rfl (by repeat (first | exact find_head | apply find_tail | apply find_skip)) ?_)
                      clear hl a; intro a hl
                      first | rw [om_f] at hl | rw [om_t] at hl | rw [hTB.val] at hl
                      refine wl (w_loadA hl hh rfl trivial agg81 rfl (by repeat (first | exact find_head | apply find_tail | apply find_skip)) (by first | (simp only [List.getElem?_cons_zero, List.getElem?_cons_succ, Value.cells, List.take_zero, List.take_succ_cons, List.take_nil, List.drop_zero, List.drop_succ_cons, List.drop_nil, List.length_cons, List.length_nil, List.cons_append, List.nil_append, List.append_nil, Nat.zero_add, Nat.add_zero, Nat.reduceAdd, Nat.reduceBEq, Nat.reduceEqDiff, Nat.ble, BEq.rfl, Bool.and_true, Bool.and_self, cond_true, beq_self_eq_true]; rfl)) (by first | rfl | (simp; done)) ?_)
                      clear hl a; intro a hl
                      rw [← k81d ke] at hl
                      refine wl (w_lookup key81 Tryf.underlying79 zero3 hl hh rfl trivial rfl rfl (by repeat (first | exact find_head | apply find_tail | apply find_skip)) ?_)
                      clear hl a; intro a hl
                      first | rw [om_f] at hl | rw [om_t] at hl | rw [hTB.val] at hl
                      refine wl (wl_val hl rfl trivial (r_move hl rfl) ?_)
                      clear hl a; intro a hl
                      refine wl (wl_val hl rfl trivial (r_neq hl rfl rfl) ?_)
                      clear hl a; intro a hl
                      refine w_nil ?_
                      have hl2 := hl.add (t := 9) (hl.add (t := 10) (hl.add (t := 12) (hl.add (t := 71) (hl.add (t := 72) (hl.add (t := 73) (hl.add (t := 89) (hl.add (t := 101) (hl.nil) rfl) rfl) rfl) rfl) rfl) rfl) rfl) rfl; clear hl; have hl := hl2; clear hl2
                      refine then_normal ?_
                      refine c_cond hl rfl ?_ ?_
                      · intro hc6
                        try simp only [decide_eq_true_eq, decide_eq_false_iff_not, Bool.not_eq_true', Bool.not_eq_false', Bool.not_eq_true, Bool.not_eq_false, Bool.and_eq_true, Bool.or_eq_true, Bool.and_eq_false_iff, Bool.or_eq_false_iff, Bool.not_not, ne_eq, Int.not_lt, Int.not_le, Decidable.not_not, beq_iff_eq, bne_iff_ne] at hc6
                        exfalso; first | omega | (simp at *; done)
                      · intro hc6
                        try simp only [decide_eq_true_eq, decide_eq_false_iff_not, Bool.not_eq_true', Bool.not_eq_false', Bool.not_eq_true, Bool.not_eq_false, Bool.and_eq_true, Bool.or_eq_true, Bool.and_eq_false_iff, Bool.or_eq_false_iff, Bool.not_not, ne_eq, Int.not_lt, Int.not_le, Decidable.not_not, beq_iff_eq, bne_iff_ne] at hc6
                        refine wp_skip ?_
                        refine blk_normal ?_
                        refine then_normal ?_
                        refine ⟨seen ++ [j90], (by have := hS2.len; rw [List.length_append] at this ⊢; simp only [List.length_cons, List.length_nil] at this ⊢; omega), hS2, hl.addE (t := 9) (hl.addE (t := 10) (hl.addE (t := 12) (hl.addE (t := 71) (hl.addE (t := 72) (hl.addE (t := 73) (hl.addE (t := 89) (hl.nil) rfl (by first | rfl | (congr 1; omega))) rfl (by first | rfl | (congr 1; omega))) rfl (by first | rfl | (congr 1; omega))) rfl (by first | rfl | (congr 1; omega))) rfl (by first | rfl | (congr 1; omega))) rfl (by first | rfl | (congr 1; omega))) rfl (by first | rfl | (congr 1; omega)), hh.keep (by repeat (first | exact keeps_nil | apply keeps_cons (by repeat (first | exact find_head | apply find_tail | apply find_skip)) (by first  | rfl) | exact keeps_self | exact keeps_left | apply keeps_app | apply keeps_mv | apply keeps_skip))⟩
              · intro hc3
                try simp only [decide_eq_true_eq, decide_eq_false_iff_not, Bool.not_eq_true', Bool.not_eq_false', Bool.not_eq_true, Bool.not_eq_false, Bool.and_eq_true, Bool.or_eq_true, Bool.and_eq_false_iff, Bool.or_eq_false_iff, Bool.not_not, ne_eq, Int.not_lt, Int.not_le, Decidable.not_not, beq_iff_eq, bne_iff_ne] at hc3
                refine wp_exit ?_
                refine then_exit ?_
                refine then_exit ?_
                refine blk_exit ?_
                refine then_normal ?_
                refine c_seq ?_
                refine c_region ?_
                refine wl (wl_val hl rfl trivial (r_assign hl rfl) ?_)
                clear hl a; intro a hl
                refine w_nil ?_
                have hl2 := hl.add (t := 2) (hl.nil) rfl; clear hl; have hl := hl2; clear hl2
                refine then_normal ?_
                refine wp_ret ?_
                refine f_ret1 (F' := []) hl hh rfl rfl (by repeat (first | exact keeps_nil | apply keeps_cons (by repeat (first | exact find_head | apply find_tail | apply find_skip)) (by first  | rfl) | exact keeps_self | exact keeps_left | apply keeps_app | apply keeps_mv | apply keeps_skip)) ?_
                exact ⟨rfl, rfl⟩
      ·
        try clear hM
        refine id (w_alloc hl hh rfl trivial zero66 rfl ?_)
        clear hl hh a w; intro k5 a w hl hh
        have hM : Mem [(k3, C [.pointer (some ⟨wb, 0, none⟩)] 24), (wb, C [.pointer (some ⟨b, 0, none⟩), .pointer (some ⟨kb, 0, none⟩), .int .u64 ((65536 + hd false : Nat) : Int), .int .u64 ((65536 + nd false 0 : Nat) : Int), .int .u64 ((65536 + nd false 1 : Nat) : Int), .int .u64 ((65536 + nd false 2 : Nat) : Int), .int .u64 ((65536 + nd false 3 : Nat) : Int), .int .u64 ((65536 + nd false 4 : Nat) : Int), .int .u64 ((65536 + nd false 5 : Nat) : Int), .int .u64 ((65536 + nd false 6 : Nat) : Int), .int .i64 (wd false : Int), .int .u64 ((65536 + hd true : Nat) : Int), .int .u64 ((65536 + nd true 0 : Nat) : Int), .int .u64 ((65536 + nd true 1 : Nat) : Int), .int .u64 ((65536 + nd true 2 : Nat) : Int), .int .u64 ((65536 + nd true 3 : Nat) : Int), .int .u64 ((65536 + nd true 4 : Nat) : Int), .int .u64 ((65536 + nd true 5 : Nat) : Int), .int .u64 ((65536 + nd true 6 : Nat) : Int), .int .i64 (wd true : Int)] 58)] w := (memK hh (by repeat (first | exact keeps_nil | apply keeps_cons (by repeat (first | exact find_head | apply find_tail | apply find_skip)) (by first  | rfl) | exact keeps_self | exact keeps_left | apply keeps_app | apply keeps_mv | apply keeps_skip)))
        refine d_step (fun _ => hM) ?_
        refine d_one (i := 8) (by kernel_rfl) rfl ?_
        try clear hM
        refine id (w_call hl hh rfl trivial rfl cal13 rfl (viewD_spec b W2.m r1 n1 sp1 hv1) (by repeat (first | exact keeps_nil | apply keeps_cons (by repeat (first | exact find_head | apply find_tail | apply find_skip)) (by first  | rfl) | exact keeps_self | exact keeps_left | apply keeps_app | apply keeps_mv | apply keeps_skip)) trivial ?_)
        clear hl hh a w; intro vc Fc a w hR hl hh
        obtain ⟨lvD, ED, hrowD, rfl, rfl⟩ := hR
        try simp only [List.cons_append, List.nil_append, List.append_assoc, List.append_nil] at hh
        try simp only [List.cons_append, List.nil_append, List.append_nil, List.append_assoc] at hh
        have hone : lvD.oneCell' = true := hrowD.one
        obtain ⟨pD, cD, rfl, hRD⟩ := vw_row hv1 hcr1 hrowD
        have hh5 := has_tail1 hh; clear hh; have hh := hh5; clear hh5
        try simp only [List.cons_append, List.nil_append, List.append_nil, List.append_assoc] at hh
        have hM : Mem [(k3, C [.pointer (some ⟨wb, 0, none⟩)] 24), (wb, C [.pointer (some ⟨b, 0, none⟩), .pointer (some ⟨kb, 0, none⟩), .int .u64 ((65536 + hd false : Nat) : Int), .int .u64 ((65536 + nd false 0 : Nat) : Int), .int .u64 ((65536 + nd false 1 : Nat) : Int), .int .u64 ((65536 + nd false 2 : Nat) : Int), .int .u64 ((65536 + nd false 3 : Nat) : Int), .int .u64 ((65536 + nd false 4 : Nat) : Int), .int .u64 ((65536 + nd false 5 : Nat) : Int), .int .u64 ((65536 + nd false 6 : Nat) : Int), .int .i64 (wd false : Int), .int .u64 ((65536 + hd true : Nat) : Int), .int .u64 ((65536 + nd true 0 : Nat) : Int), .int .u64 ((65536 + nd true 1 : Nat) : Int), .int .u64 ((65536 + nd true 2 : Nat) : Int), .int .u64 ((65536 + nd true 3 : Nat) : Int), .int .u64 ((65536 + nd true 4 : Nat) : Int), .int .u64 ((65536 + nd true 5 : Nat) : Int), .int .u64 ((65536 + nd true 6 : Nat) : Int), .int .i64 (wd true : Int)] 58)] w := (memK hh (by repeat (first | exact keeps_nil | apply keeps_cons (by repeat (first | exact find_head | apply find_tail | apply find_skip)) (by first  | rfl) | exact keeps_self | exact keeps_left | apply keeps_app | apply keeps_mv | apply keeps_skip)))
        refine d_step (fun _ => hM) ?_
        refine d_take (i := 9) hl rfl (by kernel_rfl) (by kernel_rfl) (by kernel_rfl) (by kernel_rfl) (by kernel_rfl) rfl trivial (fun _ _ _ h => h) hM (fun w hC => r_move hl rfl) rfl ?_
        clear hl a; intro a hl
        refine d_take (i := 10) hl rfl (by kernel_rfl) (by kernel_rfl) (by kernel_rfl) (by kernel_rfl) (by kernel_rfl) rfl trivial (fun _ _ _ h => h) hM (fun w hC => r_extract hl rfl (by simp only [List.getElem?_toArray, List.getElem?_cons_zero, List.getElem?_cons_succ]; rfl)) rfl ?_
        clear hl a; intro a hl
        refine d_take (i := 11) hl rfl (by kernel_rfl) (by kernel_rfl) (by kernel_rfl) (by kernel_rfl) (by kernel_rfl) rfl trivial (fun _ _ _ h => h) hM (fun w hC => r_extract hl rfl (by simp only [List.getElem?_toArray, List.getElem?_cons_zero, List.getElem?_cons_succ]; rfl)) rfl ?_
        clear hl a; intro a hl
        refine d_one (i := 13) (by kernel_rfl) rfl ?_
        try clear hM
        refine id (w_storeA hl hh trivial agg66 rfl rfl (by repeat (first | exact find_head | apply find_tail | apply find_skip)) (by first | rfl | rw [arrL_length]) (by first | (show 0 + 9 ≤ 9; decide) | (simp; done) | (rw [arrL_length, arrL_length]; decide)) (by first | rfl | exact arrL_one (vw_one _ _ _ _ _ hone)) (by first | exact setL_all _ _ rfl | exact setL_all _ _ (by rw [arrL_length]; rfl) | exact setL_all _ _ (by rw [arrL_length, arrL_length])) ?_)
        clear hh w; intro w hh
        have hM : Mem [(k3, C [.pointer (some ⟨wb, 0, none⟩)] 24), (wb, C [.pointer (some ⟨b, 0, none⟩), .pointer (some ⟨kb, 0, none⟩), .int .u64 ((65536 + hd false : Nat) : Int), .int .u64 ((65536 + nd false 0 : Nat) : Int), .int .u64 ((65536 + nd false 1 : Nat) : Int), .int .u64 ((65536 + nd false 2 : Nat) : Int), .int .u64 ((65536 + nd false 3 : Nat) : Int), .int .u64 ((65536 + nd false 4 : Nat) : Int), .int .u64 ((65536 + nd false 5 : Nat) : Int), .int .u64 ((65536 + nd false 6 : Nat) : Int), .int .i64 (wd false : Int), .int .u64 ((65536 + hd true : Nat) : Int), .int .u64 ((65536 + nd true 0 : Nat) : Int), .int .u64 ((65536 + nd true 1 : Nat) : Int), .int .u64 ((65536 + nd true 2 : Nat) : Int), .int .u64 ((65536 + nd true 3 : Nat) : Int), .int .u64 ((65536 + nd true 4 : Nat) : Int), .int .u64 ((65536 + nd true 5 : Nat) : Int), .int .u64 ((65536 + nd true 6 : Nat) : Int), .int .i64 (wd true : Int)] 58)] w := (memK hh (by repeat (first | exact keeps_nil | apply keeps_cons (by repeat (first | exact find_head | apply find_tail | apply find_skip)) (by first  | rfl) | exact keeps_self | exact keeps_left | apply keeps_app | apply keeps_mv | apply keeps_skip)))
        refine d_step (fun _ => hM) ?_
        refine d_takeL (i := 14) hl rfl (by kernel_rfl) (by kernel_rfl) (by kernel_rfl) (by kernel_rfl) (by kernel_rfl) rfl trivial (fun _ _ _ h => h) (fun w => r_assign hl rfl) rfl ?_
        clear hl a; intro a hl
        refine d_done (by kernel_rfl) ?_
        try clear hM
        have hl2 := hl.add (t := 3) (hl.add (t := 4) (hl.add (t := 5) (hl.add (t := 6) (hl.nil) rfl) rfl) rfl) rfl; clear hl; have hl := hl2; clear hl2
        refine then_normal ?_
        refine c_seq ?_
        refine c_draw [(k3, C [.pointer (some ⟨wb, 0, none⟩)] 24), (wb, C [.pointer (some ⟨b, 0, none⟩), .pointer (some ⟨kb, 0, none⟩), .int .u64 ((65536 + hd false : Nat) : Int), .int .u64 ((65536 + nd false 0 : Nat) : Int), .int .u64 ((65536 + nd false 1 : Nat) : Int), .int .u64 ((65536 + nd false 2 : Nat) : Int), .int .u64 ((65536 + nd false 3 : Nat) : Int), .int .u64 ((65536 + nd false 4 : Nat) : Int), .int .u64 ((65536 + nd false 5 : Nat) : Int), .int .u64 ((65536 + nd false 6 : Nat) : Int), .int .i64 (wd false : Int), .int .u64 ((65536 + hd true : Nat) : Int), .int .u64 ((65536 + nd true 0 : Nat) : Int), .int .u64 ((65536 + nd true 1 : Nat) : Int), .int .u64 ((65536 + nd true 2 : Nat) : Int), .int .u64 ((65536 + nd true 3 : Nat) : Int), .int .u64 ((65536 + nd true 4 : Nat) : Int), .int .u64 ((65536 + nd true 5 : Nat) : Int), .int .u64 ((65536 + nd true 6 : Nat) : Int), .int .i64 (wd true : Int)] 58)] [14] mixed hh ?_
        clear hh w; intro w hh
        have hM : Mem [(k3, C [.pointer (some ⟨wb, 0, none⟩)] 24), (wb, C [.pointer (some ⟨b, 0, none⟩), .pointer (some ⟨kb, 0, none⟩), .int .u64 ((65536 + hd false : Nat) : Int), .int .u64 ((65536 + nd false 0 : Nat) : Int), .int .u64 ((65536 + nd false 1 : Nat) : Int), .int .u64 ((65536 + nd false 2 : Nat) : Int), .int .u64 ((65536 + nd false 3 : Nat) : Int), .int .u64 ((65536 + nd false 4 : Nat) : Int), .int .u64 ((65536 + nd false 5 : Nat) : Int), .int .u64 ((65536 + nd false 6 : Nat) : Int), .int .i64 (wd false : Int), .int .u64 ((65536 + hd true : Nat) : Int), .int .u64 ((65536 + nd true 0 : Nat) : Int), .int .u64 ((65536 + nd true 1 : Nat) : Int), .int .u64 ((65536 + nd true 2 : Nat) : Int), .int .u64 ((65536 + nd true 3 : Nat) : Int), .int .u64 ((65536 + nd true 4 : Nat) : Int), .int .u64 ((65536 + nd true 5 : Nat) : Int), .int .u64 ((65536 + nd true 6 : Nat) : Int), .int .i64 (wd true : Int)] 58)] w := (memK hh (by repeat (first | exact keeps_nil | apply keeps_cons (by repeat (first | exact find_head | apply find_tail | apply find_skip)) (by first  | rfl) | exact keeps_self | exact keeps_left | apply keeps_app | apply keeps_mv | apply keeps_skip)))
        refine d_take (i := 0) hl rfl (by kernel_rfl) (by kernel_rfl) (by kernel_rfl) (by kernel_rfl) (by kernel_rfl) rfl trivial (fun _ _ _ h => h) hM (fun w hC => r_loadC hl rfl one24 hC (by repeat (first | exact find_head | apply find_tail | apply find_skip)) (by first | exact bb_at i (by omega) | rfl)) rfl ?_
        clear hl a; intro a hl
        refine d_take (i := 1) hl rfl (by kernel_rfl) (by kernel_rfl) (by kernel_rfl) (by kernel_rfl) (by kernel_rfl) rfl trivial (fun _ _ _ h => h) hM (fun w hC => r_nilCheck hl rfl) rfl ?_
        clear hl a; intro a hl
        refine d_take (i := 2) hl rfl (by kernel_rfl) (by kernel_rfl) (by kernel_rfl) (by kernel_rfl) (by kernel_rfl) rfl trivial (fun _ _ _ h => h) hM (fun w hC => r_field hl rfl fld58_3) rfl ?_
        clear hl a; intro a hl
        refine d_take (i := 3) hl rfl (by kernel_rfl) (by kernel_rfl) (by kernel_rfl) (by kernel_rfl) (by kernel_rfl) rfl trivial (fun _ _ _ h => h) hM (fun w hC => r_loadCA hl rfl agg56 hC (by repeat (first | exact find_head | apply find_tail | apply find_skip)) (by first | (simp only [List.getElem?_cons_zero, List.getElem?_cons_succ, Value.cells, List.take_zero, List.take_succ_cons, List.take_nil, List.drop_zero, List.drop_succ_cons, List.drop_nil, List.length_cons, List.length_nil, List.cons_append, List.nil_append, List.append_nil, Nat.zero_add, Nat.add_zero, Nat.reduceAdd, Nat.reduceBEq, Nat.reduceEqDiff, Nat.ble, BEq.rfl, Bool.and_true, Bool.and_self, cond_true, beq_self_eq_true]; rfl)) (by first | rfl | (simp; done))) rfl ?_
        clear hl a; intro a hl
        refine d_take (i := 4) hl rfl (by kernel_rfl) (by kernel_rfl) (by kernel_rfl) (by kernel_rfl) (by kernel_rfl) rfl trivial (fun _ _ _ h => h) hM (fun w hC => r_loadC hl rfl one24 hC (by repeat (first | exact find_head | apply find_tail | apply find_skip)) (by first | exact bb_at i (by omega) | rfl)) rfl ?_
        clear hl a; intro a hl
        refine d_take (i := 5) hl rfl (by kernel_rfl) (by kernel_rfl) (by kernel_rfl) (by kernel_rfl) (by kernel_rfl) rfl trivial (fun _ _ _ h => h) hM (fun w hC => r_nilCheck hl rfl) rfl ?_
        clear hl a; intro a hl
        refine d_take (i := 6) hl rfl (by kernel_rfl) (by kernel_rfl) (by kernel_rfl) (by kernel_rfl) (by kernel_rfl) rfl trivial (fun _ _ _ h => h) hM (fun w hC => r_field hl rfl fld58_0) rfl ?_
        clear hl a; intro a hl
        refine d_take (i := 7) hl rfl (by kernel_rfl) (by kernel_rfl) (by kernel_rfl) (by kernel_rfl) (by kernel_rfl) rfl trivial (fun _ _ _ h => h) hM (fun w hC => r_loadC hl rfl one39 hC (by repeat (first | exact find_head | apply find_tail | apply find_skip)) (by first | exact bb_at i (by omega) | rfl)) rfl ?_
        clear hl a; intro a hl
        refine d_two (i := 8) (j := 12) (by kernel_rfl) rfl rfl ?_ ?_
        ·
          try clear hM
          refine id (w_call hl hh rfl trivial rfl cal16 rfl (viewB_spec b W2.m r2 n2 sp2 hv2 (vw_hso hs2 hv2 hcr2)) (by repeat (first | exact keeps_nil | apply keeps_cons (by repeat (first | exact find_head | apply find_tail | apply find_skip)) (by first  | rfl) | exact keeps_self | exact keeps_left | apply keeps_app | apply keeps_mv | apply keeps_skip)) trivial ?_)
          clear hl hh a w; intro vc Fc a w hR hl hh
          obtain ⟨lvB, EB, hrowB, rfl, rfl⟩ := hR
          try simp only [List.cons_append, List.nil_append, List.append_assoc, List.append_nil] at hh
          try simp only [List.cons_append, List.nil_append, List.append_nil, List.append_assoc] at hh
          have hone : lvB.oneCell' = true := hrowB.one
          obtain ⟨pB, cB, rfl, hRB⟩ := vw_row hv2 hcr2 hrowB
          have hh5 := has_tail1 hh; clear hh; have hh := hh5; clear hh5
          try simp only [List.cons_append, List.nil_append, List.append_nil, List.append_assoc] at hh
          have hM : Mem [(k3, C [.pointer (some ⟨wb, 0, none⟩)] 24), (wb, C [.pointer (some ⟨b, 0, none⟩), .pointer (some ⟨kb, 0, none⟩), .int .u64 ((65536 + hd false : Nat) : Int), .int .u64 ((65536 + nd false 0 : Nat) : Int), .int .u64 ((65536 + nd false 1 : Nat) : Int), .int .u64 ((65536 + nd false 2 : Nat) : Int), .int .u64 ((65536 + nd false 3 : Nat) : Int), .int .u64 ((65536 + nd false 4 : Nat) : Int), .int .u64 ((65536 + nd false 5 : Nat) : Int), .int .u64 ((65536 + nd false 6 : Nat) : Int), .int .i64 (wd false : Int), .int .u64 ((65536 + hd true : Nat) : Int), .int .u64 ((65536 + nd true 0 : Nat) : Int), .int .u64 ((65536 + nd true 1 : Nat) : Int), .int .u64 ((65536 + nd true 2 : Nat) : Int), .int .u64 ((65536 + nd true 3 : Nat) : Int), .int .u64 ((65536 + nd true 4 : Nat) : Int), .int .u64 ((65536 + nd true 5 : Nat) : Int), .int .u64 ((65536 + nd true 6 : Nat) : Int), .int .i64 (wd true : Int)] 58)] w := (memK hh (by repeat (first | exact keeps_nil | apply keeps_cons (by repeat (first | exact find_head | apply find_tail | apply find_skip)) (by first  | rfl) | exact keeps_self | exact keeps_left | apply keeps_app | apply keeps_mv | apply keeps_skip)))
          refine d_step (fun _ => hM) ?_
          refine d_take (i := 9) hl rfl (by kernel_rfl) (by kernel_rfl) (by kernel_rfl) (by kernel_rfl) (by kernel_rfl) rfl trivial (fun _ _ _ h => h) hM (fun w hC => r_move hl rfl) rfl ?_
          clear hl a; intro a hl
          refine d_take (i := 10) hl rfl (by kernel_rfl) (by kernel_rfl) (by kernel_rfl) (by kernel_rfl) (by kernel_rfl) rfl trivial (fun _ _ _ h => h) hM (fun w hC => r_extract hl rfl (by simp only [List.getElem?_toArray, List.getElem?_cons_zero, List.getElem?_cons_succ]; rfl)) rfl ?_
          clear hl a; intro a hl
          refine d_take (i := 11) hl rfl (by kernel_rfl) (by kernel_rfl) (by kernel_rfl) (by kernel_rfl) (by kernel_rfl) rfl trivial (fun _ _ _ h => h) hM (fun w hC => r_extract hl rfl (by simp only [List.getElem?_toArray, List.getElem?_cons_zero, List.getElem?_cons_succ]; rfl)) rfl ?_
          clear hl a; intro a hl
          refine d_one (i := 12) (by kernel_rfl) rfl ?_
          try clear hM
          refine id (w_alloc hl hh rfl trivial zero66 rfl ?_)
          clear hl hh a w; intro k7 a w hl hh
          have hM : Mem [(k3, C [.pointer (some ⟨wb, 0, none⟩)] 24), (wb, C [.pointer (some ⟨b, 0, none⟩), .pointer (some ⟨kb, 0, none⟩), .int .u64 ((65536 + hd false : Nat) : Int), .int .u64 ((65536 + nd false 0 : Nat) : Int), .int .u64 ((65536 + nd false 1 : Nat) : Int), .int .u64 ((65536 + nd false 2 : Nat) : Int), .int .u64 ((65536 + nd false 3 : Nat) : Int), .int .u64 ((65536 + nd false 4 : Nat) : Int), .int .u64 ((65536 + nd false 5 : Nat) : Int), .int .u64 ((65536 + nd false 6 : Nat) : Int), .int .i64 (wd false : Int), .int .u64 ((65536 + hd true : Nat) : Int), .int .u64 ((65536 + nd true 0 : Nat) : Int), .int .u64 ((65536 + nd true 1 : Nat) : Int), .int .u64 ((65536 + nd true 2 : Nat) : Int), .int .u64 ((65536 + nd true 3 : Nat) : Int), .int .u64 ((65536 + nd true 4 : Nat) : Int), .int .u64 ((65536 + nd true 5 : Nat) : Int), .int .u64 ((65536 + nd true 6 : Nat) : Int), .int .i64 (wd true : Int)] 58)] w := (memK hh (by repeat (first | exact keeps_nil | apply keeps_cons (by repeat (first | exact find_head | apply find_tail | apply find_skip)) (by first  | rfl) | exact keeps_self | exact keeps_left | apply keeps_app | apply keeps_mv | apply keeps_skip)))
          refine d_step (fun _ => hM) ?_
          refine d_one (i := 13) (by kernel_rfl) rfl ?_
          try clear hM
          refine id (w_storeA hl hh trivial agg66 rfl rfl (by repeat (first | exact find_head | apply find_tail | apply find_skip)) (by first | rfl | rw [arrL_length]) (by first | (show 0 + 9 ≤ 9; decide) | (simp; done) | (rw [arrL_length, arrL_length]; decide)) (by first | rfl | exact arrL_one (vw_one _ _ _ _ _ hone)) (by first | exact setL_all _ _ rfl | exact setL_all _ _ (by rw [arrL_length]; rfl) | exact setL_all _ _ (by rw [arrL_length, arrL_length])) ?_)
          clear hh w; intro w hh
          have hM : Mem [(k3, C [.pointer (some ⟨wb, 0, none⟩)] 24), (wb, C [.pointer (some ⟨b, 0, none⟩), .pointer (some ⟨kb, 0, none⟩), .int .u64 ((65536 + hd false : Nat) : Int), .int .u64 ((65536 + nd false 0 : Nat) : Int), .int .u64 ((65536 + nd false 1 : Nat) : Int), .int .u64 ((65536 + nd false 2 : Nat) : Int), .int .u64 ((65536 + nd false 3 : Nat) : Int), .int .u64 ((65536 + nd false 4 : Nat) : Int), .int .u64 ((65536 + nd false 5 : Nat) : Int), .int .u64 ((65536 + nd false 6 : Nat) : Int), .int .i64 (wd false : Int), .int .u64 ((65536 + hd true : Nat) : Int), .int .u64 ((65536 + nd true 0 : Nat) : Int), .int .u64 ((65536 + nd true 1 : Nat) : Int), .int .u64 ((65536 + nd true 2 : Nat) : Int), .int .u64 ((65536 + nd true 3 : Nat) : Int), .int .u64 ((65536 + nd true 4 : Nat) : Int), .int .u64 ((65536 + nd true 5 : Nat) : Int), .int .u64 ((65536 + nd true 6 : Nat) : Int), .int .i64 (wd true : Int)] 58)] w := (memK hh (by repeat (first | exact keeps_nil | apply keeps_cons (by repeat (first | exact find_head | apply find_tail | apply find_skip)) (by first  | rfl) | exact keeps_self | exact keeps_left | apply keeps_app | apply keeps_mv | apply keeps_skip)))
          refine d_step (fun _ => hM) ?_
          refine d_takeL (i := 14) hl rfl (by kernel_rfl) (by kernel_rfl) (by kernel_rfl) (by kernel_rfl) (by kernel_rfl) rfl trivial (fun _ _ _ h => h) (fun w => r_assign hl rfl) rfl ?_
          clear hl a; intro a hl
          refine d_done (by kernel_rfl) ?_
          try clear hM
          have hl2 := hl.add (t := 3) (hl.add (t := 4) (hl.add (t := 5) (hl.add (t := 6) (hl.add (t := 7) (hl.add (t := 8) (hl.nil) rfl) rfl) rfl) rfl) rfl) rfl; clear hl; have hl := hl2; clear hl2
          refine then_normal ?_
          refine c_seq ?_
          refine c_seq ?_
          refine c_region ?_
          refine wl (wl_val hl rfl trivial (r_move hl rfl) ?_)
          clear hl a; intro a hl
          refine wl (w_loadA hl hh rfl trivial agg66 rfl (by repeat (first | exact find_head | apply find_tail | apply find_skip)) (by exact arrL_all _ _) (by first | rfl | rw [arrL_length]) ?_)
          clear hl a; intro a hl
          refine wl (wl_val hl rfl trivial (r_move hl rfl) ?_)
          clear hl a; intro a hl
          refine wl (w_call hl hh rfl trivial rfl cal14 rfl (same_false wb b kb k3 W2 _ ED _ _ (r1 % 256) sp1 pD cD hv1.r7 (fun t ht => (hv1.sp t ht).2) ha1.1 ha1.2 hW2b hG2 (by omega) hi2 rfl hRD) (by repeat (first | exact keeps_nil | apply keeps_cons (by repeat (first | exact find_head | apply find_tail | apply find_skip)) (by first  | rfl) | exact keeps_self | exact keeps_left | apply keeps_app | apply keeps_mv | apply keeps_skip)) trivial ?_)
          clear hl hh a w; intro vc Fc a w hR hl hh
          obtain ⟨rfl, W3, F3, hG3, hLW3, hi3, hW3, hc3a, hco3, hlp3, rfl⟩ := hR
          try simp only [List.cons_append, List.nil_append, List.append_assoc, List.append_nil] at hh
          try simp only [List.cons_append, List.nil_append, List.append_nil, List.append_assoc] at hh
          replace hh := has_mid2 hh
          refine wl (wl_val hl rfl trivial (r_not hl rfl) ?_)
          clear hl a; intro a hl
          refine wl (wl_val hl rfl trivial (r_move hl rfl) ?_)
          clear hl a; intro a hl
          refine sl_split (t := 53) hl rfl ?_ ?_
          · intro hg3; clear hl; intro hl
            try simp only [decide_eq_true_eq, decide_eq_false_iff_not, Bool.not_eq_true', Bool.not_eq_false', Bool.not_eq_true, Bool.not_eq_false, Bool.and_eq_true, Bool.or_eq_true, Bool.and_eq_false_iff, Bool.or_eq_false_iff, Bool.not_not, ne_eq, Int.not_lt, Int.not_le, Decidable.not_not, beq_iff_eq, bne_iff_ne] at hg3
            exfalso; first | omega | (simp at *; done)
          · intro hg3; clear hl; intro hl
            try simp only [decide_eq_true_eq, decide_eq_false_iff_not, Bool.not_eq_true', Bool.not_eq_false', Bool.not_eq_true, Bool.not_eq_false, Bool.and_eq_true, Bool.or_eq_true, Bool.and_eq_false_iff, Bool.or_eq_false_iff, Bool.not_not, ne_eq, Int.not_lt, Int.not_le, Decidable.not_not, beq_iff_eq, bne_iff_ne] at hg3
            refine wl (wl_val hl rfl ⟨_, _, rfl, rfl, rfl⟩ (r_move hl rfl) ?_)
            clear hl a; intro a hl
            refine wl (w_loadA hl hh rfl ⟨_, _, rfl, rfl, rfl⟩ agg66 rfl (by repeat (first | exact find_head | apply find_tail | apply find_skip)) (by exact arrL_all _ _) (by first | rfl | rw [arrL_length]) ?_)
            clear hl a; intro a hl
            refine wl (wl_val hl rfl ⟨_, _, rfl, rfl, rfl⟩ (r_move hl rfl) ?_)
            clear hl a; intro a hl
            refine wl (w_call hl hh rfl ⟨_, _, rfl, rfl, rfl⟩ rfl cal14 rfl (same_true wb b kb k3 W3 F3 EB _ _ (r2 % 256) sp2 pB cB hv2.r7 (fun t ht => (hv2.sp t ht).2) ha2.1 ha2.2 hW3 hG3 (by omega) hi3 hco3 hRB) (by repeat (first | exact keeps_nil | apply keeps_cons (by repeat (first | exact find_head | apply find_tail | apply find_skip)) (by first  | rfl) | exact keeps_self | exact keeps_left | apply keeps_app | apply keeps_mv | apply keeps_skip)) trivial ?_)
            clear hl hh a w; intro vc Fc a w hR hl hh
            obtain ⟨rfl, W4, F4, hG4, hLW4, hi4, hW4, hc4a, hco4, hlp4, rfl⟩ := hR
            try simp only [List.cons_append, List.nil_append, List.append_assoc, List.append_nil] at hh
            have hL4 : LW W4 ≤ 1000100 := by omega
            have hlg4 := (hG4.2 hL4).2.2.log
            have hLl : W4.log.length ≤ 1000100 := by (unfold LW at hL4; omega)
            obtain ⟨q, lv, E4, hrow4, rfl⟩ := hW4
            rcases hrow4 with ⟨_, qq, _, _⟩ | ⟨lb, cap9, junk, r1, r2, r3, r4, rfl⟩
            · exfalso; omega
            have hpr := progs_none q W4.run hi4
            rw [hpr] at hh
            try simp only [List.cons_append, List.nil_append, List.append_nil, List.append_assoc] at hh
            refine wl (wl_val hl rfl ⟨_, _, rfl, rfl, rfl⟩ (r_not hl rfl) ?_)
            clear hl a; intro a hl
            refine wl (wl_val hl rfl trivial (r_pickF hl rfl rfl) ?_)
            clear hl a; intro a hl
            refine w_nil ?_
            have hl2 := hl.add (t := 3) (hl.add (t := 59) (hl.nil) rfl) rfl; clear hl; have hl := hl2; clear hl2
            refine then_normal ?_
            refine c_cond hl rfl ?_ ?_
            · intro hc2
              try simp only [decide_eq_true_eq, decide_eq_false_iff_not, Bool.not_eq_true', Bool.not_eq_false', Bool.not_eq_true, Bool.not_eq_false, Bool.and_eq_true, Bool.or_eq_true, Bool.and_eq_false_iff, Bool.or_eq_false_iff, Bool.not_not, ne_eq, Int.not_lt, Int.not_le, Decidable.not_not, beq_iff_eq, bne_iff_ne] at hc2
              exfalso; first | omega | (simp at *; done)
            · intro hc2
              try simp only [decide_eq_true_eq, decide_eq_false_iff_not, Bool.not_eq_true', Bool.not_eq_false', Bool.not_eq_true, Bool.not_eq_false, Bool.and_eq_true, Bool.or_eq_true, Bool.and_eq_false_iff, Bool.or_eq_false_iff, Bool.not_not, ne_eq, Int.not_lt, Int.not_le, Decidable.not_not, beq_iff_eq, bne_iff_ne] at hc2
              refine wp_skip ?_
              refine then_normal ?_
              refine c_seq ?_
              refine c_region ?_
              refine wl (w_load hl hh rfl trivial one24 rfl (by repeat (first | exact find_head | apply find_tail | apply find_skip)) (by first | exact bb_at i (by omega) | rfl) ?_)
              clear hl a; intro a hl
              refine wl (wl_val hl rfl trivial (r_nilCheck hl rfl) ?_)
              clear hl a; intro a hl
              refine wl (wl_val hl rfl trivial (r_field hl rfl fld58_1) ?_)
              clear hl a; intro a hl
              refine wl (w_load hl hh rfl trivial one49 rfl (by repeat (first | exact find_head | apply find_tail | apply find_skip)) (by first | exact bb_at i (by omega) | rfl) ?_)
              clear hl a; intro a hl
              refine wl (wl_val hl rfl trivial (r_nilCheck hl rfl) ?_)
              clear hl a; intro a hl
              refine wl (wl_val hl rfl trivial (r_field hl rfl fld48_3) ?_)
              clear hl a; intro a hl
              refine wl (w_load hl hh rfl trivial one46 rfl (by repeat (first | exact find_head | apply find_tail | apply find_skip)) (by exact kd_log _) ?_)
              clear hl a; intro a hl
              try dsimp only [KOf] at hl
              try rw [r1] at hl
              refine wl (w_call hl hh rfl trivial rfl cal17 rfl (tally_spec lb cap9 junk W4.log hLl hlg4) (by repeat (first | exact keeps_nil | apply keeps_cons (by repeat (first | exact find_head | apply find_tail | apply find_skip)) (by first  | rfl) | exact keeps_self | exact keeps_left | apply keeps_app | apply keeps_mv | apply keeps_skip)) trivial ?_)
              clear hl hh a w; intro vc Fc a w hR hl hh
              obtain ⟨o1, o2, i0, i1, j0, j1, ts, hTF, hts, rfl, rfl⟩ := hR
              try simp only [List.cons_append, List.nil_append, List.append_assoc, List.append_nil] at hh
              obtain ⟨ti, I0, I1, O0, O1⟩ := ts
              dsimp only at hts hh
              have hf0 := tm_end hG4 hL4 hi4 false (hco4.trans hc3a) hts hTF.I0 hTF.O0
              have hf1 := tm_end hG4 hL4 hi4 true hc4a hts hTF.I1 hTF.O1
              clear hTF
              dsimp only at hf0 hf1
              try simp only [List.cons_append, List.nil_append, List.append_nil, List.append_assoc] at hh
              refine wl (wl_val hl rfl trivial (r_move hl rfl) ?_)
              clear hl a; intro a hl
              refine wl (wl_val hl rfl trivial (r_extract hl rfl (by simp only [List.getElem?_toArray, List.getElem?_cons_zero, List.getElem?_cons_succ]; rfl)) ?_)
              clear hl a; intro a hl
              refine wl (wl_val hl rfl trivial (r_extract hl rfl (by simp only [List.getElem?_toArray, List.getElem?_cons_zero, List.getElem?_cons_succ]; rfl)) ?_)
              clear hl a; intro a hl
              refine wl (wl_val hl rfl trivial (r_assign hl rfl) ?_)
              clear hl a; intro a hl
              refine wl (wl_val hl rfl trivial (r_assign hl rfl) ?_)
              clear hl a; intro a hl
              refine w_nil ?_
              have hl2 := hl.add (t := 9) (hl.add (t := 10) (hl.nil) rfl) rfl; clear hl; have hl := hl2; clear hl2
              refine then_normal ?_
              refine c_seq ?_
              refine c_seq ?_
              refine c_region ?_
              refine wl (w_buildSlice hl hh rfl trivial app78 zero4 rfl rfl rfl rfl rfl (by simp only [fillL, arrPl, List.range_succ, List.range_zero, List.map_cons, List.map_nil, List.map_append, List.nil_append, List.replicate_succ, List.replicate_zero, List.flatten_cons, List.flatten_nil, Nat.zero_mul, Nat.mul_one, Nat.one_mul, Nat.reduceMul, setL, List.getElem?_cons_zero, List.getElem?_cons_succ, Value.cells, List.take_zero, List.take_succ_cons, List.take_nil, List.drop_zero, List.drop_succ_cons, List.drop_nil, List.length_cons, List.length_nil, List.cons_append, List.nil_append, List.append_nil, Nat.zero_add, Nat.add_zero, Nat.reduceAdd, Nat.reduceBEq, Nat.reduceEqDiff, Nat.ble, BEq.rfl, Bool.and_true, Bool.and_self, cond_true, beq_self_eq_true]; rfl) ?_)
              clear hl hh a w; intro k71 a w hl hh
              refine wl (wl_val hl rfl trivial (r_lenS hl rfl slc78) ?_)
              clear hl a; intro a hl
              refine wl (wl_val hl rfl trivial (r_move hl rfl) ?_)
              clear hl a; intro a hl
              refine w_nil ?_
              have hl2 := hl.add (t := 9) (hl.add (t := 10) (hl.add (t := 71) (hl.add (t := 72) (hl.add (t := 73) (hl.nil) rfl) rfl) rfl) rfl) rfl; clear hl; have hl := hl2; clear hl2
              refine then_normal ?_
              refine wp_block ?_
              obtain ⟨KS0, hKS0, hk⟩ := (hl.add (t := 9) (hl.add (t := 10) (hl.add (t := 71) (hl.add (t := 72) (hl.nil) rfl) rfl) rfl) rfl).name
              obtain ⟨HS0, hHS0, hh2⟩ := hh.name (keeps_nil)
              refine c_loop (α := Nat) (fun i => 2 - i) (fun i a w => (i ≤ 2) ∧ Sl 103 ([(73, .int .i64 (i : Int))] ++ KS0) a ∧ Has _ w0 ([] ++ HS0) w) 0 ⟨Nat.zero_le _, hl.addE (t := 73) (hk) rfl (by first | rfl), hh2⟩ ?_
              clear hk hh2 hl hh a w
              intro i a w hI
              obtain ⟨hi9, hl, hh⟩ := hI
              subst hKS0; subst hHS0
              simp only [List.cons_append, List.nil_append, List.append_nil, List.append_assoc] at hl hh
              refine c_seq ?_
              refine c_region ?_
              refine wl (wl_val hl rfl trivial (r_lss hl rfl rfl) ?_)
              clear hl a; intro a hl
              refine w_nil ?_
              have hl2 := hl.add (t := 9) (hl.add (t := 10) (hl.add (t := 71) (hl.add (t := 72) (hl.add (t := 73) (hl.add (t := 74) (hl.nil) rfl) rfl) rfl) rfl) rfl) rfl; clear hl; have hl := hl2; clear hl2
              refine then_normal ?_
              refine c_seq ?_
              refine c_cond hl rfl ?_ ?_
              · intro hc3
                try simp only [decide_eq_true_eq, decide_eq_false_iff_not, Bool.not_eq_true', Bool.not_eq_false', Bool.not_eq_true, Bool.not_eq_false, Bool.and_eq_true, Bool.or_eq_true, Bool.and_eq_false_iff, Bool.or_eq_false_iff, Bool.not_not, ne_eq, Int.not_lt, Int.not_le, Decidable.not_not, beq_iff_eq, bne_iff_ne] at hc3
                refine wp_skip ?_
                refine then_normal ?_
                refine c_seq ?_
                refine wp_block ?_
                refine c_seq ?_
                refine c_region ?_
                refine wl (wl_val hl rfl trivial (r_indexS hl rfl rfl slc78 (by omega) (by omega) (by first | (simp only [Int.reduceToNat]; rfl) | exact toNat_add1 _ | exact toNat_add2 _ _ | exact toNat_emod _ _ | exact Int.toNat_natCast _ | rfl)) ?_)
                clear hl a; intro a hl
                refine wl (w_load hl hh rfl trivial one4 rfl (by repeat (first | exact find_head | apply find_tail | apply find_skip)) (by first | exact bb_at i (by omega) | rfl) ?_)
                clear hl a; intro a hl
                refine wl (wl_val hl rfl trivial (r_assign hl rfl) ?_)
                clear hl a; intro a hl
                refine w_nil ?_
                have hl2 := hl.add (t := 9) (hl.add (t := 10) (hl.add (t := 12) (hl.add (t := 71) (hl.add (t := 72) (hl.add (t := 73) (hl.nil) rfl) rfl) rfl) rfl) rfl) rfl; clear hl; have hl := hl2; clear hl2
                rcases (show i = 0 ∨ i = 1 by omega) with rfl | rfl
                ·
                  skip
                  rw [show decide ((0 : Nat) = 1) = false from rfl] at hl
                  obtain ⟨mb, rfl⟩ : ∃ mb, mb = i0 := ⟨_, rfl⟩
                  obtain ⟨nb, rfl⟩ : ∃ nb, nb = j0 := ⟨_, rfl⟩
                  obtain ⟨MA, rfl⟩ : ∃ M, M = I0 := ⟨_, rfl⟩
                  obtain ⟨MB, rfl⟩ : ∃ M, M = O0 := ⟨_, rfl⟩
                  obtain ⟨fA, hTA, hTB⟩ := hf0
                  have hln := hTA.len hTB
                  refine then_normal ?_
                  refine c_seq ?_
                  refine c_seq ?_
                  refine c_region ?_
                  refine wl (wl_val hl rfl trivial (r_move hl rfl) ?_)
                  clear hl a; intro a hl
                  refine wl (wl_val hl rfl trivial (r_move hl rfl) ?_)
                  clear hl a; intro a hl
                  refine wl (w_lookup (keyBool Tryf.underlying4) Tryf.underlying75 zero79 hl hh rfl trivial rfl rfl (by repeat (first | exact find_head | apply find_tail | apply find_skip)) ?_)
                  clear hl a; intro a hl
                  first | rw [om_f] at hl | rw [om_t] at hl
                  refine wl (w_lenM Tryf.underlying79 hl hh rfl trivial rfl (by repeat (first | exact find_head | apply find_tail | apply find_skip)) ?_)
                  clear hl a; intro a hl
                  refine wl (wl_val hl rfl trivial (r_move hl rfl) ?_)
                  clear hl a; intro a hl
                  refine wl (wl_val hl rfl trivial (r_move hl rfl) ?_)
                  clear hl a; intro a hl
                  refine wl (w_lookup (keyBool Tryf.underlying4) Tryf.underlying75 zero79 hl hh rfl trivial rfl rfl (by repeat (first | exact find_head | apply find_tail | apply find_skip)) ?_)
                  clear hl a; intro a hl
                  first | rw [om_f] at hl | rw [om_t] at hl
                  refine wl (w_lenM Tryf.underlying79 hl hh rfl trivial rfl (by repeat (first | exact find_head | apply find_tail | apply find_skip)) ?_)
                  clear hl a; intro a hl
                  refine wl (wl_val hl rfl trivial (r_neq hl rfl rfl) ?_)
                  clear hl a; intro a hl
                  refine w_nil ?_
                  have hl2 := hl.add (t := 9) (hl.add (t := 10) (hl.add (t := 12) (hl.add (t := 71) (hl.add (t := 72) (hl.add (t := 73) (hl.add (t := 85) (hl.nil) rfl) rfl) rfl) rfl) rfl) rfl) rfl; clear hl; have hl := hl2; clear hl2
                  refine then_normal ?_
                  refine c_cond hl rfl ?_ ?_
                  · intro hc4
                    try simp only [decide_eq_true_eq, decide_eq_false_iff_not, Bool.not_eq_true', Bool.not_eq_false', Bool.not_eq_true, Bool.not_eq_false, Bool.and_eq_true, Bool.or_eq_true, Bool.and_eq_false_iff, Bool.or_eq_false_iff, Bool.not_not, ne_eq, Int.not_lt, Int.not_le, Decidable.not_not, beq_iff_eq, bne_iff_ne] at hc4
                    exfalso; first | omega | (simp at *; done)
                  · intro hc4
                    try simp only [decide_eq_true_eq, decide_eq_false_iff_not, Bool.not_eq_true', Bool.not_eq_false', Bool.not_eq_true, Bool.not_eq_false, Bool.and_eq_true, Bool.or_eq_true, Bool.and_eq_false_iff, Bool.or_eq_false_iff, Bool.not_not, ne_eq, Int.not_lt, Int.not_le, Decidable.not_not, beq_iff_eq, bne_iff_ne] at hc4
                    refine wp_skip ?_
                    refine then_normal ?_
                    refine c_seq ?_
                    refine c_region ?_
                    refine wl (wl_val hl rfl trivial (r_move hl rfl) ?_)
                    clear hl a; intro a hl
                    refine wl (wl_val hl rfl trivial (r_move hl rfl) ?_)
                    clear hl a; intro a hl
                    refine wl (w_lookup (keyBool Tryf.underlying4) Tryf.underlying75 zero79 hl hh rfl trivial rfl rfl (by repeat (first | exact find_head | apply find_tail | apply find_skip)) ?_)
                    clear hl a; intro a hl
                    first | rw [om_f] at hl | rw [om_t] at hl
                    refine wl (w_range Tryf.underlying79 hl hh rfl trivial rfl (by repeat (first | exact find_head | apply find_tail | apply find_skip)) ?_)
                    clear hl hh a w; intro k89 a w hl hh
                    refine w_nil ?_
                    have hl2 := hl.add (t := 9) (hl.add (t := 10) (hl.add (t := 12) (hl.add (t := 71) (hl.add (t := 72) (hl.add (t := 73) (hl.add (t := 89) (hl.nil) rfl) rfl) rfl) rfl) rfl) rfl) rfl; clear hl; have hl := hl2; clear hl2
                    refine then_normal ?_
                    refine wp_block ?_
                    obtain ⟨KS1, hKS1, hk⟩ := (hl.add (t := 9) (hl.add (t := 10) (hl.add (t := 12) (hl.add (t := 71) (hl.add (t := 72) (hl.add (t := 73) (hl.add (t := 89) (hl.nil) rfl) rfl) rfl) rfl) rfl) rfl) rfl).name
                    obtain ⟨HS1, hHS1, hh2⟩ := hh.name (keeps_cons (b := k89) (o' := IT mb MA.length []) (by repeat (first | exact find_head | apply find_tail | apply find_skip)) (by first | rfl) (keeps_nil))
                    refine c_loop (α := List Nat) (fun seen => MA.length - seen.length) (fun seen a w => (SeenOk MA.length seen) ∧ Sl 103 ([] ++ KS1) a ∧ Has _ w0 ([(k89, IT mb MA.length seen)] ++ HS1) w) [] ⟨SeenOk.start _, hk, hh2⟩ ?_
                    clear hk hh2 hl hh a w
                    intro seen a w hI
                    obtain ⟨hS, hl, hh⟩ := hI
                    subst hKS1; subst hHS1
                    simp only [List.cons_append, List.nil_append, List.append_nil, List.append_assoc] at hl hh
                    refine c_seq ?_
                    refine c_region ?_
                    refine wl (w_next hl hh rfl trivial rfl (by repeat (first | exact find_head | apply find_tail | apply find_skip)) (by repeat (first | exact find_head | apply find_tail | apply find_skip)) ?_ ?_)
                    ·
                      intro hall; clear hl a; intro a hl
                      refine wl (wl_val hl rfl trivial (r_extract hl rfl (by simp only [List.getElem?_toArray, List.getElem?_cons_zero, List.getElem?_cons_succ]; rfl)) ?_)
                      clear hl a; intro a hl
                      refine w_nil ?_
                      have hl2 := hl.add (t := 9) (hl.add (t := 10) (hl.add (t := 12) (hl.add (t := 71) (hl.add (t := 72) (hl.add (t := 73) (hl.add (t := 89) (hl.add (t := 91) (hl.nil) rfl) rfl) rfl) rfl) rfl) rfl) rfl) rfl; clear hl; have hl := hl2; clear hl2
                      refine then_normal ?_
                      refine c_seq ?_
                      refine c_condF hl rfl ?_
                      refine wp_exit ?_
                      refine then_exit ?_
                      refine then_exit ?_
                      refine blk_exit ?_
                      refine blk_normal ?_
                      refine then_normal ?_
                      refine c_region ?_
                      first | refine wl (wl_val hl rfl trivial (r_add hl rfl rfl (by simp only [Fits]; omega)) ?_) | refine wl (wl_val hl rfl trivial (r_addW hl rfl rfl) ?_)
                      clear hl a; intro a hl
                      refine wl (wl_val hl rfl trivial (r_move hl rfl) ?_)
                      clear hl a; intro a hl
                      refine w_nil ?_
                      have hl2 := hl.add (t := 9) (hl.add (t := 10) (hl.add (t := 71) (hl.add (t := 72) (hl.add (t := 73) (hl.nil) rfl) rfl) rfl) rfl) rfl; clear hl; have hl := hl2; clear hl2
                      refine then_normal ?_
                      first | refine ⟨0 + 1, (by omega), (by omega), hl.addE (t := 73) (hl.addE (t := 9) (hl.addE (t := 10) (hl.addE (t := 71) (hl.addE (t := 72) (hl.nil) rfl (by first | rfl | rfl)) rfl (by first | rfl | rfl)) rfl (by first | rfl | rfl)) rfl (by first | rfl | rfl)) rfl (by first | rfl | rfl), hh.keep (by repeat (first | exact keeps_nil | apply keeps_cons (by repeat (first | exact find_head | apply find_tail | apply find_skip)) (by first  | rfl) | exact keeps_self | exact keeps_left | apply keeps_app | apply keeps_mv | apply keeps_skip))⟩ | refine ⟨1 + 1, (by omega), (by omega), hl.addE (t := 73) (hl.addE (t := 9) (hl.addE (t := 10) (hl.addE (t := 71) (hl.addE (t := 72) (hl.nil) rfl (by first | rfl | rfl)) rfl (by first | rfl | rfl)) rfl (by first | rfl | rfl)) rfl (by first | rfl | rfl)) rfl (by first | rfl | rfl), hh.keep (by repeat (first | exact keeps_nil | apply keeps_cons (by repeat (first | exact find_head | apply find_tail | apply find_skip)) (by first  | rfl) | exact keeps_self | exact keeps_left | apply keeps_app | apply keeps_mv | apply keeps_skip))⟩
                    ·
                      intro j90 p90 hjn90 hn90; clear hl hh a w; intro a w hl hh
                      have hjl := (List.getElem?_eq_some_iff.1 hjn90).1
                      have hS2 := hS.next hjl hn90
                      have hval := hTA.at hjn90
                      obtain ⟨ke, ve⟩ := p90
                      dsimp only at hval
                      subst hval
                      refine wl (wl_val hl rfl trivial (r_extract hl rfl (by simp only [List.getElem?_toArray, List.getElem?_cons_zero, List.getElem?_cons_succ]; rfl)) ?_)
                      clear hl a; intro a hl
                      refine w_nil ?_
                      have hl2 := hl.add (t := 9) (hl.add (t := 10) (hl.add (t := 12) (hl.add (t := 71) (hl.add (t := 72) (hl.add (t := 73) (hl.add (t := 89) (hl.add (t := 91) (hl.nil) rfl) rfl) rfl) rfl) rfl) rfl) rfl) rfl; clear hl; have hl := hl2; clear hl2
                      refine then_normal ?_
                      refine c_seq ?_
                      refine c_condT hl rfl ?_
                      refine wp_skip ?_
                      refine then_normal ?_
                      refine wp_block ?_
                      refine c_seq ?_
                      refine c_region ?_
                      refine wl (w_entry hjn90 hl hh rfl trivial rfl (by repeat (first | exact find_head | apply find_tail | apply find_skip)) (by repeat (first | exact find_head | apply find_tail | apply find_skip)) ?_)
                      clear hl a; intro a hl
                      refine wl (wl_val hl rfl trivial (r_extract hl rfl (by simp only [List.getElem?_toArray, List.getElem?_cons_zero, List.getElem?_cons_succ]; rfl)) ?_)
                      clear hl a; intro a hl
                      rw [k81d] at hl
                      refine wl (wl_val hl rfl trivial (r_extract hl rfl (by simp only [List.getElem?_toArray, List.getElem?_cons_zero, List.getElem?_cons_succ]; rfl)) ?_)
                      clear hl a; intro a hl
                      refine wl (w_alloc hl hh rfl trivial zero81 rfl ?_)
                      clear hl hh a w; intro k13 a w hl hh
                      refine wl (w_storeA hl hh trivial agg81 rfl rfl (by repeat (first | exact find_head | apply find_tail | apply find_skip)) (by first | rfl | (simp; done)) (by first | (simp; done) | (simp; omega)) (by first | rfl | (simp; done)) (by first | (simp only [setL, List.getElem?_cons_zero, List.getElem?_cons_succ, Value.cells, List.take_zero, List.take_succ_cons, List.take_nil, List.drop_zero, List.drop_succ_cons, List.drop_nil, List.length_cons, List.length_nil, List.cons_append, List.nil_append, List.append_nil, Nat.zero_add, Nat.add_zero, Nat.reduceAdd, Nat.reduceBEq, Nat.reduceEqDiff, Nat.ble, BEq.rfl, Bool.and_true, Bool.and_self, cond_true, beq_self_eq_true]; rfl)) ?_)
                      clear hh w; intro w hh
                      refine wl (wl_val hl rfl trivial (r_assign hl rfl) ?_)
                      clear hl a; intro a hl
                      refine w_nil ?_
                      have hl2 := hl.add (t := 9) (hl.add (t := 10) (hl.add (t := 12) (hl.add (t := 13) (hl.add (t := 14) (hl.add (t := 71) (hl.add (t := 72) (hl.add (t := 73) (hl.add (t := 89) (hl.nil) rfl) rfl) rfl) rfl) rfl) rfl) rfl) rfl) rfl; clear hl; have hl := hl2; clear hl2
                      refine then_normal ?_
                      refine c_seq ?_
                      refine c_region ?_
                      refine wl (wl_val hl rfl trivial (r_move hl rfl) ?_)
                      clear hl a; intro a hl
                      refine wl (wl_val hl rfl trivial (r_move hl rfl) ?_)
                      clear hl a; intro a hl
                      refine wl (w_lookup (keyBool Tryf.underlying4) Tryf.underlying75 zero79 hl hh rfl trivial rfl rfl (by repeat (first | exact find_head | apply find_tail | apply find_skip)) ?_)
                      clear hl a; intro a hl
                      first | rw [om_f] at hl | rw [om_t] at hl | rw [hTB.val] at hl
                      refine wl (w_loadA hl hh rfl trivial agg81 rfl (by repeat (first | exact find_head | apply find_tail | apply find_skip)) (by first | (simp only [List.getElem?_cons_zero, List.getElem?_cons_succ, Value.cells, List.take_zero, List.take_succ_cons, List.take_nil, List.drop_zero, List.drop_succ_cons, List.drop_nil, List.length_cons, List.length_nil, List.cons_append, List.nil_append, List.append_nil, Nat.zero_add, Nat.add_zero, Nat.reduceAdd, Nat.reduceBEq, Nat.reduceEqDiff, Nat.ble, BEq.rfl, Bool.and_true, Bool.and_self, cond_true, beq_self_eq_true]; rfl)) (by first | rfl | (simp; done)) ?_)
                      clear hl a; intro a hl
                      rw [← k81d ke] at hl
                      refine wl (w_lookup key81 Tryf.underlying79 zero3 hl hh rfl trivial rfl rfl (by repeat (first | exact find_head | apply find_tail | apply find_skip)) ?_)
                      clear hl a; intro a hl
                      first | rw [om_f] at hl | rw [om_t] at hl | rw [hTB.val] at hl
                      refine wl (wl_val hl rfl trivial (r_move hl rfl) ?_)
                      clear hl a; intro a hl
                      refine wl (wl_val hl rfl trivial (r_neq hl rfl rfl) ?_)
                      clear hl a; intro a hl
                      refine w_nil ?_
                      have hl2 := hl.add (t := 9) (hl.add (t := 10) (hl.add (t := 12) (hl.add (t := 71) (hl.add (t := 72) (hl.add (t := 73) (hl.add (t := 89) (hl.add (t := 101) (hl.nil) rfl) rfl) rfl) rfl) rfl) rfl) rfl) rfl; clear hl; have hl := hl2; clear hl2
                      refine then_normal ?_
                      refine c_cond hl rfl ?_ ?_
                      · intro hc6
                        try simp only [decide_eq_true_eq, decide_eq_false_iff_not, Bool.not_eq_true', Bool.not_eq_false', Bool.not_eq_true, Bool.not_eq_false, Bool.and_eq_true, Bool.or_eq_true, Bool.and_eq_false_iff, Bool.or_eq_false_iff, Bool.not_not, ne_eq, Int.not_lt, Int.not_le, Decidable.not_not, beq_iff_eq, bne_iff_ne] at hc6
                        exfalso; first | omega | (simp at *; done)
                      · intro hc6
                        try simp only [decide_eq_true_eq, decide_eq_false_iff_not, Bool.not_eq_true', Bool.not_eq_false', Bool.not_eq_true, Bool.not_eq_false, Bool.and_eq_true, Bool.or_eq_true, Bool.and_eq_false_iff, Bool.or_eq_false_iff, Bool.not_not, ne_eq, Int.not_lt, Int.not_le, Decidable.not_not, beq_iff_eq, bne_iff_ne] at hc6
                        refine wp_skip ?_
                        refine blk_normal ?_
                        refine then_normal ?_
                        refine ⟨seen ++ [j90], (by have := hS2.len; rw [List.length_append] at this ⊢; simp only [List.length_cons, List.length_nil] at this ⊢; omega), hS2, hl.addE (t := 9) (hl.addE (t := 10) (hl.addE (t := 12) (hl.addE (t := 71) (hl.addE (t := 72) (hl.addE (t := 73) (hl.addE (t := 89) (hl.nil) rfl (by first | rfl | (congr 1; omega))) rfl (by first | rfl | (congr 1; omega))) rfl (by first | rfl | (congr 1; omega))) rfl (by first | rfl | (congr 1; omega))) rfl (by first | rfl | (congr 1; omega))) rfl (by first | rfl | (congr 1; omega))) rfl (by first | rfl | (congr 1; omega)), hh.keep (by repeat (first | exact keeps_nil | apply keeps_cons (by repeat (first | exact find_head | apply find_tail | apply find_skip)) (by first  | rfl) | exact keeps_self | exact keeps_left | apply keeps_app | apply keeps_mv | apply keeps_skip))⟩
                ·
                  skip
                  rw [show decide ((1 : Nat) = 1) = true from rfl] at hl
                  obtain ⟨mb, rfl⟩ : ∃ mb, mb = i1 := ⟨_, rfl⟩
                  obtain ⟨nb, rfl⟩ : ∃ nb, nb = j1 := ⟨_, rfl⟩
                  obtain ⟨MA, rfl⟩ : ∃ M, M = I1 := ⟨_, rfl⟩
                  obtain ⟨MB, rfl⟩ : ∃ M, M = O1 := ⟨_, rfl⟩
                  obtain ⟨fA, hTA, hTB⟩ := hf1
                  have hln := hTA.len hTB
                  refine then_normal ?_
                  refine c_seq ?_
                  refine c_seq ?_
                  refine c_region ?_
                  refine wl (wl_val hl rfl trivial (r_move hl rfl) ?_)
                  clear hl a; intro a hl
                  refine wl (wl_val hl rfl trivial (r_move hl rfl) ?_)
                  clear hl a; intro a hl
                  refine wl (w_lookup (keyBool Tryf.underlying4) Tryf.underlying75 zero79 hl hh rfl trivial rfl rfl (by repeat (first | exact find_head | apply find_tail | apply find_skip)) ?_)
                  clear hl a; intro a hl
                  first | rw [om_f] at hl | rw [om_t] at hl
                  refine wl (w_lenM Tryf.underlying79 hl hh rfl trivial rfl (by repeat (first | exact find_head | apply find_tail | apply find_skip)) ?_)
                  clear hl a; intro a hl
                  refine wl (wl_val hl rfl trivial (r_move hl rfl) ?_)
                  clear hl a; intro a hl
                  refine wl (wl_val hl rfl trivial (r_move hl rfl) ?_)
                  clear hl a; intro a hl
                  refine wl (w_lookup (keyBool Tryf.underlying4) Tryf.underlying75 zero79 hl hh rfl trivial rfl rfl (by repeat (first | exact find_head | apply find_tail | apply find_skip)) ?_)
                  clear hl a; intro a hl
                  first | rw [om_f] at hl | rw [om_t] at hl
                  refine wl (w_lenM Tryf.underlying79 hl hh rfl trivial rfl (by repeat (first | exact find_head | apply find_tail | apply find_skip)) ?_)
                  clear hl a; intro a hl
                  refine wl (wl_val hl rfl trivial (r_neq hl rfl rfl) ?_)
                  clear hl a; intro a hl
                  refine w_nil ?_
                  have hl2 := hl.add (t := 9) (hl.add (t := 10) (hl.add (t := 12) (hl.add (t := 71) (hl.add (t := 72) (hl.add (t := 73) (hl.add (t := 85) (hl.nil) rfl) rfl) rfl) rfl) rfl) rfl) rfl; clear hl; have hl := hl2; clear hl2
                  refine then_normal ?_
                  refine c_cond hl rfl ?_ ?_
                  · intro hc4
                    try simp only [decide_eq_true_eq, decide_eq_false_iff_not, Bool.not_eq_true', Bool.not_eq_false', Bool.not_eq_true, Bool.not_eq_false, Bool.and_eq_true, Bool.or_eq_true, Bool.and_eq_false_iff, Bool.or_eq_false_iff, Bool.not_not, ne_eq, Int.not_lt, Int.not_le, Decidable.not_not, beq_iff_eq, bne_iff_ne] at hc4
                    exfalso; first | omega | (simp at *; done)
                  · intro hc4
                    try simp only [decide_eq_true_eq, decide_eq_false_iff_not, Bool.not_eq_true', Bool.not_eq_false', Bool.not_eq_true, Bool.not_eq_false, Bool.and_eq_true, Bool.or_eq_true, Bool.and_eq_false_iff, Bool.or_eq_false_iff, Bool.not_not, ne_eq, Int.not_lt, Int.not_le, Decidable.not_not, beq_iff_eq, bne_iff_ne] at hc4
                    refine wp_skip ?_
                    refine then_normal ?_
                    refine c_seq ?_
                    refine c_region ?_
                    refine wl (wl_val hl rfl trivial (r_move hl rfl) ?_)
                    clear hl a; intro a hl
                    refine wl (wl_val hl rfl trivial (r_move hl rfl) ?_)
                    clear hl a; intro a hl
                    refine wl (w_lookup (keyBool Tryf.underlying4) Tryf.underlying75 zero79 hl hh rfl trivial rfl rfl (by repeat (first | exact find_head | apply find_tail | apply find_skip)) ?_)
                    clear hl a; intro a hl
                    first | rw [om_f] at hl | rw [om_t] at hl
                    refine wl (w_range Tryf.underlying79 hl hh rfl trivial rfl (by repeat (first | exact find_head | apply find_tail | apply find_skip)) ?_)
                    clear hl hh a w; intro k89 a w hl hh
                    refine w_nil ?_
                    have hl2 := hl.add (t := 9) (hl.add (t := 10) (hl.add (t := 12) (hl.add (t := 71) (hl.add (t := 72) (hl.add (t := 73) (hl.add (t := 89) (hl.nil) rfl) rfl) rfl) rfl) rfl) rfl) rfl; clear hl; have hl := hl2; clear hl2
                    refine then_normal ?_
                    refine wp_block ?_
                    obtain ⟨KS1, hKS1, hk⟩ := (hl.add (t := 9) (hl.add (t := 10) (hl.add (t := 12) (hl.add (t := 71) (hl.add (t := 72) (hl.add (t := 73) (hl.add (t := 89) (hl.nil) rfl) rfl) rfl) rfl) rfl) rfl) rfl).name
                    obtain ⟨HS1, hHS1, hh2⟩ := hh.name (keeps_cons (b := k89) (o' := IT mb MA.length []) (by repeat (first | exact find_head | apply find_tail | apply find_skip)) (by first | rfl) (keeps_nil))
                    refine c_loop (α := List Nat) (fun seen => MA.length - seen.length) (fun seen a w => (SeenOk MA.length seen) ∧ Sl 103 ([] ++ KS1) a ∧ Has _ w0 ([(k89, IT mb MA.length seen)] ++ HS1) w) [] ⟨SeenOk.start _, hk, hh2⟩ ?_
                    clear hk hh2 hl hh a w
                    intro seen a w hI
                    obtain ⟨hS, hl, hh⟩ := hI
                    subst hKS1; subst hHS1
                    simp only [List.cons_append, List.nil_append, List.append_nil, List.append_assoc] at hl hh
                    refine c_seq ?_
                    refine c_region ?_
                    refine wl (w_next hl hh rfl trivial rfl (by repeat (first | exact find_head | apply find_tail | apply find_skip)) (by repeat (first | exact find_head | apply find_tail | apply find_skip)) ?_ ?_)
                    ·
                      intro hall; clear hl a; intro a hl
                      refine wl (wl_val hl rfl trivial (r_extract hl rfl (by simp only [List.getElem?_toArray, List.getElem?_cons_zero, List.getElem?_cons_succ]; rfl)) ?_)
                      clear hl a; intro a hl
                      refine w_nil ?_
                      have hl2 := hl.add (t := 9) (hl.add (t := 10) (hl.add (t := 12) (hl.add (t := 71) (hl.add (t := 72) (hl.add (t := 73) (hl.add (t := 89) (hl.add (t := 91) (hl.nil) rfl) rfl) rfl) rfl) rfl) rfl) rfl) rfl; clear hl; have hl := hl2; clear hl2
                      refine then_normal ?_
                      refine c_seq ?_
                      refine c_condF hl rfl ?_
                      refine wp_exit ?_
                      refine then_exit ?_
                      refine then_exit ?_
                      refine blk_exit ?_
                      refine blk_normal ?_
                      refine then_normal ?_
                      refine c_region ?_
                      first | refine wl (wl_val hl rfl trivial (r_add hl rfl rfl (by simp only [Fits]; omega)) ?_) | refine wl (wl_val hl rfl trivial (r_addW hl rfl rfl) ?_)
                      clear hl a; intro a hl
                      refine wl (wl_val hl rfl trivial (r_move hl rfl) ?_)
                      clear hl a; intro a hl
                      refine w_nil ?_
                      have hl2 := hl.add (t := 9) (hl.add (t := 10) (hl.add (t := 71) (hl.add (t := 72) (hl.add (t := 73) (hl.nil) rfl) rfl) rfl) rfl) rfl; clear hl; have hl := hl2; clear hl2
                      refine then_normal ?_
                      first | refine ⟨0 + 1, (by omega), (by omega), hl.addE (t := 73) (hl.addE (t := 9) (hl.addE (t := 10) (hl.addE (t := 71) (hl.addE (t := 72) (hl.nil) rfl (by first | rfl | rfl)) rfl (by first | rfl | rfl)) rfl (by first | rfl | rfl)) rfl (by first | rfl | rfl)) rfl (by first | rfl | rfl), hh.keep (by repeat (first | exact keeps_nil | apply keeps_cons (by repeat (first | exact find_head | apply find_tail | apply find_skip)) (by first  | rfl) | exact keeps_self | exact keeps_left | apply keeps_app | apply keeps_mv | apply keeps_skip))⟩ | refine ⟨1 + 1, (by omega), (by omega), hl.addE (t := 73) (hl.addE (t := 9) (hl.addE (t := 10) (hl.addE (t := 71) (hl.addE (t := 72) (hl.nil) rfl (by first | rfl | rfl)) rfl (by first | rfl | rfl)) rfl (by first | rfl | rfl)) rfl (by first | rfl | rfl)) rfl (by first | rfl | rfl), hh.keep (by repeat (first | exact keeps_nil | apply keeps_cons (by repeat (first | exact find_head | apply find_tail | apply find_skip)) (by first  | rfl) | exact keeps_self | exact keeps_left | apply keeps_app | apply keeps_mv | apply keeps_skip))⟩
                    ·
                      intro j90 p90 hjn90 hn90; clear hl hh a w; intro a w hl hh
                      have hjl := (List.getElem?_eq_some_iff.1 hjn90).1
                      have hS2 := hS.next hjl hn90
                      have hval := hTA.at hjn90
                      obtain ⟨ke, ve⟩ := p90
                      dsimp only at hval
                      subst hval
                      refine wl (wl_val hl rfl trivial (r_extract hl rfl (by simp only [List.getElem?_toArray, List.getElem?_cons_zero, List.getElem?_cons_succ]; rfl)) ?_)
                      clear hl a; intro a hl
                      refine w_nil ?_
                      have hl2 := hl.add (t := 9) (hl.add (t := 10) (hl.add (t := 12) (hl.add (t := 71) (hl.add (t := 72) (hl.add (t := 73) (hl.add (t := 89) (hl.add (t := 91) (hl.nil) rfl) rfl) rfl) rfl) rfl) rfl) rfl) rfl; clear hl; have hl := hl2; clear hl2
                      refine then_normal ?_
                      refine c_seq ?_
                      refine c_condT hl rfl ?_
                      refine wp_skip ?_
                      refine then_normal ?_
                      refine wp_block ?_
                      refine c_seq ?_
                      refine c_region ?_
                      refine wl (w_entry hjn90 hl hh rfl trivial rfl (by repeat (first | exact find_head | apply find_tail | apply find_skip)) (by repeat (first | exact find_head | apply find_tail | apply find_skip)) ?_)
                      clear hl a; intro a hl
                      refine wl (wl_val hl rfl trivial (r_extract hl rfl (by simp only [List.getElem?_toArray, List.getElem?_cons_zero, List.getElem?_cons_succ]; rfl)) ?_)
                      clear hl a; intro a hl
                      rw [k81d] at hl
                      refine wl (wl_val hl rfl trivial (r_extract hl rfl (by simp only [List.getElem?_toArray, List.getElem?_cons_zero, List.getElem?_cons_succ]; rfl)) ?_)
                      clear hl a; intro a hl
                      refine wl (w_alloc hl hh rfl trivial zero81 rfl ?_)
                      clear hl hh a w; intro k13 a w hl hh
                      refine wl (w_storeA hl hh trivial agg81 rfl rfl (by repeat (first | exact find_head | apply find_tail | apply find_skip)) (by first | rfl | (simp; done)) (by first | (simp; done) | (simp; omega)) (by first | rfl | (simp; done)) (by first | (simp only [setL, List.getElem?_cons_zero, List.getElem?_cons_succ, Value.cells, List.take_zero, List.take_succ_cons, List.take_nil, List.drop_zero, List.drop_succ_cons, List.drop_nil, List.length_cons, List.length_nil, List.cons_append, List.nil_append, List.append_nil, Nat.zero_add, Nat.add_zero, Nat.reduceAdd, Nat.reduceBEq, Nat.reduceEqDiff, Nat.ble, BEq.rfl, Bool.and_true, Bool.and_self, cond_true, beq_self_eq_true]; rfl)) ?_)
                      clear hh w; intro w hh
                      refine wl (wl_val hl rfl trivial (r_assign hl rfl) ?_)
                      clear hl a; intro a hl
                      refine w_nil ?_
                      have hl2 := hl.add (t := 9) (hl.add (t := 10) (hl.add (t := 12) (hl.add (t := 13) (hl.add (t := 14) (hl.add (t := 71) (hl.add (t := 72) (hl.add (t := 73) (hl.add (t := 89) (hl.nil) rfl) rfl) rfl) rfl) rfl) rfl) rfl) rfl) rfl; clear hl; have hl := hl2; clear hl2
                      refine then_normal ?_
                      refine c_seq ?_
                      refine c_region ?_
                      refine wl (wl_val hl rfl trivial (r_move hl rfl) ?_)
                      clear hl a; intro a hl
                      refine wl (wl_val hl rfl trivial (r_move hl rfl) ?_)
                      clear hl a; intro a hl
                      refine wl (w_lookup (keyBool Tryf.underlying4) Tryf.underlying75 zero79 hl hh rfl trivial rfl rfl (by repeat (first | exact find_head | apply find_tail | apply find_skip)) ?_)
                      clear hl a; intro a hl
                      first | rw [om_f] at hl | rw [om_t] at hl | rw [hTB.val] at hl
                      refine wl (w_loadA hl hh rfl trivial agg81 rfl (by repeat (first | exact find_head | apply find_tail | apply find_skip)) (by first | (simp only [List.getElem?_cons_zero, List.getElem?_cons_succ, Value.cells, List.take_zero, List.take_succ_cons, List.take_nil, List.drop_zero, List.drop_succ_cons, List.drop_nil, List.length_cons, List.length_nil, List.cons_append, List.nil_append, List.append_nil, Nat.zero_add, Nat.add_zero, Nat.reduceAdd, Nat.reduceBEq, Nat.reduceEqDiff, Nat.ble, BEq.rfl, Bool.and_true, Bool.and_self, cond_true, beq_self_eq_true]; rfl)) (by first | rfl | (simp; done)) ?_)
                      clear hl a; intro a hl
                      rw [← k81d ke] at hl
                      refine wl (w_lookup key81 Tryf.underlying79 zero3 hl hh rfl trivial rfl rfl (by repeat (first | exact find_head | apply find_tail | apply find_skip)) ?_)
                      clear hl a; intro a hl
                      first | rw [om_f] at hl | rw [om_t] at hl | rw [hTB.val] at hl
                      refine wl (wl_val hl rfl trivial (r_move hl rfl) ?_)
                      clear hl a; intro a hl
                      refine wl (wl_val hl rfl trivial (r_neq hl rfl rfl) ?_)
                      clear hl a; intro a hl
                      refine w_nil ?_
                      have hl2 := hl.add (t := 9) (hl.add (t := 10) (hl.add (t := 12) (hl.add (t := 71) (hl.add (t := 72) (hl.add (t := 73) (hl.add (t := 89) (hl.add (t := 101) (hl.nil) rfl) rfl) rfl) rfl) rfl) rfl) rfl) rfl; clear hl; have hl := hl2; clear hl2
                      refine then_normal ?_
                      refine c_cond hl rfl ?_ ?_
                      · intro hc6
                        try simp only [decide_eq_true_eq, decide_eq_false_iff_not, Bool.not_eq_true', Bool.not_eq_false', Bool.not_eq_true, Bool.not_eq_false, Bool.and_eq_true, Bool.or_eq_true, Bool.and_eq_false_iff, Bool.or_eq_false_iff, Bool.not_not, ne_eq, Int.not_lt, Int.not_le, Decidable.not_not, beq_iff_eq, bne_iff_ne] at hc6
                        exfalso; first | omega | (simp at *; done)
                      · intro hc6
                        try simp only [decide_eq_true_eq, decide_eq_false_iff_not, Bool.not_eq_true', Bool.not_eq_false', Bool.not_eq_true, Bool.not_eq_false, Bool.and_eq_true, Bool.or_eq_true, Bool.and_eq_false_iff, Bool.or_eq_false_iff, Bool.not_not, ne_eq, Int.not_lt, Int.not_le, Decidable.not_not, beq_iff_eq, bne_iff_ne] at hc6
                        refine wp_skip ?_
                        refine blk_normal ?_
                        refine then_normal ?_
                        refine ⟨seen ++ [j90], (by have := hS2.len; rw [List.length_append] at this ⊢; simp only [List.length_cons, List.length_nil] at this ⊢; omega), hS2, hl.addE (t := 9) (hl.addE (t := 10) (hl.addE (t := 12) (hl.addE (t := 71) (hl.addE (t := 72) (hl.addE (t := 73) (hl.addE (t := 89) (hl.nil) rfl (by first | rfl | (congr 1; omega))) rfl (by first | rfl | (congr 1; omega))) rfl (by first | rfl | (congr 1; omega))) rfl (by first | rfl | (congr 1; omega))) rfl (by first | rfl | (congr 1; omega))) rfl (by first | rfl | (congr 1; omega))) rfl (by first | rfl | (congr 1; omega)), hh.keep (by repeat (first | exact keeps_nil | apply keeps_cons (by repeat (first | exact find_head | apply find_tail | apply find_skip)) (by first  | rfl) | exact keeps_self | exact keeps_left | apply keeps_app | apply keeps_mv | apply keeps_skip))⟩
              · intro hc3
                try simp only [decide_eq_true_eq, decide_eq_false_iff_not, Bool.not_eq_true', Bool.not_eq_false', Bool.not_eq_true, Bool.not_eq_false, Bool.and_eq_true, Bool.or_eq_true, Bool.and_eq_false_iff, Bool.or_eq_false_iff, Bool.not_not, ne_eq, Int.not_lt, Int.not_le, Decidable.not_not, beq_iff_eq, bne_iff_ne] at hc3
                refine wp_exit ?_
                refine then_exit ?_
                refine then_exit ?_
                refine blk_exit ?_
                refine then_normal ?_
                refine c_seq ?_
                refine c_region ?_
                refine wl (wl_val hl rfl trivial (r_assign hl rfl) ?_)
                clear hl a; intro a hl
                refine w_nil ?_
                have hl2 := hl.add (t := 2) (hl.nil) rfl; clear hl; have hl := hl2; clear hl2
                refine then_normal ?_
                refine wp_ret ?_
                refine f_ret1 (F' := []) hl hh rfl rfl (by repeat (first | exact keeps_nil | apply keeps_cons (by repeat (first | exact find_head | apply find_tail | apply find_skip)) (by first  | rfl) | exact keeps_self | exact keeps_left | apply keeps_app | apply keeps_mv | apply keeps_skip)) ?_
                exact ⟨rfl, rfl⟩
        ·
          try clear hM
          refine id (w_alloc hl hh rfl trivial zero66 rfl ?_)
          clear hl hh a w; intro k7 a w hl hh
          have hM : Mem [(k3, C [.pointer (some ⟨wb, 0, none⟩)] 24), (wb, C [.pointer (some ⟨b, 0, none⟩), .pointer (some ⟨kb, 0, none⟩), .int .u64 ((65536 + hd false : Nat) : Int), .int .u64 ((65536 + nd false 0 : Nat) : Int), .int .u64 ((65536 + nd false 1 : Nat) : Int), .int .u64 ((65536 + nd false 2 : Nat) : Int), .int .u64 ((65536 + nd false 3 : Nat) : Int), .int .u64 ((65536 + nd false 4 : Nat) : Int), .int .u64 ((65536 + nd false 5 : Nat) : Int), .int .u64 ((65536 + nd false 6 : Nat) : Int), .int .i64 (wd false : Int), .int .u64 ((65536 + hd true : Nat) : Int), .int .u64 ((65536 + nd true 0 : Nat) : Int), .int .u64 ((65536 + nd true 1 : Nat) : Int), .int .u64 ((65536 + nd true 2 : Nat) : Int), .int .u64 ((65536 + nd true 3 : Nat) : Int), .int .u64 ((65536 + nd true 4 : Nat) : Int), .int .u64 ((65536 + nd true 5 : Nat) : Int), .int .u64 ((65536 + nd true 6 : Nat) : Int), .int .i64 (wd true : Int)] 58)] w := (memK hh (by repeat (first | exact keeps_nil | apply keeps_cons (by repeat (first | exact find_head | apply find_tail | apply find_skip)) (by first  | rfl) | exact keeps_self | exact keeps_left | apply keeps_app | apply keeps_mv | apply keeps_skip)))
          refine d_step (fun _ => hM) ?_
          refine d_one (i := 8) (by kernel_rfl) rfl ?_
          try clear hM
          refine id (w_call hl hh rfl trivial rfl cal16 rfl (viewB_spec b W2.m r2 n2 sp2 hv2 (vw_hso hs2 hv2 hcr2)) (by repeat (first | exact keeps_nil | apply keeps_cons (by repeat (first | exact find_head | apply find_tail | apply find_skip)) (by first  | rfl) | exact keeps_self | exact keeps_left | apply keeps_app | apply keeps_mv | apply keeps_skip)) trivial ?_)
          clear hl hh a w; intro vc Fc a w hR hl hh
          obtain ⟨lvB, EB, hrowB, rfl, rfl⟩ := hR
          try simp only [List.cons_append, List.nil_append, List.append_assoc, List.append_nil] at hh
          try simp only [List.cons_append, List.nil_append, List.append_nil, List.append_assoc] at hh
          have hone : lvB.oneCell' = true := hrowB.one
          obtain ⟨pB, cB, rfl, hRB⟩ := vw_row hv2 hcr2 hrowB
          have hh5 := has_tail1 hh; clear hh; have hh := hh5; clear hh5
          try simp only [List.cons_append, List.nil_append, List.append_nil, List.append_assoc] at hh
          have hM : Mem [(k3, C [.pointer (some ⟨wb, 0, none⟩)] 24), (wb, C [.pointer (some ⟨b, 0, none⟩), .pointer (some ⟨kb, 0, none⟩), .int .u64 ((65536 + hd false : Nat) : Int), .int .u64 ((65536 + nd false 0 : Nat) : Int), .int .u64 ((65536 + nd false 1 : Nat) : Int), .int .u64 ((65536 + nd false 2 : Nat) : Int), .int .u64 ((65536 + nd false 3 : Nat) : Int), .int .u64 ((65536 + nd false 4 : Nat) : Int), .int .u64 ((65536 + nd false 5 : Nat) : Int), .int .u64 ((65536 + nd false 6 : Nat) : Int), .int .i64 (wd false : Int), .int .u64 ((65536 + hd true : Nat) : Int), .int .u64 ((65536 + nd true 0 : Nat) : Int), .int .u64 ((65536 + nd true 1 : Nat) : Int), .int .u64 ((65536 + nd true 2 : Nat) : Int), .int .u64 ((65536 + nd true 3 : Nat) : Int), .int .u64 ((65536 + nd true 4 : Nat) : Int), .int .u64 ((65536 + nd true 5 : Nat) : Int), .int .u64 ((65536 + nd true 6 : Nat) : Int), .int .i64 (wd true : Int)] 58)] w := (memK hh (by repeat (first | exact keeps_nil | apply keeps_cons (by repeat (first | exact find_head | apply find_tail | apply find_skip)) (by first  | rfl) | exact keeps_self | exact keeps_left | apply keeps_app | apply keeps_mv | apply keeps_skip)))
          refine d_step (fun _ => hM) ?_
          refine d_take (i := 9) hl rfl (by kernel_rfl) (by kernel_rfl) (by kernel_rfl) (by kernel_rfl) (by kernel_rfl) rfl trivial (fun _ _ _ h => h) hM (fun w hC => r_move hl rfl) rfl ?_
          clear hl a; intro a hl
          refine d_take (i := 10) hl rfl (by kernel_rfl) (by kernel_rfl) (by kernel_rfl) (by kernel_rfl) (by kernel_rfl) rfl trivial (fun _ _ _ h => h) hM (fun w hC => r_extract hl rfl (by simp only [List.getElem?_toArray, List.getElem?_cons_zero, List.getElem?_cons_succ]; rfl)) rfl ?_
          clear hl a; intro a hl
          refine d_take (i := 11) hl rfl (by kernel_rfl) (by kernel_rfl) (by kernel_rfl) (by kernel_rfl) (by kernel_rfl) rfl trivial (fun _ _ _ h => h) hM (fun w hC => r_extract hl rfl (by simp only [List.getElem?_toArray, List.getElem?_cons_zero, List.getElem?_cons_succ]; rfl)) rfl ?_
          clear hl a; intro a hl
          refine d_one (i := 13) (by kernel_rfl) rfl ?_
          try clear hM
          refine id (w_storeA hl hh trivial agg66 rfl rfl (by repeat (first | exact find_head | apply find_tail | apply find_skip)) (by first | rfl | rw [arrL_length]) (by first | (show 0 + 9 ≤ 9; decide) | (simp; done) | (rw [arrL_length, arrL_length]; decide)) (by first | rfl | exact arrL_one (vw_one _ _ _ _ _ hone)) (by first | exact setL_all _ _ rfl | exact setL_all _ _ (by rw [arrL_length]; rfl) | exact setL_all _ _ (by rw [arrL_length, arrL_length])) ?_)
          clear hh w; intro w hh
          have hM : Mem [(k3, C [.pointer (some ⟨wb, 0, none⟩)] 24), (wb, C [.pointer (some ⟨b, 0, none⟩), .pointer (some ⟨kb, 0, none⟩), .int .u64 ((65536 + hd false : Nat) : Int), .int .u64 ((65536 + nd false 0 : Nat) : Int), .int .u64 ((65536 + nd false 1 : Nat) : Int), .int .u64 ((65536 + nd false 2 : Nat) : Int), .int .u64 ((65536 + nd false 3 : Nat) : Int), .int .u64 ((65536 + nd false 4 : Nat) : Int), .int .u64 ((65536 + nd false 5 : Nat) : Int), .int .u64 ((65536 + nd false 6 : Nat) : Int), .int .i64 (wd false : Int), .int .u64 ((65536 + hd true : Nat) : Int), .int .u64 ((65536 + nd true 0 : Nat) : Int), .int .u64 ((65536 + nd true 1 : Nat) : Int), .int .u64 ((65536 + nd true 2 : Nat) : Int), .int .u64 ((65536 + nd true 3 : Nat) : Int), .int .u64 ((65536 + nd true 4 : Nat) : Int), .int .u64 ((65536 + nd true 5 : Nat) : Int), .int .u64 ((65536 + nd true 6 : Nat) : Int), .int .i64 (wd true : Int)] 58)] w := (memK hh (by repeat (first | exact keeps_nil | apply keeps_cons (by repeat (first | exact find_head | apply find_tail | apply find_skip)) (by first  | rfl) | exact keeps_self | exact keeps_left | apply keeps_app | apply keeps_mv | apply keeps_skip)))
          refine d_step (fun _ => hM) ?_
          refine d_takeL (i := 14) hl rfl (by kernel_rfl) (by kernel_rfl) (by kernel_rfl) (by kernel_rfl) (by kernel_rfl) rfl trivial (fun _ _ _ h => h) (fun w => r_assign hl rfl) rfl ?_
          clear hl a; intro a hl
          refine d_done (by kernel_rfl) ?_
          try clear hM
          have hl2 := hl.add (t := 3) (hl.add (t := 4) (hl.add (t := 5) (hl.add (t := 6) (hl.add (t := 7) (hl.add (t := 8) (hl.nil) rfl) rfl) rfl) rfl) rfl) rfl; clear hl; have hl := hl2; clear hl2
          refine then_normal ?_
          refine c_seq ?_
          refine c_seq ?_
          refine c_region ?_
          refine wl (wl_val hl rfl trivial (r_move hl rfl) ?_)
          clear hl a; intro a hl
          refine wl (w_loadA hl hh rfl trivial agg66 rfl (by repeat (first | exact find_head | apply find_tail | apply find_skip)) (by exact arrL_all _ _) (by first | rfl | rw [arrL_length]) ?_)
          clear hl a; intro a hl
          refine wl (wl_val hl rfl trivial (r_move hl rfl) ?_)
          clear hl a; intro a hl
          refine wl (w_call hl hh rfl trivial rfl cal14 rfl (same_false wb b kb k3 W2 _ ED _ _ (r1 % 256) sp1 pD cD hv1.r7 (fun t ht => (hv1.sp t ht).2) ha1.1 ha1.2 hW2b hG2 (by omega) hi2 rfl hRD) (by repeat (first | exact keeps_nil | apply keeps_cons (by repeat (first | exact find_head | apply find_tail | apply find_skip)) (by first  | rfl) | exact keeps_self | exact keeps_left | apply keeps_app | apply keeps_mv | apply keeps_skip)) trivial ?_)
          clear hl hh a w; intro vc Fc a w hR hl hh
          obtain ⟨rfl, W3, F3, hG3, hLW3, hi3, hW3, hc3a, hco3, hlp3, rfl⟩ := hR
          try simp only [List.cons_append, List.nil_append, List.append_assoc, List.append_nil] at hh
          try simp only [List.cons_append, List.nil_append, List.append_nil, List.append_assoc] at hh
          replace hh := has_mid2 hh
          refine wl (wl_val hl rfl trivial (r_not hl rfl) ?_)
          clear hl a; intro a hl
          refine wl (wl_val hl rfl trivial (r_move hl rfl) ?_)
          clear hl a; intro a hl
          refine sl_split (t := 53) hl rfl ?_ ?_
          · intro hg4; clear hl; intro hl
            try simp only [decide_eq_true_eq, decide_eq_false_iff_not, Bool.not_eq_true', Bool.not_eq_false', Bool.not_eq_true, Bool.not_eq_false, Bool.and_eq_true, Bool.or_eq_true, Bool.and_eq_false_iff, Bool.or_eq_false_iff, Bool.not_not, ne_eq, Int.not_lt, Int.not_le, Decidable.not_not, beq_iff_eq, bne_iff_ne] at hg4
            exfalso; first | omega | (simp at *; done)
          · intro hg4; clear hl; intro hl
            try simp only [decide_eq_true_eq, decide_eq_false_iff_not, Bool.not_eq_true', Bool.not_eq_false', Bool.not_eq_true, Bool.not_eq_false, Bool.and_eq_true, Bool.or_eq_true, Bool.and_eq_false_iff, Bool.or_eq_false_iff, Bool.not_not, ne_eq, Int.not_lt, Int.not_le, Decidable.not_not, beq_iff_eq, bne_iff_ne] at hg4
            refine wl (wl_val hl rfl ⟨_, _, rfl, rfl, rfl⟩ (r_move hl rfl) ?_)
            clear hl a; intro a hl
            refine wl (w_loadA hl hh rfl ⟨_, _, rfl, rfl, rfl⟩ agg66 rfl (by repeat (first | exact find_head | apply find_tail | apply find_skip)) (by exact arrL_all _ _) (by first | rfl | rw [arrL_length]) ?_)
            clear hl a; intro a hl
            refine wl (wl_val hl rfl ⟨_, _, rfl, rfl, rfl⟩ (r_move hl rfl) ?_)
            clear hl a; intro a hl
            refine wl (w_call hl hh rfl ⟨_, _, rfl, rfl, rfl⟩ rfl cal14 rfl (same_true wb b kb k3 W3 F3 EB _ _ (r2 % 256) sp2 pB cB hv2.r7 (fun t ht => (hv2.sp t ht).2) ha2.1 ha2.2 hW3 hG3 (by omega) hi3 hco3 hRB) (by repeat (first | exact keeps_nil | apply keeps_cons (by repeat (first | exact find_head | apply find_tail | apply find_skip)) (by first  | rfl) | exact keeps_self | exact keeps_left | apply keeps_app | apply keeps_mv | apply keeps_skip)) trivial ?_)
            clear hl hh a w; intro vc Fc a w hR hl hh
            obtain ⟨rfl, W4, F4, hG4, hLW4, hi4, hW4, hc4a, hco4, hlp4, rfl⟩ := hR
            try simp only [List.cons_append, List.nil_append, List.append_assoc, List.append_nil] at hh
            have hL4 : LW W4 ≤ 1000100 := by omega
            have hlg4 := (hG4.2 hL4).2.2.log
            have hLl : W4.log.length ≤ 1000100 := by (unfold LW at hL4; omega)
            obtain ⟨q, lv, E4, hrow4, rfl⟩ := hW4
            rcases hrow4 with ⟨_, qq, _, _⟩ | ⟨lb, cap9, junk, r1, r2, r3, r4, rfl⟩
            · exfalso; omega
            have hpr := progs_none q W4.run hi4
            rw [hpr] at hh
            try simp only [List.cons_append, List.nil_append, List.append_nil, List.append_assoc] at hh
            refine wl (wl_val hl rfl ⟨_, _, rfl, rfl, rfl⟩ (r_not hl rfl) ?_)
            clear hl a; intro a hl
            refine wl (wl_val hl rfl trivial (r_pickF hl rfl rfl) ?_)
            clear hl a; intro a hl
            refine w_nil ?_
            have hl2 := hl.add (t := 3) (hl.add (t := 59) (hl.nil) rfl) rfl; clear hl; have hl := hl2; clear hl2
            refine then_normal ?_
            refine c_cond hl rfl ?_ ?_
            · intro hc2
              try simp only [decide_eq_true_eq, decide_eq_false_iff_not, Bool.not_eq_true', Bool.not_eq_false', Bool.not_eq_true, Bool.not_eq_false, Bool.and_eq_true, Bool.or_eq_true, Bool.and_eq_false_iff, Bool.or_eq_false_iff, Bool.not_not, ne_eq, Int.not_lt, Int.not_le, Decidable.not_not, beq_iff_eq, bne_iff_ne] at hc2
              exfalso; first | omega | (simp at *; done)
            · intro hc2
              try simp only [decide_eq_true_eq, decide_eq_false_iff_not, Bool.not_eq_true', Bool.not_eq_false', Bool.not_eq_true, Bool.not_eq_false, Bool.and_eq_true, Bool.or_eq_true, Bool.and_eq_false_iff, Bool.or_eq_false_iff, Bool.not_not, ne_eq, Int.not_lt, Int.not_le, Decidable.not_not, beq_iff_eq, bne_iff_ne] at hc2
              refine wp_skip ?_
              refine then_normal ?_
              refine c_seq ?_
              refine c_region ?_
              refine wl (w_load hl hh rfl trivial one24 rfl (by repeat (first | exact find_head | apply find_tail | apply find_skip)) (by first | exact bb_at i (by omega) | rfl) ?_)
              clear hl a; intro a hl
              refine wl (wl_val hl rfl trivial (r_nilCheck hl rfl) ?_)
              clear hl a; intro a hl
              refine wl (wl_val hl rfl trivial (r_field hl rfl fld58_1) ?_)
              clear hl a; intro a hl
              refine wl (w_load hl hh rfl trivial one49 rfl (by repeat (first | exact find_head | apply find_tail | apply find_skip)) (by first | exact bb_at i (by omega) | rfl) ?_)
              clear hl a; intro a hl
              refine wl (wl_val hl rfl trivial (r_nilCheck hl rfl) ?_)
              clear hl a; intro a hl
              refine wl (wl_val hl rfl trivial (r_field hl rfl fld48_3) ?_)
              clear hl a; intro a hl
              refine wl (w_load hl hh rfl trivial one46 rfl (by repeat (first | exact find_head | apply find_tail | apply find_skip)) (by exact kd_log _) ?_)
              clear hl a; intro a hl
              try dsimp only [KOf] at hl
              try rw [r1] at hl
              refine wl (w_call hl hh rfl trivial rfl cal17 rfl (tally_spec lb cap9 junk W4.log hLl hlg4) (by repeat (first | exact keeps_nil | apply keeps_cons (by repeat (first | exact find_head | apply find_tail | apply find_skip)) (by first  | rfl) | exact keeps_self | exact keeps_left | apply keeps_app | apply keeps_mv | apply keeps_skip)) trivial ?_)
              clear hl hh a w; intro vc Fc a w hR hl hh
              obtain ⟨o1, o2, i0, i1, j0, j1, ts, hTF, hts, rfl, rfl⟩ := hR
              try simp only [List.cons_append, List.nil_append, List.append_assoc, List.append_nil] at hh
              obtain ⟨ti, I0, I1, O0, O1⟩ := ts
              dsimp only at hts hh
              have hf0 := tm_end hG4 hL4 hi4 false (hco4.trans hc3a) hts hTF.I0 hTF.O0
              have hf1 := tm_end hG4 hL4 hi4 true hc4a hts hTF.I1 hTF.O1
              clear hTF
              dsimp only at hf0 hf1
              try simp only [List.cons_append, List.nil_append, List.append_nil, List.append_assoc] at hh
              refine wl (wl_val hl rfl trivial (r_move hl rfl) ?_)
              clear hl a; intro a hl
              refine wl (wl_val hl rfl trivial (r_extract hl rfl (by simp only [List.getElem?_toArray, List.getElem?_cons_zero, List.getElem?_cons_succ]; rfl)) ?_)
              clear hl a; intro a hl
              refine wl (wl_val hl rfl trivial (r_extract hl rfl (by simp only [List.getElem?_toArray, List.getElem?_cons_zero, List.getElem?_cons_succ]; rfl)) ?_)
              clear hl a; intro a hl
              refine wl (wl_val hl rfl trivial (r_assign hl rfl) ?_)
              clear hl a; intro a hl
              refine wl (wl_val hl rfl trivial (r_assign hl rfl) ?_)
              clear hl a; intro a hl
              refine w_nil ?_
              have hl2 := hl.add (t := 9) (hl.add (t := 10) (hl.nil) rfl) rfl; clear hl; have hl := hl2; clear hl2
              refine then_normal ?_
              refine c_seq ?_
              refine c_seq ?_
              refine c_region ?_
              refine wl (w_buildSlice hl hh rfl trivial app78 zero4 rfl rfl rfl rfl rfl (by simp only [fillL, arrPl, List.range_succ, List.range_zero, List.map_cons, List.map_nil, List.map_append, List.nil_append, List.replicate_succ, List.replicate_zero, List.flatten_cons, List.flatten_nil, Nat.zero_mul, Nat.mul_one, Nat.one_mul, Nat.reduceMul, setL, List.getElem?_cons_zero, List.getElem?_cons_succ, Value.cells, List.take_zero, List.take_succ_cons, List.take_nil, List.drop_zero, List.drop_succ_cons, List.drop_nil, List.length_cons, List.length_nil, List.cons_append, List.nil_append, List.append_nil, Nat.zero_add, Nat.add_zero, Nat.reduceAdd, Nat.reduceBEq, Nat.reduceEqDiff, Nat.ble, BEq.rfl, Bool.and_true, Bool.and_self, cond_true, beq_self_eq_true]; rfl) ?_)
              clear hl hh a w; intro k71 a w hl hh
              refine wl (wl_val hl rfl trivial (r_lenS hl rfl slc78) ?_)
              clear hl a; intro a hl
              refine wl (wl_val hl rfl trivial (r_move hl rfl) ?_)
              clear hl a; intro a hl
              refine w_nil ?_
              have hl2 := hl.add (t := 9) (hl.add (t := 10) (hl.add (t := 71) (hl.add (t := 72) (hl.add (t := 73) (hl.nil) rfl) rfl) rfl) rfl) rfl; clear hl; have hl := hl2; clear hl2
              refine then_normal ?_
              refine wp_block ?_
              obtain ⟨KS0, hKS0, hk⟩ := (hl.add (t := 9) (hl.add (t := 10) (hl.add (t := 71) (hl.add (t := 72) (hl.nil) rfl) rfl) rfl) rfl).name
              obtain ⟨HS0, hHS0, hh2⟩ := hh.name (keeps_nil)
              refine c_loop (α := Nat) (fun i => 2 - i) (fun i a w => (i ≤ 2) ∧ Sl 103 ([(73, .int .i64 (i : Int))] ++ KS0) a ∧ Has _ w0 ([] ++ HS0) w) 0 ⟨Nat.zero_le _, hl.addE (t := 73) (hk) rfl (by first | rfl), hh2⟩ ?_
              clear hk hh2 hl hh a w
              intro i a w hI
              obtain ⟨hi9, hl, hh⟩ := hI
              subst hKS0; subst hHS0
              simp only [List.cons_append, List.nil_append, List.append_nil, List.append_assoc] at hl hh
              refine c_seq ?_
              refine c_region ?_
              refine wl (wl_val hl rfl trivial (r_lss hl rfl rfl) ?_)
              clear hl a; intro a hl
              refine w_nil ?_
              have hl2 := hl.add (t := 9) (hl.add (t := 10) (hl.add (t := 71) (hl.add (t := 72) (hl.add (t := 73) (hl.add (t := 74) (hl.nil) rfl) rfl) rfl) rfl) rfl) rfl; clear hl; have hl := hl2; clear hl2
              refine then_normal ?_
              refine c_seq ?_
              refine c_cond hl rfl ?_ ?_
              · intro hc3
                try simp only [decide_eq_true_eq, decide_eq_false_iff_not, Bool.not_eq_true', Bool.not_eq_false', Bool.not_eq_true, Bool.not_eq_false, Bool.and_eq_true, Bool.or_eq_true, Bool.and_eq_false_iff, Bool.or_eq_false_iff, Bool.not_not, ne_eq, Int.not_lt, Int.not_le, Decidable.not_not, beq_iff_eq, bne_iff_ne] at hc3
                refine wp_skip ?_
                refine then_normal ?_
                refine c_seq ?_
                refine wp_block ?_
                refine c_seq ?_
                refine c_region ?_
                refine wl (wl_val hl rfl trivial (r_indexS hl rfl rfl slc78 (by omega) (by omega) (by first | (simp only [Int.reduceToNat]; rfl) | exact toNat_add1 _ | exact toNat_add2 _ _ | exact toNat_emod _ _ | exact Int.toNat_natCast _ | rfl)) ?_)
                clear hl a; intro a hl
                refine wl (w_load hl hh rfl trivial one4 rfl (by repeat (first | exact find_head | apply find_tail | apply find_skip)) (by first | exact bb_at i (by omega) | rfl) ?_)
                clear hl a; intro a hl
                refine wl (wl_val hl rfl trivial (r_assign hl rfl) ?_)
                clear hl a; intro a hl
                refine w_nil ?_
                have hl2 := hl.add (t := 9) (hl.add (t := 10) (hl.add (t := 12) (hl.add (t := 71) (hl.add (t := 72) (hl.add (t := 73) (hl.nil) rfl) rfl) rfl) rfl) rfl) rfl; clear hl; have hl := hl2; clear hl2
                rcases (show i = 0 ∨ i = 1 by omega) with rfl | rfl
                ·
                  skip
                  rw [show decide ((0 : Nat) = 1) = false from rfl] at hl
                  obtain ⟨mb, rfl⟩ : ∃ mb, mb = i0 := ⟨_, rfl⟩
                  obtain ⟨nb, rfl⟩ : ∃ nb, nb = j0 := ⟨_, rfl⟩
                  obtain ⟨MA, rfl⟩ : ∃ M, M = I0 := ⟨_, rfl⟩
                  obtain ⟨MB, rfl⟩ : ∃ M, M = O0 := ⟨_, rfl⟩
                  obtain ⟨fA, hTA, hTB⟩ := hf0
                  have hln := hTA.len hTB
                  refine then_normal ?_
                  refine c_seq ?_
                  refine c_seq ?_
                  refine c_region ?_
                  refine wl (wl_val hl rfl trivial (r_move hl rfl) ?_)
                  clear hl a; intro a hl
                  refine wl (wl_val hl rfl trivial (r_move hl rfl) ?_)
                  clear hl a; intro a hl
                  refine wl (w_lookup (keyBool Tryf.underlying4) Tryf.underlying75 zero79 hl hh rfl trivial rfl rfl (by repeat (first | exact find_head | apply find_tail | apply find_skip)) ?_)
                  clear hl a; intro a hl
                  first | rw [om_f] at hl | rw [om_t] at hl
                  refine wl (w_lenM Tryf.underlying79 hl hh rfl trivial rfl (by repeat (first | exact find_head | apply find_tail | apply find_skip)) ?_)
                  clear hl a; intro a hl
                  refine wl (wl_val hl rfl trivial (r_move hl rfl) ?_)
                  clear hl a; intro a hl
                  refine wl (wl_val hl rfl trivial (r_move hl rfl) ?_)
                  clear hl a; intro a hl
                  refine wl (w_lookup (keyBool Tryf.underlying4) Tryf.underlying75 zero79 hl hh rfl trivial rfl rfl (by repeat (first | exact find_head | apply find_tail | apply find_skip)) ?_)
                  clear hl a; intro a hl
                  first | rw [om_f] at hl | rw [om_t] at hl
                  refine wl (w_lenM Tryf.underlying79 hl hh rfl trivial rfl (by repeat (first | exact find_head | apply find_tail | apply find_skip)) ?_)
                  clear hl a; intro a hl
                  refine wl (wl_val hl rfl trivial (r_neq hl rfl rfl) ?_)
                  clear hl a; intro a hl
                  refine w_nil ?_
                  have hl2 := hl.add (t := 9) (hl.add (t := 10) (hl.add (t := 12) (hl.add (t := 71) (hl.add (t := 72) (hl.add (t := 73) (hl.add (t := 85) (hl.nil) rfl) rfl) rfl) rfl) rfl) rfl) rfl; clear hl; have hl := hl2; clear hl2
                  refine then_normal ?_
                  refine c_cond hl rfl ?_ ?_
                  · intro hc4
                    try simp only [decide_eq_true_eq, decide_eq_false_iff_not, Bool.not_eq_true', Bool.not_eq_false', Bool.not_eq_true, Bool.not_eq_false, Bool.and_eq_true, Bool.or_eq_true, Bool.and_eq_false_iff, Bool.or_eq_false_iff, Bool.not_not, ne_eq, Int.not_lt, Int.not_le, Decidable.not_not, beq_iff_eq, bne_iff_ne] at hc4
                    exfalso; first | omega | (simp at *; done)
                  · intro hc4
                    try simp only [decide_eq_true_eq, decide_eq_false_iff_not, Bool.not_eq_true', Bool.not_eq_false', Bool.not_eq_true, Bool.not_eq_false, Bool.and_eq_true, Bool.or_eq_true, Bool.and_eq_false_iff, Bool.or_eq_false_iff, Bool.not_not, ne_eq, Int.not_lt, Int.not_le, Decidable.not_not, beq_iff_eq, bne_iff_ne] at hc4
                    refine wp_skip ?_
                    refine then_normal ?_
                    refine c_seq ?_
                    refine c_region ?_
                    refine wl (wl_val hl rfl trivial (r_move hl rfl) ?_)
                    clear hl a; intro a hl
                    refine wl (wl_val hl rfl trivial (r_move hl rfl) ?_)
                    clear hl a; intro a hl
                    refine wl (w_lookup (keyBool Tryf.underlying4) Tryf.underlying75 zero79 hl hh rfl trivial rfl rfl (by repeat (first | exact find_head | apply find_tail | apply find_skip)) ?_)
                    clear hl a; intro a hl
                    first | rw [om_f] at hl | rw [om_t] at hl
                    refine wl (w_range Tryf.underlying79 hl hh rfl trivial rfl (by repeat (first | exact find_head | apply find_tail | apply find_skip)) ?_)
                    clear hl hh a w; intro k89 a w hl hh
                    refine w_nil ?_
                    have hl2 := hl.add (t := 9) (hl.add (t := 10) (hl.add (t := 12) (hl.add (t := 71) (hl.add (t := 72) (hl.add (t := 73) (hl.add (t := 89) (hl.nil) rfl) rfl) rfl) rfl) rfl) rfl) rfl; clear hl; have hl := hl2; clear hl2
                    refine then_normal ?_
                    refine wp_block ?_
                    obtain ⟨KS1, hKS1, hk⟩ := (hl.add (t := 9) (hl.add (t := 10) (hl.add (t := 12) (hl.add (t := 71) (hl.add (t := 72) (hl.add (t := 73) (hl.add (t := 89) (hl.nil) rfl) rfl) rfl) rfl) rfl) rfl) rfl).name
                    obtain ⟨HS1, hHS1, hh2⟩ := hh.name (keeps_cons (b := k89) (o' := IT mb MA.length []) (by repeat (first | exact find_head | apply find_tail | apply find_skip)) (by first | rfl) (keeps_nil))
                    refine c_loop (α := List Nat) (fun seen => MA.length - seen.length) (fun seen a w => (SeenOk MA.length seen) ∧ Sl 103 ([] ++ KS1) a ∧ Has _ w0 ([(k89, IT mb MA.length seen)] ++ HS1) w) [] ⟨SeenOk.start _, hk, hh2⟩ ?_
                    clear hk hh2 hl hh a w
                    intro seen a w hI
                    obtain ⟨hS, hl, hh⟩ := hI
                    subst hKS1; subst hHS1
                    simp only [List.cons_append, List.nil_append, List.append_nil, List.append_assoc] at hl hh
                    refine c_seq ?_
                    refine c_region ?_
                    refine wl (w_next hl hh rfl trivial rfl (by repeat (first | exact find_head | apply find_tail | apply find_skip)) (by repeat (first | exact find_head | apply find_tail | apply find_skip)) ?_ ?_)
                    ·
                      intro hall; clear hl a; intro a hl
                      refine wl (wl_val hl rfl trivial (r_extract hl rfl (by simp only [List.getElem?_toArray, List.getElem?_cons_zero, List.getElem?_cons_succ]; rfl)) ?_)
                      clear hl a; intro a hl
                      refine w_nil ?_
                      have hl2 := hl.add (t := 9) (hl.add (t := 10) (hl.add (t := 12) (hl.add (t := 71) (hl.add (t := 72) (hl.add (t := 73) (hl.add (t := 89) (hl.add (t := 91) (hl.nil) rfl) rfl) rfl) rfl) rfl) rfl) rfl) rfl; clear hl; have hl := hl2; clear hl2
                      refine then_normal ?_
                      refine c_seq ?_
                      refine c_condF hl rfl ?_
                      refine wp_exit ?_
                      refine then_exit ?_
                      refine then_exit ?_
                      refine blk_exit ?_
                      refine blk_normal ?_
                      refine then_normal ?_
                      refine c_region ?_
                      first | refine wl (wl_val hl rfl trivial (r_add hl rfl rfl (by simp only [Fits]; omega)) ?_) | refine wl (wl_val hl rfl trivial (r_addW hl rfl rfl) ?_)
                      clear hl a; intro a hl
                      refine wl (wl_val hl rfl trivial (r_move hl rfl) ?_)
                      clear hl a; intro a hl
                      refine w_nil ?_
                      have hl2 := hl.add (t := 9) (hl.add (t := 10) (hl.add (t := 71) (hl.add (t := 72) (hl.add (t := 73) (hl.nil) rfl) rfl) rfl) rfl) rfl; clear hl; have hl := hl2; clear hl2
                      refine then_normal ?_
                      first | refine ⟨0 + 1, (by omega), (by omega), hl.addE (t := 73) (hl.addE (t := 9) (hl.addE (t := 10) (hl.addE (t := 71) (hl.addE (t := 72) (hl.nil) rfl (by first | rfl | rfl)) rfl (by first | rfl | rfl)) rfl (by first | rfl | rfl)) rfl (by first | rfl | rfl)) rfl (by first | rfl | rfl), hh.keep (by repeat (first | exact keeps_nil | apply keeps_cons (by repeat (first | exact find_head | apply find_tail | apply find_skip)) (by first  | rfl) | exact keeps_self | exact keeps_left | apply keeps_app | apply keeps_mv | apply keeps_skip))⟩ | refine ⟨1 + 1, (by omega), (by omega), hl.addE (t := 73) (hl.addE (t := 9) (hl.addE (t := 10) (hl.addE (t := 71) (hl.addE (t := 72) (hl.nil) rfl (by first | rfl | rfl)) rfl (by first | rfl | rfl)) rfl (by first | rfl | rfl)) rfl (by first | rfl | rfl)) rfl (by first | rfl | rfl), hh.keep (by repeat (first | exact keeps_nil | apply keeps_cons (by repeat (first | exact find_head | apply find_tail | apply find_skip)) (by first  | rfl) | exact keeps_self | exact keeps_left | apply keeps_app | apply keeps_mv | apply keeps_skip))⟩
                    ·
                      intro j90 p90 hjn90 hn90; clear hl hh a w; intro a w hl hh
                      have hjl := (List.getElem?_eq_some_iff.1 hjn90).1
                      have hS2 := hS.next hjl hn90
                      have hval := hTA.at hjn90
                      obtain ⟨ke, ve⟩ := p90
                      dsimp only at hval
                      subst hval
                      refine wl (wl_val hl rfl trivial (r_extract hl rfl (by simp only [List.getElem?_toArray, List.getElem?_cons_zero, List.getElem?_cons_succ]; rfl)) ?_)
                      clear hl a; intro a hl
                      refine w_nil ?_
                      have hl2 := hl.add (t := 9) (hl.add (t := 10) (hl.add (t := 12) (hl.add (t := 71) (hl.add (t := 72) (hl.add (t := 73) (hl.add (t := 89) (hl.add (t := 91) (hl.nil) rfl) rfl) rfl) rfl) rfl) rfl) rfl) rfl; clear hl; have hl := hl2; clear hl2
                      refine then_normal ?_
                      refine c_seq ?_
                      refine c_condT hl rfl ?_
                      refine wp_skip ?_
                      refine then_normal ?_
                      refine wp_block ?_
                      refine c_seq ?_
                      refine c_region ?_
                      refine wl (w_entry hjn90 hl hh rfl trivial rfl (by repeat (first | exact find_head | apply find_tail | apply find_skip)) (by repeat (first | exact find_head | apply find_tail | apply find_skip)) ?_)
                      clear hl a; intro a hl
                      refine wl (wl_val hl rfl trivial (r_extract hl rfl (by simp only [List.getElem?_toArray, List.getElem?_cons_zero, List.getElem?_cons_succ]; rfl)) ?_)
                      clear hl a; intro a hl
                      rw [k81d] at hl
                      refine wl (wl_val hl rfl trivial (r_extract hl rfl (by simp only [List.getElem?_toArray, List.getElem?_cons_zero, List.getElem?_cons_succ]; rfl)) ?_)
                      clear hl a; intro a hl
                      refine wl (w_alloc hl hh rfl trivial zero81 rfl ?_)
                      clear hl hh a w; intro k13 a w hl hh
                      refine wl (w_storeA hl hh trivial agg81 rfl rfl (by repeat (first | exact find_head | apply find_tail | apply find_skip)) (by first | rfl | (simp; done)) (by first | (simp; done) | (simp; omega)) (by first | rfl | (simp; done)) (by first | (simp only [setL, List.getElem?_cons_zero, List.getElem?_cons_succ, Value.cells, List.take_zero, List.take_succ_cons, List.take_nil, List.drop_zero, List.drop_succ_cons, List.drop_nil, List.length_cons, List.length_nil, List.cons_append, List.nil_append, List.append_nil, Nat.zero_add, Nat.add_zero, Nat.reduceAdd, Nat.reduceBEq, Nat.reduceEqDiff, Nat.ble, BEq.rfl, Bool.and_true, Bool.and_self, cond_true, beq_self_eq_true]; rfl)) ?_)
                      clear hh w; intro w hh
                      refine wl (wl_val hl rfl trivial (r_assign hl rfl) ?_)
                      clear hl a; intro a hl
                      refine w_nil ?_
                      have hl2 := hl.add (t := 9) (hl.add (t := 10) (hl.add (t := 12) (hl.add (t := 13) (hl.add (t := 14) (hl.add (t := 71) (hl.add (t := 72) (hl.add (t := 73) (hl.add (t := 89) (hl.nil) rfl) rfl) rfl) rfl) rfl) rfl) rfl) rfl) rfl; clear hl; have hl := hl2; clear hl2
                      refine then_normal ?_
                      refine c_seq ?_
                      refine c_region ?_
                      refine wl (wl_val hl rfl trivial (r_move hl rfl) ?_)
                      clear hl a; intro a hl
                      refine wl (wl_val hl rfl trivial (r_move hl rfl) ?_)
                      clear hl a; intro a hl
                      refine wl (w_lookup (keyBool Tryf.underlying4) Tryf.underlying75 zero79 hl hh rfl trivial rfl rfl (by repeat (first | exact find_head | apply find_tail | apply find_skip)) ?_)
                      clear hl a; intro a hl
                      first | rw [om_f] at hl | rw [om_t] at hl | rw [hTB.val] at hl
                      refine wl (w_loadA hl hh rfl trivial agg81 rfl (by repeat (first | exact find_head | apply find_tail | apply find_skip)) (by first | (simp only [List.getElem?_cons_zero, List.getElem?_cons_succ, Value.cells, List.take_zero, List.take_succ_cons, List.take_nil, List.drop_zero, List.drop_succ_cons, List.drop_nil, List.length_cons, List.length_nil, List.cons_append, List.nil_append, List.append_nil, Nat.zero_add, Nat.add_zero, Nat.reduceAdd, Nat.reduceBEq, Nat.reduceEqDiff, Nat.ble, BEq.rfl, Bool.and_true, Bool.and_self, cond_true, beq_self_eq_true]; rfl)) (by first | rfl | (simp; done)) ?_)
                      clear hl a; intro a hl
                      rw [← k81d ke] at hl
                      refine wl (w_lookup key81 Tryf.underlying79 zero3 hl hh rfl trivial rfl rfl (by repeat (first | exact find_head | apply find_tail | apply find_skip)) ?_)
                      clear hl a; intro a hl
                      first | rw [om_f] at hl | rw [om_t] at hl | rw [hTB.val] at hl
                      refine wl (wl_val hl rfl trivial (r_move hl rfl) ?_)
                      clear hl a; intro a hl
                      refine wl (wl_val hl rfl trivial (r_neq hl rfl rfl) ?_)
                      clear hl a; intro a hl
                      refine w_nil ?_
                      have hl2 := hl.add (t := 9) (hl.add (t := 10) (hl.add (t := 12) (hl.add (t := 71) (hl.add (t := 72) (hl.add (t := 73) (hl.add (t := 89) (hl.add (t := 101) (hl.nil) rfl) rfl) rfl) rfl) rfl) rfl) rfl) rfl; clear hl; have hl := hl2; clear hl2
                      refine then_normal ?_
                      refine c_cond hl rfl ?_ ?_
                      · intro hc6
                        try simp only [decide_eq_true_eq, decide_eq_false_iff_not, Bool.not_eq_true', Bool.not_eq_false', Bool.not_eq_true, Bool.not_eq_false, Bool.and_eq_true, Bool.or_eq_true, Bool.and_eq_false_iff, Bool.or_eq_false_iff, Bool.not_not, ne_eq, Int.not_lt, Int.not_le, Decidable.not_not, beq_iff_eq, bne_iff_ne] at hc6
                        exfalso; first | omega | (simp at *; done)
                      · intro hc6
                        try simp only [decide_eq_true_eq, decide_eq_false_iff_not, Bool.not_eq_true', Bool.not_eq_false', Bool.not_eq_true, Bool.not_eq_false, Bool.and_eq_true, Bool.or_eq_true, Bool.and_eq_false_iff, Bool.or_eq_false_iff, Bool.not_not, ne_eq, Int.not_lt, Int.not_le, Decidable.not_not, beq_iff_eq, bne_iff_ne] at hc6
                        refine wp_skip ?_
                        refine blk_normal ?_
                        refine then_normal ?_
                        refine ⟨seen ++ [j90], (by have := hS2.len; rw [List.length_append] at this ⊢; simp only [List.length_cons, List.length_nil] at this ⊢; omega), hS2, hl.addE (t := 9) (hl.addE (t := 10) (hl.addE (t := 12) (hl.addE (t := 71) (hl.addE (t := 72) (hl.addE (t := 73) (hl.addE (t := 89) (hl.nil) rfl (by first | rfl | (congr 1; omega))) rfl (by first | rfl | (congr 1; omega))) rfl (by first | rfl | (congr 1; omega))) rfl (by first | rfl | (congr 1; omega))) rfl (by first | rfl | (congr 1; omega))) rfl (by first | rfl | (congr 1; omega))) rfl (by first | rfl | (congr 1; omega)), hh.keep (by repeat (first | exact keeps_nil | apply keeps_cons (by repeat (first | exact find_head | apply find_tail | apply find_skip)) (by first  | rfl) | exact keeps_self | exact keeps_left | apply keeps_app | apply keeps_mv | apply keeps_skip))⟩
                ·
                  skip
                  rw [show decide ((1 : Nat) = 1) = true from rfl] at hl
                  obtain ⟨mb, rfl⟩ : ∃ mb, mb = i1 := ⟨_, rfl⟩
                  obtain ⟨nb, rfl⟩ : ∃ nb, nb = j1 := ⟨_, rfl⟩
                  obtain ⟨MA, rfl⟩ : ∃ M, M = I1 := ⟨_, rfl⟩
                  obtain ⟨MB, rfl⟩ : ∃ M, M = O1 := ⟨_, rfl⟩
                  obtain ⟨fA, hTA, hTB⟩ := hf1
                  have hln := hTA.len hTB
                  refine then_normal ?_
                  refine c_seq ?_
                  refine c_seq ?_
                  refine c_region ?_
                  refine wl (wl_val hl rfl trivial (r_move hl rfl) ?_)
                  clear hl a; intro a hl
                  refine wl (wl_val hl rfl trivial (r_move hl rfl) ?_)
                  clear hl a; intro a hl
                  refine wl (w_lookup (keyBool Tryf.underlying4) Tryf.underlying75 zero79 hl hh rfl trivial rfl rfl (by repeat (first | exact find_head | apply find_tail | apply find_skip)) ?_)
                  clear hl a; intro a hl
                  first | rw [om_f] at hl | rw [om_t] at hl
                  refine wl (w_lenM Tryf.underlying79 hl hh rfl trivial rfl (by repeat (first | exact find_head | apply find_tail | apply find_skip)) ?_)
                  clear hl a; intro a hl
                  refine wl (wl_val hl rfl trivial (r_move hl rfl) ?_)
                  clear hl a; intro a hl
                  refine wl (wl_val hl rfl trivial (r_move hl rfl) ?_)
                  clear hl a; intro a hl
                  refine wl (w_lookup (keyBool Tryf.underlying4) Tryf.underlying75 zero79 hl hh rfl trivial rfl rfl (by repeat (first | exact find_head | apply find_tail | apply find_skip)) ?_)
                  clear hl a; intro a hl
                  first | rw [om_f] at hl | rw [om_t] at hl
                  refine wl (w_lenM Tryf.underlying79 hl hh rfl trivial rfl (by repeat (first | exact find_head | apply find_tail | apply find_skip)) ?_)
                  clear hl a; intro a hl
                  refine wl (wl_val hl rfl trivial (r_neq hl rfl rfl) ?_)
                  clear hl a; intro a hl
                  refine w_nil ?_
                  have hl2 := hl.add (t := 9) (hl.add (t := 10) (hl.add (t := 12) (hl.add (t := 71) (hl.add (t := 72) (hl.add (t := 73) (hl.add (t := 85) (hl.nil) rfl) rfl) rfl) rfl) rfl) rfl) rfl; clear hl; have hl := hl2; clear hl2
                  refine then_normal ?_
                  refine c_cond hl rfl ?_ ?_
                  · intro hc4
                    try simp only [decide_eq_true_eq, decide_eq_false_iff_not, Bool.not_eq_true', Bool.not_eq_false', Bool.not_eq_true, Bool.not_eq_false, Bool.and_eq_true, Bool.or_eq_true, Bool.and_eq_false_iff, Bool.or_eq_false_iff, Bool.not_not, ne_eq, Int.not_lt, Int.not_le, Decidable.not_not, beq_iff_eq, bne_iff_ne] at hc4
                    exfalso; first | omega | (simp at *; done)
                  · intro hc4
                    try simp only [decide_eq_true_eq, decide_eq_false_iff_not, Bool.not_eq_true', Bool.not_eq_false', Bool.not_eq_true, Bool.not_eq_false, Bool.and_eq_true, Bool.or_eq_true, Bool.and_eq_false_iff, Bool.or_eq_false_iff, Bool.not_not, ne_eq, Int.not_lt, Int.not_le, Decidable.not_not, beq_iff_eq, bne_iff_ne] at hc4
                    refine wp_skip ?_
                    refine then_normal ?_
                    refine c_seq ?_
                    refine c_region ?_
                    refine wl (wl_val hl rfl trivial (r_move hl rfl) ?_)
                    clear hl a; intro a hl
                    refine wl (wl_val hl rfl trivial (r_move hl rfl) ?_)
                    clear hl a; intro a hl
                    refine wl (w_lookup (keyBool Tryf.underlying4) Tryf.underlying75 zero79 hl hh rfl trivial rfl rfl (by repeat (first | exact find_head | apply find_tail | apply find_skip)) ?_)
                    clear hl a; intro a hl
                    first | rw [om_f] at hl | rw [om_t] at hl
                    refine wl (w_range Tryf.underlying79 hl hh rfl trivial rfl (by repeat (first | exact find_head | apply find_tail | apply find_skip)) ?_)
                    clear hl hh a w; intro k89 a w hl hh
                    refine w_nil ?_
                    have hl2 := hl.add (t := 9) (hl.add (t := 10) (hl.add (t := 12) (hl.add (t := 71) (hl.add (t := 72) (hl.add (t := 73) (hl.add (t := 89) (hl.nil) rfl) rfl) rfl) rfl) rfl) rfl) rfl; clear hl; have hl := hl2; clear hl2
                    refine then_normal ?_
                    refine wp_block ?_
                    obtain ⟨KS1, hKS1, hk⟩ := (hl.add (t := 9) (hl.add (t := 10) (hl.add (t := 12) (hl.add (t := 71) (hl.add (t := 72) (hl.add (t := 73) (hl.add (t := 89) (hl.nil) rfl) rfl) rfl) rfl) rfl) rfl) rfl).name
                    obtain ⟨HS1, hHS1, hh2⟩ := hh.name (keeps_cons (b := k89) (o' := IT mb MA.length []) (by repeat (first | exact find_head | apply find_tail | apply find_skip)) (by first | rfl) (keeps_nil))
                    refine c_loop (α := List Nat) (fun seen => MA.length - seen.length) (fun seen a w => (SeenOk MA.length seen) ∧ Sl 103 ([] ++ KS1) a ∧ Has _ w0 ([(k89, IT mb MA.length seen)] ++ HS1) w) [] ⟨SeenOk.start _, hk, hh2⟩ ?_
                    clear hk hh2 hl hh a w
                    intro seen a w hI
                    obtain ⟨hS, hl, hh⟩ := hI
                    subst hKS1; subst hHS1
                    simp only [List.cons_append, List.nil_append, List.append_nil, List.append_assoc] at hl hh
                    refine c_seq ?_
                    refine c_region ?_
                    refine wl (w_next hl hh rfl trivial rfl (by repeat (first | exact find_head | apply find_tail | apply find_skip)) (by repeat (first | exact find_head | apply find_tail | apply find_skip)) ?_ ?_)
                    ·
                      intro hall; clear hl a; intro a hl
                      refine wl (wl_val hl rfl trivial (r_extract hl rfl (by simp only [List.getElem?_toArray, List.getElem?_cons_zero, List.getElem?_cons_succ]; rfl)) ?_)
                      clear hl a; intro a hl
                      refine w_nil ?_
                      have hl2 := hl.add (t := 9) (hl.add (t := 10) (hl.add (t := 12) (hl.add (t := 71) (hl.add (t := 72) (hl.add (t := 73) (hl.add (t := 89) (hl.add (t := 91) (hl.nil) rfl) rfl) rfl) rfl) rfl) rfl) rfl) rfl; clear hl; have hl := hl2; clear hl2
                      refine then_normal ?_
                      refine c_seq ?_
                      refine c_condF hl rfl ?_
                      refine wp_exit ?_
                      refine then_exit ?_
                      refine then_exit ?_
                      refine blk_exit ?_
                      refine blk_normal ?_
                      refine then_normal ?_
                      refine c_region ?_
                      first | refine wl (wl_val hl rfl trivial (r_add hl rfl rfl (by simp only [Fits]; omega)) ?_) | refine wl (wl_val hl rfl trivial (r_addW hl rfl rfl) ?_)
                      clear hl a; intro a hl
                      refine wl (wl_val hl rfl trivial (r_move hl rfl) ?_)
                      clear hl a; intro a hl
                      refine w_nil ?_
                      have hl2 := hl.add (t := 9) (hl.add (t := 10) (hl.add (t := 71) (hl.add (t := 72) (hl.add (t := 73) (hl.nil) rfl) rfl) rfl) rfl) rfl; clear hl; have hl := hl2; clear hl2
                      refine then_normal ?_
                      first | refine ⟨0 + 1, (by omega), (by omega), hl.addE (t := 73) (hl.addE (t := 9) (hl.addE (t := 10) (hl.addE (t := 71) (hl.addE (t := 72) (hl.nil) rfl (by first | rfl | rfl)) rfl (by first | rfl | rfl)) rfl (by first | rfl | rfl)) rfl (by first | rfl | rfl)) rfl (by first | rfl | rfl), hh.keep (by repeat (first | exact keeps_nil | apply keeps_cons (by repeat (first | exact find_head | apply find_tail | apply find_skip)) (by first  | rfl) | exact keeps_self | exact keeps_left | apply keeps_app | apply keeps_mv | apply keeps_skip))⟩ | refine ⟨1 + 1, (by omega), (by omega), hl.addE (t := 73) (hl.addE (t := 9) (hl.addE (t := 10) (hl.addE (t := 71) (hl.addE (t := 72) (hl.nil) rfl (by first | rfl | rfl)) rfl (by first | rfl | rfl)) rfl (by first | rfl | rfl)) rfl (by first | rfl | rfl)) rfl (by first | rfl | rfl), hh.keep (by repeat (first | exact keeps_nil | apply keeps_cons (by repeat (first | exact find_head | apply find_tail | apply find_skip)) (by first  | rfl) | exact keeps_self | exact keeps_left | apply keeps_app | apply keeps_mv | apply keeps_skip))⟩
                    ·
                      intro j90 p90 hjn90 hn90; clear hl hh a w; intro a w hl hh
                      have hjl := (List.getElem?_eq_some_iff.1 hjn90).1
                      have hS2 := hS.next hjl hn90
                      have hval := hTA.at hjn90
                      obtain ⟨ke, ve⟩ := p90
                      dsimp only at hval
                      subst hval
                      refine wl (wl_val hl rfl trivial (r_extract hl rfl (by simp only [List.getElem?_toArray, List.getElem?_cons_zero, List.getElem?_cons_succ]; rfl)) ?_)
                      clear hl a; intro a hl
                      refine w_nil ?_
                      have hl2 := hl.add (t := 9) (hl.add (t := 10) (hl.add (t := 12) (hl.add (t := 71) (hl.add (t := 72) (hl.add (t := 73) (hl.add (t := 89) (hl.add (t := 91) (hl.nil) rfl) rfl) rfl) rfl) rfl) rfl) rfl) rfl; clear hl; have hl := hl2; clear hl2
                      refine then_normal ?_
                      refine c_seq ?_
                      refine c_condT hl rfl ?_
                      refine wp_skip ?_
                      refine then_normal ?_
                      refine wp_block ?_
                      refine c_seq ?_
                      refine c_region ?_
                      refine wl (w_entry hjn90 hl hh rfl trivial rfl (by repeat (first | exact find_head | apply find_tail | apply find_skip)) (by repeat (first | exact find_head | apply find_tail | apply find_skip)) ?_)
                      clear hl a; intro a hl
                      refine wl (wl_val hl rfl trivial (r_extract hl rfl (by simp only [List.getElem?_toArray, List.getElem?_cons_zero, List.getElem?_cons_succ]; rfl)) ?_)
                      clear hl a; intro a hl
                      rw [k81d] at hl
                      refine wl (wl_val hl rfl trivial (r_extract hl rfl (by simp only [List.getElem?_toArray, List.getElem?_cons_zero, List.getElem?_cons_succ]; rfl)) ?_)
                      clear hl a; intro a hl
                      refine wl (w_alloc hl hh rfl trivial zero81 rfl ?_)
                      clear hl hh a w; intro k13 a w hl hh
                      refine wl (w_storeA hl hh trivial agg81 rfl rfl (by repeat (first | exact find_head | apply find_tail | apply find_skip)) (by first | rfl | (simp; done)) (by first | (simp; done) | (simp; omega)) (by first | rfl | (simp; done)) (by first | (simp only [setL, List.getElem?_cons_zero, List.getElem?_cons_succ, Value.cells, List.take_zero, List.take_succ_cons, List.take_nil, List.drop_zero, List.drop_succ_cons, List.drop_nil, List.length_cons, List.length_nil, List.cons_append, List.nil_append, List.append_nil, Nat.zero_add, Nat.add_zero, Nat.reduceAdd, Nat.reduceBEq, Nat.reduceEqDiff, Nat.ble, BEq.rfl, Bool.and_true, Bool.and_self, cond_true, beq_self_eq_true]; rfl)) ?_)
                      clear hh w; intro w hh
                      refine wl (wl_val hl rfl trivial (r_assign hl rfl) ?_)
                      clear hl a; intro a hl
                      refine w_nil ?_
                      have hl2 := hl.add (t := 9) (hl.add (t := 10) (hl.add (t := 12) (hl.add (t := 13) (hl.add (t := 14) (hl.add (t := 71) (hl.add (t := 72) (hl.add (t := 73) (hl.add (t := 89) (hl.nil) rfl) rfl) rfl) rfl) rfl) rfl) rfl) rfl) rfl; clear hl; have hl := hl2; clear hl2
                      refine then_normal ?_
                      refine c_seq ?_
                      refine c_region ?_
                      refine wl (wl_val hl rfl trivial (r_move hl rfl) ?_)
                      clear hl a; intro a hl
                      refine wl (wl_val hl rfl trivial (r_move hl rfl) ?_)
                      clear hl a; intro a hl
                      refine wl (w_lookup (keyBool Tryf.underlying4) Tryf.underlying75 zero79 hl hh rfl trivial rfl rfl (by repeat (first | exact find_head | apply find_tail | apply find_skip)) ?_)
                      clear hl a; intro a hl
                      first | rw [om_f] at hl | rw [om_t] at hl | rw [hTB.val] at hl
                      refine wl (w_loadA hl hh rfl trivial agg81 rfl (by repeat (first | exact find_head | apply find_tail | apply find_skip)) (by first | (simp only [List.getElem?_cons_zero, List.getElem?_cons_succ, Value.cells, List.take_zero, List.take_succ_cons, List.take_nil, List.drop_zero, List.drop_succ_cons, List.drop_nil, List.length_cons, List.length_nil, List.cons_append, List.nil_append, List.append_nil, Nat.zero_add, Nat.add_zero, Nat.reduceAdd, Nat.reduceBEq, Nat.reduceEqDiff, Nat.ble, BEq.rfl, Bool.and_true, Bool.and_self, cond_true, beq_self_eq_true]; rfl)) (by first | rfl | (simp; done)) ?_)
                      clear hl a; intro a hl
                      rw [← k81d ke] at hl
                      refine wl (w_lookup key81 Tryf.underlying79 zero3 hl hh rfl trivial rfl rfl (by repeat (first | exact find_head | apply find_tail | apply find_skip)) ?_)
                      clear hl a; intro a hl
                      first | rw [om_f] at hl | rw [om_t] at hl | rw [hTB.val] at hl
                      refine wl (wl_val hl rfl trivial (r_move hl rfl) ?_)
                      clear hl a; intro a hl
                      refine wl (wl_val hl rfl trivial (r_neq hl rfl rfl) ?_)
                      clear hl a; intro a hl
                      refine w_nil ?_
                      have hl2 := hl.add (t := 9) (hl.add (t := 10) (hl.add (t := 12) (hl.add (t := 71) (hl.add (t := 72) (hl.add (t := 73) (hl.add (t := 89) (hl.add (t := 101) (hl.nil) rfl) rfl) rfl) rfl) rfl) rfl) rfl) rfl; clear hl; have hl := hl2; clear hl2
                      refine then_normal ?_
                      refine c_cond hl rfl ?_ ?_
                      · intro hc6
                        try simp only [decide_eq_true_eq, decide_eq_false_iff_not, Bool.not_eq_true', Bool.not_eq_false', Bool.not_eq_true, Bool.not_eq_false, Bool.and_eq_true, Bool.or_eq_true, Bool.and_eq_false_iff, Bool.or_eq_false_iff, Bool.not_not, ne_eq, Int.not_lt, Int.not_le, Decidable.not_not, beq_iff_eq, bne_iff_ne] at hc6
                        exfalso; first | omega | (simp at *; done)
                      · intro hc6
                        try simp only [decide_eq_true_eq, decide_eq_false_iff_not, Bool.not_eq_true', Bool.not_eq_false', Bool.not_eq_true, Bool.not_eq_false, Bool.and_eq_true, Bool.or_eq_true, Bool.and_eq_false_iff, Bool.or_eq_false_iff, Bool.not_not, ne_eq, Int.not_lt, Int.not_le, Decidable.not_not, beq_iff_eq, bne_iff_ne] at hc6
                        refine wp_skip ?_
                        refine blk_normal ?_
                        refine then_normal ?_
                        refine ⟨seen ++ [j90], (by have := hS2.len; rw [List.length_append] at this ⊢; simp only [List.length_cons, List.length_nil] at this ⊢; omega), hS2, hl.addE (t := 9) (hl.addE (t := 10) (hl.addE (t := 12) (hl.addE (t := 71) (hl.addE (t := 72) (hl.addE (t := 73) (hl.addE (t := 89) (hl.nil) rfl (by first | rfl | (congr 1; omega))) rfl (by first | rfl | (congr 1; omega))) rfl (by first | rfl | (congr 1; omega))) rfl (by first | rfl | (congr 1; omega))) rfl (by first | rfl | (congr 1; omega))) rfl (by first | rfl | (congr 1; omega))) rfl (by first | rfl | (congr 1; omega)), hh.keep (by repeat (first | exact keeps_nil | apply keeps_cons (by repeat (first | exact find_head | apply find_tail | apply find_skip)) (by first  | rfl) | exact keeps_self | exact keeps_left | apply keeps_app | apply keeps_mv | apply keeps_skip))⟩
              · intro hc3
                try simp only [decide_eq_true_eq, decide_eq_false_iff_not, Bool.not_eq_true', Bool.not_eq_false', Bool.not_eq_true, Bool.not_eq_false, Bool.and_eq_true, Bool.or_eq_true, Bool.and_eq_false_iff, Bool.or_eq_false_iff, Bool.not_not, ne_eq, Int.not_lt, Int.not_le, Decidable.not_not, beq_iff_eq, bne_iff_ne] at hc3
                refine wp_exit ?_
                refine then_exit ?_
                refine then_exit ?_
                refine blk_exit ?_
                refine then_normal ?_
                refine c_seq ?_
                refine c_region ?_
                refine wl (wl_val hl rfl trivial (r_assign hl rfl) ?_)
                clear hl a; intro a hl
                refine w_nil ?_
                have hl2 := hl.add (t := 2) (hl.nil) rfl; clear hl; have hl := hl2; clear hl2
                refine then_normal ?_
                refine wp_ret ?_
                refine f_ret1 (F' := []) hl hh rfl rfl (by repeat (first | exact keeps_nil | apply keeps_cons (by repeat (first | exact find_head | apply find_tail | apply find_skip)) (by first  | rfl) | exact keeps_self | exact keeps_left | apply keeps_app | apply keeps_mv | apply keeps_skip)) ?_
                exact ⟨rfl, rfl⟩
end Go.Proofs.Qxb6500914aFmt

import Derived.Test.Qxb6500914aFmtQ3
import Derived.Test.Qxb6500914aFmtQ4
namespace Go.Proofs.Qxb6500914aFmt
open Go.Eng
set_option linter.unusedVariables false
set_option linter.unusedSimpArgs false
theorem cal15 : callable Tryf.prog 15 = true := by kernel_rfl
theorem slc27 : slcOk Tryf.prog 27 3 = true := by kernel_rfl
theorem shp73 : shapeT Tryf.prog 8 73 = some [.int .u64, .int .u64] := by kernel_rfl
theorem eqf73 : eqOk Tryf.prog 8 73 = true := by kernel_rfl
theorem keeps_skip {B F E G : List (Nat × Obj)} (h : Keeps F E G) : Keeps (B ++ F) E (B ++ G) :=
  ⟨(List.Perm.append_left B h.perm).trans (by rw [← List.append_assoc, ← List.append_assoc]; exact List.perm_append_comm.append_right G)⟩
theorem keeps_app {F A E G1 G : List (Nat × Obj)} (h1 : Keeps F A G1) (h2 : Keeps G1 E G) : Keeps F (A ++ E) G :=
  ⟨h1.perm.trans (by rw [List.append_assoc]; exact List.Perm.append_left A h2.perm)⟩
theorem memK {D : List Nat} {w0 w : World} {F E G : List (Nat × Obj)} (hh : Has D w0 F w) (h : Keeps F E G) : Mem E w := fun b o m => hh.mem b o (h.perm.mem_iff.2 (List.mem_append_left _ m))
/-! ## the view and the content -/
def elc (x : Int × Int) : List Value := [.int .u64 x.1, .int .u64 x.2]
theorem elc_len (x : Int × Int) : (elc x).length = 2 := rfl
theorem el_cLi (w : Nat → Int) (k : Bool) (nn : Nat) (h : w (nd k (crN w k)) = (nn : Int)) : elL w k (nd k (crN w k)) nn = fl elc (cLi w k) ∧ (cLi w k).length = nn := by
  unfold cLi
  rw [h, Int.toNat_natCast]
  refine ⟨?_, by rw [List.length_map, List.length_range]⟩
  unfold elL fl
  rw [List.map_map, List.flatMap_def]
  refine congrArg List.flatten (List.map_congr_left fun i hi => ?_)
  cases k with
  | false =>
    show [Value.int .u64 0, .int .u64 (w (nd false (crN w false) + 1 + i))] = _
    rfl
  | true =>
    show [Value.int .u64 (w (nd true (crN w true) + 1 + i * 2)), .int .u64 (w (nd true (crN w true) + 1 + i * 2 + 1))] = [Value.int .u64 (w (nd true (crN w true) + 1 + 2 * i)), .int .u64 (w (nd true (crN w true) + 1 + (2 * i + 1)))]
    rw [show nd true (crN w true) + 1 + i * 2 = nd true (crN w true) + 1 + 2 * i by omega, show nd true (crN w true) + 1 + 2 * i + 1 = nd true (crN w true) + 1 + (2 * i + 1) by omega]
theorem vo_idle {W : WS} (h : SG W) (hi : ∀ s, W.run s = none) {k : Bool} {r nn : Nat} {sp : Nat → Nat} (hv : VO W.m k r nn sp) : (∀ t, t < 6 → sp t ≠ r % 256) ∧ ∀ s t, s < 6 → t < 6 → s ≠ t → sp s ≠ sp t := by
  obtain ⟨x, ho⟩ := h.oi
  have hc := ho.cur k
  rw [hv.root, Int.toNat_natCast] at hc
  have hw : ∀ t, t < 6 → x.ow k (sp t) = t := fun t ht => by
    have := ho.own k t ht
    rw [hi t] at this
    have e : spN W.m none k t = sp t := by show (W.m.word (hd k + 1 + t)).toNat = sp t; rw [(hv.sp t ht).1, Int.toNat_natCast]
    rw [e] at this; exact this
  refine ⟨fun t ht q => ?_, fun s t hs ht n q => ?_⟩
  · have := hw t ht; rw [q, hc] at this; omega
  · have h1 := hw s hs; have h2 := hw t ht; rw [q, h2] at h1; omega
theorem has_mid {D : List Nat} {w0 w : World} {A B E : List (Nat × Obj)} {x c d : Nat × Obj} (h : Has D w0 (x :: (A ++ (B ++ (c :: d :: E)))) w) : Has D w0 (x :: c :: d :: (A ++ (B ++ E))) w := by
  refine h.perm (List.Perm.cons x ?_)
  rw [← List.append_assoc, ← List.append_assoc]
  exact List.perm_middle.trans (List.Perm.cons c List.perm_middle)
theorem has_out {D : List Nat} {w0 w : World} {A F X : List (Nat × Obj)} (h : Has D w0 (A ++ (F ++ X)) w) : Has D w0 (X ++ (A ++ F)) w := by
  refine h.perm ?_
  rw [← List.append_assoc]
  exact List.perm_append_comm
theorem has_in {D : List Nat} {w0 w : World} {A F X : List (Nat × Obj)} (h : Has D w0 (X ++ (A ++ F)) w) : Has D w0 (A ++ (F ++ X)) w := by
  refine h.perm ?_
  rw [← List.append_assoc A]
  exact List.perm_append_comm
theorem es_pair {es : List Ev} {C9 : List (Int × Int)} (hc : C9 = evA es) {i : Nat} {e : Ev} (h : es[i]? = some e) : C9[i]? = some (e.rp, e.rv) := by
  rw [hc]; unfold evA; rw [List.getElem?_map, h]; rfl


attribute [local irreducible] encM encP fl

set_option maxHeartbeats 4000000 in
theorem same_false (wb b kb c3 : Nat) (W : WS) (F E : List (Nat × Obj)) (C9 : List (Int × Int)) (st : Int) (cu : Nat) (sp : Nat → Nat) (pv : Option Addr) (cv : Nat) (hcu : cu < 7) (hsp : ∀ t, t < 6 → sp t < 7) (hd1 : ∀ t, t < 6 → sp t ≠ cu) (hd2 : ∀ s t, s < 6 → t < 6 → s ≠ t → sp s ≠ sp t) (hF : Wd b kb W [] F) (hg : Good7 W) (hL : LW W ≤ 900000) (hi : ∀ s, W.run s = none) (hC : cLi W.m.word false = C9) (hRv : Row (.slice pv C9.length cv) C9.length (fl elc C9) 2 73 E) : Sp Tryf.prog 14 #[.agg ⟨arrL 9 (vwV st (cu : Int) sp 6 (.slice pv C9.length cv))⟩, .nilIface, .int .u8 2, .pointer (some ⟨c3, 0, none⟩)] ((c3, C [.pointer (some ⟨wb, 0, none⟩)] 24) :: (wb, C [.pointer (some ⟨b, 0, none⟩), .pointer (some ⟨kb, 0, none⟩), .int .u64 ((65536 + hd false : Nat) : Int), .int .u64 ((65536 + nd false 0 : Nat) : Int), .int .u64 ((65536 + nd false 1 : Nat) : Int), .int .u64 ((65536 + nd false 2 : Nat) : Int), .int .u64 ((65536 + nd false 3 : Nat) : Int), .int .u64 ((65536 + nd false 4 : Nat) : Int), .int .u64 ((65536 + nd false 5 : Nat) : Int), .int .u64 ((65536 + nd false 6 : Nat) : Int), .int .i64 (wd false : Int), .int .u64 ((65536 + hd true : Nat) : Int), .int .u64 ((65536 + nd true 0 : Nat) : Int), .int .u64 ((65536 + nd true 1 : Nat) : Int), .int .u64 ((65536 + nd true 2 : Nat) : Int), .int .u64 ((65536 + nd true 3 : Nat) : Int), .int .u64 ((65536 + nd true 4 : Nat) : Int), .int .u64 ((65536 + nd true 5 : Nat) : Int), .int .u64 ((65536 + nd true 6 : Nat) : Int), .int .i64 (wd true : Int)] 58) :: (F ++ E)) (fun v F' => v = .bool true ∧ ∃ W2 F2, Good7 W2 ∧ LW W2 ≤ LW W + 20 ∧ (∀ s, W2.run s = none) ∧ Wd b kb W2 [] F2 ∧ cLi W2.m.word false = [] ∧ cLi W2.m.word (!false) = cLi W.m.word (!false) ∧ 0 < W2.log.length ∧ F' = (c3, C [.pointer (some ⟨wb, 0, none⟩)] 24) :: (wb, C [.pointer (some ⟨b, 0, none⟩), .pointer (some ⟨kb, 0, none⟩), .int .u64 ((65536 + hd false : Nat) : Int), .int .u64 ((65536 + nd false 0 : Nat) : Int), .int .u64 ((65536 + nd false 1 : Nat) : Int), .int .u64 ((65536 + nd false 2 : Nat) : Int), .int .u64 ((65536 + nd false 3 : Nat) : Int), .int .u64 ((65536 + nd false 4 : Nat) : Int), .int .u64 ((65536 + nd false 5 : Nat) : Int), .int .u64 ((65536 + nd false 6 : Nat) : Int), .int .i64 (wd false : Int), .int .u64 ((65536 + hd true : Nat) : Int), .int .u64 ((65536 + nd true 0 : Nat) : Int), .int .u64 ((65536 + nd true 1 : Nat) : Int), .int .u64 ((65536 + nd true 2 : Nat) : Int), .int .u64 ((65536 + nd true 3 : Nat) : Int), .int .u64 ((65536 + nd true 4 : Nat) : Int), .int .u64 ((65536 + nd true 5 : Nat) : Int), .int .u64 ((65536 + nd true 6 : Nat) : Int), .int .i64 (wd true : Int)] 58) :: F2) := by
  refine f_enter (args := [.agg ⟨arrL 9 (vwV st (cu : Int) sp 6 (.slice pv C9.length cv))⟩, .nilIface, .int .u8 2, .pointer (some ⟨c3, 0, none⟩)]) Tryf.func14 rfl Tryf.ntmps14 rfl ?_
  intro w0 w a hpre hl hh
  have hr9 := (hg.2 (by omega)).2.2.cont false
  rw [hC] at hr9
  simp only [slotsFrom, Nat.reduceAdd] at hl
  refine c_seq ?_
  refine c_region ?_
  refine wl (w_box hl hh rfl trivial rfl rfl ?_)
  clear hl hh a w; intro k4 a w hl hh
  refine wl (wl_val hl rfl trivial (r_assign hl rfl) ?_)
  clear hl a; intro a hl
  refine w_nil ?_
  have hl2 := hl.add (t := 1) (hl.add (t := 2) (hl.add (t := 3) (hl.add (t := 4) (hl.nil) rfl) rfl) rfl) rfl; clear hl; have hl := hl2; clear hl2
  refine then_normal ?_
  refine c_seq ?_
  refine c_seq ?_
  refine c_region ?_
  refine wl (wl_val hl rfl trivial (r_move hl rfl) ?_)
  clear hl a; intro a hl
  first | refine wl (wl_val hl rfl trivial (r_neq_ifcN hl rfl ifc68) ?_) | refine wl (wl_val hl rfl trivial (r_neq_ifcS hl rfl ifc68) ?_)
  clear hl a; intro a hl
  refine wl (wl_val hl rfl trivial (r_move hl rfl) ?_)
  clear hl a; intro a hl
  refine sl_split (t := 14) hl rfl ?_ ?_
  · intro hg1; clear hl; intro hl
    try simp only [decide_eq_true_eq, decide_eq_false_iff_not, Bool.not_eq_true', Bool.not_eq_false', Bool.not_eq_true, Bool.not_eq_false, Bool.and_eq_true, Bool.or_eq_true, Bool.and_eq_false_iff, Bool.or_eq_false_iff, Bool.not_not, ne_eq, Int.not_lt, Int.not_le, Decidable.not_not, beq_iff_eq, bne_iff_ne] at hg1
    exfalso; first | omega | (simp at *; done)
  · intro hg1; clear hl; intro hl
    try simp only [decide_eq_true_eq, decide_eq_false_iff_not, Bool.not_eq_true', Bool.not_eq_false', Bool.not_eq_true, Bool.not_eq_false, Bool.and_eq_true, Bool.or_eq_true, Bool.and_eq_false_iff, Bool.or_eq_false_iff, Bool.not_not, ne_eq, Int.not_lt, Int.not_le, Decidable.not_not, beq_iff_eq, bne_iff_ne] at hg1
    refine wl (w_loadA hl hh rfl ⟨_, _, rfl, rfl, rfl⟩ agg66 rfl (by repeat (first | exact find_head | apply find_tail | apply find_skip)) (by exact arrL_all _ _) (by first | rfl | rw [arrL_length]) ?_)
    clear hl a; intro a hl
    refine wl (w_call hl hh rfl ⟨_, _, rfl, rfl, rfl⟩ rfl cal15 rfl (audit_spec st cu sp (.slice pv C9.length cv) hcu hsp hd1 hd2) (by repeat (first | exact keeps_nil | apply keeps_cons (by repeat (first | exact find_head | apply find_tail | apply find_skip)) (by first  | rfl) | exact keeps_self | exact keeps_left | apply keeps_app | apply keeps_mv | apply keeps_skip)) trivial ?_)
    clear hl hh a w; intro vc Fc a w hR hl hh
    obtain ⟨rfl, rfl⟩ := hR
    try simp only [List.cons_append, List.nil_append, List.append_assoc, List.append_nil] at hh
    first | refine wl (wl_val hl rfl ⟨_, _, rfl, rfl, rfl⟩ (r_neq_ifcN hl rfl ifc68) ?_) | refine wl (wl_val hl rfl ⟨_, _, rfl, rfl, rfl⟩ (r_neq_ifcS hl rfl ifc68) ?_)
    clear hl a; intro a hl
    refine wl (wl_val hl rfl trivial (r_pickF hl rfl rfl) ?_)
    clear hl a; intro a hl
    refine w_nil ?_
    have hl2 := hl.add (t := 2) (hl.add (t := 3) (hl.add (t := 4) (hl.add (t := 18) (hl.nil) rfl) rfl) rfl) rfl; clear hl; have hl := hl2; clear hl2
    refine then_normal ?_
    refine c_cond hl rfl ?_ ?_
    · intro hc0
      try simp only [decide_eq_true_eq, decide_eq_false_iff_not, Bool.not_eq_true', Bool.not_eq_false', Bool.not_eq_true, Bool.not_eq_false, Bool.and_eq_true, Bool.or_eq_true, Bool.and_eq_false_iff, Bool.or_eq_false_iff, Bool.not_not, ne_eq, Int.not_lt, Int.not_le, Decidable.not_not, beq_iff_eq, bne_iff_ne] at hc0
      exfalso; first | omega | (simp at *; done)
    · intro hc0
      try simp only [decide_eq_true_eq, decide_eq_false_iff_not, Bool.not_eq_true', Bool.not_eq_false', Bool.not_eq_true, Bool.not_eq_false, Bool.and_eq_true, Bool.or_eq_true, Bool.and_eq_false_iff, Bool.or_eq_false_iff, Bool.not_not, ne_eq, Int.not_lt, Int.not_le, Decidable.not_not, beq_iff_eq, bne_iff_ne] at hc0
      refine wp_skip ?_
      refine then_normal ?_
      refine c_seq ?_
      refine c_region ?_
      refine wl (w_load hl hh rfl trivial one24 rfl (by repeat (first | exact find_head | apply find_tail | apply find_skip)) (by first | rfl) ?_)
      clear hl a; intro a hl
      refine wl (wl_val hl rfl trivial (r_move hl rfl) ?_)
      clear hl a; intro a hl
      refine wl (w_buildSlice hl hh rfl trivial app93 zero30 rfl rfl rfl rfl rfl (by simp only [fillL, arrPl, List.range_succ, List.range_zero, List.map_cons, List.map_nil, List.map_append, List.nil_append, List.replicate_succ, List.replicate_zero, List.flatten_cons, List.flatten_nil, Nat.zero_mul, Nat.mul_one, Nat.one_mul, Nat.reduceMul, setL, List.getElem?_cons_zero, List.getElem?_cons_succ, Value.cells, List.take_zero, List.take_succ_cons, List.take_nil, List.drop_zero, List.drop_succ_cons, List.drop_nil, List.length_cons, List.length_nil, List.cons_append, List.nil_append, List.append_nil, Nat.zero_add, Nat.add_zero, Nat.reduceAdd, Nat.reduceBEq, Nat.reduceEqDiff, Nat.ble, BEq.rfl, Bool.and_true, Bool.and_self, cond_true, beq_self_eq_true]; rfl) ?_)
      clear hl hh a w; intro k22 a w hl hh
      refine wl (w_call hl hh rfl trivial rfl cal9 rfl (drain2 wb b kb k22 W F hF hg hL hi) (by repeat (first | exact keeps_nil | apply keeps_cons (by repeat (first | exact find_head | apply find_tail | apply find_skip)) (by first  | rfl) | exact keeps_self | exact keeps_left | apply keeps_app | apply keeps_mv | apply keeps_skip)) trivial ?_)
      clear hl hh a w; intro vc Fc a w hR hl hh
      obtain ⟨dlv, W3, F2, E2, es, rfl, hG3, hLW3, hi3, hW3, hR3, hes8, hce, hc0, hco, hlp, rfl⟩ := hR
      try simp only [List.cons_append, List.nil_append, List.append_assoc, List.append_nil] at hh
      rw [hC] at hce
      have hcl : C9.length = es.length := by rw [hce]; unfold evA; rw [List.length_map]
      obtain ⟨p8, c8, rfl⟩ := row_val hR3
      try simp only [List.cons_append, List.nil_append, List.append_nil, List.append_assoc] at hh
      replace hh := has_mid hh
      refine wl (wl_val hl rfl trivial (r_move hl rfl) ?_)
      clear hl a; intro a hl
      refine wl (wl_val hl rfl trivial (r_extract hl rfl (by simp only [List.getElem?_toArray, List.getElem?_cons_zero, List.getElem?_cons_succ]; rfl)) ?_)
      clear hl a; intro a hl
      refine wl (wl_val hl rfl trivial (r_extract hl rfl (by simp only [List.getElem?_toArray, List.getElem?_cons_zero, List.getElem?_cons_succ]; rfl)) ?_)
      clear hl a; intro a hl
      refine wl (wl_val hl rfl trivial (r_assign hl rfl) ?_)
      clear hl a; intro a hl
      refine wl (wl_val hl rfl trivial (r_assign hl rfl) ?_)
      clear hl a; intro a hl
      refine w_nil ?_
      have hl2 := hl.add (t := 4) (hl.add (t := 8) (hl.add (t := 9) (hl.nil) rfl) rfl) rfl; clear hl; have hl := hl2; clear hl2
      refine then_normal ?_
      refine c_seq ?_
      refine c_seq ?_
      refine c_region ?_
      refine wl (wl_val hl rfl trivial (r_move hl rfl) ?_)
      clear hl a; intro a hl
      refine wl (wl_val hl rfl trivial (r_not hl rfl) ?_)
      clear hl a; intro a hl
      refine wl (wl_val hl rfl trivial (r_move hl rfl) ?_)
      clear hl a; intro a hl
      refine sl_split (t := 28) hl rfl ?_ ?_
      · intro hg2; clear hl; intro hl
        try simp only [decide_eq_true_eq, decide_eq_false_iff_not, Bool.not_eq_true', Bool.not_eq_false', Bool.not_eq_true, Bool.not_eq_false, Bool.and_eq_true, Bool.or_eq_true, Bool.and_eq_false_iff, Bool.or_eq_false_iff, Bool.not_not, ne_eq, Int.not_lt, Int.not_le, Decidable.not_not, beq_iff_eq, bne_iff_ne] at hg2
        exfalso; first | omega | (simp at *; done)
      · intro hg2; clear hl; intro hl
        try simp only [decide_eq_true_eq, decide_eq_false_iff_not, Bool.not_eq_true', Bool.not_eq_false', Bool.not_eq_true, Bool.not_eq_false, Bool.and_eq_true, Bool.or_eq_true, Bool.and_eq_false_iff, Bool.or_eq_false_iff, Bool.not_not, ne_eq, Int.not_lt, Int.not_le, Decidable.not_not, beq_iff_eq, bne_iff_ne] at hg2
        refine wl (wl_val hl rfl ⟨_, _, rfl, rfl, rfl⟩ (r_move hl rfl) ?_)
        clear hl a; intro a hl
        refine wl (wl_val hl rfl ⟨_, _, rfl, rfl, rfl⟩ (r_lenS hl rfl slc27) ?_)
        clear hl a; intro a hl
        refine wl (wl_val hl rfl ⟨_, _, rfl, rfl, rfl⟩ (r_field hl rfl fld66_3) ?_)
        clear hl a; intro a hl
        refine wl (w_load hl hh rfl ⟨_, _, rfl, rfl, rfl⟩ one64 rfl (by repeat (first | exact find_head | apply find_tail | apply find_skip)) (by exact vw_el _ _ _ _ _) ?_)
        clear hl a; intro a hl
        refine wl (wl_val hl rfl ⟨_, _, rfl, rfl, rfl⟩ (r_lenS hl rfl slc64) ?_)
        clear hl a; intro a hl
        refine wl (wl_val hl rfl ⟨_, _, rfl, rfl, rfl⟩ (r_neq hl rfl rfl) ?_)
        clear hl a; intro a hl
        refine wl (wl_val hl rfl trivial (r_pickF hl rfl rfl) ?_)
        clear hl a; intro a hl
        refine w_nil ?_
        have hl2 := hl.add (t := 4) (hl.add (t := 8) (hl.add (t := 35) (hl.nil) rfl) rfl) rfl; clear hl; have hl := hl2; clear hl2
        refine then_normal ?_
        refine c_cond hl rfl ?_ ?_
        · intro hc1
          try simp only [decide_eq_true_eq, decide_eq_false_iff_not, Bool.not_eq_true', Bool.not_eq_false', Bool.not_eq_true, Bool.not_eq_false, Bool.and_eq_true, Bool.or_eq_true, Bool.and_eq_false_iff, Bool.or_eq_false_iff, Bool.not_not, ne_eq, Int.not_lt, Int.not_le, Decidable.not_not, beq_iff_eq, bne_iff_ne] at hc1
          exfalso; first | omega | (simp at *; done)
        · intro hc1
          try simp only [decide_eq_true_eq, decide_eq_false_iff_not, Bool.not_eq_true', Bool.not_eq_false', Bool.not_eq_true, Bool.not_eq_false, Bool.and_eq_true, Bool.or_eq_true, Bool.and_eq_false_iff, Bool.or_eq_false_iff, Bool.not_not, ne_eq, Int.not_lt, Int.not_le, Decidable.not_not, beq_iff_eq, bne_iff_ne] at hc1
          refine wp_skip ?_
          refine then_normal ?_
          refine c_seq ?_
          refine c_seq ?_
          refine c_region ?_
          refine wl (wl_val hl rfl trivial (r_move hl rfl) ?_)
          clear hl a; intro a hl
          refine wl (wl_val hl rfl trivial (r_lenS hl rfl slc27) ?_)
          clear hl a; intro a hl
          refine wl (wl_val hl rfl trivial (r_move hl rfl) ?_)
          clear hl a; intro a hl
          refine w_nil ?_
          have hl2 := hl.add (t := 4) (hl.add (t := 36) (hl.add (t := 37) (hl.add (t := 38) (hl.nil) rfl) rfl) rfl) rfl; clear hl; have hl := hl2; clear hl2
          refine then_normal ?_
          refine wp_block ?_
          obtain ⟨KS0, hKS0, hk⟩ := (hl.add (t := 4) (hl.add (t := 36) (hl.add (t := 37) (hl.nil) rfl) rfl) rfl).name
          obtain ⟨HS0, hHS0, hh2⟩ := hh.nameT (A := [(wb, C [.pointer (some ⟨b, 0, none⟩), .pointer (some ⟨kb, 0, none⟩), .int .u64 ((65536 + hd false : Nat) : Int), .int .u64 ((65536 + nd false 0 : Nat) : Int), .int .u64 ((65536 + nd false 1 : Nat) : Int), .int .u64 ((65536 + nd false 2 : Nat) : Int), .int .u64 ((65536 + nd false 3 : Nat) : Int), .int .u64 ((65536 + nd false 4 : Nat) : Int), .int .u64 ((65536 + nd false 5 : Nat) : Int), .int .u64 ((65536 + nd false 6 : Nat) : Int), .int .i64 (wd false : Int), .int .u64 ((65536 + hd true : Nat) : Int), .int .u64 ((65536 + nd true 0 : Nat) : Int), .int .u64 ((65536 + nd true 1 : Nat) : Int), .int .u64 ((65536 + nd true 2 : Nat) : Int), .int .u64 ((65536 + nd true 3 : Nat) : Int), .int .u64 ((65536 + nd true 4 : Nat) : Int), .int .u64 ((65536 + nd true 5 : Nat) : Int), .int .u64 ((65536 + nd true 6 : Nat) : Int), .int .i64 (wd true : Int)] 58), (k4, C (arrL 9 (vwV st (cu : Int) sp 6 (.slice pv C9.length cv))) 66), (c3, C [.pointer (some ⟨wb, 0, none⟩)] 24)]) (U := (F2 ++ (E2 ++ E))) (keeps_cons (b := wb) (by repeat (first | exact find_head | apply find_tail | apply find_skip)) (by first | rfl) (keeps_cons (b := k4) (by repeat (first | exact find_head | apply find_tail | apply find_skip)) (by first | rfl) (keeps_cons (b := c3) (by repeat (first | exact find_head | apply find_tail | apply find_skip)) (by first | rfl) ((by repeat (first | exact keeps_nil | exact keeps_self | exact keeps_left | apply keeps_app | apply keeps_mv | apply keeps_skip))))))
          refine c_loop (α := Nat) (fun i => es.length - i) (fun i a w => (i ≤ es.length) ∧ Sl 55 ([(38, .int .i64 (i : Int))] ++ KS0) a ∧ Has _ w0 ([(wb, C [.pointer (some ⟨b, 0, none⟩), .pointer (some ⟨kb, 0, none⟩), .int .u64 ((65536 + hd false : Nat) : Int), .int .u64 ((65536 + nd false 0 : Nat) : Int), .int .u64 ((65536 + nd false 1 : Nat) : Int), .int .u64 ((65536 + nd false 2 : Nat) : Int), .int .u64 ((65536 + nd false 3 : Nat) : Int), .int .u64 ((65536 + nd false 4 : Nat) : Int), .int .u64 ((65536 + nd false 5 : Nat) : Int), .int .u64 ((65536 + nd false 6 : Nat) : Int), .int .i64 (wd false : Int), .int .u64 ((65536 + hd true : Nat) : Int), .int .u64 ((65536 + nd true 0 : Nat) : Int), .int .u64 ((65536 + nd true 1 : Nat) : Int), .int .u64 ((65536 + nd true 2 : Nat) : Int), .int .u64 ((65536 + nd true 3 : Nat) : Int), .int .u64 ((65536 + nd true 4 : Nat) : Int), .int .u64 ((65536 + nd true 5 : Nat) : Int), .int .u64 ((65536 + nd true 6 : Nat) : Int), .int .i64 (wd true : Int)] 58), (k4, C (arrL 9 (vwV st (cu : Int) sp 6 (.slice pv C9.length cv))) 66), (c3, C [.pointer (some ⟨wb, 0, none⟩)] 24)] ++ (HS0 ++ (F2 ++ (E2 ++ E)))) w) 0 ⟨Nat.zero_le _, hl.addE (t := 38) (hk) rfl (by first | rfl), hh2⟩ ?_
          clear hk hh2 hl hh a w
          intro i a w hI
          obtain ⟨hi9, hl, hh⟩ := hI
          subst hKS0; subst hHS0
          simp only [List.cons_append, List.nil_append, List.append_nil, List.append_assoc] at hl hh
          refine c_seq ?_
          refine c_region ?_
          refine wl (wl_val hl rfl trivial (r_lss hl rfl rfl) ?_)
          clear hl a; intro a hl
          refine w_nil ?_
          have hl2 := hl.add (t := 4) (hl.add (t := 36) (hl.add (t := 37) (hl.add (t := 38) (hl.add (t := 39) (hl.nil) rfl) rfl) rfl) rfl) rfl; clear hl; have hl := hl2; clear hl2
          refine then_normal ?_
          refine c_seq ?_
          refine c_cond hl rfl ?_ ?_
          · intro hc2
            try simp only [decide_eq_true_eq, decide_eq_false_iff_not, Bool.not_eq_true', Bool.not_eq_false', Bool.not_eq_true, Bool.not_eq_false, Bool.and_eq_true, Bool.or_eq_true, Bool.and_eq_false_iff, Bool.or_eq_false_iff, Bool.not_not, ne_eq, Int.not_lt, Int.not_le, Decidable.not_not, beq_iff_eq, bne_iff_ne] at hc2
            obtain ⟨b8, junk8, rfl, hj8, hcc8, rfl⟩ := row_pos hR3 (by omega)
            obtain ⟨b9, junk9, rfl, hj9, hcc9, rfl⟩ := row_pos hRv (by omega)
            try simp only [List.cons_append, List.nil_append, List.append_nil, List.append_assoc] at hh
            replace hh := has_out (A := [_, _, _]) hh
            try simp only [List.cons_append, List.nil_append, List.append_nil, List.append_assoc] at hh
            obtain ⟨e, he⟩ : ∃ e, es[i]? = some e := ⟨_, List.getElem?_eq_getElem (by omega)⟩
            have hev8 := fl_at rsE_len he junk8
            have hp9 := es_pair hce he
            have hev9 := fl_at elc_len hp9 junk9
            obtain ⟨hr1, hr2⟩ := hr9 _ (List.mem_of_getElem? hp9)
            simp only [rsE] at hev8
            simp only [elc] at hev9
            dsimp only at hr1 hr2
            unfold InR at hr1 hr2
            refine wp_skip ?_
            refine then_normal ?_
            refine c_seq ?_
            refine wp_block ?_
            refine c_seq ?_
            refine c_region ?_
            refine wl (wl_val hl rfl trivial (r_move hl rfl) ?_)
            clear hl a; intro a hl
            refine wl (wl_val hl rfl trivial (r_indexS hl rfl rfl slc27 (by omega) (by omega) (by first | (simp only [Int.reduceToNat]; rfl) | exact toNat_add1 _ | exact toNat_add2 _ _ | exact toNat_emod _ _ | exact Int.toNat_natCast _ | rfl)) ?_)
            clear hl a; intro a hl
            refine wl (w_loadA hl hh rfl trivial agg34 rfl (by repeat (first | exact find_head | apply find_tail | apply find_skip)) (by exact hev8) (by rfl) ?_)
            clear hl a; intro a hl
            refine wl (w_alloc hl hh rfl trivial zero34 rfl ?_)
            clear hl hh a w; intro k11 a w hl hh
            refine wl (wl_val hl rfl trivial (r_assign hl rfl) ?_)
            clear hl a; intro a hl
            refine wl (w_storeA hl hh trivial agg34 rfl rfl (by repeat (first | exact find_head | apply find_tail | apply find_skip)) (by first | rfl | (simp; done)) (by first | (simp; done) | (simp; omega)) (by first | rfl | (simp; done)) (by first | (simp only [setL, List.getElem?_cons_zero, List.getElem?_cons_succ, Value.cells, List.take_zero, List.take_succ_cons, List.take_nil, List.drop_zero, List.drop_succ_cons, List.drop_nil, List.length_cons, List.length_nil, List.cons_append, List.nil_append, List.append_nil, Nat.zero_add, Nat.add_zero, Nat.reduceAdd, Nat.reduceBEq, Nat.reduceEqDiff, Nat.ble, BEq.rfl, Bool.and_true, Bool.and_self, cond_true, beq_self_eq_true]; rfl)) ?_)
            clear hh w; intro w hh
            refine w_nil ?_
            have hl2 := hl.add (t := 4) (hl.add (t := 10) (hl.add (t := 11) (hl.add (t := 36) (hl.add (t := 37) (hl.add (t := 38) (hl.nil) rfl) rfl) rfl) rfl) rfl) rfl; clear hl; have hl := hl2; clear hl2
            refine then_normal ?_
            refine c_seq ?_
            refine c_draw [(k11, C [.int .u8 e.ra, .int .u64 e.rv, .int .u64 e.rp] 34), (k4, C (arrL 9 (vwV st (cu : Int) sp 6 (.slice (some ⟨b9, 0, none⟩) C9.length cv))) 66), (b9, C (fl elc C9 ++ junk9) 73)] [10] mixed hh ?_
            clear hh w; intro w hh
            have hM : Mem [(k11, C [.int .u8 e.ra, .int .u64 e.rv, .int .u64 e.rp] 34), (k4, C (arrL 9 (vwV st (cu : Int) sp 6 (.slice (some ⟨b9, 0, none⟩) C9.length cv))) 66), (b9, C (fl elc C9 ++ junk9) 73)] w := (memK hh (by repeat (first | exact keeps_nil | apply keeps_cons (by repeat (first | exact find_head | apply find_tail | apply find_skip)) (by first  | rfl) | exact keeps_self | exact keeps_left | apply keeps_app | apply keeps_mv | apply keeps_skip)))
            refine d_take (i := 0) hl rfl (by kernel_rfl) (by kernel_rfl) (by kernel_rfl) (by kernel_rfl) (by kernel_rfl) rfl trivial (fun _ _ _ h => h) hM (fun w hC => r_field hl rfl fld34_2) rfl ?_
            clear hl a; intro a hl
            refine d_take (i := 1) hl rfl (by kernel_rfl) (by kernel_rfl) (by kernel_rfl) (by kernel_rfl) (by kernel_rfl) rfl trivial (fun _ _ _ h => h) hM (fun w hC => r_loadC hl rfl one32 hC (by repeat (first | exact find_head | apply find_tail | apply find_skip)) (by first | rfl)) rfl ?_
            clear hl a; intro a hl
            refine d_take (i := 2) hl rfl (by kernel_rfl) (by kernel_rfl) (by kernel_rfl) (by kernel_rfl) (by kernel_rfl) rfl trivial (fun _ _ _ h => h) hM (fun w hC => r_field hl rfl fld34_1) rfl ?_
            clear hl a; intro a hl
            refine d_take (i := 3) hl rfl (by kernel_rfl) (by kernel_rfl) (by kernel_rfl) (by kernel_rfl) (by kernel_rfl) rfl trivial (fun _ _ _ h => h) hM (fun w hC => r_loadC hl rfl one32 hC (by repeat (first | exact find_head | apply find_tail | apply find_skip)) (by first | rfl)) rfl ?_
            clear hl a; intro a hl
            refine d_take (i := 4) hl rfl (by kernel_rfl) (by kernel_rfl) (by kernel_rfl) (by kernel_rfl) (by kernel_rfl) rfl trivial (fun _ _ _ h => h) hM (fun w hC => r_build hl rfl zero73 bld73 (by simp only [fillL, setL, List.getElem?_cons_zero, List.getElem?_cons_succ, Value.cells, List.take_zero, List.take_succ_cons, List.take_nil, List.drop_zero, List.drop_succ_cons, List.drop_nil, List.length_cons, List.length_nil, List.cons_append, List.nil_append, List.append_nil, Nat.zero_add, Nat.add_zero, Nat.reduceAdd, Nat.reduceBEq, Nat.reduceEqDiff, Nat.ble, BEq.rfl, Bool.and_true, Bool.and_self, cond_true, beq_self_eq_true]; rfl)) rfl ?_
            clear hl a; intro a hl
            refine d_take (i := 5) hl rfl (by kernel_rfl) (by kernel_rfl) (by kernel_rfl) (by kernel_rfl) (by kernel_rfl) rfl trivial (fun _ _ _ h => h) hM (fun w hC => r_field hl rfl fld66_3) rfl ?_
            clear hl a; intro a hl
            refine d_take (i := 6) hl rfl (by kernel_rfl) (by kernel_rfl) (by kernel_rfl) (by kernel_rfl) (by kernel_rfl) rfl trivial (fun _ _ _ h => h) hM (fun w hC => r_loadC hl rfl one64 hC (by repeat (first | exact find_head | apply find_tail | apply find_skip)) (by exact vw_el _ _ _ _ _)) rfl ?_
            clear hl a; intro a hl
            refine d_take (i := 7) hl rfl (by kernel_rfl) (by kernel_rfl) (by kernel_rfl) (by kernel_rfl) (by kernel_rfl) rfl trivial (fun _ _ _ h => h) hM (fun w hC => r_move hl rfl) rfl ?_
            clear hl a; intro a hl
            refine d_take (i := 8) hl rfl (by kernel_rfl) (by kernel_rfl) (by kernel_rfl) (by kernel_rfl) (by kernel_rfl) rfl trivial (fun _ _ _ h => h) hM (fun w hC => r_indexS hl rfl rfl slc64 (by omega) (by omega) (by first | (simp only [Int.reduceToNat]; rfl) | exact toNat_add1 _ | exact toNat_add2 _ _ | exact toNat_emod _ _ | exact Int.toNat_natCast _ | rfl)) rfl ?_
            clear hl a; intro a hl
            refine d_take (i := 9) hl rfl (by kernel_rfl) (by kernel_rfl) (by kernel_rfl) (by kernel_rfl) (by kernel_rfl) rfl trivial (fun _ _ _ h => h) hM (fun w hC => r_loadCA hl rfl agg73 hC (by repeat (first | exact find_head | apply find_tail | apply find_skip)) (by exact hev9) (by rfl)) rfl ?_
            clear hl a; intro a hl
            refine d_takeL (i := 10) hl rfl (by kernel_rfl) (by kernel_rfl) (by kernel_rfl) (by kernel_rfl) (by kernel_rfl) rfl trivial (fun _ _ _ h => h) (fun w => r_neqA hl rfl rfl eqf73 shp73 (by simp only [unlitL, unlit]; rfl) (by simp only [unlitL, unlit]; rfl) (by first | exact ⟨trivial⟩ | (refine ⟨?_⟩; simp [LitsOk, litOk, Fits]; done) | (refine ⟨?_⟩; simp [LitsOk, litOk, Fits]; omega)) (by first | exact ⟨trivial⟩ | (refine ⟨?_⟩; simp [LitsOk, litOk, Fits]; done) | (refine ⟨?_⟩; simp [LitsOk, litOk, Fits]; omega))) rfl ?_
            clear hl a; intro a hl
            refine d_done (by kernel_rfl) ?_
            try clear hM
            have hl2 := hl.add (t := 4) (hl.add (t := 36) (hl.add (t := 37) (hl.add (t := 38) (hl.add (t := 53) (hl.nil) rfl) rfl) rfl) rfl) rfl; clear hl; have hl := hl2; clear hl2
            refine then_normal ?_
            refine c_cond hl rfl ?_ ?_
            · intro hc3
              try simp only [decide_eq_true_eq, decide_eq_false_iff_not, Bool.not_eq_true', Bool.not_eq_false', Bool.not_eq_true, Bool.not_eq_false, Bool.and_eq_true, Bool.or_eq_true, Bool.and_eq_false_iff, Bool.or_eq_false_iff, Bool.not_not, ne_eq, Int.not_lt, Int.not_le, Decidable.not_not, beq_iff_eq, bne_iff_ne] at hc3
              exfalso; simp [eqLits, litBeq] at hc3
            · intro hc3
              try simp only [decide_eq_true_eq, decide_eq_false_iff_not, Bool.not_eq_true', Bool.not_eq_false', Bool.not_eq_true, Bool.not_eq_false, Bool.and_eq_true, Bool.or_eq_true, Bool.and_eq_false_iff, Bool.or_eq_false_iff, Bool.not_not, ne_eq, Int.not_lt, Int.not_le, Decidable.not_not, beq_iff_eq, bne_iff_ne] at hc3
              refine wp_skip ?_
              refine blk_normal ?_
              refine then_normal ?_
              refine c_region ?_
              first | refine wl (wl_val hl rfl trivial (r_add hl rfl rfl (by simp only [Fits]; omega)) ?_) | refine wl (wl_val hl rfl trivial (r_addW hl rfl rfl) ?_)
              clear hl a; intro a hl
              refine wl (wl_val hl rfl trivial (r_move hl rfl) ?_)
              clear hl a; intro a hl
              refine w_nil ?_
              have hl2 := hl.add (t := 4) (hl.add (t := 36) (hl.add (t := 37) (hl.add (t := 38) (hl.nil) rfl) rfl) rfl) rfl; clear hl; have hl := hl2; clear hl2
              replace hh := has_in (A := [_, _, _]) (X := [_, _]) hh.tail
              try simp only [List.cons_append, List.nil_append, List.append_nil, List.append_assoc] at hh
              refine then_normal ?_
              refine ⟨i + 1, (by omega), (by omega), hl.addE (t := 38) (hl.addE (t := 4) (hl.addE (t := 36) (hl.addE (t := 37) (hl.nil) rfl (by first | rfl | rfl)) rfl (by first | rfl | rfl)) rfl (by first | rfl | rfl)) rfl (by first | rfl | rfl), hh.keep (by repeat (first | exact keeps_nil | apply keeps_cons (by repeat (first | exact find_head | apply find_tail | apply find_skip)) (by first  | rfl) | exact keeps_self | exact keeps_left | apply keeps_app | apply keeps_mv | apply keeps_skip))⟩
          · intro hc2
            try simp only [decide_eq_true_eq, decide_eq_false_iff_not, Bool.not_eq_true', Bool.not_eq_false', Bool.not_eq_true, Bool.not_eq_false, Bool.and_eq_true, Bool.or_eq_true, Bool.and_eq_false_iff, Bool.or_eq_false_iff, Bool.not_not, ne_eq, Int.not_lt, Int.not_le, Decidable.not_not, beq_iff_eq, bne_iff_ne] at hc2
            refine wp_exit ?_
            refine then_exit ?_
            refine then_exit ?_
            refine blk_exit ?_
            refine then_normal ?_
            refine c_seq ?_
            refine c_region ?_
            refine wl (wl_val hl rfl trivial (r_assign hl rfl) ?_)
            clear hl a; intro a hl
            refine w_nil ?_
            have hl2 := hl.add (t := 7) (hl.nil) rfl; clear hl; have hl := hl2; clear hl2
            refine then_normal ?_
            refine wp_ret ?_
            refine f_ret1 (F' := (c3, C [.pointer (some ⟨wb, 0, none⟩)] 24) :: (wb, C [.pointer (some ⟨b, 0, none⟩), .pointer (some ⟨kb, 0, none⟩), .int .u64 ((65536 + hd false : Nat) : Int), .int .u64 ((65536 + nd false 0 : Nat) : Int), .int .u64 ((65536 + nd false 1 : Nat) : Int), .int .u64 ((65536 + nd false 2 : Nat) : Int), .int .u64 ((65536 + nd false 3 : Nat) : Int), .int .u64 ((65536 + nd false 4 : Nat) : Int), .int .u64 ((65536 + nd false 5 : Nat) : Int), .int .u64 ((65536 + nd false 6 : Nat) : Int), .int .i64 (wd false : Int), .int .u64 ((65536 + hd true : Nat) : Int), .int .u64 ((65536 + nd true 0 : Nat) : Int), .int .u64 ((65536 + nd true 1 : Nat) : Int), .int .u64 ((65536 + nd true 2 : Nat) : Int), .int .u64 ((65536 + nd true 3 : Nat) : Int), .int .u64 ((65536 + nd true 4 : Nat) : Int), .int .u64 ((65536 + nd true 5 : Nat) : Int), .int .u64 ((65536 + nd true 6 : Nat) : Int), .int .i64 (wd true : Int)] 58) :: F2) hl hh rfl rfl (by repeat (first | exact keeps_nil | apply keeps_cons (by repeat (first | exact find_head | apply find_tail | apply find_skip)) (by first  | rfl) | exact keeps_self | exact keeps_left | apply keeps_app | apply keeps_mv | apply keeps_skip)) ?_
            exact ⟨rfl, W3, F2, hG3, hLW3, hi3, hW3, hc0, hco, hlp, rfl⟩

set_option maxHeartbeats 4000000 in
theorem same_true (wb b kb c3 : Nat) (W : WS) (F E : List (Nat × Obj)) (C9 : List (Int × Int)) (st : Int) (cu : Nat) (sp : Nat → Nat) (pv : Option Addr) (cv : Nat) (hcu : cu < 7) (hsp : ∀ t, t < 6 → sp t < 7) (hd1 : ∀ t, t < 6 → sp t ≠ cu) (hd2 : ∀ s t, s < 6 → t < 6 → s ≠ t → sp s ≠ sp t) (hF : Wd b kb W [] F) (hg : Good7 W) (hL : LW W ≤ 900000) (hi : ∀ s, W.run s = none) (hC : cLi W.m.word true = C9) (hRv : Row (.slice pv C9.length cv) C9.length (fl elc C9) 2 73 E) : Sp Tryf.prog 14 #[.agg ⟨arrL 9 (vwV st (cu : Int) sp 6 (.slice pv C9.length cv))⟩, .nilIface, .int .u8 5, .pointer (some ⟨c3, 0, none⟩)] ((c3, C [.pointer (some ⟨wb, 0, none⟩)] 24) :: (wb, C [.pointer (some ⟨b, 0, none⟩), .pointer (some ⟨kb, 0, none⟩), .int .u64 ((65536 + hd false : Nat) : Int), .int .u64 ((65536 + nd false 0 : Nat) : Int), .int .u64 ((65536 + nd false 1 : Nat) : Int), .int .u64 ((65536 + nd false 2 : Nat) : Int), .int .u64 ((65536 + nd false 3 : Nat) : Int), .int .u64 ((65536 + nd false 4 : Nat) : Int), .int .u64 ((65536 + nd false 5 : Nat) : Int), .int .u64 ((65536 + nd false 6 : Nat) : Int), .int .i64 (wd false : Int), .int .u64 ((65536 + hd true : Nat) : Int), .int .u64 ((65536 + nd true 0 : Nat) : Int), .int .u64 ((65536 + nd true 1 : Nat) : Int), .int .u64 ((65536 + nd true 2 : Nat) : Int), .int .u64 ((65536 + nd true 3 : Nat) : Int), .int .u64 ((65536 + nd true 4 : Nat) : Int), .int .u64 ((65536 + nd true 5 : Nat) : Int), .int .u64 ((65536 + nd true 6 : Nat) : Int), .int .i64 (wd true : Int)] 58) :: (F ++ E)) (fun v F' => v = .bool true ∧ ∃ W2 F2, Good7 W2 ∧ LW W2 ≤ LW W + 20 ∧ (∀ s, W2.run s = none) ∧ Wd b kb W2 [] F2 ∧ cLi W2.m.word true = [] ∧ cLi W2.m.word (!true) = cLi W.m.word (!true) ∧ 0 < W2.log.length ∧ F' = (c3, C [.pointer (some ⟨wb, 0, none⟩)] 24) :: (wb, C [.pointer (some ⟨b, 0, none⟩), .pointer (some ⟨kb, 0, none⟩), .int .u64 ((65536 + hd false : Nat) : Int), .int .u64 ((65536 + nd false 0 : Nat) : Int), .int .u64 ((65536 + nd false 1 : Nat) : Int), .int .u64 ((65536 + nd false 2 : Nat) : Int), .int .u64 ((65536 + nd false 3 : Nat) : Int), .int .u64 ((65536 + nd false 4 : Nat) : Int), .int .u64 ((65536 + nd false 5 : Nat) : Int), .int .u64 ((65536 + nd false 6 : Nat) : Int), .int .i64 (wd false : Int), .int .u64 ((65536 + hd true : Nat) : Int), .int .u64 ((65536 + nd true 0 : Nat) : Int), .int .u64 ((65536 + nd true 1 : Nat) : Int), .int .u64 ((65536 + nd true 2 : Nat) : Int), .int .u64 ((65536 + nd true 3 : Nat) : Int), .int .u64 ((65536 + nd true 4 : Nat) : Int), .int .u64 ((65536 + nd true 5 : Nat) : Int), .int .u64 ((65536 + nd true 6 : Nat) : Int), .int .i64 (wd true : Int)] 58) :: F2) := by
  refine f_enter (args := [.agg ⟨arrL 9 (vwV st (cu : Int) sp 6 (.slice pv C9.length cv))⟩, .nilIface, .int .u8 5, .pointer (some ⟨c3, 0, none⟩)]) Tryf.func14 rfl Tryf.ntmps14 rfl ?_
  intro w0 w a hpre hl hh
  have hr9 := (hg.2 (by omega)).2.2.cont true
  rw [hC] at hr9
  simp only [slotsFrom, Nat.reduceAdd] at hl
  refine c_seq ?_
  refine c_region ?_
  refine wl (w_box hl hh rfl trivial rfl rfl ?_)
  clear hl hh a w; intro k4 a w hl hh
  refine wl (wl_val hl rfl trivial (r_assign hl rfl) ?_)
  clear hl a; intro a hl
  refine w_nil ?_
  have hl2 := hl.add (t := 1) (hl.add (t := 2) (hl.add (t := 3) (hl.add (t := 4) (hl.nil) rfl) rfl) rfl) rfl; clear hl; have hl := hl2; clear hl2
  refine then_normal ?_
  refine c_seq ?_
  refine c_seq ?_
  refine c_region ?_
  refine wl (wl_val hl rfl trivial (r_move hl rfl) ?_)
  clear hl a; intro a hl
  first | refine wl (wl_val hl rfl trivial (r_neq_ifcN hl rfl ifc68) ?_) | refine wl (wl_val hl rfl trivial (r_neq_ifcS hl rfl ifc68) ?_)
  clear hl a; intro a hl
  refine wl (wl_val hl rfl trivial (r_move hl rfl) ?_)
  clear hl a; intro a hl
  refine sl_split (t := 14) hl rfl ?_ ?_
  · intro hg1; clear hl; intro hl
    try simp only [decide_eq_true_eq, decide_eq_false_iff_not, Bool.not_eq_true', Bool.not_eq_false', Bool.not_eq_true, Bool.not_eq_false, Bool.and_eq_true, Bool.or_eq_true, Bool.and_eq_false_iff, Bool.or_eq_false_iff, Bool.not_not, ne_eq, Int.not_lt, Int.not_le, Decidable.not_not, beq_iff_eq, bne_iff_ne] at hg1
    exfalso; first | omega | (simp at *; done)
  · intro hg1; clear hl; intro hl
    try simp only [decide_eq_true_eq, decide_eq_false_iff_not, Bool.not_eq_true', Bool.not_eq_false', Bool.not_eq_true, Bool.not_eq_false, Bool.and_eq_true, Bool.or_eq_true, Bool.and_eq_false_iff, Bool.or_eq_false_iff, Bool.not_not, ne_eq, Int.not_lt, Int.not_le, Decidable.not_not, beq_iff_eq, bne_iff_ne] at hg1
    refine wl (w_loadA hl hh rfl ⟨_, _, rfl, rfl, rfl⟩ agg66 rfl (by repeat (first | exact find_head | apply find_tail | apply find_skip)) (by exact arrL_all _ _) (by first | rfl | rw [arrL_length]) ?_)
    clear hl a; intro a hl
    refine wl (w_call hl hh rfl ⟨_, _, rfl, rfl, rfl⟩ rfl cal15 rfl (audit_spec st cu sp (.slice pv C9.length cv) hcu hsp hd1 hd2) (by repeat (first | exact keeps_nil | apply keeps_cons (by repeat (first | exact find_head | apply find_tail | apply find_skip)) (by first  | rfl) | exact keeps_self | exact keeps_left | apply keeps_app | apply keeps_mv | apply keeps_skip)) trivial ?_)
    clear hl hh a w; intro vc Fc a w hR hl hh
    obtain ⟨rfl, rfl⟩ := hR
    try simp only [List.cons_append, List.nil_append, List.append_assoc, List.append_nil] at hh
    first | refine wl (wl_val hl rfl ⟨_, _, rfl, rfl, rfl⟩ (r_neq_ifcN hl rfl ifc68) ?_) | refine wl (wl_val hl rfl ⟨_, _, rfl, rfl, rfl⟩ (r_neq_ifcS hl rfl ifc68) ?_)
    clear hl a; intro a hl
    refine wl (wl_val hl rfl trivial (r_pickF hl rfl rfl) ?_)
    clear hl a; intro a hl
    refine w_nil ?_
    have hl2 := hl.add (t := 2) (hl.add (t := 3) (hl.add (t := 4) (hl.add (t := 18) (hl.nil) rfl) rfl) rfl) rfl; clear hl; have hl := hl2; clear hl2
    refine then_normal ?_
    refine c_cond hl rfl ?_ ?_
    · intro hc0
      try simp only [decide_eq_true_eq, decide_eq_false_iff_not, Bool.not_eq_true', Bool.not_eq_false', Bool.not_eq_true, Bool.not_eq_false, Bool.and_eq_true, Bool.or_eq_true, Bool.and_eq_false_iff, Bool.or_eq_false_iff, Bool.not_not, ne_eq, Int.not_lt, Int.not_le, Decidable.not_not, beq_iff_eq, bne_iff_ne] at hc0
      exfalso; first | omega | (simp at *; done)
    · intro hc0
      try simp only [decide_eq_true_eq, decide_eq_false_iff_not, Bool.not_eq_true', Bool.not_eq_false', Bool.not_eq_true, Bool.not_eq_false, Bool.and_eq_true, Bool.or_eq_true, Bool.and_eq_false_iff, Bool.or_eq_false_iff, Bool.not_not, ne_eq, Int.not_lt, Int.not_le, Decidable.not_not, beq_iff_eq, bne_iff_ne] at hc0
      refine wp_skip ?_
      refine then_normal ?_
      refine c_seq ?_
      refine c_region ?_
      refine wl (w_load hl hh rfl trivial one24 rfl (by repeat (first | exact find_head | apply find_tail | apply find_skip)) (by first | rfl) ?_)
      clear hl a; intro a hl
      refine wl (wl_val hl rfl trivial (r_move hl rfl) ?_)
      clear hl a; intro a hl
      refine wl (w_buildSlice hl hh rfl trivial app93 zero30 rfl rfl rfl rfl rfl (by simp only [fillL, arrPl, List.range_succ, List.range_zero, List.map_cons, List.map_nil, List.map_append, List.nil_append, List.replicate_succ, List.replicate_zero, List.flatten_cons, List.flatten_nil, Nat.zero_mul, Nat.mul_one, Nat.one_mul, Nat.reduceMul, setL, List.getElem?_cons_zero, List.getElem?_cons_succ, Value.cells, List.take_zero, List.take_succ_cons, List.take_nil, List.drop_zero, List.drop_succ_cons, List.drop_nil, List.length_cons, List.length_nil, List.cons_append, List.nil_append, List.append_nil, Nat.zero_add, Nat.add_zero, Nat.reduceAdd, Nat.reduceBEq, Nat.reduceEqDiff, Nat.ble, BEq.rfl, Bool.and_true, Bool.and_self, cond_true, beq_self_eq_true]; rfl) ?_)
      clear hl hh a w; intro k22 a w hl hh
      refine wl (w_call hl hh rfl trivial rfl cal9 rfl (drain5 wb b kb k22 W F hF hg hL hi) (by repeat (first | exact keeps_nil | apply keeps_cons (by repeat (first | exact find_head | apply find_tail | apply find_skip)) (by first  | rfl) | exact keeps_self | exact keeps_left | apply keeps_app | apply keeps_mv | apply keeps_skip)) trivial ?_)
      clear hl hh a w; intro vc Fc a w hR hl hh
      obtain ⟨dlv, W3, F2, E2, es, rfl, hG3, hLW3, hi3, hW3, hR3, hes8, hce, hc0, hco, hlp, rfl⟩ := hR
      try simp only [List.cons_append, List.nil_append, List.append_assoc, List.append_nil] at hh
      rw [hC] at hce
      have hcl : C9.length = es.length := by rw [hce]; unfold evA; rw [List.length_map]
      obtain ⟨p8, c8, rfl⟩ := row_val hR3
      try simp only [List.cons_append, List.nil_append, List.append_nil, List.append_assoc] at hh
      replace hh := has_mid hh
      refine wl (wl_val hl rfl trivial (r_move hl rfl) ?_)
      clear hl a; intro a hl
      refine wl (wl_val hl rfl trivial (r_extract hl rfl (by simp only [List.getElem?_toArray, List.getElem?_cons_zero, List.getElem?_cons_succ]; rfl)) ?_)
      clear hl a; intro a hl
      refine wl (wl_val hl rfl trivial (r_extract hl rfl (by simp only [List.getElem?_toArray, List.getElem?_cons_zero, List.getElem?_cons_succ]; rfl)) ?_)
      clear hl a; intro a hl
      refine wl (wl_val hl rfl trivial (r_assign hl rfl) ?_)
      clear hl a; intro a hl
      refine wl (wl_val hl rfl trivial (r_assign hl rfl) ?_)
      clear hl a; intro a hl
      refine w_nil ?_
      have hl2 := hl.add (t := 4) (hl.add (t := 8) (hl.add (t := 9) (hl.nil) rfl) rfl) rfl; clear hl; have hl := hl2; clear hl2
      refine then_normal ?_
      refine c_seq ?_
      refine c_seq ?_
      refine c_region ?_
      refine wl (wl_val hl rfl trivial (r_move hl rfl) ?_)
      clear hl a; intro a hl
      refine wl (wl_val hl rfl trivial (r_not hl rfl) ?_)
      clear hl a; intro a hl
      refine wl (wl_val hl rfl trivial (r_move hl rfl) ?_)
      clear hl a; intro a hl
      refine sl_split (t := 28) hl rfl ?_ ?_
      · intro hg2; clear hl; intro hl
        try simp only [decide_eq_true_eq, decide_eq_false_iff_not, Bool.not_eq_true', Bool.not_eq_false', Bool.not_eq_true, Bool.not_eq_false, Bool.and_eq_true, Bool.or_eq_true, Bool.and_eq_false_iff, Bool.or_eq_false_iff, Bool.not_not, ne_eq, Int.not_lt, Int.not_le, Decidable.not_not, beq_iff_eq, bne_iff_ne] at hg2
        exfalso; first | omega | (simp at *; done)
      · intro hg2; clear hl; intro hl
        try simp only [decide_eq_true_eq, decide_eq_false_iff_not, Bool.not_eq_true', Bool.not_eq_false', Bool.not_eq_true, Bool.not_eq_false, Bool.and_eq_true, Bool.or_eq_true, Bool.and_eq_false_iff, Bool.or_eq_false_iff, Bool.not_not, ne_eq, Int.not_lt, Int.not_le, Decidable.not_not, beq_iff_eq, bne_iff_ne] at hg2
        refine wl (wl_val hl rfl ⟨_, _, rfl, rfl, rfl⟩ (r_move hl rfl) ?_)
        clear hl a; intro a hl
        refine wl (wl_val hl rfl ⟨_, _, rfl, rfl, rfl⟩ (r_lenS hl rfl slc27) ?_)
        clear hl a; intro a hl
        refine wl (wl_val hl rfl ⟨_, _, rfl, rfl, rfl⟩ (r_field hl rfl fld66_3) ?_)
        clear hl a; intro a hl
        refine wl (w_load hl hh rfl ⟨_, _, rfl, rfl, rfl⟩ one64 rfl (by repeat (first | exact find_head | apply find_tail | apply find_skip)) (by exact vw_el _ _ _ _ _) ?_)
        clear hl a; intro a hl
        refine wl (wl_val hl rfl ⟨_, _, rfl, rfl, rfl⟩ (r_lenS hl rfl slc64) ?_)
        clear hl a; intro a hl
        refine wl (wl_val hl rfl ⟨_, _, rfl, rfl, rfl⟩ (r_neq hl rfl rfl) ?_)
        clear hl a; intro a hl
        refine wl (wl_val hl rfl trivial (r_pickF hl rfl rfl) ?_)
        clear hl a; intro a hl
        refine w_nil ?_
        have hl2 := hl.add (t := 4) (hl.add (t := 8) (hl.add (t := 35) (hl.nil) rfl) rfl) rfl; clear hl; have hl := hl2; clear hl2
        refine then_normal ?_
        refine c_cond hl rfl ?_ ?_
        · intro hc1
          try simp only [decide_eq_true_eq, decide_eq_false_iff_not, Bool.not_eq_true', Bool.not_eq_false', Bool.not_eq_true, Bool.not_eq_false, Bool.and_eq_true, Bool.or_eq_true, Bool.and_eq_false_iff, Bool.or_eq_false_iff, Bool.not_not, ne_eq, Int.not_lt, Int.not_le, Decidable.not_not, beq_iff_eq, bne_iff_ne] at hc1
          exfalso; first | omega | (simp at *; done)
        · intro hc1
          try simp only [decide_eq_true_eq, decide_eq_false_iff_not, Bool.not_eq_true', Bool.not_eq_false', Bool.not_eq_true, Bool.not_eq_false, Bool.and_eq_true, Bool.or_eq_true, Bool.and_eq_false_iff, Bool.or_eq_false_iff, Bool.not_not, ne_eq, Int.not_lt, Int.not_le, Decidable.not_not, beq_iff_eq, bne_iff_ne] at hc1
          refine wp_skip ?_
          refine then_normal ?_
          refine c_seq ?_
          refine c_seq ?_
          refine c_region ?_
          refine wl (wl_val hl rfl trivial (r_move hl rfl) ?_)
          clear hl a; intro a hl
          refine wl (wl_val hl rfl trivial (r_lenS hl rfl slc27) ?_)
          clear hl a; intro a hl
          refine wl (wl_val hl rfl trivial (r_move hl rfl) ?_)
          clear hl a; intro a hl
          refine w_nil ?_
          have hl2 := hl.add (t := 4) (hl.add (t := 36) (hl.add (t := 37) (hl.add (t := 38) (hl.nil) rfl) rfl) rfl) rfl; clear hl; have hl := hl2; clear hl2
          refine then_normal ?_
          refine wp_block ?_
          obtain ⟨KS0, hKS0, hk⟩ := (hl.add (t := 4) (hl.add (t := 36) (hl.add (t := 37) (hl.nil) rfl) rfl) rfl).name
          obtain ⟨HS0, hHS0, hh2⟩ := hh.nameT (A := [(wb, C [.pointer (some ⟨b, 0, none⟩), .pointer (some ⟨kb, 0, none⟩), .int .u64 ((65536 + hd false : Nat) : Int), .int .u64 ((65536 + nd false 0 : Nat) : Int), .int .u64 ((65536 + nd false 1 : Nat) : Int), .int .u64 ((65536 + nd false 2 : Nat) : Int), .int .u64 ((65536 + nd false 3 : Nat) : Int), .int .u64 ((65536 + nd false 4 : Nat) : Int), .int .u64 ((65536 + nd false 5 : Nat) : Int), .int .u64 ((65536 + nd false 6 : Nat) : Int), .int .i64 (wd false : Int), .int .u64 ((65536 + hd true : Nat) : Int), .int .u64 ((65536 + nd true 0 : Nat) : Int), .int .u64 ((65536 + nd true 1 : Nat) : Int), .int .u64 ((65536 + nd true 2 : Nat) : Int), .int .u64 ((65536 + nd true 3 : Nat) : Int), .int .u64 ((65536 + nd true 4 : Nat) : Int), .int .u64 ((65536 + nd true 5 : Nat) : Int), .int .u64 ((65536 + nd true 6 : Nat) : Int), .int .i64 (wd true : Int)] 58), (k4, C (arrL 9 (vwV st (cu : Int) sp 6 (.slice pv C9.length cv))) 66), (c3, C [.pointer (some ⟨wb, 0, none⟩)] 24)]) (U := (F2 ++ (E2 ++ E))) (keeps_cons (b := wb) (by repeat (first | exact find_head | apply find_tail | apply find_skip)) (by first | rfl) (keeps_cons (b := k4) (by repeat (first | exact find_head | apply find_tail | apply find_skip)) (by first | rfl) (keeps_cons (b := c3) (by repeat (first | exact find_head | apply find_tail | apply find_skip)) (by first | rfl) ((by repeat (first | exact keeps_nil | exact keeps_self | exact keeps_left | apply keeps_app | apply keeps_mv | apply keeps_skip))))))
          refine c_loop (α := Nat) (fun i => es.length - i) (fun i a w => (i ≤ es.length) ∧ Sl 55 ([(38, .int .i64 (i : Int))] ++ KS0) a ∧ Has _ w0 ([(wb, C [.pointer (some ⟨b, 0, none⟩), .pointer (some ⟨kb, 0, none⟩), .int .u64 ((65536 + hd false : Nat) : Int), .int .u64 ((65536 + nd false 0 : Nat) : Int), .int .u64 ((65536 + nd false 1 : Nat) : Int), .int .u64 ((65536 + nd false 2 : Nat) : Int), .int .u64 ((65536 + nd false 3 : Nat) : Int), .int .u64 ((65536 + nd false 4 : Nat) : Int), .int .u64 ((65536 + nd false 5 : Nat) : Int), .int .u64 ((65536 + nd false 6 : Nat) : Int), .int .i64 (wd false : Int), .int .u64 ((65536 + hd true : Nat) : Int), .int .u64 ((65536 + nd true 0 : Nat) : Int), .int .u64 ((65536 + nd true 1 : Nat) : Int), .int .u64 ((65536 + nd true 2 : Nat) : Int), .int .u64 ((65536 + nd true 3 : Nat) : Int), .int .u64 ((65536 + nd true 4 : Nat) : Int), .int .u64 ((65536 + nd true 5 : Nat) : Int), .int .u64 ((65536 + nd true 6 : Nat) : Int), .int .i64 (wd true : Int)] 58), (k4, C (arrL 9 (vwV st (cu : Int) sp 6 (.slice pv C9.length cv))) 66), (c3, C [.pointer (some ⟨wb, 0, none⟩)] 24)] ++ (HS0 ++ (F2 ++ (E2 ++ E)))) w) 0 ⟨Nat.zero_le _, hl.addE (t := 38) (hk) rfl (by first | rfl), hh2⟩ ?_
          clear hk hh2 hl hh a w
          intro i a w hI
          obtain ⟨hi9, hl, hh⟩ := hI
          subst hKS0; subst hHS0
          simp only [List.cons_append, List.nil_append, List.append_nil, List.append_assoc] at hl hh
          refine c_seq ?_
          refine c_region ?_
          refine wl (wl_val hl rfl trivial (r_lss hl rfl rfl) ?_)
          clear hl a; intro a hl
          refine w_nil ?_
          have hl2 := hl.add (t := 4) (hl.add (t := 36) (hl.add (t := 37) (hl.add (t := 38) (hl.add (t := 39) (hl.nil) rfl) rfl) rfl) rfl) rfl; clear hl; have hl := hl2; clear hl2
          refine then_normal ?_
          refine c_seq ?_
          refine c_cond hl rfl ?_ ?_
          · intro hc2
            try simp only [decide_eq_true_eq, decide_eq_false_iff_not, Bool.not_eq_true', Bool.not_eq_false', Bool.not_eq_true, Bool.not_eq_false, Bool.and_eq_true, Bool.or_eq_true, Bool.and_eq_false_iff, Bool.or_eq_false_iff, Bool.not_not, ne_eq, Int.not_lt, Int.not_le, Decidable.not_not, beq_iff_eq, bne_iff_ne] at hc2
            obtain ⟨b8, junk8, rfl, hj8, hcc8, rfl⟩ := row_pos hR3 (by omega)
            obtain ⟨b9, junk9, rfl, hj9, hcc9, rfl⟩ := row_pos hRv (by omega)
            try simp only [List.cons_append, List.nil_append, List.append_nil, List.append_assoc] at hh
            replace hh := has_out (A := [_, _, _]) hh
            try simp only [List.cons_append, List.nil_append, List.append_nil, List.append_assoc] at hh
            obtain ⟨e, he⟩ : ∃ e, es[i]? = some e := ⟨_, List.getElem?_eq_getElem (by omega)⟩
            have hev8 := fl_at rsE_len he junk8
            have hp9 := es_pair hce he
            have hev9 := fl_at elc_len hp9 junk9
            obtain ⟨hr1, hr2⟩ := hr9 _ (List.mem_of_getElem? hp9)
            simp only [rsE] at hev8
            simp only [elc] at hev9
            dsimp only at hr1 hr2
            unfold InR at hr1 hr2
            refine wp_skip ?_
            refine then_normal ?_
            refine c_seq ?_
            refine wp_block ?_
            refine c_seq ?_
            refine c_region ?_
            refine wl (wl_val hl rfl trivial (r_move hl rfl) ?_)
            clear hl a; intro a hl
            refine wl (wl_val hl rfl trivial (r_indexS hl rfl rfl slc27 (by omega) (by omega) (by first | (simp only [Int.reduceToNat]; rfl) | exact toNat_add1 _ | exact toNat_add2 _ _ | exact toNat_emod _ _ | exact Int.toNat_natCast _ | rfl)) ?_)
            clear hl a; intro a hl
            refine wl (w_loadA hl hh rfl trivial agg34 rfl (by repeat (first | exact find_head | apply find_tail | apply find_skip)) (by exact hev8) (by rfl) ?_)
            clear hl a; intro a hl
            refine wl (w_alloc hl hh rfl trivial zero34 rfl ?_)
            clear hl hh a w; intro k11 a w hl hh
            refine wl (wl_val hl rfl trivial (r_assign hl rfl) ?_)
            clear hl a; intro a hl
            refine wl (w_storeA hl hh trivial agg34 rfl rfl (by repeat (first | exact find_head | apply find_tail | apply find_skip)) (by first | rfl | (simp; done)) (by first | (simp; done) | (simp; omega)) (by first | rfl | (simp; done)) (by first | (simp only [setL, List.getElem?_cons_zero, List.getElem?_cons_succ, Value.cells, List.take_zero, List.take_succ_cons, List.take_nil, List.drop_zero, List.drop_succ_cons, List.drop_nil, List.length_cons, List.length_nil, List.cons_append, List.nil_append, List.append_nil, Nat.zero_add, Nat.add_zero, Nat.reduceAdd, Nat.reduceBEq, Nat.reduceEqDiff, Nat.ble, BEq.rfl, Bool.and_true, Bool.and_self, cond_true, beq_self_eq_true]; rfl)) ?_)
            clear hh w; intro w hh
            refine w_nil ?_
            have hl2 := hl.add (t := 4) (hl.add (t := 10) (hl.add (t := 11) (hl.add (t := 36) (hl.add (t := 37) (hl.add (t := 38) (hl.nil) rfl) rfl) rfl) rfl) rfl) rfl; clear hl; have hl := hl2; clear hl2
            refine then_normal ?_
            refine c_seq ?_
            refine c_draw [(k11, C [.int .u8 e.ra, .int .u64 e.rv, .int .u64 e.rp] 34), (k4, C (arrL 9 (vwV st (cu : Int) sp 6 (.slice (some ⟨b9, 0, none⟩) C9.length cv))) 66), (b9, C (fl elc C9 ++ junk9) 73)] [10] mixed hh ?_
            clear hh w; intro w hh
            have hM : Mem [(k11, C [.int .u8 e.ra, .int .u64 e.rv, .int .u64 e.rp] 34), (k4, C (arrL 9 (vwV st (cu : Int) sp 6 (.slice (some ⟨b9, 0, none⟩) C9.length cv))) 66), (b9, C (fl elc C9 ++ junk9) 73)] w := (memK hh (by repeat (first | exact keeps_nil | apply keeps_cons (by repeat (first | exact find_head | apply find_tail | apply find_skip)) (by first  | rfl) | exact keeps_self | exact keeps_left | apply keeps_app | apply keeps_mv | apply keeps_skip)))
            refine d_take (i := 0) hl rfl (by kernel_rfl) (by kernel_rfl) (by kernel_rfl) (by kernel_rfl) (by kernel_rfl) rfl trivial (fun _ _ _ h => h) hM (fun w hC => r_field hl rfl fld34_2) rfl ?_
            clear hl a; intro a hl
            refine d_take (i := 1) hl rfl (by kernel_rfl) (by kernel_rfl) (by kernel_rfl) (by kernel_rfl) (by kernel_rfl) rfl trivial (fun _ _ _ h => h) hM (fun w hC => r_loadC hl rfl one32 hC (by repeat (first | exact find_head | apply find_tail | apply find_skip)) (by first | rfl)) rfl ?_
            clear hl a; intro a hl
            refine d_take (i := 2) hl rfl (by kernel_rfl) (by kernel_rfl) (by kernel_rfl) (by kernel_rfl) (by kernel_rfl) rfl trivial (fun _ _ _ h => h) hM (fun w hC => r_field hl rfl fld34_1) rfl ?_
            clear hl a; intro a hl
            refine d_take (i := 3) hl rfl (by kernel_rfl) (by kernel_rfl) (by kernel_rfl) (by kernel_rfl) (by kernel_rfl) rfl trivial (fun _ _ _ h => h) hM (fun w hC => r_loadC hl rfl one32 hC (by repeat (first | exact find_head | apply find_tail | apply find_skip)) (by first | rfl)) rfl ?_
            clear hl a; intro a hl
            refine d_take (i := 4) hl rfl (by kernel_rfl) (by kernel_rfl) (by kernel_rfl) (by kernel_rfl) (by kernel_rfl) rfl trivial (fun _ _ _ h => h) hM (fun w hC => r_build hl rfl zero73 bld73 (by simp only [fillL, setL, List.getElem?_cons_zero, List.getElem?_cons_succ, Value.cells, List.take_zero, List.take_succ_cons, List.take_nil, List.drop_zero, List.drop_succ_cons, List.drop_nil, List.length_cons, List.length_nil, List.cons_append, List.nil_append, List.append_nil, Nat.zero_add, Nat.add_zero, Nat.reduceAdd, Nat.reduceBEq, Nat.reduceEqDiff, Nat.ble, BEq.rfl, Bool.and_true, Bool.and_self, cond_true, beq_self_eq_true]; rfl)) rfl ?_
            clear hl a; intro a hl
            refine d_take (i := 5) hl rfl (by kernel_rfl) (by kernel_rfl) (by kernel_rfl) (by kernel_rfl) (by kernel_rfl) rfl trivial (fun _ _ _ h => h) hM (fun w hC => r_field hl rfl fld66_3) rfl ?_
            clear hl a; intro a hl
            refine d_take (i := 6) hl rfl (by kernel_rfl) (by kernel_rfl) (by kernel_rfl) (by kernel_rfl) (by kernel_rfl) rfl trivial (fun _ _ _ h => h) hM (fun w hC => r_loadC hl rfl one64 hC (by repeat (first | exact find_head | apply find_tail | apply find_skip)) (by exact vw_el _ _ _ _ _)) rfl ?_
            clear hl a; intro a hl
            refine d_take (i := 7) hl rfl (by kernel_rfl) (by kernel_rfl) (by kernel_rfl) (by kernel_rfl) (by kernel_rfl) rfl trivial (fun _ _ _ h => h) hM (fun w hC => r_move hl rfl) rfl ?_
            clear hl a; intro a hl
            refine d_take (i := 8) hl rfl (by kernel_rfl) (by kernel_rfl) (by kernel_rfl) (by kernel_rfl) (by kernel_rfl) rfl trivial (fun _ _ _ h => h) hM (fun w hC => r_indexS hl rfl rfl slc64 (by omega) (by omega) (by first | (simp only [Int.reduceToNat]; rfl) | exact toNat_add1 _ | exact toNat_add2 _ _ | exact toNat_emod _ _ | exact Int.toNat_natCast _ | rfl)) rfl ?_
            clear hl a; intro a hl
            refine d_take (i := 9) hl rfl (by kernel_rfl) (by kernel_rfl) (by kernel_rfl) (by kernel_rfl) (by kernel_rfl) rfl trivial (fun _ _ _ h => h) hM (fun w hC => r_loadCA hl rfl agg73 hC (by repeat (first | exact find_head | apply find_tail | apply find_skip)) (by exact hev9) (by rfl)) rfl ?_
            clear hl a; intro a hl
            refine d_takeL (i := 10) hl rfl (by kernel_rfl) (by kernel_rfl) (by kernel_rfl) (by kernel_rfl) (by kernel_rfl) rfl trivial (fun _ _ _ h => h) (fun w => r_neqA hl rfl rfl eqf73 shp73 (by simp only [unlitL, unlit]; rfl) (by simp only [unlitL, unlit]; rfl) (by first | exact ⟨trivial⟩ | (refine ⟨?_⟩; simp [LitsOk, litOk, Fits]; done) | (refine ⟨?_⟩; simp [LitsOk, litOk, Fits]; omega)) (by first | exact ⟨trivial⟩ | (refine ⟨?_⟩; simp [LitsOk, litOk, Fits]; done) | (refine ⟨?_⟩; simp [LitsOk, litOk, Fits]; omega))) rfl ?_
            clear hl a; intro a hl
            refine d_done (by kernel_rfl) ?_
            try clear hM
            have hl2 := hl.add (t := 4) (hl.add (t := 36) (hl.add (t := 37) (hl.add (t := 38) (hl.add (t := 53) (hl.nil) rfl) rfl) rfl) rfl) rfl; clear hl; have hl := hl2; clear hl2
            refine then_normal ?_
            refine c_cond hl rfl ?_ ?_
            · intro hc3
              try simp only [decide_eq_true_eq, decide_eq_false_iff_not, Bool.not_eq_true', Bool.not_eq_false', Bool.not_eq_true, Bool.not_eq_false, Bool.and_eq_true, Bool.or_eq_true, Bool.and_eq_false_iff, Bool.or_eq_false_iff, Bool.not_not, ne_eq, Int.not_lt, Int.not_le, Decidable.not_not, beq_iff_eq, bne_iff_ne] at hc3
              exfalso; simp [eqLits, litBeq] at hc3
            · intro hc3
              try simp only [decide_eq_true_eq, decide_eq_false_iff_not, Bool.not_eq_true', Bool.not_eq_false', Bool.not_eq_true, Bool.not_eq_false, Bool.and_eq_true, Bool.or_eq_true, Bool.and_eq_false_iff, Bool.or_eq_false_iff, Bool.not_not, ne_eq, Int.not_lt, Int.not_le, Decidable.not_not, beq_iff_eq, bne_iff_ne] at hc3
              refine wp_skip ?_
              refine blk_normal ?_
              refine then_normal ?_
              refine c_region ?_
              first | refine wl (wl_val hl rfl trivial (r_add hl rfl rfl (by simp only [Fits]; omega)) ?_) | refine wl (wl_val hl rfl trivial (r_addW hl rfl rfl) ?_)
              clear hl a; intro a hl
              refine wl (wl_val hl rfl trivial (r_move hl rfl) ?_)
              clear hl a; intro a hl
              refine w_nil ?_
              have hl2 := hl.add (t := 4) (hl.add (t := 36) (hl.add (t := 37) (hl.add (t := 38) (hl.nil) rfl) rfl) rfl) rfl; clear hl; have hl := hl2; clear hl2
              replace hh := has_in (A := [_, _, _]) (X := [_, _]) hh.tail
              try simp only [List.cons_append, List.nil_append, List.append_nil, List.append_assoc] at hh
              refine then_normal ?_
              refine ⟨i + 1, (by omega), (by omega), hl.addE (t := 38) (hl.addE (t := 4) (hl.addE (t := 36) (hl.addE (t := 37) (hl.nil) rfl (by first | rfl | rfl)) rfl (by first | rfl | rfl)) rfl (by first | rfl | rfl)) rfl (by first | rfl | rfl), hh.keep (by repeat (first | exact keeps_nil | apply keeps_cons (by repeat (first | exact find_head | apply find_tail | apply find_skip)) (by first  | rfl) | exact keeps_self | exact keeps_left | apply keeps_app | apply keeps_mv | apply keeps_skip))⟩
          · intro hc2
            try simp only [decide_eq_true_eq, decide_eq_false_iff_not, Bool.not_eq_true', Bool.not_eq_false', Bool.not_eq_true, Bool.not_eq_false, Bool.and_eq_true, Bool.or_eq_true, Bool.and_eq_false_iff, Bool.or_eq_false_iff, Bool.not_not, ne_eq, Int.not_lt, Int.not_le, Decidable.not_not, beq_iff_eq, bne_iff_ne] at hc2
            refine wp_exit ?_
            refine then_exit ?_
            refine then_exit ?_
            refine blk_exit ?_
            refine then_normal ?_
            refine c_seq ?_
            refine c_region ?_
            refine wl (wl_val hl rfl trivial (r_assign hl rfl) ?_)
            clear hl a; intro a hl
            refine w_nil ?_
            have hl2 := hl.add (t := 7) (hl.nil) rfl; clear hl; have hl := hl2; clear hl2
            refine then_normal ?_
            refine wp_ret ?_
            refine f_ret1 (F' := (c3, C [.pointer (some ⟨wb, 0, none⟩)] 24) :: (wb, C [.pointer (some ⟨b, 0, none⟩), .pointer (some ⟨kb, 0, none⟩), .int .u64 ((65536 + hd false : Nat) : Int), .int .u64 ((65536 + nd false 0 : Nat) : Int), .int .u64 ((65536 + nd false 1 : Nat) : Int), .int .u64 ((65536 + nd false 2 : Nat) : Int), .int .u64 ((65536 + nd false 3 : Nat) : Int), .int .u64 ((65536 + nd false 4 : Nat) : Int), .int .u64 ((65536 + nd false 5 : Nat) : Int), .int .u64 ((65536 + nd false 6 : Nat) : Int), .int .i64 (wd false : Int), .int .u64 ((65536 + hd true : Nat) : Int), .int .u64 ((65536 + nd true 0 : Nat) : Int), .int .u64 ((65536 + nd true 1 : Nat) : Int), .int .u64 ((65536 + nd true 2 : Nat) : Int), .int .u64 ((65536 + nd true 3 : Nat) : Int), .int .u64 ((65536 + nd true 4 : Nat) : Int), .int .u64 ((65536 + nd true 5 : Nat) : Int), .int .u64 ((65536 + nd true 6 : Nat) : Int), .int .i64 (wd true : Int)] 58) :: F2) hl hh rfl rfl (by repeat (first | exact keeps_nil | apply keeps_cons (by repeat (first | exact find_head | apply find_tail | apply find_skip)) (by first  | rfl) | exact keeps_self | exact keeps_left | apply keeps_app | apply keeps_mv | apply keeps_skip)) ?_
            exact ⟨rfl, W3, F2, hG3, hLW3, hi3, hW3, hc0, hco, hlp, rfl⟩
end Go.Proofs.Qxb6500914aFmt

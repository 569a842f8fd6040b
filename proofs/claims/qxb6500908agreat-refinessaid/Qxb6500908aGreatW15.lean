import Derived.Test.Qxb6500908aGreatW14
namespace Go.Proofs.Qxb6500908aGreat
open Go.Eng
set_option linter.unusedVariables false
set_option linter.unusedSimpArgs false
theorem shp43 : shapeT Tryz.prog 8 43 = some [.int .u8, .int .u8, .int .u8, .int .u8, .int .u8, .int .u8] := by kernel_rfl
theorem eqf43 : eqOk Tryz.prog 8 43 = true := by kernel_rfl
attribute [local irreducible] NtV.k StV.c LdV.c StV.E GtV.c GtV.t orB sh1

set_option maxHeartbeats 4000000 in
theorem queued_spec (Z : List (Nat × Obj)) (gb : Nat) (g : GtV) (hg : g.ok Z) (id : Int) (hid : 0 ≤ id ∧ id ≤ 4294967295) : Sp Tryz.prog 44 #[.pointer (some ⟨gb, 0, none⟩), .int .u32 id] ((gb, C g.c 127) :: g.qE) (fun v F' => v = .int .i64 (qix g.pl.q id) ∧ F' = (gb, C g.c 127) :: g.qE) := by
  refine f_enter (args := [.pointer (some ⟨gb, 0, none⟩), .int .u32 id]) Tryz.func44 rfl Tryz.ntmps44 rfl ?_
  intro w0 w a hpre hl hh
  generalize hDD : List.map Prod.fst ((gb, C g.c 127) :: g.qE) = D at hh ⊢
  have hql := hg.ql
  simp only [slotsFrom, Nat.reduceAdd] at hl
  refine c_seq ?_
  refine c_region ?_
  refine wl (wl_val hl rfl trivial (r_assign hl rfl) ?_)
  clear hl a; intro a hl
  refine w_nil ?_
  have hl2 := hl.add (t := 0) (hl.add (t := 1) (hl.nil) rfl) rfl; clear hl; have hl := hl2; clear hl2
  refine then_normal ?_
  refine c_seq ?_
  refine c_seq ?_
  refine c_region ?_
  refine wl (wl_val hl rfl trivial (r_move hl rfl) ?_)
  clear hl a; intro a hl
  refine wl (wl_val hl rfl trivial (r_nilCheck hl rfl) ?_)
  clear hl a; intro a hl
  refine wl (wl_val hl rfl trivial (r_field hl rfl fld127_2) ?_)
  clear hl a; intro a hl
  first | refine wl (w_load hl hh rfl trivial one79 rfl (by repeat (first | exact find_head | apply find_tail | apply find_skip)) (by first | exact gtc_led _ | exact gtc_ep _ | exact gtc_vs _ | exact gtc_is _ | exact gtc_fid _ | exact gtc_ph _ | exact gtc_vd _ | exact gtc_q _ | exact gtc_rf _ | exact gtc_ys _ | exact gtc_dn _ | exact gtc_tk _ | exact gtc_au _ | exact gtc_o _ | exact gtc_off _ | rfl) ?_) | refine wl (wl_val hl rfl trivial (r_load hl rfl one79 (hh.mem _ _ (by repeat (first | exact hmem1 | exact List.mem_append_left _ hmem1 | apply List.mem_cons_of_mem | apply List.mem_append_right))) (by rw [List.getElem?_toArray]; exact hd2)) ?_)
  clear hl a; intro a hl
  refine wl (wl_val hl rfl trivial (r_lenS hl rfl slc79) ?_)
  clear hl a; intro a hl
  refine wl (wl_val hl rfl trivial (r_move hl rfl) ?_)
  clear hl a; intro a hl
  refine w_nil ?_
  have hl2 := hl.add (t := 0) (hl.add (t := 1) (hl.add (t := 10) (hl.add (t := 11) (hl.nil) rfl) rfl) rfl) rfl; clear hl; have hl := hl2; clear hl2
  refine then_normal ?_
  refine wp_block ?_
  obtain ⟨KS0, hKS0, hk⟩ := (hl.add (t := 0) (hl.add (t := 1) (hl.add (t := 10) (hl.nil) rfl) rfl) rfl).name
  obtain ⟨HS0, hHS0, hh2⟩ := hh.name (keeps_nil)
  refine c_loop (α := Nat) (fun i => g.q.length - i) (fun i a w => (i ≤ g.q.length ∧ ∀ k y, k < i → g.q[k]? = some y → ¬ y.id = id) ∧ Sl 26 ([(11, .int .i64 (i : Int))] ++ KS0) a ∧ Has _ w0 ([] ++ HS0) w) 0 ⟨⟨Nat.zero_le _, fun k y h => absurd h (Nat.not_lt_zero _)⟩, hl.addE (t := 11) (hk) rfl (by first | rfl), hh2⟩ ?_
  clear hk hh2 hl hh a w
  intro i a w hI
  obtain ⟨⟨hi, ha⟩, hl, hh⟩ := hI
  subst hKS0; subst hHS0
  simp only [List.cons_append, List.nil_append, List.append_nil, List.append_assoc] at hl hh
  refine c_seq ?_
  refine c_region ?_
  refine wl (wl_val hl rfl trivial (r_lss hl rfl rfl) ?_)
  clear hl a; intro a hl
  refine w_nil ?_
  have hl2 := hl.add (t := 0) (hl.add (t := 1) (hl.add (t := 10) (hl.add (t := 11) (hl.add (t := 12) (hl.nil) rfl) rfl) rfl) rfl) rfl; clear hl; have hl := hl2; clear hl2
  refine then_normal ?_
  refine c_seq ?_
  refine c_cond hl rfl ?_ ?_
  · intro hc0
    try simp only [decide_eq_true_eq, decide_eq_false_iff_not, Bool.not_eq_true', Bool.not_eq_false', Bool.not_eq_true, Bool.not_eq_false, Bool.and_eq_true, Bool.or_eq_true, Bool.and_eq_false_iff, Bool.or_eq_false_iff, Bool.not_not, ne_eq, Int.not_lt, Int.not_le, Decidable.not_not, beq_iff_eq, bne_iff_ne] at hc0
    obtain ⟨x, hx⟩ : ∃ x, g.q[i]? = some x := ⟨_, List.getElem?_eq_getElem (by omega)⟩
    obtain ⟨b1, j1, hq1, hjl1, hjc1, hE1⟩ := row_pos hg.q (by omega)
    have hmem1 : (b1, C (fl btc g.q ++ j1) 141) ∈ g.qE := (by rw [hE1]; exact List.mem_singleton.2 rfl)
    have hd1 := fl_at btc_len hx j1
    have hd2 : (fl btc g.q ++ j1)[0 + i * 2 + 0]? = some (.int .u32 x.id) := by
      have h2 : (((fl btc g.q ++ j1).drop (0 + i * 2)).take 2)[0]? = some (.int .u32 x.id) := by rw [hd1]; rfl
      rw [List.getElem?_take, if_pos (by omega), List.getElem?_drop] at h2
      exact h2
    refine wp_skip ?_
    refine then_normal ?_
    refine c_seq ?_
    refine wp_block ?_
    refine c_seq ?_
    refine c_region ?_
    refine wl (wl_val hl rfl trivial (r_move hl rfl) ?_)
    clear hl a; intro a hl
    refine wl (wl_val hl rfl trivial (r_assign hl rfl) ?_)
    clear hl a; intro a hl
    refine w_nil ?_
    have hl2 := hl.add (t := 0) (hl.add (t := 1) (hl.add (t := 5) (hl.add (t := 10) (hl.add (t := 11) (hl.nil) rfl) rfl) rfl) rfl) rfl; clear hl; have hl := hl2; clear hl2
    refine then_normal ?_
    refine c_seq ?_
    refine c_region ?_
    refine wl (wl_val hl rfl trivial (r_move hl rfl) ?_)
    clear hl a; intro a hl
    refine wl (wl_val hl rfl trivial (r_nilCheck hl rfl) ?_)
    clear hl a; intro a hl
    refine wl (wl_val hl rfl trivial (r_field hl rfl fld127_2) ?_)
    clear hl a; intro a hl
    first | refine wl (w_load hl hh rfl trivial one79 rfl (by repeat (first | exact find_head | apply find_tail | apply find_skip)) (by first | exact gtc_led _ | exact gtc_ep _ | exact gtc_vs _ | exact gtc_is _ | exact gtc_fid _ | exact gtc_ph _ | exact gtc_vd _ | exact gtc_q _ | exact gtc_rf _ | exact gtc_ys _ | exact gtc_dn _ | exact gtc_tk _ | exact gtc_au _ | exact gtc_o _ | exact gtc_off _ | rfl) ?_) | refine wl (wl_val hl rfl trivial (r_load hl rfl one79 (hh.mem _ _ (by repeat (first | exact hmem1 | exact List.mem_append_left _ hmem1 | apply List.mem_cons_of_mem | apply List.mem_append_right))) (by rw [List.getElem?_toArray]; exact hd2)) ?_)
    clear hl a; intro a hl
    rw [hq1] at hl
    refine wl (wl_val hl rfl trivial (r_move hl rfl) ?_)
    clear hl a; intro a hl
    refine wl (wl_val hl rfl trivial (r_indexS hl rfl rfl slc79 (by omega) (by omega) (by first | (simp only [Int.reduceToNat]; rfl) | exact toNat_add1 _ | exact toNat_add2 _ _ | exact toNat_emod _ _ | exact Int.toNat_natCast _ | rfl)) ?_)
    clear hl a; intro a hl
    refine wl (wl_val hl rfl trivial (r_field hl rfl fld141_0) ?_)
    clear hl a; intro a hl
    first | refine wl (w_load hl hh rfl trivial one36 rfl (by repeat (first | exact find_head | apply find_tail | apply find_skip)) (by first | exact gtc_led _ | exact gtc_ep _ | exact gtc_vs _ | exact gtc_is _ | exact gtc_fid _ | exact gtc_ph _ | exact gtc_vd _ | exact gtc_q _ | exact gtc_rf _ | exact gtc_ys _ | exact gtc_dn _ | exact gtc_tk _ | exact gtc_au _ | exact gtc_o _ | exact gtc_off _ | rfl) ?_) | refine wl (wl_val hl rfl trivial (r_load hl rfl one36 (hh.mem _ _ (by repeat (first | exact hmem1 | exact List.mem_append_left _ hmem1 | apply List.mem_cons_of_mem | apply List.mem_append_right))) (by rw [List.getElem?_toArray]; exact hd2)) ?_)
    clear hl a; intro a hl
    refine wl (wl_val hl rfl trivial (r_move hl rfl) ?_)
    clear hl a; intro a hl
    refine wl (wl_val hl rfl trivial (r_eql hl rfl rfl) ?_)
    clear hl a; intro a hl
    refine w_nil ?_
    have hl2 := hl.add (t := 0) (hl.add (t := 1) (hl.add (t := 5) (hl.add (t := 10) (hl.add (t := 11) (hl.add (t := 23) (hl.nil) rfl) rfl) rfl) rfl) rfl) rfl; clear hl; have hl := hl2; clear hl2
    refine then_normal ?_
    refine c_cond hl rfl ?_ ?_
    · intro hc1
      try simp only [decide_eq_true_eq, decide_eq_false_iff_not, Bool.not_eq_true', Bool.not_eq_false', Bool.not_eq_true, Bool.not_eq_false, Bool.and_eq_true, Bool.or_eq_true, Bool.and_eq_false_iff, Bool.or_eq_false_iff, Bool.not_not, ne_eq, Int.not_lt, Int.not_le, Decidable.not_not, beq_iff_eq, bne_iff_ne] at hc1
      have hr := qix_hit hx hc1 ha
      refine c_seq ?_
      refine c_region ?_
      refine wl (wl_val hl rfl trivial (r_move hl rfl) ?_)
      clear hl a; intro a hl
      refine wl (wl_val hl rfl trivial (r_assign hl rfl) ?_)
      clear hl a; intro a hl
      refine w_nil ?_
      have hl2 := hl.add (t := 4) (hl.nil) rfl; clear hl; have hl := hl2; clear hl2
      refine then_normal ?_
      refine wp_ret ?_
      refine blk_ret ?_
      refine then_ret ?_
      refine then_ret ?_
      refine blk_ret ?_
      refine then_ret ?_
      refine f_ret1 (F' := (gb, C g.c 127) :: g.qE) hl hh rfl rfl (by repeat (first | exact keeps_nil | apply keeps_cons (by repeat (first | exact find_head | apply find_tail | apply find_skip)) (by first  | rfl) | exact keeps_self | exact keeps_left | apply keeps_app | apply keeps_mv | apply keeps_skip)) ?_
      exact ⟨by rw [show g.pl.q = g.q.map btP from rfl, hr], rfl⟩
    · intro hc1
      try simp only [decide_eq_true_eq, decide_eq_false_iff_not, Bool.not_eq_true', Bool.not_eq_false', Bool.not_eq_true, Bool.not_eq_false, Bool.and_eq_true, Bool.or_eq_true, Bool.and_eq_false_iff, Bool.or_eq_false_iff, Bool.not_not, ne_eq, Int.not_lt, Int.not_le, Decidable.not_not, beq_iff_eq, bne_iff_ne] at hc1
      have hne : ¬ x.id = id := hc1
      refine wp_skip ?_
      refine blk_normal ?_
      refine then_normal ?_
      refine c_region ?_
      first | refine wl (wl_val hl rfl trivial (r_add hl rfl rfl (by simp only [Fits]; omega)) ?_) | refine wl (wl_val hl rfl trivial (r_addW hl rfl rfl) ?_)
      clear hl a; intro a hl
      refine wl (wl_val hl rfl trivial (r_move hl rfl) ?_)
      clear hl a; intro a hl
      refine w_nil ?_
      have hl2 := hl.add (t := 0) (hl.add (t := 1) (hl.add (t := 10) (hl.add (t := 11) (hl.nil) rfl) rfl) rfl) rfl; clear hl; have hl := hl2; clear hl2
      refine then_normal ?_
      refine ⟨i + 1, (by omega), ⟨by omega, all_snoc ha hx hne⟩, hl.addE (t := 11) (hl.addE (t := 0) (hl.addE (t := 1) (hl.addE (t := 10) (hl.nil) rfl (by first | rfl | exact congrArg (Value.int .i64) (show (i : Int) + 1 = ((i + 1 : Nat) : Int) by omega))) rfl (by first | rfl | exact congrArg (Value.int .i64) (show (i : Int) + 1 = ((i + 1 : Nat) : Int) by omega))) rfl (by first | rfl | exact congrArg (Value.int .i64) (show (i : Int) + 1 = ((i + 1 : Nat) : Int) by omega))) rfl (by first | rfl | exact congrArg (Value.int .i64) (show (i : Int) + 1 = ((i + 1 : Nat) : Int) by omega)), hh.keep (by repeat (first | exact keeps_nil | apply keeps_cons (by repeat (first | exact find_head | apply find_tail | apply find_skip)) (by first  | rfl) | exact keeps_self | exact keeps_left | apply keeps_app | apply keeps_mv | apply keeps_skip))⟩
  · intro hc0
    try simp only [decide_eq_true_eq, decide_eq_false_iff_not, Bool.not_eq_true', Bool.not_eq_false', Bool.not_eq_true, Bool.not_eq_false, Bool.and_eq_true, Bool.or_eq_true, Bool.and_eq_false_iff, Bool.or_eq_false_iff, Bool.not_not, ne_eq, Int.not_lt, Int.not_le, Decidable.not_not, beq_iff_eq, bne_iff_ne] at hc0
    have hie : i = g.q.length := by omega
    rw [hie] at ha
    have hr := qix_none ha
    refine wp_exit ?_
    refine then_exit ?_
    refine then_exit ?_
    refine blk_exit ?_
    refine then_normal ?_
    refine c_seq ?_
    refine c_region ?_
    refine wl (wl_val hl rfl trivial (r_assign hl rfl) ?_)
    clear hl a; intro a hl
    refine w_nil ?_
    have hl2 := hl.add (t := 4) (hl.nil) rfl; clear hl; have hl := hl2; clear hl2
    refine then_normal ?_
    refine wp_ret ?_
    refine f_ret1 (F' := (gb, C g.c 127) :: g.qE) hl hh rfl rfl (by repeat (first | exact keeps_nil | apply keeps_cons (by repeat (first | exact find_head | apply find_tail | apply find_skip)) (by first  | rfl) | exact keeps_self | exact keeps_left | apply keeps_app | apply keeps_mv | apply keeps_skip)) ?_
    exact ⟨by rw [show g.pl.q = g.q.map btP from rfl, hr], rfl⟩

set_option maxHeartbeats 4000000 in
theorem has_spec (Z : List (Nat × Obj)) (gb : Nat) (g : GtV) (hg : g.ok Z) (v : Iv) (hv : v.ok) : Sp Tryz.prog 49 #[.pointer (some ⟨gb, 0, none⟩), .agg ⟨ivc v⟩] ((gb, C g.c 127) :: g.st.E) (fun u F' => u = .int .i64 (hix g.pl.st.is v) ∧ F' = (gb, C g.c 127) :: g.st.E) := by
  refine f_enter (args := [.pointer (some ⟨gb, 0, none⟩), .agg ⟨[.int .u8 v.k, .int .u8 v.a, .int .u8 v.b, .int .u8 v.w, .int .u8 v.da, .int .u8 v.dl]⟩]) Tryz.func49 rfl Tryz.ntmps49 rfl ?_
  intro w0 w a hpre hl hh
  generalize hDD : List.map Prod.fst ((gb, C g.c 127) :: g.st.E) = D at hh ⊢
  have hil := hg.st.il
  simp only [slotsFrom, Nat.reduceAdd] at hl
  refine c_seq ?_
  refine c_region ?_
  refine wl (w_box hl hh rfl trivial rfl rfl ?_)
  clear hl hh a w; intro k3 a w hl hh
  refine wl (wl_val hl rfl trivial (r_assign hl rfl) ?_)
  clear hl a; intro a hl
  refine w_nil ?_
  have hl2 := hl.add (t := 0) (hl.add (t := 3) (hl.nil) rfl) rfl; clear hl; have hl := hl2; clear hl2
  refine then_normal ?_
  refine c_seq ?_
  refine c_seq ?_
  refine c_region ?_
  refine wl (wl_val hl rfl trivial (r_move hl rfl) ?_)
  clear hl a; intro a hl
  refine wl (wl_val hl rfl trivial (r_nilCheck hl rfl) ?_)
  clear hl a; intro a hl
  refine wl (wl_val hl rfl trivial (r_field hl rfl fld127_1) ?_)
  clear hl a; intro a hl
  refine wl (wl_val hl rfl trivial (r_field hl rfl fld89_2) ?_)
  clear hl a; intro a hl
  refine wl (w_load hl hh rfl trivial one75 rfl (by repeat (first | exact find_head | apply find_tail | apply find_skip)) (by first | exact gtc_led _ | exact gtc_ep _ | exact gtc_vs _ | exact gtc_is _ | exact gtc_fid _ | exact gtc_ph _ | exact gtc_vd _ | exact gtc_q _ | exact gtc_rf _ | exact gtc_ys _ | exact gtc_dn _ | exact gtc_tk _ | exact gtc_au _ | exact gtc_o _ | exact gtc_off _ | rfl) ?_)
  clear hl a; intro a hl
  refine wl (wl_val hl rfl trivial (r_lenS hl rfl slc75) ?_)
  clear hl a; intro a hl
  refine wl (wl_val hl rfl trivial (r_move hl rfl) ?_)
  clear hl a; intro a hl
  refine w_nil ?_
  have hl2 := hl.add (t := 0) (hl.add (t := 3) (hl.add (t := 11) (hl.add (t := 12) (hl.nil) rfl) rfl) rfl) rfl; clear hl; have hl := hl2; clear hl2
  refine then_normal ?_
  refine wp_block ?_
  obtain ⟨KS0, hKS0, hk⟩ := (hl.add (t := 0) (hl.add (t := 3) (hl.add (t := 11) (hl.nil) rfl) rfl) rfl).name
  obtain ⟨HS0, hHS0, hh2⟩ := hh.name (keeps_nil)
  refine c_loop (α := Nat) (fun i => g.st.is.length - i) (fun i a w => (i ≤ g.st.is.length ∧ ∀ k y, k < i → g.st.is[k]? = some y → ¬ y = v) ∧ Sl 27 ([(12, .int .i64 (i : Int))] ++ KS0) a ∧ Has _ w0 ([] ++ HS0) w) 0 ⟨⟨Nat.zero_le _, fun k y h => absurd h (Nat.not_lt_zero _)⟩, hl.addE (t := 12) (hk) rfl (by first | rfl), hh2⟩ ?_
  clear hk hh2 hl hh a w
  intro i a w hI
  obtain ⟨⟨hi, ha⟩, hl, hh⟩ := hI
  subst hKS0; subst hHS0
  simp only [List.cons_append, List.nil_append, List.append_nil, List.append_assoc] at hl hh
  refine c_seq ?_
  refine c_region ?_
  refine wl (wl_val hl rfl trivial (r_lss hl rfl rfl) ?_)
  clear hl a; intro a hl
  refine w_nil ?_
  have hl2 := hl.add (t := 0) (hl.add (t := 3) (hl.add (t := 11) (hl.add (t := 12) (hl.add (t := 13) (hl.nil) rfl) rfl) rfl) rfl) rfl; clear hl; have hl := hl2; clear hl2
  refine then_normal ?_
  refine c_seq ?_
  refine c_cond hl rfl ?_ ?_
  · intro hc0
    try simp only [decide_eq_true_eq, decide_eq_false_iff_not, Bool.not_eq_true', Bool.not_eq_false', Bool.not_eq_true, Bool.not_eq_false, Bool.and_eq_true, Bool.or_eq_true, Bool.and_eq_false_iff, Bool.or_eq_false_iff, Bool.not_not, ne_eq, Int.not_lt, Int.not_le, Decidable.not_not, beq_iff_eq, bne_iff_ne] at hc0
    obtain ⟨x, hx⟩ : ∃ x, g.st.is[i]? = some x := ⟨_, List.getElem?_eq_getElem (by omega)⟩
    have hxo := hg.st.io x (List.mem_of_getElem? hx)
    obtain ⟨b1, j1, hq1, hjl1, hjc1, hE1⟩ := row_pos hg.st.i (by omega)
    have hmem1 : (b1, C (fl ivc g.st.is ++ j1) 43) ∈ g.st.E := inE_i (by rw [hE1]; exact List.mem_singleton.2 rfl)
    have hd1 : ((fl ivc g.st.is ++ j1).drop (0 + i * 6)).take 6 = [.int .u8 x.k, .int .u8 x.a, .int .u8 x.b, .int .u8 x.w, .int .u8 x.da, .int .u8 x.dl] := fl_at ivc_len hx j1
    refine wp_skip ?_
    refine then_normal ?_
    refine c_seq ?_
    refine wp_block ?_
    refine c_seq ?_
    refine c_region ?_
    refine wl (wl_val hl rfl trivial (r_move hl rfl) ?_)
    clear hl a; intro a hl
    refine wl (wl_val hl rfl trivial (r_assign hl rfl) ?_)
    clear hl a; intro a hl
    refine w_nil ?_
    have hl2 := hl.add (t := 0) (hl.add (t := 3) (hl.add (t := 5) (hl.add (t := 11) (hl.add (t := 12) (hl.nil) rfl) rfl) rfl) rfl) rfl; clear hl; have hl := hl2; clear hl2
    refine then_normal ?_
    refine c_seq ?_
    refine c_draw [(gb, C g.c 127), (k3, C [.int .u8 v.k, .int .u8 v.a, .int .u8 v.b, .int .u8 v.w, .int .u8 v.da, .int .u8 v.dl] 43)] [9] mixed hh ?_
    clear hh w; intro w hh
    have hM : Mem [(gb, C g.c 127), (k3, C [.int .u8 v.k, .int .u8 v.a, .int .u8 v.b, .int .u8 v.w, .int .u8 v.da, .int .u8 v.dl] 43)] w := (memK hh (by repeat (first | exact keeps_nil | apply keeps_cons (by repeat (first | exact find_head | apply find_tail | apply find_skip)) (by first  | rfl) | exact keeps_self | exact keeps_left | apply keeps_app | apply keeps_mv | apply keeps_skip)))
    refine d_take (i := 0) hl rfl (by kernel_rfl) (by kernel_rfl) (by kernel_rfl) (by kernel_rfl) (by kernel_rfl) rfl trivial (fun _ _ _ h => h) hM (fun w hC => r_move hl rfl) rfl ?_
    clear hl a; intro a hl
    refine d_take (i := 1) hl rfl (by kernel_rfl) (by kernel_rfl) (by kernel_rfl) (by kernel_rfl) (by kernel_rfl) rfl trivial (fun _ _ _ h => h) hM (fun w hC => r_nilCheck hl rfl) rfl ?_
    clear hl a; intro a hl
    refine d_take (i := 2) hl rfl (by kernel_rfl) (by kernel_rfl) (by kernel_rfl) (by kernel_rfl) (by kernel_rfl) rfl trivial (fun _ _ _ h => h) hM (fun w hC => r_field hl rfl fld127_1) rfl ?_
    clear hl a; intro a hl
    refine d_take (i := 3) hl rfl (by kernel_rfl) (by kernel_rfl) (by kernel_rfl) (by kernel_rfl) (by kernel_rfl) rfl trivial (fun _ _ _ h => h) hM (fun w hC => r_field hl rfl fld89_2) rfl ?_
    clear hl a; intro a hl
    refine d_take (i := 4) hl rfl (by kernel_rfl) (by kernel_rfl) (by kernel_rfl) (by kernel_rfl) (by kernel_rfl) rfl trivial (fun _ _ _ h => h) hM (fun w hC => r_loadC hl rfl one75 hC (by repeat (first | exact find_head | apply find_tail | apply find_skip)) (by first | exact gtc_led _ | exact gtc_ep _ | exact gtc_vs _ | exact gtc_is _ | exact gtc_fid _ | exact gtc_ph _ | exact gtc_vd _ | exact gtc_q _ | exact gtc_rf _ | exact gtc_ys _ | exact gtc_dn _ | exact gtc_tk _ | exact gtc_au _ | exact gtc_o _ | exact gtc_off _ | rfl)) rfl ?_
    clear hl a; intro a hl
    rw [hq1] at hl
    refine d_take (i := 5) hl rfl (by kernel_rfl) (by kernel_rfl) (by kernel_rfl) (by kernel_rfl) (by kernel_rfl) rfl trivial (fun _ _ _ h => h) hM (fun w hC => r_move hl rfl) rfl ?_
    clear hl a; intro a hl
    refine d_take (i := 6) hl rfl (by kernel_rfl) (by kernel_rfl) (by kernel_rfl) (by kernel_rfl) (by kernel_rfl) rfl trivial (fun _ _ _ h => h) hM (fun w hC => r_indexS hl rfl rfl slc75 (by omega) (by omega) (by first | (simp only [Int.reduceToNat]; rfl) | exact toNat_add1 _ | exact toNat_add2 _ _ | exact toNat_emod _ _ | exact Int.toNat_natCast _ | rfl)) rfl ?_
    clear hl a; intro a hl
    refine d_take (i := 8) hl rfl (by kernel_rfl) (by kernel_rfl) (by kernel_rfl) (by kernel_rfl) (by kernel_rfl) rfl trivial (fun _ _ _ h => h) hM (fun w hC => r_loadCA hl rfl agg43 hC (by repeat (first | exact find_head | apply find_tail | apply find_skip)) (by first | (simp only [List.getElem?_cons_zero, List.getElem?_cons_succ, Value.cells, List.take_zero, List.take_succ_cons, List.take_nil, List.drop_zero, List.drop_succ_cons, List.drop_nil, List.length_cons, List.length_nil, List.cons_append, List.nil_append, List.append_nil, Nat.zero_add, Nat.add_zero, Nat.reduceAdd, Nat.reduceBEq, Nat.reduceEqDiff, Nat.ble, BEq.rfl, Bool.and_true, Bool.and_self, cond_true, beq_self_eq_true]; rfl)) (by first | rfl | (simp; done))) rfl ?_
    clear hl a; intro a hl
    refine d_one (i := 7) (by kernel_rfl) rfl ?_
    try clear hM
    first | refine id (w_loadA hl hh rfl trivial agg43 rfl (by repeat (first | exact find_head | apply find_tail | apply find_skip)) (by first | (simp only [List.getElem?_cons_zero, List.getElem?_cons_succ, Value.cells, List.take_zero, List.take_succ_cons, List.take_nil, List.drop_zero, List.drop_succ_cons, List.drop_nil, List.length_cons, List.length_nil, List.cons_append, List.nil_append, List.append_nil, Nat.zero_add, Nat.add_zero, Nat.reduceAdd, Nat.reduceBEq, Nat.reduceEqDiff, Nat.ble, BEq.rfl, Bool.and_true, Bool.and_self, cond_true, beq_self_eq_true]; rfl)) (by first | rfl | (simp; done)) ?_) | refine id (wl_val hl rfl trivial (r_loadA hl rfl agg43 (hh.mem _ _ (by repeat (first | exact hmem1 | exact List.mem_append_left _ hmem1 | apply List.mem_cons_of_mem | apply List.mem_append_right))) hd1 rfl) ?_)
    clear hl a; intro a hl
    have hM : Mem [(gb, C g.c 127), (k3, C [.int .u8 v.k, .int .u8 v.a, .int .u8 v.b, .int .u8 v.w, .int .u8 v.da, .int .u8 v.dl] 43)] w := (memK hh (by repeat (first | exact keeps_nil | apply keeps_cons (by repeat (first | exact find_head | apply find_tail | apply find_skip)) (by first  | rfl) | exact keeps_self | exact keeps_left | apply keeps_app | apply keeps_mv | apply keeps_skip)))
    refine d_step (fun _ => hM) ?_
    refine d_takeL (i := 9) hl rfl (by kernel_rfl) (by kernel_rfl) (by kernel_rfl) (by kernel_rfl) (by kernel_rfl) rfl trivial (fun _ _ _ h => h) (fun w => r_eqlA hl rfl rfl eqf43 shp43 (by simp only [unlitL, unlit]; rfl) (by simp only [unlitL, unlit]; rfl) (by first | exact litsI hxo | exact litsI hv | exact ⟨trivial⟩ | (refine ⟨?_⟩; simp [LitsOk, litOk, Fits]; done) | (refine ⟨?_⟩; simp [LitsOk, litOk, Fits]; omega)) (by first | exact litsI hxo | exact litsI hv | exact ⟨trivial⟩ | (refine ⟨?_⟩; simp [LitsOk, litOk, Fits]; done) | (refine ⟨?_⟩; simp [LitsOk, litOk, Fits]; omega))) rfl ?_
    clear hl a; intro a hl
    refine d_done (by kernel_rfl) ?_
    try clear hM
    have hl2 := hl.add (t := 0) (hl.add (t := 3) (hl.add (t := 5) (hl.add (t := 11) (hl.add (t := 12) (hl.add (t := 24) (hl.nil) rfl) rfl) rfl) rfl) rfl) rfl; clear hl; have hl := hl2; clear hl2
    refine then_normal ?_
    refine c_cond hl rfl ?_ ?_
    · intro hc1
      try simp only [decide_eq_true_eq, decide_eq_false_iff_not, Bool.not_eq_true', Bool.not_eq_false', Bool.not_eq_true, Bool.not_eq_false, Bool.and_eq_true, Bool.or_eq_true, Bool.and_eq_false_iff, Bool.or_eq_false_iff, Bool.not_not, ne_eq, Int.not_lt, Int.not_le, Decidable.not_not, beq_iff_eq, bne_iff_ne] at hc1
      have hr := hix_hit hx ((eqI hxo hv).1 hc1) ha
      refine c_seq ?_
      refine c_region ?_
      refine wl (wl_val hl rfl trivial (r_move hl rfl) ?_)
      clear hl a; intro a hl
      refine wl (wl_val hl rfl trivial (r_assign hl rfl) ?_)
      clear hl a; intro a hl
      refine w_nil ?_
      have hl2 := hl.add (t := 4) (hl.nil) rfl; clear hl; have hl := hl2; clear hl2
      refine then_normal ?_
      refine wp_ret ?_
      refine blk_ret ?_
      refine then_ret ?_
      refine then_ret ?_
      refine blk_ret ?_
      refine then_ret ?_
      refine f_ret1 (F' := (gb, C g.c 127) :: g.st.E) hl hh rfl rfl (by repeat (first | exact keeps_nil | apply keeps_cons (by repeat (first | exact find_head | apply find_tail | apply find_skip)) (by first  | rfl) | exact keeps_self | exact keeps_left | apply keeps_app | apply keeps_mv | apply keeps_skip)) ?_
      exact ⟨by rw [show g.pl.st.is = g.st.is from rfl, hr], rfl⟩
    · intro hc1
      try simp only [decide_eq_true_eq, decide_eq_false_iff_not, Bool.not_eq_true', Bool.not_eq_false', Bool.not_eq_true, Bool.not_eq_false, Bool.and_eq_true, Bool.or_eq_true, Bool.and_eq_false_iff, Bool.or_eq_false_iff, Bool.not_not, ne_eq, Int.not_lt, Int.not_le, Decidable.not_not, beq_iff_eq, bne_iff_ne] at hc1
      have hne : ¬ x = v := eqI_f hxo hv hc1
      refine wp_skip ?_
      refine blk_normal ?_
      refine then_normal ?_
      refine c_region ?_
      first | refine wl (wl_val hl rfl trivial (r_add hl rfl rfl (by simp only [Fits]; omega)) ?_) | refine wl (wl_val hl rfl trivial (r_addW hl rfl rfl) ?_)
      clear hl a; intro a hl
      refine wl (wl_val hl rfl trivial (r_move hl rfl) ?_)
      clear hl a; intro a hl
      refine w_nil ?_
      have hl2 := hl.add (t := 0) (hl.add (t := 3) (hl.add (t := 11) (hl.add (t := 12) (hl.nil) rfl) rfl) rfl) rfl; clear hl; have hl := hl2; clear hl2
      refine then_normal ?_
      refine ⟨i + 1, (by omega), ⟨by omega, all_snoc ha hx hne⟩, hl.addE (t := 12) (hl.addE (t := 0) (hl.addE (t := 3) (hl.addE (t := 11) (hl.nil) rfl (by first | rfl | exact congrArg (Value.int .i64) (show (i : Int) + 1 = ((i + 1 : Nat) : Int) by omega))) rfl (by first | rfl | exact congrArg (Value.int .i64) (show (i : Int) + 1 = ((i + 1 : Nat) : Int) by omega))) rfl (by first | rfl | exact congrArg (Value.int .i64) (show (i : Int) + 1 = ((i + 1 : Nat) : Int) by omega))) rfl (by first | rfl | exact congrArg (Value.int .i64) (show (i : Int) + 1 = ((i + 1 : Nat) : Int) by omega)), hh.keep (by repeat (first | exact keeps_nil | apply keeps_cons (by repeat (first | exact find_head | apply find_tail | apply find_skip)) (by first  | rfl) | exact keeps_self | exact keeps_left | apply keeps_app | apply keeps_mv | apply keeps_skip))⟩
  · intro hc0
    try simp only [decide_eq_true_eq, decide_eq_false_iff_not, Bool.not_eq_true', Bool.not_eq_false', Bool.not_eq_true, Bool.not_eq_false, Bool.and_eq_true, Bool.or_eq_true, Bool.and_eq_false_iff, Bool.or_eq_false_iff, Bool.not_not, ne_eq, Int.not_lt, Int.not_le, Decidable.not_not, beq_iff_eq, bne_iff_ne] at hc0
    have hie : i = g.st.is.length := by omega
    rw [hie] at ha
    have hr := hix_none ha
    refine wp_exit ?_
    refine then_exit ?_
    refine then_exit ?_
    refine blk_exit ?_
    refine then_normal ?_
    refine c_seq ?_
    refine c_region ?_
    refine wl (wl_val hl rfl trivial (r_assign hl rfl) ?_)
    clear hl a; intro a hl
    refine w_nil ?_
    have hl2 := hl.add (t := 4) (hl.nil) rfl; clear hl; have hl := hl2; clear hl2
    refine then_normal ?_
    refine wp_ret ?_
    refine f_ret1 (F' := (gb, C g.c 127) :: g.st.E) hl hh rfl rfl (by repeat (first | exact keeps_nil | apply keeps_cons (by repeat (first | exact find_head | apply find_tail | apply find_skip)) (by first  | rfl) | exact keeps_self | exact keeps_left | apply keeps_app | apply keeps_mv | apply keeps_skip)) ?_
    exact ⟨by rw [show g.pl.st.is = g.st.is from rfl, hr], rfl⟩
end Go.Proofs.Qxb6500908aGreat

import Derived.Test.Qxb6500907aX8
namespace Go.Proofs.Qxb6500907a
open Go.Eng
set_option linter.unusedVariables false
set_option linter.unusedSimpArgs false
theorem cal31 : callable Try.prog 31 = true := by kernel_rfl
theorem cal32 : callable Try.prog 32 = true := by kernel_rfl
theorem cal49 : callable Try.prog 49 = true := by kernel_rfl
theorem cal50 : callable Try.prog 50 = true := by kernel_rfl
theorem cal51 : callable Try.prog 51 = true := by kernel_rfl
theorem pDev_len {d : Int} (h : d.toNat ≤ 4294967295) : (pDev d).length ≤ 12 := by
  have := dg_len10 h
  unfold pDev
  rw [List.length_append]; simp only [List.length_cons, List.length_nil]; omega
theorem pPre_len {x l : Int} (h : x.toNat ≤ 4294967295) (h' : l.toNat ≤ 4294967295) : (pPre x l).length ≤ 22 := by
  have := dg_len10 h; have := dg_len10 h'
  unfold pPre
  simp only [List.length_append, List.length_cons, List.length_nil]; omega

set_option maxHeartbeats 1000000 in
theorem pdev_spec (b : Nat) (o : List Int) (rv : Value) (E : List (Nat × Obj)) (hR : Row rv o.length (iv8 o) 1 5 E) (ho : o.length ≤ 900000) (d : Int) (h0 : 0 ≤ d) (h1 : d ≤ 255) : Sp Try.prog 49 #[.pointer (some ⟨b, 0, none⟩), .int .u8 d] ((b, C [rv] 82) :: E) (fun v F' => v = .pointer (some ⟨b, 0, none⟩) ∧ PrR b (o ++ pDev d) F') := by
  refine f_enter (args := [.pointer (some ⟨b, 0, none⟩), .int .u8 d]) Try.func49 rfl Try.ntmps49 rfl ?_
  intro w0 w a hpre hl hh
  simp only [slotsFrom, Nat.reduceAdd] at hl
  refine c_seq ?_
  refine c_region ?_
  refine wl (wl_val hl rfl trivial (r_assign hl rfl) ?_)
  clear hl a; intro a hl
  refine w_nil ?_
  have hl2 := hl.add (t := 0) (hl.add (t := 1) (hl.nil) rfl) rfl; clear hl; have hl := hl2; clear hl2
  refine then_normal ?_
  refine c_seq ?_
  refine c_region ?_
  refine wl (wl_val hl rfl trivial (r_move hl rfl) ?_)
  clear hl a; intro a hl
  refine wl (w_call hl hh rfl trivial rfl cal31 rfl (str_spec b o rv E hR (by omega) _ [32, 114] rfl (by decide)) (by repeat (first | exact keeps_nil | apply keeps_cons (by repeat (first | exact find_head | apply find_tail)) (by first  | rfl) | exact keeps_self | exact keeps_left | exact keeps_right | exact keeps_swap | apply keeps_mv)) trivial ?_)
  clear hl hh a w; intro vc Fc a w hR hl hh
  obtain ⟨rfl, rv1, E1, hR1, rfl⟩ := hR
  try simp only [List.cons_append, List.nil_append] at hh
  obtain ⟨o1, hoe1⟩ : ∃ y, y = o ++ ([32, 114]) := ⟨_, rfl⟩
  rw [← hoe1] at hR1
  have hol1 : o1.length ≤ o.length + 2 := by (rw [hoe1, List.length_append]; simp only [List.length_cons, List.length_nil]; omega)
  (try replace hh := has_tail1 hh); (try simp only [List.cons_append, List.nil_append, List.append_nil] at hh)
  refine wl (wl_val hl rfl trivial (r_move hl rfl) ?_)
  clear hl a; intro a hl
  first | refine wl (wl_val hl rfl trivial (r_conv hl rfl Try.underlying5 Try.underlying34 (by simp only [Fits]; omega)) ?_) | refine wl (wl_val hl rfl trivial (r_convW hl rfl Try.underlying5 Try.underlying34) ?_)
  clear hl a; intro a hl
  refine wl (w_call hl hh rfl trivial rfl cal32 rfl (numI_spec b o1 rv1 E1 hR1 (by omega) (d) (by omega) (by omega)) (by repeat (first | exact keeps_nil | apply keeps_cons (by repeat (first | exact find_head | apply find_tail)) (by first  | rfl) | exact keeps_self | exact keeps_left | exact keeps_right | exact keeps_swap | apply keeps_mv)) trivial ?_)
  clear hl hh a w; intro vc Fc a w hR hl hh
  obtain ⟨rfl, rv2, E2, hR2, rfl⟩ := hR
  try simp only [List.cons_append, List.nil_append] at hh
  obtain ⟨o2, hoe2⟩ : ∃ y, y = o1 ++ (dg (d).toNat) := ⟨_, rfl⟩
  rw [← hoe2] at hR2
  have hol2 : o2.length ≤ o1.length + 10 := by (rw [hoe2, List.length_append]; have := dg_len10 (n := (d).toNat) (by omega); omega)
  (try replace hh := has_tail1 hh); (try simp only [List.cons_append, List.nil_append, List.append_nil] at hh)
  refine wl (wl_val hl rfl trivial (r_assign hl rfl) ?_)
  clear hl a; intro a hl
  refine w_nil ?_
  have hl2 := hl.add (t := 4) (hl.nil) rfl; clear hl; have hl := hl2; clear hl2
  refine then_normal ?_
  refine wp_ret ?_
  refine f_ret1 (F' := (b, C [rv2] 82) :: E2) hl hh rfl rfl (by repeat (first | exact keeps_nil | apply keeps_cons (by repeat (first | exact find_head | apply find_tail)) (by first  | rfl) | exact keeps_self | exact keeps_left | exact keeps_right | exact keeps_swap | apply keeps_mv)) ?_
  exact ⟨rfl, rv2, E2, by rw [show o ++ pDev d = o2 from by rw [hoe2, hoe1]; unfold pDev; simp only [List.append_assoc]]; exact hR2, rfl⟩

set_option maxHeartbeats 1000000 in
theorem pprefix_spec (b : Nat) (o : List Int) (rv : Value) (E : List (Nat × Obj)) (hR : Row rv o.length (iv8 o) 1 5 E) (ho : o.length ≤ 900000) (x l : Int) (hx : 0 ≤ x ∧ x ≤ 255) (hl9 : 0 ≤ l ∧ l ≤ 255) : Sp Try.prog 50 #[.pointer (some ⟨b, 0, none⟩), .agg ⟨[.int .u8 x, .int .u8 l]⟩] ((b, C [rv] 82) :: E) (fun v F' => v = .pointer (some ⟨b, 0, none⟩) ∧ PrR b (o ++ pPre x l) F') := by
  refine f_enter (args := [.pointer (some ⟨b, 0, none⟩), .agg ⟨[.int .u8 x, .int .u8 l]⟩]) Try.func50 rfl Try.ntmps50 rfl ?_
  intro w0 w a hpre hl hh
  simp only [slotsFrom, Nat.reduceAdd] at hl
  refine c_seq ?_
  refine c_region ?_
  refine wl (w_box hl hh rfl trivial rfl rfl ?_)
  clear hl hh a w; intro k3 a w hl hh
  refine wl (wl_val hl rfl trivial (r_assign hl rfl) ?_)
  clear hl a; intro a hl
  refine w_nil ?_
  have hl2 := hl.add (t := 0) (hl.add (t := 3) (hl.nil) rfl) rfl; clear hl; have hl := hl2; clear hl2
  refine then_normal ?_
  refine c_seq ?_
  refine c_draw [(k3, C [.int .u8 x, .int .u8 l] 51)] [10, 11] mixed hh ?_
  clear hh w; intro w hh
  have hM : Mem [(k3, C [.int .u8 x, .int .u8 l] 51)] w := (by (repeat (first | exact Mem.nil | refine Mem.cons hh.mem (by (repeat (first | exact find_head | apply find_tail)); done) ?_ | refine Mem.consR hh (by assumption) (by simp) ?_ | fail)); done)
  refine d_take (i := 0) hl rfl (by kernel_rfl) (by kernel_rfl) (by kernel_rfl) (by kernel_rfl) (by kernel_rfl) rfl trivial (fun _ _ _ h => h) hM (fun w hC => r_move hl rfl) rfl ?_
  clear hl a; intro a hl
  refine d_take (i := 2) hl rfl (by kernel_rfl) (by kernel_rfl) (by kernel_rfl) (by kernel_rfl) (by kernel_rfl) rfl trivial (fun _ _ _ h => h) hM (fun w hC => r_field hl rfl fld51_0) rfl ?_
  clear hl a; intro a hl
  refine d_take (i := 3) hl rfl (by kernel_rfl) (by kernel_rfl) (by kernel_rfl) (by kernel_rfl) (by kernel_rfl) rfl trivial (fun _ _ _ h => h) hM (fun w hC => r_loadC hl rfl one5 hC (by repeat (first | exact find_head | apply find_tail)) (by first | rfl)) rfl ?_
  clear hl a; intro a hl
  first | refine d_take (i := 4) hl rfl (by kernel_rfl) (by kernel_rfl) (by kernel_rfl) (by kernel_rfl) (by kernel_rfl) rfl trivial (fun _ _ _ h => h) hM (fun w hC => r_conv hl rfl Try.underlying5 Try.underlying34 (by simp only [Fits]; omega)) rfl ?_ | refine d_take (i := 4) hl rfl (by kernel_rfl) (by kernel_rfl) (by kernel_rfl) (by kernel_rfl) (by kernel_rfl) rfl trivial (fun _ _ _ h => h) hM (fun w hC => r_convW hl rfl Try.underlying5 Try.underlying34) rfl ?_
  clear hl a; intro a hl
  refine d_take (i := 7) hl rfl (by kernel_rfl) (by kernel_rfl) (by kernel_rfl) (by kernel_rfl) (by kernel_rfl) rfl trivial (fun _ _ _ h => h) hM (fun w hC => r_field hl rfl fld51_1) rfl ?_
  clear hl a; intro a hl
  refine d_take (i := 8) hl rfl (by kernel_rfl) (by kernel_rfl) (by kernel_rfl) (by kernel_rfl) (by kernel_rfl) rfl trivial (fun _ _ _ h => h) hM (fun w hC => r_loadC hl rfl one5 hC (by repeat (first | exact find_head | apply find_tail)) (by first | rfl)) rfl ?_
  clear hl a; intro a hl
  first | refine d_take (i := 9) hl rfl (by kernel_rfl) (by kernel_rfl) (by kernel_rfl) (by kernel_rfl) (by kernel_rfl) rfl trivial (fun _ _ _ h => h) hM (fun w hC => r_conv hl rfl Try.underlying5 Try.underlying34 (by simp only [Fits]; omega)) rfl ?_ | refine d_take (i := 9) hl rfl (by kernel_rfl) (by kernel_rfl) (by kernel_rfl) (by kernel_rfl) (by kernel_rfl) rfl trivial (fun _ _ _ h => h) hM (fun w hC => r_convW hl rfl Try.underlying5 Try.underlying34) rfl ?_
  clear hl a; intro a hl
  refine d_one (i := 1) (by kernel_rfl) rfl ?_
  try clear hM
  refine id (w_call hl hh rfl trivial rfl cal31 rfl (str_spec b o rv E hR (by omega) _ [32] rfl (by decide)) (by repeat (first | exact keeps_nil | apply keeps_cons (by repeat (first | exact find_head | apply find_tail)) (by first  | rfl) | exact keeps_self | exact keeps_left | exact keeps_right | exact keeps_swap | apply keeps_mv)) trivial ?_)
  clear hl hh a w; intro vc Fc a w hR hl hh
  obtain ⟨rfl, rv1, E1, hR1, rfl⟩ := hR
  try simp only [List.cons_append, List.nil_append] at hh
  obtain ⟨o1, hoe1⟩ : ∃ y, y = o ++ ([32]) := ⟨_, rfl⟩
  rw [← hoe1] at hR1
  have hol1 : o1.length ≤ o.length + 1 := by (rw [hoe1, List.length_append]; simp only [List.length_cons, List.length_nil]; omega)
  (try replace hh := has_tail1 hh); (try simp only [List.cons_append, List.nil_append, List.append_nil] at hh)
  have hM : Mem [(k3, C [.int .u8 x, .int .u8 l] 51)] w := (by (repeat (first | exact Mem.nil | refine Mem.cons hh.mem (by (repeat (first | exact find_head | apply find_tail)); done) ?_ | refine Mem.consR hh (by assumption) (by simp) ?_ | fail)); done)
  refine d_step (fun _ => hM) ?_
  refine d_one (i := 5) (by kernel_rfl) rfl ?_
  try clear hM
  refine id (w_call hl hh rfl trivial rfl cal32 rfl (numI_spec b o1 rv1 E1 hR1 (by omega) (x) (by omega) (by omega)) (by repeat (first | exact keeps_nil | apply keeps_cons (by repeat (first | exact find_head | apply find_tail)) (by first  | rfl) | exact keeps_self | exact keeps_left | exact keeps_right | exact keeps_swap | apply keeps_mv)) trivial ?_)
  clear hl hh a w; intro vc Fc a w hR hl hh
  obtain ⟨rfl, rv2, E2, hR2, rfl⟩ := hR
  try simp only [List.cons_append, List.nil_append] at hh
  obtain ⟨o2, hoe2⟩ : ∃ y, y = o1 ++ (dg (x).toNat) := ⟨_, rfl⟩
  rw [← hoe2] at hR2
  have hol2 : o2.length ≤ o1.length + 10 := by (rw [hoe2, List.length_append]; have := dg_len10 (n := (x).toNat) (by omega); omega)
  (try replace hh := has_tail1 hh); (try simp only [List.cons_append, List.nil_append, List.append_nil] at hh)
  have hM : Mem [(k3, C [.int .u8 x, .int .u8 l] 51)] w := (by (repeat (first | exact Mem.nil | refine Mem.cons hh.mem (by (repeat (first | exact find_head | apply find_tail)); done) ?_ | refine Mem.consR hh (by assumption) (by simp) ?_ | fail)); done)
  refine d_step (fun _ => hM) ?_
  refine d_one (i := 6) (by kernel_rfl) rfl ?_
  try clear hM
  refine id (w_call hl hh rfl trivial rfl cal31 rfl (str_spec b o2 rv2 E2 hR2 (by omega) _ [47] rfl (by decide)) (by repeat (first | exact keeps_nil | apply keeps_cons (by repeat (first | exact find_head | apply find_tail)) (by first  | rfl) | exact keeps_self | exact keeps_left | exact keeps_right | exact keeps_swap | apply keeps_mv)) trivial ?_)
  clear hl hh a w; intro vc Fc a w hR hl hh
  obtain ⟨rfl, rv3, E3, hR3, rfl⟩ := hR
  try simp only [List.cons_append, List.nil_append] at hh
  obtain ⟨o3, hoe3⟩ : ∃ y, y = o2 ++ ([47]) := ⟨_, rfl⟩
  rw [← hoe3] at hR3
  have hol3 : o3.length ≤ o2.length + 1 := by (rw [hoe3, List.length_append]; simp only [List.length_cons, List.length_nil]; omega)
  (try replace hh := has_tail1 hh); (try simp only [List.cons_append, List.nil_append, List.append_nil] at hh)
  have hM : Mem [(k3, C [.int .u8 x, .int .u8 l] 51)] w := (by (repeat (first | exact Mem.nil | refine Mem.cons hh.mem (by (repeat (first | exact find_head | apply find_tail)); done) ?_ | refine Mem.consR hh (by assumption) (by simp) ?_ | fail)); done)
  refine d_step (fun _ => hM) ?_
  refine d_one (i := 10) (by kernel_rfl) rfl ?_
  try clear hM
  refine id (w_call hl hh rfl trivial rfl cal32 rfl (numI_spec b o3 rv3 E3 hR3 (by omega) (l) (by omega) (by omega)) (by repeat (first | exact keeps_nil | apply keeps_cons (by repeat (first | exact find_head | apply find_tail)) (by first  | rfl) | exact keeps_self | exact keeps_left | exact keeps_right | exact keeps_swap | apply keeps_mv)) trivial ?_)
  clear hl hh a w; intro vc Fc a w hR hl hh
  obtain ⟨rfl, rv4, E4, hR4, rfl⟩ := hR
  try simp only [List.cons_append, List.nil_append] at hh
  obtain ⟨o4, hoe4⟩ : ∃ y, y = o3 ++ (dg (l).toNat) := ⟨_, rfl⟩
  rw [← hoe4] at hR4
  have hol4 : o4.length ≤ o3.length + 10 := by (rw [hoe4, List.length_append]; have := dg_len10 (n := (l).toNat) (by omega); omega)
  (try replace hh := has_tail1 hh); (try simp only [List.cons_append, List.nil_append, List.append_nil] at hh)
  refine d_step (fun h => absurd h (by decide)) ?_
  refine d_takeL (i := 11) hl rfl (by kernel_rfl) (by kernel_rfl) (by kernel_rfl) (by kernel_rfl) (by kernel_rfl) rfl trivial (fun _ _ _ h => h) (fun w => r_assign hl rfl) rfl ?_
  clear hl a; intro a hl
  refine d_done (by kernel_rfl) ?_
  try clear hM
  have hl2 := hl.add (t := 4) (hl.nil) rfl; clear hl; have hl := hl2; clear hl2
  refine then_normal ?_
  refine wp_ret ?_
  refine f_ret1 (F' := (b, C [rv4] 82) :: E4) hl hh rfl rfl (by repeat (first | exact keeps_nil | apply keeps_cons (by repeat (first | exact find_head | apply find_tail)) (by first  | rfl) | exact keeps_self | exact keeps_left | exact keeps_right | exact keeps_swap | apply keeps_mv)) ?_
  exact ⟨rfl, rv4, E4, by rw [show o ++ pPre x l = o4 from by rw [hoe4, hoe3, hoe2, hoe1]; unfold pPre; simp only [List.append_assoc]]; exact hR4, rfl⟩

set_option maxHeartbeats 1000000 in
theorem pick_spec (b : Nat) (o : List Int) (rv : Value) (E : List (Nat × Obj)) (hR : Row rv o.length (iv8 o) 1 5 E) (ho : o.length ≤ 900000) (t : Bool) (sa sb : ByteArray) (la lb : List Int) (ha : bl sa = la) (hb : bl sb = lb) (hsa : 0 < sa.size ∧ sa.size ≤ 100) (hsb : 0 < sb.size ∧ sb.size ≤ 100) : Sp Try.prog 51 #[.pointer (some ⟨b, 0, none⟩), .bool t, .string sa, .string sb] ((b, C [rv] 82) :: E) (fun v F' => v = .pointer (some ⟨b, 0, none⟩) ∧ PrR b (o ++ (if t then la else lb)) F') := by
  refine f_enter (args := [.pointer (some ⟨b, 0, none⟩), .bool t, .string sa, .string sb]) Try.func51 rfl Try.ntmps51 rfl ?_
  intro w0 w a hpre hl hh
  simp only [slotsFrom, Nat.reduceAdd] at hl
  refine c_seq ?_
  refine c_region ?_
  refine wl (wl_val hl rfl trivial (r_assign hl rfl) ?_)
  clear hl a; intro a hl
  refine w_nil ?_
  have hl2 := hl.add (t := 0) (hl.add (t := 1) (hl.add (t := 2) (hl.add (t := 3) (hl.nil) rfl) rfl) rfl) rfl; clear hl; have hl := hl2; clear hl2
  refine then_normal ?_
  refine c_seq ?_
  refine c_seq ?_
  refine c_region ?_
  refine wl (wl_val hl rfl trivial (r_move hl rfl) ?_)
  clear hl a; intro a hl
  refine w_nil ?_
  have hl2 := hl.add (t := 0) (hl.add (t := 2) (hl.add (t := 3) (hl.add (t := 9) (hl.nil) rfl) rfl) rfl) rfl; clear hl; have hl := hl2; clear hl2
  refine then_normal ?_
  refine c_cond hl rfl ?_ ?_
  · intro hc0
    try simp only [decide_eq_true_eq, decide_eq_false_iff_not, Bool.not_eq_true', Bool.not_eq_false', Bool.not_eq_true, Bool.not_eq_false, Bool.and_eq_true, Bool.or_eq_true, Bool.and_eq_false_iff, Bool.or_eq_false_iff, Bool.not_not, ne_eq, Int.not_lt, Int.not_le, Decidable.not_not, beq_iff_eq, bne_iff_ne] at hc0
    refine c_seq ?_
    refine c_region ?_
    refine wl (wl_val hl rfl trivial (r_move hl rfl) ?_)
    clear hl a; intro a hl
    refine wl (wl_val hl rfl trivial (r_move hl rfl) ?_)
    clear hl a; intro a hl
    refine wl (w_call hl hh rfl trivial rfl cal31 rfl (str_spec b o rv E hR (by omega) sa la ha hsa) (by repeat (first | exact keeps_nil | apply keeps_cons (by repeat (first | exact find_head | apply find_tail)) (by first  | rfl) | exact keeps_self | exact keeps_left | exact keeps_right | exact keeps_swap | apply keeps_mv)) trivial ?_)
    clear hl hh a w; intro vc Fc a w hR hl hh
    obtain ⟨rfl, rv1, E1, hR1, rfl⟩ := hR
    try simp only [List.cons_append, List.nil_append] at hh
    (try replace hh := has_tail1 hh); (try simp only [List.cons_append, List.nil_append, List.append_nil] at hh)
    refine wl (wl_val hl rfl trivial (r_assign hl rfl) ?_)
    clear hl a; intro a hl
    refine w_nil ?_
    have hl2 := hl.add (t := 8) (hl.nil) rfl; clear hl; have hl := hl2; clear hl2
    refine then_normal ?_
    refine wp_ret ?_
    refine then_ret ?_
    refine f_ret1 (F' := (b, C [rv1] 82) :: E1) hl hh rfl rfl (by repeat (first | exact keeps_nil | apply keeps_cons (by repeat (first | exact find_head | apply find_tail)) (by first  | rfl) | exact keeps_self | exact keeps_left | exact keeps_right | exact keeps_swap | apply keeps_mv)) ?_
    exact ⟨rfl, rv1, E1, by rw [hc0, if_pos rfl]; exact hR1, rfl⟩
  · intro hc0
    try simp only [decide_eq_true_eq, decide_eq_false_iff_not, Bool.not_eq_true', Bool.not_eq_false', Bool.not_eq_true, Bool.not_eq_false, Bool.and_eq_true, Bool.or_eq_true, Bool.and_eq_false_iff, Bool.or_eq_false_iff, Bool.not_not, ne_eq, Int.not_lt, Int.not_le, Decidable.not_not, beq_iff_eq, bne_iff_ne] at hc0
    refine wp_skip ?_
    refine then_normal ?_
    refine c_seq ?_
    refine c_region ?_
    refine wl (wl_val hl rfl trivial (r_move hl rfl) ?_)
    clear hl a; intro a hl
    refine wl (wl_val hl rfl trivial (r_move hl rfl) ?_)
    clear hl a; intro a hl
    refine wl (w_call hl hh rfl trivial rfl cal31 rfl (str_spec b o rv E hR (by omega) sb lb hb hsb) (by repeat (first | exact keeps_nil | apply keeps_cons (by repeat (first | exact find_head | apply find_tail)) (by first  | rfl) | exact keeps_self | exact keeps_left | exact keeps_right | exact keeps_swap | apply keeps_mv)) trivial ?_)
    clear hl hh a w; intro vc Fc a w hR hl hh
    obtain ⟨rfl, rv1, E1, hR1, rfl⟩ := hR
    try simp only [List.cons_append, List.nil_append] at hh
    (try replace hh := has_tail1 hh); (try simp only [List.cons_append, List.nil_append, List.append_nil] at hh)
    refine wl (wl_val hl rfl trivial (r_assign hl rfl) ?_)
    clear hl a; intro a hl
    refine w_nil ?_
    have hl2 := hl.add (t := 8) (hl.nil) rfl; clear hl; have hl := hl2; clear hl2
    refine then_normal ?_
    refine wp_ret ?_
    refine f_ret1 (F' := (b, C [rv1] 82) :: E1) hl hh rfl rfl (by repeat (first | exact keeps_nil | apply keeps_cons (by repeat (first | exact find_head | apply find_tail)) (by first  | rfl) | exact keeps_self | exact keeps_left | exact keeps_right | exact keeps_swap | apply keeps_mv)) ?_
    exact ⟨rfl, rv1, E1, by rw [hc0, if_neg (by simp)]; exact hR1, rfl⟩

set_option maxHeartbeats 4000000 in
theorem pchange_spec (b : Nat) (o : List Int) (rv : Value) (E : List (Nat × Obj)) (hR : Row rv o.length (iv8 o) 1 5 E) (ho : o.length ≤ 800000) (kd dv pr ix : Int) (up : Bool) (ra rl via : Int) (pm : Bool) (da dl cl : Int) (h : Ch.ok (⟨kd, dv, pr, ix, up, ra, rl, via, pm, da, dl, cl⟩ : Ch)) : Sp Try.prog 33 #[.pointer (some ⟨b, 0, none⟩), .agg ⟨[.int .u8 kd, .int .u8 dv, .int .u8 pr, .int .u8 ix, .bool up, .int .u8 ra, .int .u8 rl, .int .u8 via, .bool pm, .int .u8 da, .int .u8 dl, .int .u8 cl]⟩] ((b, C [rv] 82) :: E) (fun v F' => v = .tuple #[] ∧ PrR b (o ++ pCh (⟨kd, dv, pr, ix, up, ra, rl, via, pm, da, dl, cl⟩ : Ch)) F' ∧ (pCh (⟨kd, dv, pr, ix, up, ra, rl, via, pm, da, dl, cl⟩ : Ch)).length ≤ 101) := by
  refine f_enter (args := [.pointer (some ⟨b, 0, none⟩), .agg ⟨[.int .u8 kd, .int .u8 dv, .int .u8 pr, .int .u8 ix, .bool up, .int .u8 ra, .int .u8 rl, .int .u8 via, .bool pm, .int .u8 da, .int .u8 dl, .int .u8 cl]⟩]) Try.func33 rfl Try.ntmps33 rfl ?_
  intro w0 w a hpre hl hh
  obtain ⟨h1, h2, h3, h4, h5, h6, h7, h8, h9, h10⟩ := h; simp only at h1 h2 h3 h4 h5 h6 h7 h8 h9 h10
  simp only [slotsFrom, Nat.reduceAdd] at hl
  refine c_seq ?_
  refine c_region ?_
  refine wl (w_box hl hh rfl trivial rfl rfl ?_)
  clear hl hh a w; intro k3 a w hl hh
  refine w_nil ?_
  have hl2 := hl.add (t := 0) (hl.add (t := 3) (hl.nil) rfl) rfl; clear hl; have hl := hl2; clear hl2
  refine then_normal ?_
  refine c_seq ?_
  refine c_seq ?_
  refine c_region ?_
  refine wl (wl_val hl rfl trivial (r_field hl rfl fld57_0) ?_)
  clear hl a; intro a hl
  refine wl (w_load hl hh rfl trivial one49 rfl (by repeat (first | exact find_head | apply find_tail)) (by first | rfl) ?_)
  clear hl a; intro a hl
  refine w_nil ?_
  have hl2 := hl.add (t := 0) (hl.add (t := 3) (hl.add (t := 5) (hl.nil) rfl) rfl) rfl; clear hl; have hl := hl2; clear hl2
  refine then_normal ?_
  refine wp_block ?_
  refine c_seq ?_
  refine c_region ?_
  refine wl (wl_val hl rfl trivial (r_eql hl rfl rfl) ?_)
  clear hl a; intro a hl
  refine wl (wl_val hl rfl trivial (r_assign hl rfl) ?_)
  clear hl a; intro a hl
  refine w_nil ?_
  have hl2 := hl.add (t := 0) (hl.add (t := 3) (hl.add (t := 5) (hl.add (t := 6) (hl.nil) rfl) rfl) rfl) rfl; clear hl; have hl := hl2; clear hl2
  refine then_normal ?_
  refine c_cond hl rfl ?_ ?_
  · intro hc0
    try simp only [decide_eq_true_eq, decide_eq_false_iff_not, Bool.not_eq_true', Bool.not_eq_false', Bool.not_eq_true, Bool.not_eq_false, Bool.and_eq_true, Bool.or_eq_true, Bool.and_eq_false_iff, Bool.or_eq_false_iff, Bool.not_not, ne_eq, Int.not_lt, Int.not_le, Decidable.not_not, beq_iff_eq, bne_iff_ne] at hc0
    refine c_seq ?_
    refine c_draw [(k3, C [.int .u8 kd, .int .u8 dv, .int .u8 pr, .int .u8 ix, .bool up, .int .u8 ra, .int .u8 rl, .int .u8 via, .bool pm, .int .u8 da, .int .u8 dl, .int .u8 cl] 57)] [8] mixed hh ?_
    clear hh w; intro w hh
    have hM : Mem [(k3, C [.int .u8 kd, .int .u8 dv, .int .u8 pr, .int .u8 ix, .bool up, .int .u8 ra, .int .u8 rl, .int .u8 via, .bool pm, .int .u8 da, .int .u8 dl, .int .u8 cl] 57)] w := (by (repeat (first | exact Mem.nil | refine Mem.cons hh.mem (by (repeat (first | exact find_head | apply find_tail)); done) ?_ | refine Mem.consR hh (by assumption) (by simp) ?_ | fail)); done)
    refine d_take (i := 0) hl rfl (by kernel_rfl) (by kernel_rfl) (by kernel_rfl) (by kernel_rfl) (by kernel_rfl) rfl trivial (fun _ _ _ h => h) hM (fun w hC => r_move hl rfl) rfl ?_
    clear hl a; intro a hl
    refine d_take (i := 2) hl rfl (by kernel_rfl) (by kernel_rfl) (by kernel_rfl) (by kernel_rfl) (by kernel_rfl) rfl trivial (fun _ _ _ h => h) hM (fun w hC => r_field hl rfl fld57_1) rfl ?_
    clear hl a; intro a hl
    refine d_take (i := 3) hl rfl (by kernel_rfl) (by kernel_rfl) (by kernel_rfl) (by kernel_rfl) (by kernel_rfl) rfl trivial (fun _ _ _ h => h) hM (fun w hC => r_loadC hl rfl one5 hC (by repeat (first | exact find_head | apply find_tail)) (by first | rfl)) rfl ?_
    clear hl a; intro a hl
    refine d_take (i := 5) hl rfl (by kernel_rfl) (by kernel_rfl) (by kernel_rfl) (by kernel_rfl) (by kernel_rfl) rfl trivial (fun _ _ _ h => h) hM (fun w hC => r_field hl rfl fld57_5) rfl ?_
    clear hl a; intro a hl
    refine d_take (i := 6) hl rfl (by kernel_rfl) (by kernel_rfl) (by kernel_rfl) (by kernel_rfl) (by kernel_rfl) rfl trivial (fun _ _ _ h => h) hM (fun w hC => r_field hl rfl fld53_0) rfl ?_
    clear hl a; intro a hl
    refine d_take (i := 7) hl rfl (by kernel_rfl) (by kernel_rfl) (by kernel_rfl) (by kernel_rfl) (by kernel_rfl) rfl trivial (fun _ _ _ h => h) hM (fun w hC => r_loadCA hl rfl agg51 hC (by repeat (first | exact find_head | apply find_tail)) (by first | (simp only [List.getElem?_cons_zero, List.getElem?_cons_succ, Value.cells, List.take_zero, List.take_succ_cons, List.take_nil, List.drop_zero, List.drop_succ_cons, List.drop_nil, List.length_cons, List.length_nil, List.cons_append, List.nil_append, List.append_nil, Nat.zero_add, Nat.add_zero, Nat.reduceAdd, Nat.reduceBEq, Nat.reduceEqDiff, Nat.ble, BEq.rfl, Bool.and_true, Bool.and_self, cond_true, beq_self_eq_true]; rfl)) (by first | rfl | (simp; done))) rfl ?_
    clear hl a; intro a hl
    refine d_one (i := 1) (by kernel_rfl) rfl ?_
    try clear hM
    refine id (w_call hl hh rfl trivial rfl cal31 rfl (str_spec b o rv E hR (by omega) _ [114, 111, 117, 116, 101, 32, 97, 100, 100] rfl (by decide)) (by repeat (first | exact keeps_nil | apply keeps_cons (by repeat (first | exact find_head | apply find_tail)) (by first  | rfl) | exact keeps_self | exact keeps_left | exact keeps_right | exact keeps_swap | apply keeps_mv)) trivial ?_)
    clear hl hh a w; intro vc Fc a w hR hl hh
    obtain ⟨rfl, rv1, E1, hR1, rfl⟩ := hR
    try simp only [List.cons_append, List.nil_append] at hh
    obtain ⟨o1, hoe1⟩ : ∃ y, y = o ++ ([114, 111, 117, 116, 101, 32, 97, 100, 100]) := ⟨_, rfl⟩
    rw [← hoe1] at hR1
    have hol1 : o1.length ≤ o.length + 9 := by (rw [hoe1, List.length_append]; simp only [List.length_cons, List.length_nil]; omega)
    (try replace hh := has_tail1 hh); (try simp only [List.cons_append, List.nil_append, List.append_nil] at hh)
    have hM : Mem [(k3, C [.int .u8 kd, .int .u8 dv, .int .u8 pr, .int .u8 ix, .bool up, .int .u8 ra, .int .u8 rl, .int .u8 via, .bool pm, .int .u8 da, .int .u8 dl, .int .u8 cl] 57)] w := (by (repeat (first | exact Mem.nil | refine Mem.cons hh.mem (by (repeat (first | exact find_head | apply find_tail)); done) ?_ | refine Mem.consR hh (by assumption) (by simp) ?_ | fail)); done)
    refine d_step (fun _ => hM) ?_
    refine d_one (i := 4) (by kernel_rfl) rfl ?_
    try clear hM
    refine id (w_call hl hh rfl trivial rfl cal49 rfl (pdev_spec b o1 rv1 E1 hR1 (by omega) (dv) (by omega) (by omega)) (by repeat (first | exact keeps_nil | apply keeps_cons (by repeat (first | exact find_head | apply find_tail)) (by first  | rfl) | exact keeps_self | exact keeps_left | exact keeps_right | exact keeps_swap | apply keeps_mv)) trivial ?_)
    clear hl hh a w; intro vc Fc a w hR hl hh
    obtain ⟨rfl, rv2, E2, hR2, rfl⟩ := hR
    try simp only [List.cons_append, List.nil_append] at hh
    obtain ⟨o2, hoe2⟩ : ∃ y, y = o1 ++ (pDev (dv)) := ⟨_, rfl⟩
    rw [← hoe2] at hR2
    have hol2 : o2.length ≤ o1.length + 12 := by (rw [hoe2, List.length_append]; have := pDev_len (d := dv) (by omega); omega)
    (try replace hh := has_tail1 hh); (try simp only [List.cons_append, List.nil_append, List.append_nil] at hh)
    have hM : Mem [(k3, C [.int .u8 kd, .int .u8 dv, .int .u8 pr, .int .u8 ix, .bool up, .int .u8 ra, .int .u8 rl, .int .u8 via, .bool pm, .int .u8 da, .int .u8 dl, .int .u8 cl] 57)] w := (by (repeat (first | exact Mem.nil | refine Mem.cons hh.mem (by (repeat (first | exact find_head | apply find_tail)); done) ?_ | refine Mem.consR hh (by assumption) (by simp) ?_ | fail)); done)
    refine d_step (fun _ => hM) ?_
    refine d_one (i := 8) (by kernel_rfl) rfl ?_
    try clear hM
    refine id (w_call hl hh rfl trivial rfl cal50 rfl (pprefix_spec b o2 rv2 E2 hR2 (by omega) (ra) (rl) (by omega) (by omega)) (by repeat (first | exact keeps_nil | apply keeps_cons (by repeat (first | exact find_head | apply find_tail)) (by first  | rfl) | exact keeps_self | exact keeps_left | exact keeps_right | exact keeps_swap | apply keeps_mv)) trivial ?_)
    clear hl hh a w; intro vc Fc a w hR hl hh
    obtain ⟨rfl, rv3, E3, hR3, rfl⟩ := hR
    try simp only [List.cons_append, List.nil_append] at hh
    obtain ⟨o3, hoe3⟩ : ∃ y, y = o2 ++ (pPre (ra) (rl)) := ⟨_, rfl⟩
    rw [← hoe3] at hR3
    have hol3 : o3.length ≤ o2.length + 22 := by (rw [hoe3, List.length_append]; have := pPre_len (x := ra) (l := rl) (by omega) (by omega); omega)
    (try replace hh := has_tail1 hh); (try simp only [List.cons_append, List.nil_append, List.append_nil] at hh)
    refine d_step (fun h => absurd h (by decide)) ?_
    refine d_done (by kernel_rfl) ?_
    try clear hM
    have hl2 := hl.add (t := 0) (hl.add (t := 3) (hl.nil) rfl) rfl; clear hl; have hl := hl2; clear hl2
    refine then_normal ?_
    refine c_seq ?_
    refine c_region ?_
    refine wl (wl_val hl rfl trivial (r_field hl rfl fld57_5) ?_)
    clear hl a; intro a hl
    refine wl (wl_val hl rfl trivial (r_field hl rfl fld53_1) ?_)
    clear hl a; intro a hl
    refine wl (w_load hl hh rfl trivial one5 rfl (by repeat (first | exact find_head | apply find_tail)) (by first | rfl) ?_)
    clear hl a; intro a hl
    refine wl (wl_val hl rfl trivial (r_eql hl rfl rfl) ?_)
    clear hl a; intro a hl
    refine w_nil ?_
    have hl2 := hl.add (t := 0) (hl.add (t := 3) (hl.add (t := 20) (hl.nil) rfl) rfl) rfl; clear hl; have hl := hl2; clear hl2
    refine then_normal ?_
    refine c_cond hl rfl ?_ ?_
    · intro hc1
      try simp only [decide_eq_true_eq, decide_eq_false_iff_not, Bool.not_eq_true', Bool.not_eq_false', Bool.not_eq_true, Bool.not_eq_false, Bool.and_eq_true, Bool.or_eq_true, Bool.and_eq_false_iff, Bool.or_eq_false_iff, Bool.not_not, ne_eq, Int.not_lt, Int.not_le, Decidable.not_not, beq_iff_eq, bne_iff_ne] at hc1
      refine c_region ?_
      refine wl (wl_val hl rfl trivial (r_move hl rfl) ?_)
      clear hl a; intro a hl
      refine wl (w_call hl hh rfl trivial rfl cal31 rfl (str_spec b o3 rv3 E3 hR3 (by omega) _ [32, 108, 111, 99, 97, 108] rfl (by decide)) (by repeat (first | exact keeps_nil | apply keeps_cons (by repeat (first | exact find_head | apply find_tail)) (by first  | rfl) | exact keeps_self | exact keeps_left | exact keeps_right | exact keeps_swap | apply keeps_mv)) trivial ?_)
      clear hl hh a w; intro vc Fc a w hR hl hh
      obtain ⟨rfl, rv4, E4, hR4, rfl⟩ := hR
      try simp only [List.cons_append, List.nil_append] at hh
      obtain ⟨o4, hoe4⟩ : ∃ y, y = o3 ++ ([32, 108, 111, 99, 97, 108]) := ⟨_, rfl⟩
      rw [← hoe4] at hR4
      have hol4 : o4.length ≤ o3.length + 6 := by (rw [hoe4, List.length_append]; simp only [List.length_cons, List.length_nil]; omega)
      (try replace hh := has_tail1 hh); (try simp only [List.cons_append, List.nil_append, List.append_nil] at hh)
      refine w_nil ?_
      have hl2 := hl.add (t := 0) (hl.nil) rfl; clear hl; have hl := hl2; clear hl2
      have hpc : pCh (⟨kd, dv, pr, ix, up, ra, rl, via, pm, da, dl, cl⟩ : Ch) = (([114, 111, 117, 116, 101, 32, 97, 100, 100]) ++ (pDev dv) ++ (pPre ra rl) ++ ([32, 108, 111, 99, 97, 108])) ++ [10] := by (unfold pCh; simp only; rw [if_pos hc0, if_pos hc1])
      have hozE : o4 = o ++ (([114, 111, 117, 116, 101, 32, 97, 100, 100]) ++ (pDev dv) ++ (pPre ra rl) ++ ([32, 108, 111, 99, 97, 108])) := by (rw [hoe4, hoe3, hoe2, hoe1]; simp only [List.append_assoc])
      have hozl : o4.length ≤ o.length + 100 := by omega
      obtain ⟨oz, rfl⟩ : ∃ y, y = o4 := ⟨_, rfl⟩
      obtain ⟨rvz, rfl⟩ : ∃ y, y = rv4 := ⟨_, rfl⟩
      obtain ⟨Ez, rfl⟩ : ∃ y, y = E4 := ⟨_, rfl⟩
      have hRz := hR4
      refine blk_normal ?_
      refine then_normal ?_
      refine c_region ?_
      refine wl (wl_val hl rfl trivial (r_move hl rfl) ?_)
      clear hl a; intro a hl
      refine wl (w_call hl hh rfl trivial rfl cal31 rfl (str_spec b oz rvz Ez hRz (by omega) _ [10] rfl (by decide)) (by repeat (first | exact keeps_nil | apply keeps_cons (by repeat (first | exact find_head | apply find_tail)) (by first  | rfl) | exact keeps_self | exact keeps_left | exact keeps_right | exact keeps_swap | apply keeps_mv)) trivial ?_)
      clear hl hh a w; intro vc Fc a w hR hl hh
      obtain ⟨rfl, rvy, Ey, hRy, rfl⟩ := hR
      try simp only [List.cons_append, List.nil_append] at hh
      (try replace hh := has_tail1 hh); (try simp only [List.cons_append, List.nil_append, List.append_nil] at hh)
      refine w_nil ?_
      have hl2 := hl.nil; clear hl; have hl := hl2; clear hl2
      refine f_end0 (F' := (b, C [rvy] 82) :: Ey) hl hh rfl (by repeat (first | exact keeps_nil | apply keeps_cons (by repeat (first | exact find_head | apply find_tail)) (by first  | rfl) | exact keeps_self | exact keeps_left | exact keeps_right | exact keeps_swap | apply keeps_mv)) ?_
      exact ⟨rfl, ⟨rvy, Ey, by rw [hpc, ← List.append_assoc, ← hozE]; exact hRy, rfl⟩, by (have h9 := congrArg List.length hozE; rw [List.length_append] at h9; rw [hpc, List.length_append, List.length_singleton]; omega)⟩
    · intro hc1
      try simp only [decide_eq_true_eq, decide_eq_false_iff_not, Bool.not_eq_true', Bool.not_eq_false', Bool.not_eq_true, Bool.not_eq_false, Bool.and_eq_true, Bool.or_eq_true, Bool.and_eq_false_iff, Bool.or_eq_false_iff, Bool.not_not, ne_eq, Int.not_lt, Int.not_le, Decidable.not_not, beq_iff_eq, bne_iff_ne] at hc1
      refine c_draw [(k3, C [.int .u8 kd, .int .u8 dv, .int .u8 pr, .int .u8 ix, .bool up, .int .u8 ra, .int .u8 rl, .int .u8 via, .bool pm, .int .u8 da, .int .u8 dl, .int .u8 cl] 57)] [5] mixed hh ?_
      clear hh w; intro w hh
      have hM : Mem [(k3, C [.int .u8 kd, .int .u8 dv, .int .u8 pr, .int .u8 ix, .bool up, .int .u8 ra, .int .u8 rl, .int .u8 via, .bool pm, .int .u8 da, .int .u8 dl, .int .u8 cl] 57)] w := (by (repeat (first | exact Mem.nil | refine Mem.cons hh.mem (by (repeat (first | exact find_head | apply find_tail)); done) ?_ | refine Mem.consR hh (by assumption) (by simp) ?_ | fail)); done)
      refine d_take (i := 0) hl rfl (by kernel_rfl) (by kernel_rfl) (by kernel_rfl) (by kernel_rfl) (by kernel_rfl) rfl trivial (fun _ _ _ h => h) hM (fun w hC => r_move hl rfl) rfl ?_
      clear hl a; intro a hl
      refine d_take (i := 2) hl rfl (by kernel_rfl) (by kernel_rfl) (by kernel_rfl) (by kernel_rfl) (by kernel_rfl) rfl trivial (fun _ _ _ h => h) hM (fun w hC => r_field hl rfl fld57_5) rfl ?_
      clear hl a; intro a hl
      refine d_take (i := 3) hl rfl (by kernel_rfl) (by kernel_rfl) (by kernel_rfl) (by kernel_rfl) (by kernel_rfl) rfl trivial (fun _ _ _ h => h) hM (fun w hC => r_field hl rfl fld53_1) rfl ?_
      clear hl a; intro a hl
      refine d_take (i := 4) hl rfl (by kernel_rfl) (by kernel_rfl) (by kernel_rfl) (by kernel_rfl) (by kernel_rfl) rfl trivial (fun _ _ _ h => h) hM (fun w hC => r_loadC hl rfl one5 hC (by repeat (first | exact find_head | apply find_tail)) (by first | rfl)) rfl ?_
      clear hl a; intro a hl
      refine d_one (i := 1) (by kernel_rfl) rfl ?_
      try clear hM
      refine id (w_call hl hh rfl trivial rfl cal31 rfl (str_spec b o3 rv3 E3 hR3 (by omega) _ [32, 118, 105, 97] rfl (by decide)) (by repeat (first | exact keeps_nil | apply keeps_cons (by repeat (first | exact find_head | apply find_tail)) (by first  | rfl) | exact keeps_self | exact keeps_left | exact keeps_right | exact keeps_swap | apply keeps_mv)) trivial ?_)
      clear hl hh a w; intro vc Fc a w hR hl hh
      obtain ⟨rfl, rv4, E4, hR4, rfl⟩ := hR
      try simp only [List.cons_append, List.nil_append] at hh
      obtain ⟨o4, hoe4⟩ : ∃ y, y = o3 ++ ([32, 118, 105, 97]) := ⟨_, rfl⟩
      rw [← hoe4] at hR4
      have hol4 : o4.length ≤ o3.length + 4 := by (rw [hoe4, List.length_append]; simp only [List.length_cons, List.length_nil]; omega)
      (try replace hh := has_tail1 hh); (try simp only [List.cons_append, List.nil_append, List.append_nil] at hh)
      have hM : Mem [(k3, C [.int .u8 kd, .int .u8 dv, .int .u8 pr, .int .u8 ix, .bool up, .int .u8 ra, .int .u8 rl, .int .u8 via, .bool pm, .int .u8 da, .int .u8 dl, .int .u8 cl] 57)] w := (by (repeat (first | exact Mem.nil | refine Mem.cons hh.mem (by (repeat (first | exact find_head | apply find_tail)); done) ?_ | refine Mem.consR hh (by assumption) (by simp) ?_ | fail)); done)
      refine d_step (fun _ => hM) ?_
      refine d_one (i := 5) (by kernel_rfl) rfl ?_
      try clear hM
      refine id (w_call hl hh rfl trivial rfl cal49 rfl (pdev_spec b o4 rv4 E4 hR4 (by omega) (via) (by omega) (by omega)) (by repeat (first | exact keeps_nil | apply keeps_cons (by repeat (first | exact find_head | apply find_tail)) (by first  | rfl) | exact keeps_self | exact keeps_left | exact keeps_right | exact keeps_swap | apply keeps_mv)) trivial ?_)
      clear hl hh a w; intro vc Fc a w hR hl hh
      obtain ⟨rfl, rv5, E5, hR5, rfl⟩ := hR
      try simp only [List.cons_append, List.nil_append] at hh
      obtain ⟨o5, hoe5⟩ : ∃ y, y = o4 ++ (pDev (via)) := ⟨_, rfl⟩
      rw [← hoe5] at hR5
      have hol5 : o5.length ≤ o4.length + 12 := by (rw [hoe5, List.length_append]; have := pDev_len (d := via) (by omega); omega)
      (try replace hh := has_tail1 hh); (try simp only [List.cons_append, List.nil_append, List.append_nil] at hh)
      refine d_step (fun h => absurd h (by decide)) ?_
      refine d_done (by kernel_rfl) ?_
      try clear hM
      have hl2 := hl.add (t := 0) (hl.nil) rfl; clear hl; have hl := hl2; clear hl2
      have hpc : pCh (⟨kd, dv, pr, ix, up, ra, rl, via, pm, da, dl, cl⟩ : Ch) = (([114, 111, 117, 116, 101, 32, 97, 100, 100]) ++ (pDev dv) ++ (pPre ra rl) ++ ([32, 118, 105, 97]) ++ (pDev via)) ++ [10] := by (unfold pCh; simp only; rw [if_pos hc0, if_neg hc1]; simp only [List.append_assoc])
      have hozE : o5 = o ++ (([114, 111, 117, 116, 101, 32, 97, 100, 100]) ++ (pDev dv) ++ (pPre ra rl) ++ ([32, 118, 105, 97]) ++ (pDev via)) := by (rw [hoe5, hoe4, hoe3, hoe2, hoe1]; simp only [List.append_assoc])
      have hozl : o5.length ≤ o.length + 100 := by omega
      obtain ⟨oz, rfl⟩ : ∃ y, y = o5 := ⟨_, rfl⟩
      obtain ⟨rvz, rfl⟩ : ∃ y, y = rv5 := ⟨_, rfl⟩
      obtain ⟨Ez, rfl⟩ : ∃ y, y = E5 := ⟨_, rfl⟩
      have hRz := hR5
      refine blk_normal ?_
      refine then_normal ?_
      refine c_region ?_
      refine wl (wl_val hl rfl trivial (r_move hl rfl) ?_)
      clear hl a; intro a hl
      refine wl (w_call hl hh rfl trivial rfl cal31 rfl (str_spec b oz rvz Ez hRz (by omega) _ [10] rfl (by decide)) (by repeat (first | exact keeps_nil | apply keeps_cons (by repeat (first | exact find_head | apply find_tail)) (by first  | rfl) | exact keeps_self | exact keeps_left | exact keeps_right | exact keeps_swap | apply keeps_mv)) trivial ?_)
      clear hl hh a w; intro vc Fc a w hR hl hh
      obtain ⟨rfl, rvy, Ey, hRy, rfl⟩ := hR
      try simp only [List.cons_append, List.nil_append] at hh
      (try replace hh := has_tail1 hh); (try simp only [List.cons_append, List.nil_append, List.append_nil] at hh)
      refine w_nil ?_
      have hl2 := hl.nil; clear hl; have hl := hl2; clear hl2
      refine f_end0 (F' := (b, C [rvy] 82) :: Ey) hl hh rfl (by repeat (first | exact keeps_nil | apply keeps_cons (by repeat (first | exact find_head | apply find_tail)) (by first  | rfl) | exact keeps_self | exact keeps_left | exact keeps_right | exact keeps_swap | apply keeps_mv)) ?_
      exact ⟨rfl, ⟨rvy, Ey, by rw [hpc, ← List.append_assoc, ← hozE]; exact hRy, rfl⟩, by (have h9 := congrArg List.length hozE; rw [List.length_append] at h9; rw [hpc, List.length_append, List.length_singleton]; omega)⟩
  · intro hc0
    try simp only [decide_eq_true_eq, decide_eq_false_iff_not, Bool.not_eq_true', Bool.not_eq_false', Bool.not_eq_true, Bool.not_eq_false, Bool.and_eq_true, Bool.or_eq_true, Bool.and_eq_false_iff, Bool.or_eq_false_iff, Bool.not_not, ne_eq, Int.not_lt, Int.not_le, Decidable.not_not, beq_iff_eq, bne_iff_ne] at hc0
    refine c_seq ?_
    refine c_region ?_
    refine wl (wl_val hl rfl trivial (r_eql hl rfl rfl) ?_)
    clear hl a; intro a hl
    refine wl (wl_val hl rfl trivial (r_assign hl rfl) ?_)
    clear hl a; intro a hl
    refine w_nil ?_
    have hl2 := hl.add (t := 0) (hl.add (t := 3) (hl.add (t := 5) (hl.add (t := 29) (hl.nil) rfl) rfl) rfl) rfl; clear hl; have hl := hl2; clear hl2
    refine then_normal ?_
    refine c_cond hl rfl ?_ ?_
    · intro hc2
      try simp only [decide_eq_true_eq, decide_eq_false_iff_not, Bool.not_eq_true', Bool.not_eq_false', Bool.not_eq_true, Bool.not_eq_false, Bool.and_eq_true, Bool.or_eq_true, Bool.and_eq_false_iff, Bool.or_eq_false_iff, Bool.not_not, ne_eq, Int.not_lt, Int.not_le, Decidable.not_not, beq_iff_eq, bne_iff_ne] at hc2
      refine c_draw [(k3, C [.int .u8 kd, .int .u8 dv, .int .u8 pr, .int .u8 ix, .bool up, .int .u8 ra, .int .u8 rl, .int .u8 via, .bool pm, .int .u8 da, .int .u8 dl, .int .u8 cl] 57)] [8] mixed hh ?_
      clear hh w; intro w hh
      have hM : Mem [(k3, C [.int .u8 kd, .int .u8 dv, .int .u8 pr, .int .u8 ix, .bool up, .int .u8 ra, .int .u8 rl, .int .u8 via, .bool pm, .int .u8 da, .int .u8 dl, .int .u8 cl] 57)] w := (by (repeat (first | exact Mem.nil | refine Mem.cons hh.mem (by (repeat (first | exact find_head | apply find_tail)); done) ?_ | refine Mem.consR hh (by assumption) (by simp) ?_ | fail)); done)
      refine d_take (i := 0) hl rfl (by kernel_rfl) (by kernel_rfl) (by kernel_rfl) (by kernel_rfl) (by kernel_rfl) rfl trivial (fun _ _ _ h => h) hM (fun w hC => r_move hl rfl) rfl ?_
      clear hl a; intro a hl
      refine d_take (i := 2) hl rfl (by kernel_rfl) (by kernel_rfl) (by kernel_rfl) (by kernel_rfl) (by kernel_rfl) rfl trivial (fun _ _ _ h => h) hM (fun w hC => r_field hl rfl fld57_1) rfl ?_
      clear hl a; intro a hl
      refine d_take (i := 3) hl rfl (by kernel_rfl) (by kernel_rfl) (by kernel_rfl) (by kernel_rfl) (by kernel_rfl) rfl trivial (fun _ _ _ h => h) hM (fun w hC => r_loadC hl rfl one5 hC (by repeat (first | exact find_head | apply find_tail)) (by first | rfl)) rfl ?_
      clear hl a; intro a hl
      refine d_take (i := 5) hl rfl (by kernel_rfl) (by kernel_rfl) (by kernel_rfl) (by kernel_rfl) (by kernel_rfl) rfl trivial (fun _ _ _ h => h) hM (fun w hC => r_field hl rfl fld57_5) rfl ?_
      clear hl a; intro a hl
      refine d_take (i := 6) hl rfl (by kernel_rfl) (by kernel_rfl) (by kernel_rfl) (by kernel_rfl) (by kernel_rfl) rfl trivial (fun _ _ _ h => h) hM (fun w hC => r_field hl rfl fld53_0) rfl ?_
      clear hl a; intro a hl
      refine d_take (i := 7) hl rfl (by kernel_rfl) (by kernel_rfl) (by kernel_rfl) (by kernel_rfl) (by kernel_rfl) rfl trivial (fun _ _ _ h => h) hM (fun w hC => r_loadCA hl rfl agg51 hC (by repeat (first | exact find_head | apply find_tail)) (by first | (simp only [List.getElem?_cons_zero, List.getElem?_cons_succ, Value.cells, List.take_zero, List.take_succ_cons, List.take_nil, List.drop_zero, List.drop_succ_cons, List.drop_nil, List.length_cons, List.length_nil, List.cons_append, List.nil_append, List.append_nil, Nat.zero_add, Nat.add_zero, Nat.reduceAdd, Nat.reduceBEq, Nat.reduceEqDiff, Nat.ble, BEq.rfl, Bool.and_true, Bool.and_self, cond_true, beq_self_eq_true]; rfl)) (by first | rfl | (simp; done))) rfl ?_
      clear hl a; intro a hl
      refine d_one (i := 1) (by kernel_rfl) rfl ?_
      try clear hM
      refine id (w_call hl hh rfl trivial rfl cal31 rfl (str_spec b o rv E hR (by omega) _ [114, 111, 117, 116, 101, 32, 100, 101, 108] rfl (by decide)) (by repeat (first | exact keeps_nil | apply keeps_cons (by repeat (first | exact find_head | apply find_tail)) (by first  | rfl) | exact keeps_self | exact keeps_left | exact keeps_right | exact keeps_swap | apply keeps_mv)) trivial ?_)
      clear hl hh a w; intro vc Fc a w hR hl hh
      obtain ⟨rfl, rv1, E1, hR1, rfl⟩ := hR
      try simp only [List.cons_append, List.nil_append] at hh
      obtain ⟨o1, hoe1⟩ : ∃ y, y = o ++ ([114, 111, 117, 116, 101, 32, 100, 101, 108]) := ⟨_, rfl⟩
      rw [← hoe1] at hR1
      have hol1 : o1.length ≤ o.length + 9 := by (rw [hoe1, List.length_append]; simp only [List.length_cons, List.length_nil]; omega)
      (try replace hh := has_tail1 hh); (try simp only [List.cons_append, List.nil_append, List.append_nil] at hh)
      have hM : Mem [(k3, C [.int .u8 kd, .int .u8 dv, .int .u8 pr, .int .u8 ix, .bool up, .int .u8 ra, .int .u8 rl, .int .u8 via, .bool pm, .int .u8 da, .int .u8 dl, .int .u8 cl] 57)] w := (by (repeat (first | exact Mem.nil | refine Mem.cons hh.mem (by (repeat (first | exact find_head | apply find_tail)); done) ?_ | refine Mem.consR hh (by assumption) (by simp) ?_ | fail)); done)
      refine d_step (fun _ => hM) ?_
      refine d_one (i := 4) (by kernel_rfl) rfl ?_
      try clear hM
      refine id (w_call hl hh rfl trivial rfl cal49 rfl (pdev_spec b o1 rv1 E1 hR1 (by omega) (dv) (by omega) (by omega)) (by repeat (first | exact keeps_nil | apply keeps_cons (by repeat (first | exact find_head | apply find_tail)) (by first  | rfl) | exact keeps_self | exact keeps_left | exact keeps_right | exact keeps_swap | apply keeps_mv)) trivial ?_)
      clear hl hh a w; intro vc Fc a w hR hl hh
      obtain ⟨rfl, rv2, E2, hR2, rfl⟩ := hR
      try simp only [List.cons_append, List.nil_append] at hh
      obtain ⟨o2, hoe2⟩ : ∃ y, y = o1 ++ (pDev (dv)) := ⟨_, rfl⟩
      rw [← hoe2] at hR2
      have hol2 : o2.length ≤ o1.length + 12 := by (rw [hoe2, List.length_append]; have := pDev_len (d := dv) (by omega); omega)
      (try replace hh := has_tail1 hh); (try simp only [List.cons_append, List.nil_append, List.append_nil] at hh)
      have hM : Mem [(k3, C [.int .u8 kd, .int .u8 dv, .int .u8 pr, .int .u8 ix, .bool up, .int .u8 ra, .int .u8 rl, .int .u8 via, .bool pm, .int .u8 da, .int .u8 dl, .int .u8 cl] 57)] w := (by (repeat (first | exact Mem.nil | refine Mem.cons hh.mem (by (repeat (first | exact find_head | apply find_tail)); done) ?_ | refine Mem.consR hh (by assumption) (by simp) ?_ | fail)); done)
      refine d_step (fun _ => hM) ?_
      refine d_one (i := 8) (by kernel_rfl) rfl ?_
      try clear hM
      refine id (w_call hl hh rfl trivial rfl cal50 rfl (pprefix_spec b o2 rv2 E2 hR2 (by omega) (ra) (rl) (by omega) (by omega)) (by repeat (first | exact keeps_nil | apply keeps_cons (by repeat (first | exact find_head | apply find_tail)) (by first  | rfl) | exact keeps_self | exact keeps_left | exact keeps_right | exact keeps_swap | apply keeps_mv)) trivial ?_)
      clear hl hh a w; intro vc Fc a w hR hl hh
      obtain ⟨rfl, rv3, E3, hR3, rfl⟩ := hR
      try simp only [List.cons_append, List.nil_append] at hh
      obtain ⟨o3, hoe3⟩ : ∃ y, y = o2 ++ (pPre (ra) (rl)) := ⟨_, rfl⟩
      rw [← hoe3] at hR3
      have hol3 : o3.length ≤ o2.length + 22 := by (rw [hoe3, List.length_append]; have := pPre_len (x := ra) (l := rl) (by omega) (by omega); omega)
      (try replace hh := has_tail1 hh); (try simp only [List.cons_append, List.nil_append, List.append_nil] at hh)
      refine d_step (fun h => absurd h (by decide)) ?_
      refine d_done (by kernel_rfl) ?_
      try clear hM
      have hl2 := hl.add (t := 0) (hl.nil) rfl; clear hl; have hl := hl2; clear hl2
      have hpc : pCh (⟨kd, dv, pr, ix, up, ra, rl, via, pm, da, dl, cl⟩ : Ch) = (([114, 111, 117, 116, 101, 32, 100, 101, 108]) ++ (pDev dv) ++ (pPre ra rl)) ++ [10] := by (unfold pCh; simp only; rw [if_neg hc0]; rw [if_pos hc2])
      have hozE : o3 = o ++ (([114, 111, 117, 116, 101, 32, 100, 101, 108]) ++ (pDev dv) ++ (pPre ra rl)) := by (rw [hoe3, hoe2, hoe1]; simp only [List.append_assoc])
      have hozl : o3.length ≤ o.length + 100 := by omega
      obtain ⟨oz, rfl⟩ : ∃ y, y = o3 := ⟨_, rfl⟩
      obtain ⟨rvz, rfl⟩ : ∃ y, y = rv3 := ⟨_, rfl⟩
      obtain ⟨Ez, rfl⟩ : ∃ y, y = E3 := ⟨_, rfl⟩
      have hRz := hR3
      refine blk_normal ?_
      refine then_normal ?_
      refine c_region ?_
      refine wl (wl_val hl rfl trivial (r_move hl rfl) ?_)
      clear hl a; intro a hl
      refine wl (w_call hl hh rfl trivial rfl cal31 rfl (str_spec b oz rvz Ez hRz (by omega) _ [10] rfl (by decide)) (by repeat (first | exact keeps_nil | apply keeps_cons (by repeat (first | exact find_head | apply find_tail)) (by first  | rfl) | exact keeps_self | exact keeps_left | exact keeps_right | exact keeps_swap | apply keeps_mv)) trivial ?_)
      clear hl hh a w; intro vc Fc a w hR hl hh
      obtain ⟨rfl, rvy, Ey, hRy, rfl⟩ := hR
      try simp only [List.cons_append, List.nil_append] at hh
      (try replace hh := has_tail1 hh); (try simp only [List.cons_append, List.nil_append, List.append_nil] at hh)
      refine w_nil ?_
      have hl2 := hl.nil; clear hl; have hl := hl2; clear hl2
      refine f_end0 (F' := (b, C [rvy] 82) :: Ey) hl hh rfl (by repeat (first | exact keeps_nil | apply keeps_cons (by repeat (first | exact find_head | apply find_tail)) (by first  | rfl) | exact keeps_self | exact keeps_left | exact keeps_right | exact keeps_swap | apply keeps_mv)) ?_
      exact ⟨rfl, ⟨rvy, Ey, by rw [hpc, ← List.append_assoc, ← hozE]; exact hRy, rfl⟩, by (have h9 := congrArg List.length hozE; rw [List.length_append] at h9; rw [hpc, List.length_append, List.length_singleton]; omega)⟩
    · intro hc2
      try simp only [decide_eq_true_eq, decide_eq_false_iff_not, Bool.not_eq_true', Bool.not_eq_false', Bool.not_eq_true, Bool.not_eq_false, Bool.and_eq_true, Bool.or_eq_true, Bool.and_eq_false_iff, Bool.or_eq_false_iff, Bool.not_not, ne_eq, Int.not_lt, Int.not_le, Decidable.not_not, beq_iff_eq, bne_iff_ne] at hc2
      refine c_seq ?_
      refine c_region ?_
      refine wl (wl_val hl rfl trivial (r_eql hl rfl rfl) ?_)
      clear hl a; intro a hl
      refine wl (wl_val hl rfl trivial (r_assign hl rfl) ?_)
      clear hl a; intro a hl
      refine w_nil ?_
      have hl2 := hl.add (t := 0) (hl.add (t := 3) (hl.add (t := 5) (hl.add (t := 40) (hl.nil) rfl) rfl) rfl) rfl; clear hl; have hl := hl2; clear hl2
      refine then_normal ?_
      refine c_cond hl rfl ?_ ?_
      · intro hc3
        try simp only [decide_eq_true_eq, decide_eq_false_iff_not, Bool.not_eq_true', Bool.not_eq_false', Bool.not_eq_true, Bool.not_eq_false, Bool.and_eq_true, Bool.or_eq_true, Bool.and_eq_false_iff, Bool.or_eq_false_iff, Bool.not_not, ne_eq, Int.not_lt, Int.not_le, Decidable.not_not, beq_iff_eq, bne_iff_ne] at hc3
        refine c_seq ?_
        refine c_draw [(k3, C [.int .u8 kd, .int .u8 dv, .int .u8 pr, .int .u8 ix, .bool up, .int .u8 ra, .int .u8 rl, .int .u8 via, .bool pm, .int .u8 da, .int .u8 dl, .int .u8 cl] 57)] [9] mixed hh ?_
        clear hh w; intro w hh
        have hM : Mem [(k3, C [.int .u8 kd, .int .u8 dv, .int .u8 pr, .int .u8 ix, .bool up, .int .u8 ra, .int .u8 rl, .int .u8 via, .bool pm, .int .u8 da, .int .u8 dl, .int .u8 cl] 57)] w := (by (repeat (first | exact Mem.nil | refine Mem.cons hh.mem (by (repeat (first | exact find_head | apply find_tail)); done) ?_ | refine Mem.consR hh (by assumption) (by simp) ?_ | fail)); done)
        refine d_take (i := 0) hl rfl (by kernel_rfl) (by kernel_rfl) (by kernel_rfl) (by kernel_rfl) (by kernel_rfl) rfl trivial (fun _ _ _ h => h) hM (fun w hC => r_move hl rfl) rfl ?_
        clear hl a; intro a hl
        refine d_take (i := 2) hl rfl (by kernel_rfl) (by kernel_rfl) (by kernel_rfl) (by kernel_rfl) (by kernel_rfl) rfl trivial (fun _ _ _ h => h) hM (fun w hC => r_field hl rfl fld57_1) rfl ?_
        clear hl a; intro a hl
        refine d_take (i := 3) hl rfl (by kernel_rfl) (by kernel_rfl) (by kernel_rfl) (by kernel_rfl) (by kernel_rfl) rfl trivial (fun _ _ _ h => h) hM (fun w hC => r_loadC hl rfl one5 hC (by repeat (first | exact find_head | apply find_tail)) (by first | rfl)) rfl ?_
        clear hl a; intro a hl
        refine d_take (i := 6) hl rfl (by kernel_rfl) (by kernel_rfl) (by kernel_rfl) (by kernel_rfl) (by kernel_rfl) rfl trivial (fun _ _ _ h => h) hM (fun w hC => r_field hl rfl fld57_3) rfl ?_
        clear hl a; intro a hl
        refine d_take (i := 7) hl rfl (by kernel_rfl) (by kernel_rfl) (by kernel_rfl) (by kernel_rfl) (by kernel_rfl) rfl trivial (fun _ _ _ h => h) hM (fun w hC => r_loadC hl rfl one5 hC (by repeat (first | exact find_head | apply find_tail)) (by first | rfl)) rfl ?_
        clear hl a; intro a hl
        first | refine d_take (i := 8) hl rfl (by kernel_rfl) (by kernel_rfl) (by kernel_rfl) (by kernel_rfl) (by kernel_rfl) rfl trivial (fun _ _ _ h => h) hM (fun w hC => r_conv hl rfl Try.underlying5 Try.underlying34 (by simp only [Fits]; omega)) rfl ?_ | refine d_take (i := 8) hl rfl (by kernel_rfl) (by kernel_rfl) (by kernel_rfl) (by kernel_rfl) (by kernel_rfl) rfl trivial (fun _ _ _ h => h) hM (fun w hC => r_convW hl rfl Try.underlying5 Try.underlying34) rfl ?_
        clear hl a; intro a hl
        refine d_one (i := 1) (by kernel_rfl) rfl ?_
        try clear hM
        refine id (w_call hl hh rfl trivial rfl cal31 rfl (str_spec b o rv E hR (by omega) _ [97, 99, 108, 32, 105, 110, 115, 101, 114, 116] rfl (by decide)) (by repeat (first | exact keeps_nil | apply keeps_cons (by repeat (first | exact find_head | apply find_tail)) (by first  | rfl) | exact keeps_self | exact keeps_left | exact keeps_right | exact keeps_swap | apply keeps_mv)) trivial ?_)
        clear hl hh a w; intro vc Fc a w hR hl hh
        obtain ⟨rfl, rv1, E1, hR1, rfl⟩ := hR
        try simp only [List.cons_append, List.nil_append] at hh
        obtain ⟨o1, hoe1⟩ : ∃ y, y = o ++ ([97, 99, 108, 32, 105, 110, 115, 101, 114, 116]) := ⟨_, rfl⟩
        rw [← hoe1] at hR1
        have hol1 : o1.length ≤ o.length + 10 := by (rw [hoe1, List.length_append]; simp only [List.length_cons, List.length_nil]; omega)
        (try replace hh := has_tail1 hh); (try simp only [List.cons_append, List.nil_append, List.append_nil] at hh)
        have hM : Mem [(k3, C [.int .u8 kd, .int .u8 dv, .int .u8 pr, .int .u8 ix, .bool up, .int .u8 ra, .int .u8 rl, .int .u8 via, .bool pm, .int .u8 da, .int .u8 dl, .int .u8 cl] 57)] w := (by (repeat (first | exact Mem.nil | refine Mem.cons hh.mem (by (repeat (first | exact find_head | apply find_tail)); done) ?_ | refine Mem.consR hh (by assumption) (by simp) ?_ | fail)); done)
        refine d_step (fun _ => hM) ?_
        refine d_one (i := 4) (by kernel_rfl) rfl ?_
        try clear hM
        refine id (w_call hl hh rfl trivial rfl cal49 rfl (pdev_spec b o1 rv1 E1 hR1 (by omega) (dv) (by omega) (by omega)) (by repeat (first | exact keeps_nil | apply keeps_cons (by repeat (first | exact find_head | apply find_tail)) (by first  | rfl) | exact keeps_self | exact keeps_left | exact keeps_right | exact keeps_swap | apply keeps_mv)) trivial ?_)
        clear hl hh a w; intro vc Fc a w hR hl hh
        obtain ⟨rfl, rv2, E2, hR2, rfl⟩ := hR
        try simp only [List.cons_append, List.nil_append] at hh
        obtain ⟨o2, hoe2⟩ : ∃ y, y = o1 ++ (pDev (dv)) := ⟨_, rfl⟩
        rw [← hoe2] at hR2
        have hol2 : o2.length ≤ o1.length + 12 := by (rw [hoe2, List.length_append]; have := pDev_len (d := dv) (by omega); omega)
        (try replace hh := has_tail1 hh); (try simp only [List.cons_append, List.nil_append, List.append_nil] at hh)
        have hM : Mem [(k3, C [.int .u8 kd, .int .u8 dv, .int .u8 pr, .int .u8 ix, .bool up, .int .u8 ra, .int .u8 rl, .int .u8 via, .bool pm, .int .u8 da, .int .u8 dl, .int .u8 cl] 57)] w := (by (repeat (first | exact Mem.nil | refine Mem.cons hh.mem (by (repeat (first | exact find_head | apply find_tail)); done) ?_ | refine Mem.consR hh (by assumption) (by simp) ?_ | fail)); done)
        refine d_step (fun _ => hM) ?_
        refine d_one (i := 5) (by kernel_rfl) rfl ?_
        try clear hM
        refine id (w_call hl hh rfl trivial rfl cal31 rfl (str_spec b o2 rv2 E2 hR2 (by omega) _ [32] rfl (by decide)) (by repeat (first | exact keeps_nil | apply keeps_cons (by repeat (first | exact find_head | apply find_tail)) (by first  | rfl) | exact keeps_self | exact keeps_left | exact keeps_right | exact keeps_swap | apply keeps_mv)) trivial ?_)
        clear hl hh a w; intro vc Fc a w hR hl hh
        obtain ⟨rfl, rv3, E3, hR3, rfl⟩ := hR
        try simp only [List.cons_append, List.nil_append] at hh
        obtain ⟨o3, hoe3⟩ : ∃ y, y = o2 ++ ([32]) := ⟨_, rfl⟩
        rw [← hoe3] at hR3
        have hol3 : o3.length ≤ o2.length + 1 := by (rw [hoe3, List.length_append]; simp only [List.length_cons, List.length_nil]; omega)
        (try replace hh := has_tail1 hh); (try simp only [List.cons_append, List.nil_append, List.append_nil] at hh)
        have hM : Mem [(k3, C [.int .u8 kd, .int .u8 dv, .int .u8 pr, .int .u8 ix, .bool up, .int .u8 ra, .int .u8 rl, .int .u8 via, .bool pm, .int .u8 da, .int .u8 dl, .int .u8 cl] 57)] w := (by (repeat (first | exact Mem.nil | refine Mem.cons hh.mem (by (repeat (first | exact find_head | apply find_tail)); done) ?_ | refine Mem.consR hh (by assumption) (by simp) ?_ | fail)); done)
        refine d_step (fun _ => hM) ?_
        refine d_one (i := 9) (by kernel_rfl) rfl ?_
        try clear hM
        refine id (w_call hl hh rfl trivial rfl cal32 rfl (numI_spec b o3 rv3 E3 hR3 (by omega) (ix) (by omega) (by omega)) (by repeat (first | exact keeps_nil | apply keeps_cons (by repeat (first | exact find_head | apply find_tail)) (by first  | rfl) | exact keeps_self | exact keeps_left | exact keeps_right | exact keeps_swap | apply keeps_mv)) trivial ?_)
        clear hl hh a w; intro vc Fc a w hR hl hh
        obtain ⟨rfl, rv4, E4, hR4, rfl⟩ := hR
        try simp only [List.cons_append, List.nil_append] at hh
        obtain ⟨o4, hoe4⟩ : ∃ y, y = o3 ++ (dg (ix).toNat) := ⟨_, rfl⟩
        rw [← hoe4] at hR4
        have hol4 : o4.length ≤ o3.length + 10 := by (rw [hoe4, List.length_append]; have := dg_len10 (n := (ix).toNat) (by omega); omega)
        (try replace hh := has_tail1 hh); (try simp only [List.cons_append, List.nil_append, List.append_nil] at hh)
        refine d_step (fun h => absurd h (by decide)) ?_
        refine d_done (by kernel_rfl) ?_
        try clear hM
        have hl2 := hl.add (t := 0) (hl.add (t := 3) (hl.nil) rfl) rfl; clear hl; have hl := hl2; clear hl2
        refine then_normal ?_
        refine c_seq ?_
        refine c_draw [(k3, C [.int .u8 kd, .int .u8 dv, .int .u8 pr, .int .u8 ix, .bool up, .int .u8 ra, .int .u8 rl, .int .u8 via, .bool pm, .int .u8 da, .int .u8 dl, .int .u8 cl] 57)] [8, 9] mixed hh ?_
        clear hh w; intro w hh
        have hM : Mem [(k3, C [.int .u8 kd, .int .u8 dv, .int .u8 pr, .int .u8 ix, .bool up, .int .u8 ra, .int .u8 rl, .int .u8 via, .bool pm, .int .u8 da, .int .u8 dl, .int .u8 cl] 57)] w := (by (repeat (first | exact Mem.nil | refine Mem.cons hh.mem (by (repeat (first | exact find_head | apply find_tail)); done) ?_ | refine Mem.consR hh (by assumption) (by simp) ?_ | fail)); done)
        refine d_take (i := 0) hl rfl (by kernel_rfl) (by kernel_rfl) (by kernel_rfl) (by kernel_rfl) (by kernel_rfl) rfl trivial (fun _ _ _ h => h) hM (fun w hC => r_move hl rfl) rfl ?_
        clear hl a; intro a hl
        refine d_take (i := 1) hl rfl (by kernel_rfl) (by kernel_rfl) (by kernel_rfl) (by kernel_rfl) (by kernel_rfl) rfl trivial (fun _ _ _ h => h) hM (fun w hC => r_field hl rfl fld57_6) rfl ?_
        clear hl a; intro a hl
        refine d_take (i := 2) hl rfl (by kernel_rfl) (by kernel_rfl) (by kernel_rfl) (by kernel_rfl) (by kernel_rfl) rfl trivial (fun _ _ _ h => h) hM (fun w hC => r_field hl rfl fld55_0) rfl ?_
        clear hl a; intro a hl
        refine d_take (i := 3) hl rfl (by kernel_rfl) (by kernel_rfl) (by kernel_rfl) (by kernel_rfl) (by kernel_rfl) rfl trivial (fun _ _ _ h => h) hM (fun w hC => r_loadC hl rfl one4 hC (by repeat (first | exact find_head | apply find_tail)) (by first | rfl)) rfl ?_
        clear hl a; intro a hl
        refine d_take (i := 5) hl rfl (by kernel_rfl) (by kernel_rfl) (by kernel_rfl) (by kernel_rfl) (by kernel_rfl) rfl trivial (fun _ _ _ h => h) hM (fun w hC => r_field hl rfl fld57_6) rfl ?_
        clear hl a; intro a hl
        refine d_take (i := 6) hl rfl (by kernel_rfl) (by kernel_rfl) (by kernel_rfl) (by kernel_rfl) (by kernel_rfl) rfl trivial (fun _ _ _ h => h) hM (fun w hC => r_field hl rfl fld55_1) rfl ?_
        clear hl a; intro a hl
        refine d_take (i := 7) hl rfl (by kernel_rfl) (by kernel_rfl) (by kernel_rfl) (by kernel_rfl) (by kernel_rfl) rfl trivial (fun _ _ _ h => h) hM (fun w hC => r_loadCA hl rfl agg51 hC (by repeat (first | exact find_head | apply find_tail)) (by first | (simp only [List.getElem?_cons_zero, List.getElem?_cons_succ, Value.cells, List.take_zero, List.take_succ_cons, List.take_nil, List.drop_zero, List.drop_succ_cons, List.drop_nil, List.length_cons, List.length_nil, List.cons_append, List.nil_append, List.append_nil, Nat.zero_add, Nat.add_zero, Nat.reduceAdd, Nat.reduceBEq, Nat.reduceEqDiff, Nat.ble, BEq.rfl, Bool.and_true, Bool.and_self, cond_true, beq_self_eq_true]; rfl)) (by first | rfl | (simp; done))) rfl ?_
        clear hl a; intro a hl
        refine d_one (i := 4) (by kernel_rfl) rfl ?_
        try clear hM
        refine id (w_call hl hh rfl trivial rfl cal51 rfl (pick_spec b o4 rv4 E4 hR4 (by omega) pm _ _ [32, 112, 101, 114, 109, 105, 116] [32, 100, 101, 110, 121] rfl rfl (by decide) (by decide)) (by repeat (first | exact keeps_nil | apply keeps_cons (by repeat (first | exact find_head | apply find_tail)) (by first  | rfl) | exact keeps_self | exact keeps_left | exact keeps_right | exact keeps_swap | apply keeps_mv)) trivial ?_)
        clear hl hh a w; intro vc Fc a w hR hl hh
        obtain ⟨rfl, rv5, E5, hR5, rfl⟩ := hR
        try simp only [List.cons_append, List.nil_append] at hh
        obtain ⟨o5, hoe5⟩ : ∃ y, y = o4 ++ (if pm then [32, 112, 101, 114, 109, 105, 116] else [32, 100, 101, 110, 121]) := ⟨_, rfl⟩
        rw [← hoe5] at hR5
        have hol5 : o5.length ≤ o4.length + 7 := by (rw [hoe5, List.length_append]; cases pm <;> simp)
        (try replace hh := has_tail1 hh); (try simp only [List.cons_append, List.nil_append, List.append_nil] at hh)
        have hM : Mem [(k3, C [.int .u8 kd, .int .u8 dv, .int .u8 pr, .int .u8 ix, .bool up, .int .u8 ra, .int .u8 rl, .int .u8 via, .bool pm, .int .u8 da, .int .u8 dl, .int .u8 cl] 57)] w := (by (repeat (first | exact Mem.nil | refine Mem.cons hh.mem (by (repeat (first | exact find_head | apply find_tail)); done) ?_ | refine Mem.consR hh (by assumption) (by simp) ?_ | fail)); done)
        refine d_step (fun _ => hM) ?_
        refine d_one (i := 8) (by kernel_rfl) rfl ?_
        try clear hM
        refine id (w_call hl hh rfl trivial rfl cal50 rfl (pprefix_spec b o5 rv5 E5 hR5 (by omega) (da) (dl) (by omega) (by omega)) (by repeat (first | exact keeps_nil | apply keeps_cons (by repeat (first | exact find_head | apply find_tail)) (by first  | rfl) | exact keeps_self | exact keeps_left | exact keeps_right | exact keeps_swap | apply keeps_mv)) trivial ?_)
        clear hl hh a w; intro vc Fc a w hR hl hh
        obtain ⟨rfl, rv6, E6, hR6, rfl⟩ := hR
        try simp only [List.cons_append, List.nil_append] at hh
        obtain ⟨o6, hoe6⟩ : ∃ y, y = o5 ++ (pPre (da) (dl)) := ⟨_, rfl⟩
        rw [← hoe6] at hR6
        have hol6 : o6.length ≤ o5.length + 22 := by (rw [hoe6, List.length_append]; have := pPre_len (x := da) (l := dl) (by omega) (by omega); omega)
        (try replace hh := has_tail1 hh); (try simp only [List.cons_append, List.nil_append, List.append_nil] at hh)
        refine d_step (fun h => absurd h (by decide)) ?_
        refine d_one (i := 9) (by kernel_rfl) rfl ?_
        try clear hM
        refine id (w_call hl hh rfl trivial rfl cal31 rfl (str_spec b o6 rv6 E6 hR6 (by omega) _ [32, 99, 108, 97, 115, 115, 32] rfl (by decide)) (by repeat (first | exact keeps_nil | apply keeps_cons (by repeat (first | exact find_head | apply find_tail)) (by first  | rfl) | exact keeps_self | exact keeps_left | exact keeps_right | exact keeps_swap | apply keeps_mv)) trivial ?_)
        clear hl hh a w; intro vc Fc a w hR hl hh
        obtain ⟨rfl, rv7, E7, hR7, rfl⟩ := hR
        try simp only [List.cons_append, List.nil_append] at hh
        obtain ⟨o7, hoe7⟩ : ∃ y, y = o6 ++ ([32, 99, 108, 97, 115, 115, 32]) := ⟨_, rfl⟩
        rw [← hoe7] at hR7
        have hol7 : o7.length ≤ o6.length + 7 := by (rw [hoe7, List.length_append]; simp only [List.length_cons, List.length_nil]; omega)
        (try replace hh := has_tail1 hh); (try simp only [List.cons_append, List.nil_append, List.append_nil] at hh)
        refine d_step (fun h => absurd h (by decide)) ?_
        refine d_done (by kernel_rfl) ?_
        try clear hM
        have hl2 := hl.add (t := 0) (hl.add (t := 3) (hl.nil) rfl) rfl; clear hl; have hl := hl2; clear hl2
        refine then_normal ?_
        refine c_seq ?_
        refine c_region ?_
        refine wl (wl_val hl rfl trivial (r_field hl rfl fld57_6) ?_)
        clear hl a; intro a hl
        refine wl (wl_val hl rfl trivial (r_field hl rfl fld55_2) ?_)
        clear hl a; intro a hl
        refine wl (w_load hl hh rfl trivial one5 rfl (by repeat (first | exact find_head | apply find_tail)) (by first | rfl) ?_)
        clear hl a; intro a hl
        refine wl (wl_val hl rfl trivial (r_eql hl rfl rfl) ?_)
        clear hl a; intro a hl
        refine w_nil ?_
        have hl2 := hl.add (t := 0) (hl.add (t := 3) (hl.add (t := 65) (hl.nil) rfl) rfl) rfl; clear hl; have hl := hl2; clear hl2
        refine then_normal ?_
        refine c_cond hl rfl ?_ ?_
        · intro hc4
          try simp only [decide_eq_true_eq, decide_eq_false_iff_not, Bool.not_eq_true', Bool.not_eq_false', Bool.not_eq_true, Bool.not_eq_false, Bool.and_eq_true, Bool.or_eq_true, Bool.and_eq_false_iff, Bool.or_eq_false_iff, Bool.not_not, ne_eq, Int.not_lt, Int.not_le, Decidable.not_not, beq_iff_eq, bne_iff_ne] at hc4
          refine c_region ?_
          refine wl (wl_val hl rfl trivial (r_move hl rfl) ?_)
          clear hl a; intro a hl
          refine wl (w_call hl hh rfl trivial rfl cal31 rfl (str_spec b o7 rv7 E7 hR7 (by omega) _ [97, 110, 121] rfl (by decide)) (by repeat (first | exact keeps_nil | apply keeps_cons (by repeat (first | exact find_head | apply find_tail)) (by first  | rfl) | exact keeps_self | exact keeps_left | exact keeps_right | exact keeps_swap | apply keeps_mv)) trivial ?_)
          clear hl hh a w; intro vc Fc a w hR hl hh
          obtain ⟨rfl, rv8, E8, hR8, rfl⟩ := hR
          try simp only [List.cons_append, List.nil_append] at hh
          obtain ⟨o8, hoe8⟩ : ∃ y, y = o7 ++ ([97, 110, 121]) := ⟨_, rfl⟩
          rw [← hoe8] at hR8
          have hol8 : o8.length ≤ o7.length + 3 := by (rw [hoe8, List.length_append]; simp only [List.length_cons, List.length_nil]; omega)
          (try replace hh := has_tail1 hh); (try simp only [List.cons_append, List.nil_append, List.append_nil] at hh)
          refine w_nil ?_
          have hl2 := hl.add (t := 0) (hl.nil) rfl; clear hl; have hl := hl2; clear hl2
          have hpc : pCh (⟨kd, dv, pr, ix, up, ra, rl, via, pm, da, dl, cl⟩ : Ch) = (([97, 99, 108, 32, 105, 110, 115, 101, 114, 116]) ++ (pDev dv) ++ ([32]) ++ (dg ix.toNat) ++ (if pm then [32, 112, 101, 114, 109, 105, 116] else [32, 100, 101, 110, 121]) ++ (pPre da dl) ++ ([32, 99, 108, 97, 115, 115, 32]) ++ ([97, 110, 121])) ++ [10] := by (unfold pCh; simp only; rw [if_neg hc0]; rw [if_neg hc2]; rw [if_pos hc3, if_pos hc4])
          have hozE : o8 = o ++ (([97, 99, 108, 32, 105, 110, 115, 101, 114, 116]) ++ (pDev dv) ++ ([32]) ++ (dg ix.toNat) ++ (if pm then [32, 112, 101, 114, 109, 105, 116] else [32, 100, 101, 110, 121]) ++ (pPre da dl) ++ ([32, 99, 108, 97, 115, 115, 32]) ++ ([97, 110, 121])) := by (rw [hoe8, hoe7, hoe6, hoe5, hoe4, hoe3, hoe2, hoe1]; simp only [List.append_assoc])
          have hozl : o8.length ≤ o.length + 100 := by omega
          obtain ⟨oz, rfl⟩ : ∃ y, y = o8 := ⟨_, rfl⟩
          obtain ⟨rvz, rfl⟩ : ∃ y, y = rv8 := ⟨_, rfl⟩
          obtain ⟨Ez, rfl⟩ : ∃ y, y = E8 := ⟨_, rfl⟩
          have hRz := hR8
          refine blk_normal ?_
          refine then_normal ?_
          refine c_region ?_
          refine wl (wl_val hl rfl trivial (r_move hl rfl) ?_)
          clear hl a; intro a hl
          refine wl (w_call hl hh rfl trivial rfl cal31 rfl (str_spec b oz rvz Ez hRz (by omega) _ [10] rfl (by decide)) (by repeat (first | exact keeps_nil | apply keeps_cons (by repeat (first | exact find_head | apply find_tail)) (by first  | rfl) | exact keeps_self | exact keeps_left | exact keeps_right | exact keeps_swap | apply keeps_mv)) trivial ?_)
          clear hl hh a w; intro vc Fc a w hR hl hh
          obtain ⟨rfl, rvy, Ey, hRy, rfl⟩ := hR
          try simp only [List.cons_append, List.nil_append] at hh
          (try replace hh := has_tail1 hh); (try simp only [List.cons_append, List.nil_append, List.append_nil] at hh)
          refine w_nil ?_
          have hl2 := hl.nil; clear hl; have hl := hl2; clear hl2
          refine f_end0 (F' := (b, C [rvy] 82) :: Ey) hl hh rfl (by repeat (first | exact keeps_nil | apply keeps_cons (by repeat (first | exact find_head | apply find_tail)) (by first  | rfl) | exact keeps_self | exact keeps_left | exact keeps_right | exact keeps_swap | apply keeps_mv)) ?_
          exact ⟨rfl, ⟨rvy, Ey, by rw [hpc, ← List.append_assoc, ← hozE]; exact hRy, rfl⟩, by (have h9 := congrArg List.length hozE; rw [List.length_append] at h9; rw [hpc, List.length_append, List.length_singleton]; omega)⟩
        · intro hc4
          try simp only [decide_eq_true_eq, decide_eq_false_iff_not, Bool.not_eq_true', Bool.not_eq_false', Bool.not_eq_true, Bool.not_eq_false, Bool.and_eq_true, Bool.or_eq_true, Bool.and_eq_false_iff, Bool.or_eq_false_iff, Bool.not_not, ne_eq, Int.not_lt, Int.not_le, Decidable.not_not, beq_iff_eq, bne_iff_ne] at hc4
          refine c_region ?_
          refine wl (wl_val hl rfl trivial (r_move hl rfl) ?_)
          clear hl a; intro a hl
          refine wl (wl_val hl rfl trivial (r_field hl rfl fld57_6) ?_)
          clear hl a; intro a hl
          refine wl (wl_val hl rfl trivial (r_field hl rfl fld55_2) ?_)
          clear hl a; intro a hl
          refine wl (w_load hl hh rfl trivial one5 rfl (by repeat (first | exact find_head | apply find_tail)) (by first | rfl) ?_)
          clear hl a; intro a hl
          first | refine wl (wl_val hl rfl trivial (r_conv hl rfl Try.underlying5 Try.underlying34 (by simp only [Fits]; omega)) ?_) | refine wl (wl_val hl rfl trivial (r_convW hl rfl Try.underlying5 Try.underlying34) ?_)
          clear hl a; intro a hl
          refine wl (w_call hl hh rfl trivial rfl cal32 rfl (numI_spec b o7 rv7 E7 hR7 (by omega) (cl) (by omega) (by omega)) (by repeat (first | exact keeps_nil | apply keeps_cons (by repeat (first | exact find_head | apply find_tail)) (by first  | rfl) | exact keeps_self | exact keeps_left | exact keeps_right | exact keeps_swap | apply keeps_mv)) trivial ?_)
          clear hl hh a w; intro vc Fc a w hR hl hh
          obtain ⟨rfl, rv8, E8, hR8, rfl⟩ := hR
          try simp only [List.cons_append, List.nil_append] at hh
          obtain ⟨o8, hoe8⟩ : ∃ y, y = o7 ++ (dg (cl).toNat) := ⟨_, rfl⟩
          rw [← hoe8] at hR8
          have hol8 : o8.length ≤ o7.length + 10 := by (rw [hoe8, List.length_append]; have := dg_len10 (n := (cl).toNat) (by omega); omega)
          (try replace hh := has_tail1 hh); (try simp only [List.cons_append, List.nil_append, List.append_nil] at hh)
          refine w_nil ?_
          have hl2 := hl.add (t := 0) (hl.nil) rfl; clear hl; have hl := hl2; clear hl2
          have hpc : pCh (⟨kd, dv, pr, ix, up, ra, rl, via, pm, da, dl, cl⟩ : Ch) = (([97, 99, 108, 32, 105, 110, 115, 101, 114, 116]) ++ (pDev dv) ++ ([32]) ++ (dg ix.toNat) ++ (if pm then [32, 112, 101, 114, 109, 105, 116] else [32, 100, 101, 110, 121]) ++ (pPre da dl) ++ ([32, 99, 108, 97, 115, 115, 32]) ++ (dg cl.toNat)) ++ [10] := by (unfold pCh; simp only; rw [if_neg hc0]; rw [if_neg hc2]; rw [if_pos hc3, if_neg hc4])
          have hozE : o8 = o ++ (([97, 99, 108, 32, 105, 110, 115, 101, 114, 116]) ++ (pDev dv) ++ ([32]) ++ (dg ix.toNat) ++ (if pm then [32, 112, 101, 114, 109, 105, 116] else [32, 100, 101, 110, 121]) ++ (pPre da dl) ++ ([32, 99, 108, 97, 115, 115, 32]) ++ (dg cl.toNat)) := by (rw [hoe8, hoe7, hoe6, hoe5, hoe4, hoe3, hoe2, hoe1]; simp only [List.append_assoc])
          have hozl : o8.length ≤ o.length + 100 := by omega
          obtain ⟨oz, rfl⟩ : ∃ y, y = o8 := ⟨_, rfl⟩
          obtain ⟨rvz, rfl⟩ : ∃ y, y = rv8 := ⟨_, rfl⟩
          obtain ⟨Ez, rfl⟩ : ∃ y, y = E8 := ⟨_, rfl⟩
          have hRz := hR8
          refine blk_normal ?_
          refine then_normal ?_
          refine c_region ?_
          refine wl (wl_val hl rfl trivial (r_move hl rfl) ?_)
          clear hl a; intro a hl
          refine wl (w_call hl hh rfl trivial rfl cal31 rfl (str_spec b oz rvz Ez hRz (by omega) _ [10] rfl (by decide)) (by repeat (first | exact keeps_nil | apply keeps_cons (by repeat (first | exact find_head | apply find_tail)) (by first  | rfl) | exact keeps_self | exact keeps_left | exact keeps_right | exact keeps_swap | apply keeps_mv)) trivial ?_)
          clear hl hh a w; intro vc Fc a w hR hl hh
          obtain ⟨rfl, rvy, Ey, hRy, rfl⟩ := hR
          try simp only [List.cons_append, List.nil_append] at hh
          (try replace hh := has_tail1 hh); (try simp only [List.cons_append, List.nil_append, List.append_nil] at hh)
          refine w_nil ?_
          have hl2 := hl.nil; clear hl; have hl := hl2; clear hl2
          refine f_end0 (F' := (b, C [rvy] 82) :: Ey) hl hh rfl (by repeat (first | exact keeps_nil | apply keeps_cons (by repeat (first | exact find_head | apply find_tail)) (by first  | rfl) | exact keeps_self | exact keeps_left | exact keeps_right | exact keeps_swap | apply keeps_mv)) ?_
          exact ⟨rfl, ⟨rvy, Ey, by rw [hpc, ← List.append_assoc, ← hozE]; exact hRy, rfl⟩, by (have h9 := congrArg List.length hozE; rw [List.length_append] at h9; rw [hpc, List.length_append, List.length_singleton]; omega)⟩
      · intro hc3
        try simp only [decide_eq_true_eq, decide_eq_false_iff_not, Bool.not_eq_true', Bool.not_eq_false', Bool.not_eq_true, Bool.not_eq_false, Bool.and_eq_true, Bool.or_eq_true, Bool.and_eq_false_iff, Bool.or_eq_false_iff, Bool.not_not, ne_eq, Int.not_lt, Int.not_le, Decidable.not_not, beq_iff_eq, bne_iff_ne] at hc3
        refine c_seq ?_
        refine c_region ?_
        refine wl (wl_val hl rfl trivial (r_eql hl rfl rfl) ?_)
        clear hl a; intro a hl
        refine wl (wl_val hl rfl trivial (r_assign hl rfl) ?_)
        clear hl a; intro a hl
        refine w_nil ?_
        have hl2 := hl.add (t := 0) (hl.add (t := 3) (hl.add (t := 5) (hl.add (t := 74) (hl.nil) rfl) rfl) rfl) rfl; clear hl; have hl := hl2; clear hl2
        refine then_normal ?_
        refine c_cond hl rfl ?_ ?_
        · intro hc5
          try simp only [decide_eq_true_eq, decide_eq_false_iff_not, Bool.not_eq_true', Bool.not_eq_false', Bool.not_eq_true, Bool.not_eq_false, Bool.and_eq_true, Bool.or_eq_true, Bool.and_eq_false_iff, Bool.or_eq_false_iff, Bool.not_not, ne_eq, Int.not_lt, Int.not_le, Decidable.not_not, beq_iff_eq, bne_iff_ne] at hc5
          refine c_draw [(k3, C [.int .u8 kd, .int .u8 dv, .int .u8 pr, .int .u8 ix, .bool up, .int .u8 ra, .int .u8 rl, .int .u8 via, .bool pm, .int .u8 da, .int .u8 dl, .int .u8 cl] 57)] [9] mixed hh ?_
          clear hh w; intro w hh
          have hM : Mem [(k3, C [.int .u8 kd, .int .u8 dv, .int .u8 pr, .int .u8 ix, .bool up, .int .u8 ra, .int .u8 rl, .int .u8 via, .bool pm, .int .u8 da, .int .u8 dl, .int .u8 cl] 57)] w := (by (repeat (first | exact Mem.nil | refine Mem.cons hh.mem (by (repeat (first | exact find_head | apply find_tail)); done) ?_ | refine Mem.consR hh (by assumption) (by simp) ?_ | fail)); done)
          refine d_take (i := 0) hl rfl (by kernel_rfl) (by kernel_rfl) (by kernel_rfl) (by kernel_rfl) (by kernel_rfl) rfl trivial (fun _ _ _ h => h) hM (fun w hC => r_move hl rfl) rfl ?_
          clear hl a; intro a hl
          refine d_take (i := 2) hl rfl (by kernel_rfl) (by kernel_rfl) (by kernel_rfl) (by kernel_rfl) (by kernel_rfl) rfl trivial (fun _ _ _ h => h) hM (fun w hC => r_field hl rfl fld57_1) rfl ?_
          clear hl a; intro a hl
          refine d_take (i := 3) hl rfl (by kernel_rfl) (by kernel_rfl) (by kernel_rfl) (by kernel_rfl) (by kernel_rfl) rfl trivial (fun _ _ _ h => h) hM (fun w hC => r_loadC hl rfl one5 hC (by repeat (first | exact find_head | apply find_tail)) (by first | rfl)) rfl ?_
          clear hl a; intro a hl
          refine d_take (i := 6) hl rfl (by kernel_rfl) (by kernel_rfl) (by kernel_rfl) (by kernel_rfl) (by kernel_rfl) rfl trivial (fun _ _ _ h => h) hM (fun w hC => r_field hl rfl fld57_3) rfl ?_
          clear hl a; intro a hl
          refine d_take (i := 7) hl rfl (by kernel_rfl) (by kernel_rfl) (by kernel_rfl) (by kernel_rfl) (by kernel_rfl) rfl trivial (fun _ _ _ h => h) hM (fun w hC => r_loadC hl rfl one5 hC (by repeat (first | exact find_head | apply find_tail)) (by first | rfl)) rfl ?_
          clear hl a; intro a hl
          first | refine d_take (i := 8) hl rfl (by kernel_rfl) (by kernel_rfl) (by kernel_rfl) (by kernel_rfl) (by kernel_rfl) rfl trivial (fun _ _ _ h => h) hM (fun w hC => r_conv hl rfl Try.underlying5 Try.underlying34 (by simp only [Fits]; omega)) rfl ?_ | refine d_take (i := 8) hl rfl (by kernel_rfl) (by kernel_rfl) (by kernel_rfl) (by kernel_rfl) (by kernel_rfl) rfl trivial (fun _ _ _ h => h) hM (fun w hC => r_convW hl rfl Try.underlying5 Try.underlying34) rfl ?_
          clear hl a; intro a hl
          refine d_one (i := 1) (by kernel_rfl) rfl ?_
          try clear hM
          refine id (w_call hl hh rfl trivial rfl cal31 rfl (str_spec b o rv E hR (by omega) _ [97, 99, 108, 32, 114, 101, 109, 111, 118, 101] rfl (by decide)) (by repeat (first | exact keeps_nil | apply keeps_cons (by repeat (first | exact find_head | apply find_tail)) (by first  | rfl) | exact keeps_self | exact keeps_left | exact keeps_right | exact keeps_swap | apply keeps_mv)) trivial ?_)
          clear hl hh a w; intro vc Fc a w hR hl hh
          obtain ⟨rfl, rv1, E1, hR1, rfl⟩ := hR
          try simp only [List.cons_append, List.nil_append] at hh
          obtain ⟨o1, hoe1⟩ : ∃ y, y = o ++ ([97, 99, 108, 32, 114, 101, 109, 111, 118, 101]) := ⟨_, rfl⟩
          rw [← hoe1] at hR1
          have hol1 : o1.length ≤ o.length + 10 := by (rw [hoe1, List.length_append]; simp only [List.length_cons, List.length_nil]; omega)
          (try replace hh := has_tail1 hh); (try simp only [List.cons_append, List.nil_append, List.append_nil] at hh)
          have hM : Mem [(k3, C [.int .u8 kd, .int .u8 dv, .int .u8 pr, .int .u8 ix, .bool up, .int .u8 ra, .int .u8 rl, .int .u8 via, .bool pm, .int .u8 da, .int .u8 dl, .int .u8 cl] 57)] w := (by (repeat (first | exact Mem.nil | refine Mem.cons hh.mem (by (repeat (first | exact find_head | apply find_tail)); done) ?_ | refine Mem.consR hh (by assumption) (by simp) ?_ | fail)); done)
          refine d_step (fun _ => hM) ?_
          refine d_one (i := 4) (by kernel_rfl) rfl ?_
          try clear hM
          refine id (w_call hl hh rfl trivial rfl cal49 rfl (pdev_spec b o1 rv1 E1 hR1 (by omega) (dv) (by omega) (by omega)) (by repeat (first | exact keeps_nil | apply keeps_cons (by repeat (first | exact find_head | apply find_tail)) (by first  | rfl) | exact keeps_self | exact keeps_left | exact keeps_right | exact keeps_swap | apply keeps_mv)) trivial ?_)
          clear hl hh a w; intro vc Fc a w hR hl hh
          obtain ⟨rfl, rv2, E2, hR2, rfl⟩ := hR
          try simp only [List.cons_append, List.nil_append] at hh
          obtain ⟨o2, hoe2⟩ : ∃ y, y = o1 ++ (pDev (dv)) := ⟨_, rfl⟩
          rw [← hoe2] at hR2
          have hol2 : o2.length ≤ o1.length + 12 := by (rw [hoe2, List.length_append]; have := pDev_len (d := dv) (by omega); omega)
          (try replace hh := has_tail1 hh); (try simp only [List.cons_append, List.nil_append, List.append_nil] at hh)
          have hM : Mem [(k3, C [.int .u8 kd, .int .u8 dv, .int .u8 pr, .int .u8 ix, .bool up, .int .u8 ra, .int .u8 rl, .int .u8 via, .bool pm, .int .u8 da, .int .u8 dl, .int .u8 cl] 57)] w := (by (repeat (first | exact Mem.nil | refine Mem.cons hh.mem (by (repeat (first | exact find_head | apply find_tail)); done) ?_ | refine Mem.consR hh (by assumption) (by simp) ?_ | fail)); done)
          refine d_step (fun _ => hM) ?_
          refine d_one (i := 5) (by kernel_rfl) rfl ?_
          try clear hM
          refine id (w_call hl hh rfl trivial rfl cal31 rfl (str_spec b o2 rv2 E2 hR2 (by omega) _ [32] rfl (by decide)) (by repeat (first | exact keeps_nil | apply keeps_cons (by repeat (first | exact find_head | apply find_tail)) (by first  | rfl) | exact keeps_self | exact keeps_left | exact keeps_right | exact keeps_swap | apply keeps_mv)) trivial ?_)
          clear hl hh a w; intro vc Fc a w hR hl hh
          obtain ⟨rfl, rv3, E3, hR3, rfl⟩ := hR
          try simp only [List.cons_append, List.nil_append] at hh
          obtain ⟨o3, hoe3⟩ : ∃ y, y = o2 ++ ([32]) := ⟨_, rfl⟩
          rw [← hoe3] at hR3
          have hol3 : o3.length ≤ o2.length + 1 := by (rw [hoe3, List.length_append]; simp only [List.length_cons, List.length_nil]; omega)
          (try replace hh := has_tail1 hh); (try simp only [List.cons_append, List.nil_append, List.append_nil] at hh)
          have hM : Mem [(k3, C [.int .u8 kd, .int .u8 dv, .int .u8 pr, .int .u8 ix, .bool up, .int .u8 ra, .int .u8 rl, .int .u8 via, .bool pm, .int .u8 da, .int .u8 dl, .int .u8 cl] 57)] w := (by (repeat (first | exact Mem.nil | refine Mem.cons hh.mem (by (repeat (first | exact find_head | apply find_tail)); done) ?_ | refine Mem.consR hh (by assumption) (by simp) ?_ | fail)); done)
          refine d_step (fun _ => hM) ?_
          refine d_one (i := 9) (by kernel_rfl) rfl ?_
          try clear hM
          refine id (w_call hl hh rfl trivial rfl cal32 rfl (numI_spec b o3 rv3 E3 hR3 (by omega) (ix) (by omega) (by omega)) (by repeat (first | exact keeps_nil | apply keeps_cons (by repeat (first | exact find_head | apply find_tail)) (by first  | rfl) | exact keeps_self | exact keeps_left | exact keeps_right | exact keeps_swap | apply keeps_mv)) trivial ?_)
          clear hl hh a w; intro vc Fc a w hR hl hh
          obtain ⟨rfl, rv4, E4, hR4, rfl⟩ := hR
          try simp only [List.cons_append, List.nil_append] at hh
          obtain ⟨o4, hoe4⟩ : ∃ y, y = o3 ++ (dg (ix).toNat) := ⟨_, rfl⟩
          rw [← hoe4] at hR4
          have hol4 : o4.length ≤ o3.length + 10 := by (rw [hoe4, List.length_append]; have := dg_len10 (n := (ix).toNat) (by omega); omega)
          (try replace hh := has_tail1 hh); (try simp only [List.cons_append, List.nil_append, List.append_nil] at hh)
          refine d_step (fun h => absurd h (by decide)) ?_
          refine d_done (by kernel_rfl) ?_
          try clear hM
          have hl2 := hl.add (t := 0) (hl.nil) rfl; clear hl; have hl := hl2; clear hl2
          have hpc : pCh (⟨kd, dv, pr, ix, up, ra, rl, via, pm, da, dl, cl⟩ : Ch) = (([97, 99, 108, 32, 114, 101, 109, 111, 118, 101]) ++ (pDev dv) ++ ([32]) ++ (dg ix.toNat)) ++ [10] := by (unfold pCh; simp only; rw [if_neg hc0]; rw [if_neg hc2]; rw [if_neg hc3]; rw [if_pos hc5])
          have hozE : o4 = o ++ (([97, 99, 108, 32, 114, 101, 109, 111, 118, 101]) ++ (pDev dv) ++ ([32]) ++ (dg ix.toNat)) := by (rw [hoe4, hoe3, hoe2, hoe1]; simp only [List.append_assoc])
          have hozl : o4.length ≤ o.length + 100 := by omega
          obtain ⟨oz, rfl⟩ : ∃ y, y = o4 := ⟨_, rfl⟩
          obtain ⟨rvz, rfl⟩ : ∃ y, y = rv4 := ⟨_, rfl⟩
          obtain ⟨Ez, rfl⟩ : ∃ y, y = E4 := ⟨_, rfl⟩
          have hRz := hR4
          refine blk_normal ?_
          refine then_normal ?_
          refine c_region ?_
          refine wl (wl_val hl rfl trivial (r_move hl rfl) ?_)
          clear hl a; intro a hl
          refine wl (w_call hl hh rfl trivial rfl cal31 rfl (str_spec b oz rvz Ez hRz (by omega) _ [10] rfl (by decide)) (by repeat (first | exact keeps_nil | apply keeps_cons (by repeat (first | exact find_head | apply find_tail)) (by first  | rfl) | exact keeps_self | exact keeps_left | exact keeps_right | exact keeps_swap | apply keeps_mv)) trivial ?_)
          clear hl hh a w; intro vc Fc a w hR hl hh
          obtain ⟨rfl, rvy, Ey, hRy, rfl⟩ := hR
          try simp only [List.cons_append, List.nil_append] at hh
          (try replace hh := has_tail1 hh); (try simp only [List.cons_append, List.nil_append, List.append_nil] at hh)
          refine w_nil ?_
          have hl2 := hl.nil; clear hl; have hl := hl2; clear hl2
          refine f_end0 (F' := (b, C [rvy] 82) :: Ey) hl hh rfl (by repeat (first | exact keeps_nil | apply keeps_cons (by repeat (first | exact find_head | apply find_tail)) (by first  | rfl) | exact keeps_self | exact keeps_left | exact keeps_right | exact keeps_swap | apply keeps_mv)) ?_
          exact ⟨rfl, ⟨rvy, Ey, by rw [hpc, ← List.append_assoc, ← hozE]; exact hRy, rfl⟩, by (have h9 := congrArg List.length hozE; rw [List.length_append] at h9; rw [hpc, List.length_append, List.length_singleton]; omega)⟩
        · intro hc5
          try simp only [decide_eq_true_eq, decide_eq_false_iff_not, Bool.not_eq_true', Bool.not_eq_false', Bool.not_eq_true, Bool.not_eq_false, Bool.and_eq_true, Bool.or_eq_true, Bool.and_eq_false_iff, Bool.or_eq_false_iff, Bool.not_not, ne_eq, Int.not_lt, Int.not_le, Decidable.not_not, beq_iff_eq, bne_iff_ne] at hc5
          refine c_seq ?_
          refine c_region ?_
          refine wl (wl_val hl rfl trivial (r_eql hl rfl rfl) ?_)
          clear hl a; intro a hl
          refine wl (wl_val hl rfl trivial (r_assign hl rfl) ?_)
          clear hl a; intro a hl
          refine w_nil ?_
          have hl2 := hl.add (t := 0) (hl.add (t := 3) (hl.add (t := 5) (hl.add (t := 86) (hl.nil) rfl) rfl) rfl) rfl; clear hl; have hl := hl2; clear hl2
          refine then_normal ?_
          refine c_cond hl rfl ?_ ?_
          · intro hc6
            try simp only [decide_eq_true_eq, decide_eq_false_iff_not, Bool.not_eq_true', Bool.not_eq_false', Bool.not_eq_true, Bool.not_eq_false, Bool.and_eq_true, Bool.or_eq_true, Bool.and_eq_false_iff, Bool.or_eq_false_iff, Bool.not_not, ne_eq, Int.not_lt, Int.not_le, Decidable.not_not, beq_iff_eq, bne_iff_ne] at hc6
            refine c_draw [(k3, C [.int .u8 kd, .int .u8 dv, .int .u8 pr, .int .u8 ix, .bool up, .int .u8 ra, .int .u8 rl, .int .u8 via, .bool pm, .int .u8 da, .int .u8 dl, .int .u8 cl] 57)] [9] mixed hh ?_
            clear hh w; intro w hh
            have hM : Mem [(k3, C [.int .u8 kd, .int .u8 dv, .int .u8 pr, .int .u8 ix, .bool up, .int .u8 ra, .int .u8 rl, .int .u8 via, .bool pm, .int .u8 da, .int .u8 dl, .int .u8 cl] 57)] w := (by (repeat (first | exact Mem.nil | refine Mem.cons hh.mem (by (repeat (first | exact find_head | apply find_tail)); done) ?_ | refine Mem.consR hh (by assumption) (by simp) ?_ | fail)); done)
            refine d_take (i := 0) hl rfl (by kernel_rfl) (by kernel_rfl) (by kernel_rfl) (by kernel_rfl) (by kernel_rfl) rfl trivial (fun _ _ _ h => h) hM (fun w hC => r_move hl rfl) rfl ?_
            clear hl a; intro a hl
            refine d_take (i := 1) hl rfl (by kernel_rfl) (by kernel_rfl) (by kernel_rfl) (by kernel_rfl) (by kernel_rfl) rfl trivial (fun _ _ _ h => h) hM (fun w hC => r_field hl rfl fld57_4) rfl ?_
            clear hl a; intro a hl
            refine d_take (i := 2) hl rfl (by kernel_rfl) (by kernel_rfl) (by kernel_rfl) (by kernel_rfl) (by kernel_rfl) rfl trivial (fun _ _ _ h => h) hM (fun w hC => r_loadC hl rfl one4 hC (by repeat (first | exact find_head | apply find_tail)) (by first | rfl)) rfl ?_
            clear hl a; intro a hl
            refine d_take (i := 4) hl rfl (by kernel_rfl) (by kernel_rfl) (by kernel_rfl) (by kernel_rfl) (by kernel_rfl) rfl trivial (fun _ _ _ h => h) hM (fun w hC => r_field hl rfl fld57_1) rfl ?_
            clear hl a; intro a hl
            refine d_take (i := 5) hl rfl (by kernel_rfl) (by kernel_rfl) (by kernel_rfl) (by kernel_rfl) (by kernel_rfl) rfl trivial (fun _ _ _ h => h) hM (fun w hC => r_loadC hl rfl one5 hC (by repeat (first | exact find_head | apply find_tail)) (by first | rfl)) rfl ?_
            clear hl a; intro a hl
            refine d_take (i := 7) hl rfl (by kernel_rfl) (by kernel_rfl) (by kernel_rfl) (by kernel_rfl) (by kernel_rfl) rfl trivial (fun _ _ _ h => h) hM (fun w hC => r_field hl rfl fld57_2) rfl ?_
            clear hl a; intro a hl
            refine d_take (i := 8) hl rfl (by kernel_rfl) (by kernel_rfl) (by kernel_rfl) (by kernel_rfl) (by kernel_rfl) rfl trivial (fun _ _ _ h => h) hM (fun w hC => r_loadC hl rfl one5 hC (by repeat (first | exact find_head | apply find_tail)) (by first | rfl)) rfl ?_
            clear hl a; intro a hl
            refine d_one (i := 3) (by kernel_rfl) rfl ?_
            try clear hM
            refine id (w_call hl hh rfl trivial rfl cal51 rfl (pick_spec b o rv E hR (by omega) up _ _ [108, 105, 110, 107, 32, 117, 112] [108, 105, 110, 107, 32, 100, 111, 119, 110] rfl rfl (by decide) (by decide)) (by repeat (first | exact keeps_nil | apply keeps_cons (by repeat (first | exact find_head | apply find_tail)) (by first  | rfl) | exact keeps_self | exact keeps_left | exact keeps_right | exact keeps_swap | apply keeps_mv)) trivial ?_)
            clear hl hh a w; intro vc Fc a w hR hl hh
            obtain ⟨rfl, rv1, E1, hR1, rfl⟩ := hR
            try simp only [List.cons_append, List.nil_append] at hh
            obtain ⟨o1, hoe1⟩ : ∃ y, y = o ++ (if up then [108, 105, 110, 107, 32, 117, 112] else [108, 105, 110, 107, 32, 100, 111, 119, 110]) := ⟨_, rfl⟩
            rw [← hoe1] at hR1
            have hol1 : o1.length ≤ o.length + 9 := by (rw [hoe1, List.length_append]; cases up <;> simp)
            (try replace hh := has_tail1 hh); (try simp only [List.cons_append, List.nil_append, List.append_nil] at hh)
            have hM : Mem [(k3, C [.int .u8 kd, .int .u8 dv, .int .u8 pr, .int .u8 ix, .bool up, .int .u8 ra, .int .u8 rl, .int .u8 via, .bool pm, .int .u8 da, .int .u8 dl, .int .u8 cl] 57)] w := (by (repeat (first | exact Mem.nil | refine Mem.cons hh.mem (by (repeat (first | exact find_head | apply find_tail)); done) ?_ | refine Mem.consR hh (by assumption) (by simp) ?_ | fail)); done)
            refine d_step (fun _ => hM) ?_
            refine d_one (i := 6) (by kernel_rfl) rfl ?_
            try clear hM
            refine id (w_call hl hh rfl trivial rfl cal49 rfl (pdev_spec b o1 rv1 E1 hR1 (by omega) (dv) (by omega) (by omega)) (by repeat (first | exact keeps_nil | apply keeps_cons (by repeat (first | exact find_head | apply find_tail)) (by first  | rfl) | exact keeps_self | exact keeps_left | exact keeps_right | exact keeps_swap | apply keeps_mv)) trivial ?_)
            clear hl hh a w; intro vc Fc a w hR hl hh
            obtain ⟨rfl, rv2, E2, hR2, rfl⟩ := hR
            try simp only [List.cons_append, List.nil_append] at hh
            obtain ⟨o2, hoe2⟩ : ∃ y, y = o1 ++ (pDev (dv)) := ⟨_, rfl⟩
            rw [← hoe2] at hR2
            have hol2 : o2.length ≤ o1.length + 12 := by (rw [hoe2, List.length_append]; have := pDev_len (d := dv) (by omega); omega)
            (try replace hh := has_tail1 hh); (try simp only [List.cons_append, List.nil_append, List.append_nil] at hh)
            have hM : Mem [(k3, C [.int .u8 kd, .int .u8 dv, .int .u8 pr, .int .u8 ix, .bool up, .int .u8 ra, .int .u8 rl, .int .u8 via, .bool pm, .int .u8 da, .int .u8 dl, .int .u8 cl] 57)] w := (by (repeat (first | exact Mem.nil | refine Mem.cons hh.mem (by (repeat (first | exact find_head | apply find_tail)); done) ?_ | refine Mem.consR hh (by assumption) (by simp) ?_ | fail)); done)
            refine d_step (fun _ => hM) ?_
            refine d_one (i := 9) (by kernel_rfl) rfl ?_
            try clear hM
            refine id (w_call hl hh rfl trivial rfl cal49 rfl (pdev_spec b o2 rv2 E2 hR2 (by omega) (pr) (by omega) (by omega)) (by repeat (first | exact keeps_nil | apply keeps_cons (by repeat (first | exact find_head | apply find_tail)) (by first  | rfl) | exact keeps_self | exact keeps_left | exact keeps_right | exact keeps_swap | apply keeps_mv)) trivial ?_)
            clear hl hh a w; intro vc Fc a w hR hl hh
            obtain ⟨rfl, rv3, E3, hR3, rfl⟩ := hR
            try simp only [List.cons_append, List.nil_append] at hh
            obtain ⟨o3, hoe3⟩ : ∃ y, y = o2 ++ (pDev (pr)) := ⟨_, rfl⟩
            rw [← hoe3] at hR3
            have hol3 : o3.length ≤ o2.length + 12 := by (rw [hoe3, List.length_append]; have := pDev_len (d := pr) (by omega); omega)
            (try replace hh := has_tail1 hh); (try simp only [List.cons_append, List.nil_append, List.append_nil] at hh)
            refine d_step (fun h => absurd h (by decide)) ?_
            refine d_done (by kernel_rfl) ?_
            try clear hM
            have hl2 := hl.add (t := 0) (hl.nil) rfl; clear hl; have hl := hl2; clear hl2
            have hpc : pCh (⟨kd, dv, pr, ix, up, ra, rl, via, pm, da, dl, cl⟩ : Ch) = ((if up then [108, 105, 110, 107, 32, 117, 112] else [108, 105, 110, 107, 32, 100, 111, 119, 110]) ++ (pDev dv) ++ (pDev pr)) ++ [10] := by (unfold pCh; simp only; rw [if_neg hc0]; rw [if_neg hc2]; rw [if_neg hc3]; rw [if_neg hc5]; rw [if_pos hc6])
            have hozE : o3 = o ++ ((if up then [108, 105, 110, 107, 32, 117, 112] else [108, 105, 110, 107, 32, 100, 111, 119, 110]) ++ (pDev dv) ++ (pDev pr)) := by (rw [hoe3, hoe2, hoe1]; simp only [List.append_assoc])
            have hozl : o3.length ≤ o.length + 100 := by omega
            obtain ⟨oz, rfl⟩ : ∃ y, y = o3 := ⟨_, rfl⟩
            obtain ⟨rvz, rfl⟩ : ∃ y, y = rv3 := ⟨_, rfl⟩
            obtain ⟨Ez, rfl⟩ : ∃ y, y = E3 := ⟨_, rfl⟩
            have hRz := hR3
            refine blk_normal ?_
            refine then_normal ?_
            refine c_region ?_
            refine wl (wl_val hl rfl trivial (r_move hl rfl) ?_)
            clear hl a; intro a hl
            refine wl (w_call hl hh rfl trivial rfl cal31 rfl (str_spec b oz rvz Ez hRz (by omega) _ [10] rfl (by decide)) (by repeat (first | exact keeps_nil | apply keeps_cons (by repeat (first | exact find_head | apply find_tail)) (by first  | rfl) | exact keeps_self | exact keeps_left | exact keeps_right | exact keeps_swap | apply keeps_mv)) trivial ?_)
            clear hl hh a w; intro vc Fc a w hR hl hh
            obtain ⟨rfl, rvy, Ey, hRy, rfl⟩ := hR
            try simp only [List.cons_append, List.nil_append] at hh
            (try replace hh := has_tail1 hh); (try simp only [List.cons_append, List.nil_append, List.append_nil] at hh)
            refine w_nil ?_
            have hl2 := hl.nil; clear hl; have hl := hl2; clear hl2
            refine f_end0 (F' := (b, C [rvy] 82) :: Ey) hl hh rfl (by repeat (first | exact keeps_nil | apply keeps_cons (by repeat (first | exact find_head | apply find_tail)) (by first  | rfl) | exact keeps_self | exact keeps_left | exact keeps_right | exact keeps_swap | apply keeps_mv)) ?_
            exact ⟨rfl, ⟨rvy, Ey, by rw [hpc, ← List.append_assoc, ← hozE]; exact hRy, rfl⟩, by (have h9 := congrArg List.length hozE; rw [List.length_append] at h9; rw [hpc, List.length_append, List.length_singleton]; omega)⟩
          · intro hc6
            try simp only [decide_eq_true_eq, decide_eq_false_iff_not, Bool.not_eq_true', Bool.not_eq_false', Bool.not_eq_true, Bool.not_eq_false, Bool.and_eq_true, Bool.or_eq_true, Bool.and_eq_false_iff, Bool.or_eq_false_iff, Bool.not_not, ne_eq, Int.not_lt, Int.not_le, Decidable.not_not, beq_iff_eq, bne_iff_ne] at hc6
            refine c_seq ?_
            refine c_region ?_
            refine wl (wl_val hl rfl trivial (r_eql hl rfl rfl) ?_)
            clear hl a; intro a hl
            refine wl (wl_val hl rfl trivial (r_assign hl rfl) ?_)
            clear hl a; intro a hl
            refine w_nil ?_
            have hl2 := hl.add (t := 0) (hl.add (t := 3) (hl.add (t := 98) (hl.nil) rfl) rfl) rfl; clear hl; have hl := hl2; clear hl2
            refine then_normal ?_
            refine c_cond hl rfl ?_ ?_
            · intro hc7
              try simp only [decide_eq_true_eq, decide_eq_false_iff_not, Bool.not_eq_true', Bool.not_eq_false', Bool.not_eq_true, Bool.not_eq_false, Bool.and_eq_true, Bool.or_eq_true, Bool.and_eq_false_iff, Bool.or_eq_false_iff, Bool.not_not, ne_eq, Int.not_lt, Int.not_le, Decidable.not_not, beq_iff_eq, bne_iff_ne] at hc7
              refine c_draw [(k3, C [.int .u8 kd, .int .u8 dv, .int .u8 pr, .int .u8 ix, .bool up, .int .u8 ra, .int .u8 rl, .int .u8 via, .bool pm, .int .u8 da, .int .u8 dl, .int .u8 cl] 57)] [9] mixed hh ?_
              clear hh w; intro w hh
              have hM : Mem [(k3, C [.int .u8 kd, .int .u8 dv, .int .u8 pr, .int .u8 ix, .bool up, .int .u8 ra, .int .u8 rl, .int .u8 via, .bool pm, .int .u8 da, .int .u8 dl, .int .u8 cl] 57)] w := (by (repeat (first | exact Mem.nil | refine Mem.cons hh.mem (by (repeat (first | exact find_head | apply find_tail)); done) ?_ | refine Mem.consR hh (by assumption) (by simp) ?_ | fail)); done)
              refine d_take (i := 0) hl rfl (by kernel_rfl) (by kernel_rfl) (by kernel_rfl) (by kernel_rfl) (by kernel_rfl) rfl trivial (fun _ _ _ h => h) hM (fun w hC => r_move hl rfl) rfl ?_
              clear hl a; intro a hl
              refine d_take (i := 1) hl rfl (by kernel_rfl) (by kernel_rfl) (by kernel_rfl) (by kernel_rfl) (by kernel_rfl) rfl trivial (fun _ _ _ h => h) hM (fun w hC => r_field hl rfl fld57_4) rfl ?_
              clear hl a; intro a hl
              refine d_take (i := 2) hl rfl (by kernel_rfl) (by kernel_rfl) (by kernel_rfl) (by kernel_rfl) (by kernel_rfl) rfl trivial (fun _ _ _ h => h) hM (fun w hC => r_loadC hl rfl one4 hC (by repeat (first | exact find_head | apply find_tail)) (by first | rfl)) rfl ?_
              clear hl a; intro a hl
              refine d_take (i := 4) hl rfl (by kernel_rfl) (by kernel_rfl) (by kernel_rfl) (by kernel_rfl) (by kernel_rfl) rfl trivial (fun _ _ _ h => h) hM (fun w hC => r_field hl rfl fld57_1) rfl ?_
              clear hl a; intro a hl
              refine d_take (i := 5) hl rfl (by kernel_rfl) (by kernel_rfl) (by kernel_rfl) (by kernel_rfl) (by kernel_rfl) rfl trivial (fun _ _ _ h => h) hM (fun w hC => r_loadC hl rfl one5 hC (by repeat (first | exact find_head | apply find_tail)) (by first | rfl)) rfl ?_
              clear hl a; intro a hl
              refine d_take (i := 7) hl rfl (by kernel_rfl) (by kernel_rfl) (by kernel_rfl) (by kernel_rfl) (by kernel_rfl) rfl trivial (fun _ _ _ h => h) hM (fun w hC => r_field hl rfl fld57_2) rfl ?_
              clear hl a; intro a hl
              refine d_take (i := 8) hl rfl (by kernel_rfl) (by kernel_rfl) (by kernel_rfl) (by kernel_rfl) (by kernel_rfl) rfl trivial (fun _ _ _ h => h) hM (fun w hC => r_loadC hl rfl one5 hC (by repeat (first | exact find_head | apply find_tail)) (by first | rfl)) rfl ?_
              clear hl a; intro a hl
              refine d_one (i := 3) (by kernel_rfl) rfl ?_
              try clear hM
              refine id (w_call hl hh rfl trivial rfl cal51 rfl (pick_spec b o rv E hR (by omega) up _ _ [105, 102, 97, 99, 101, 32, 117, 112] [105, 102, 97, 99, 101, 32, 100, 111, 119, 110] rfl rfl (by decide) (by decide)) (by repeat (first | exact keeps_nil | apply keeps_cons (by repeat (first | exact find_head | apply find_tail)) (by first  | rfl) | exact keeps_self | exact keeps_left | exact keeps_right | exact keeps_swap | apply keeps_mv)) trivial ?_)
              clear hl hh a w; intro vc Fc a w hR hl hh
              obtain ⟨rfl, rv1, E1, hR1, rfl⟩ := hR
              try simp only [List.cons_append, List.nil_append] at hh
              obtain ⟨o1, hoe1⟩ : ∃ y, y = o ++ (if up then [105, 102, 97, 99, 101, 32, 117, 112] else [105, 102, 97, 99, 101, 32, 100, 111, 119, 110]) := ⟨_, rfl⟩
              rw [← hoe1] at hR1
              have hol1 : o1.length ≤ o.length + 10 := by (rw [hoe1, List.length_append]; cases up <;> simp)
              (try replace hh := has_tail1 hh); (try simp only [List.cons_append, List.nil_append, List.append_nil] at hh)
              have hM : Mem [(k3, C [.int .u8 kd, .int .u8 dv, .int .u8 pr, .int .u8 ix, .bool up, .int .u8 ra, .int .u8 rl, .int .u8 via, .bool pm, .int .u8 da, .int .u8 dl, .int .u8 cl] 57)] w := (by (repeat (first | exact Mem.nil | refine Mem.cons hh.mem (by (repeat (first | exact find_head | apply find_tail)); done) ?_ | refine Mem.consR hh (by assumption) (by simp) ?_ | fail)); done)
              refine d_step (fun _ => hM) ?_
              refine d_one (i := 6) (by kernel_rfl) rfl ?_
              try clear hM
              refine id (w_call hl hh rfl trivial rfl cal49 rfl (pdev_spec b o1 rv1 E1 hR1 (by omega) (dv) (by omega) (by omega)) (by repeat (first | exact keeps_nil | apply keeps_cons (by repeat (first | exact find_head | apply find_tail)) (by first  | rfl) | exact keeps_self | exact keeps_left | exact keeps_right | exact keeps_swap | apply keeps_mv)) trivial ?_)
              clear hl hh a w; intro vc Fc a w hR hl hh
              obtain ⟨rfl, rv2, E2, hR2, rfl⟩ := hR
              try simp only [List.cons_append, List.nil_append] at hh
              obtain ⟨o2, hoe2⟩ : ∃ y, y = o1 ++ (pDev (dv)) := ⟨_, rfl⟩
              rw [← hoe2] at hR2
              have hol2 : o2.length ≤ o1.length + 12 := by (rw [hoe2, List.length_append]; have := pDev_len (d := dv) (by omega); omega)
              (try replace hh := has_tail1 hh); (try simp only [List.cons_append, List.nil_append, List.append_nil] at hh)
              have hM : Mem [(k3, C [.int .u8 kd, .int .u8 dv, .int .u8 pr, .int .u8 ix, .bool up, .int .u8 ra, .int .u8 rl, .int .u8 via, .bool pm, .int .u8 da, .int .u8 dl, .int .u8 cl] 57)] w := (by (repeat (first | exact Mem.nil | refine Mem.cons hh.mem (by (repeat (first | exact find_head | apply find_tail)); done) ?_ | refine Mem.consR hh (by assumption) (by simp) ?_ | fail)); done)
              refine d_step (fun _ => hM) ?_
              refine d_one (i := 9) (by kernel_rfl) rfl ?_
              try clear hM
              refine id (w_call hl hh rfl trivial rfl cal49 rfl (pdev_spec b o2 rv2 E2 hR2 (by omega) (pr) (by omega) (by omega)) (by repeat (first | exact keeps_nil | apply keeps_cons (by repeat (first | exact find_head | apply find_tail)) (by first  | rfl) | exact keeps_self | exact keeps_left | exact keeps_right | exact keeps_swap | apply keeps_mv)) trivial ?_)
              clear hl hh a w; intro vc Fc a w hR hl hh
              obtain ⟨rfl, rv3, E3, hR3, rfl⟩ := hR
              try simp only [List.cons_append, List.nil_append] at hh
              obtain ⟨o3, hoe3⟩ : ∃ y, y = o2 ++ (pDev (pr)) := ⟨_, rfl⟩
              rw [← hoe3] at hR3
              have hol3 : o3.length ≤ o2.length + 12 := by (rw [hoe3, List.length_append]; have := pDev_len (d := pr) (by omega); omega)
              (try replace hh := has_tail1 hh); (try simp only [List.cons_append, List.nil_append, List.append_nil] at hh)
              refine d_step (fun h => absurd h (by decide)) ?_
              refine d_done (by kernel_rfl) ?_
              try clear hM
              have hl2 := hl.add (t := 0) (hl.nil) rfl; clear hl; have hl := hl2; clear hl2
              have hpc : pCh (⟨kd, dv, pr, ix, up, ra, rl, via, pm, da, dl, cl⟩ : Ch) = ((if up then [105, 102, 97, 99, 101, 32, 117, 112] else [105, 102, 97, 99, 101, 32, 100, 111, 119, 110]) ++ (pDev dv) ++ (pDev pr)) ++ [10] := by (unfold pCh; simp only; rw [if_neg hc0]; rw [if_neg hc2]; rw [if_neg hc3]; rw [if_neg hc5]; rw [if_neg hc6]; rw [if_pos hc7])
              have hozE : o3 = o ++ ((if up then [105, 102, 97, 99, 101, 32, 117, 112] else [105, 102, 97, 99, 101, 32, 100, 111, 119, 110]) ++ (pDev dv) ++ (pDev pr)) := by (rw [hoe3, hoe2, hoe1]; simp only [List.append_assoc])
              have hozl : o3.length ≤ o.length + 100 := by omega
              obtain ⟨oz, rfl⟩ : ∃ y, y = o3 := ⟨_, rfl⟩
              obtain ⟨rvz, rfl⟩ : ∃ y, y = rv3 := ⟨_, rfl⟩
              obtain ⟨Ez, rfl⟩ : ∃ y, y = E3 := ⟨_, rfl⟩
              have hRz := hR3
              refine blk_normal ?_
              refine then_normal ?_
              refine c_region ?_
              refine wl (wl_val hl rfl trivial (r_move hl rfl) ?_)
              clear hl a; intro a hl
              refine wl (w_call hl hh rfl trivial rfl cal31 rfl (str_spec b oz rvz Ez hRz (by omega) _ [10] rfl (by decide)) (by repeat (first | exact keeps_nil | apply keeps_cons (by repeat (first | exact find_head | apply find_tail)) (by first  | rfl) | exact keeps_self | exact keeps_left | exact keeps_right | exact keeps_swap | apply keeps_mv)) trivial ?_)
              clear hl hh a w; intro vc Fc a w hR hl hh
              obtain ⟨rfl, rvy, Ey, hRy, rfl⟩ := hR
              try simp only [List.cons_append, List.nil_append] at hh
              (try replace hh := has_tail1 hh); (try simp only [List.cons_append, List.nil_append, List.append_nil] at hh)
              refine w_nil ?_
              have hl2 := hl.nil; clear hl; have hl := hl2; clear hl2
              refine f_end0 (F' := (b, C [rvy] 82) :: Ey) hl hh rfl (by repeat (first | exact keeps_nil | apply keeps_cons (by repeat (first | exact find_head | apply find_tail)) (by first  | rfl) | exact keeps_self | exact keeps_left | exact keeps_right | exact keeps_swap | apply keeps_mv)) ?_
              exact ⟨rfl, ⟨rvy, Ey, by rw [hpc, ← List.append_assoc, ← hozE]; exact hRy, rfl⟩, by (have h9 := congrArg List.length hozE; rw [List.length_append] at h9; rw [hpc, List.length_append, List.length_singleton]; omega)⟩
            · intro hc7
              try simp only [decide_eq_true_eq, decide_eq_false_iff_not, Bool.not_eq_true', Bool.not_eq_false', Bool.not_eq_true, Bool.not_eq_false, Bool.and_eq_true, Bool.or_eq_true, Bool.and_eq_false_iff, Bool.or_eq_false_iff, Bool.not_not, ne_eq, Int.not_lt, Int.not_le, Decidable.not_not, beq_iff_eq, bne_iff_ne] at hc7
              have hpc : pCh (⟨kd, dv, pr, ix, up, ra, rl, via, pm, da, dl, cl⟩ : Ch) = (([] : List Int)) ++ [10] := by (unfold pCh; simp only; rw [if_neg hc0]; rw [if_neg hc2]; rw [if_neg hc3]; rw [if_neg hc5]; rw [if_neg hc6]; rw [if_neg hc7]; )
              obtain ⟨oz, hoz⟩ : ∃ y, y = o := ⟨_, rfl⟩
              obtain ⟨rvz, rfl⟩ : ∃ y, y = rv := ⟨_, rfl⟩
              obtain ⟨Ez, rfl⟩ : ∃ y, y = E := ⟨_, rfl⟩
              have hRz := hR
              rw [← hoz] at hRz
              have hozE : oz = o ++ (([] : List Int)) := by (rw [hoz, List.append_nil])
              have hozl : oz.length ≤ o.length + 100 := by (rw [hoz]; omega)
              refine wp_skip ?_
              refine blk_normal ?_
              refine then_normal ?_
              refine c_region ?_
              refine wl (wl_val hl rfl trivial (r_move hl rfl) ?_)
              clear hl a; intro a hl
              refine wl (w_call hl hh rfl trivial rfl cal31 rfl (str_spec b oz rvz Ez hRz (by omega) _ [10] rfl (by decide)) (by repeat (first | exact keeps_nil | apply keeps_cons (by repeat (first | exact find_head | apply find_tail)) (by first  | rfl) | exact keeps_self | exact keeps_left | exact keeps_right | exact keeps_swap | apply keeps_mv)) trivial ?_)
              clear hl hh a w; intro vc Fc a w hR hl hh
              obtain ⟨rfl, rvy, Ey, hRy, rfl⟩ := hR
              try simp only [List.cons_append, List.nil_append] at hh
              (try replace hh := has_tail1 hh); (try simp only [List.cons_append, List.nil_append, List.append_nil] at hh)
              refine w_nil ?_
              have hl2 := hl.nil; clear hl; have hl := hl2; clear hl2
              refine f_end0 (F' := (b, C [rvy] 82) :: Ey) hl hh rfl (by repeat (first | exact keeps_nil | apply keeps_cons (by repeat (first | exact find_head | apply find_tail)) (by first  | rfl) | exact keeps_self | exact keeps_left | exact keeps_right | exact keeps_swap | apply keeps_mv)) ?_
              exact ⟨rfl, ⟨rvy, Ey, by rw [hpc, ← List.append_assoc, ← hozE]; exact hRy, rfl⟩, by (have h9 := congrArg List.length hozE; rw [List.length_append] at h9; rw [hpc, List.length_append, List.length_singleton]; omega)⟩
end Go.Proofs.Qxb6500907a

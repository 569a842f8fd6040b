import Derived.Test.Qxb6500907aR0
import Derived.KernelRfl
namespace Go.Proofs.Qxb6500907a
open Go.Eng
set_option linter.unusedVariables false
set_option linter.unusedSimpArgs false

/-! ## the model's well-formedness -/
def pbit (x : Int) (i : Nat) : Bool := decide (bitsOf .and .u8 (x.fdiv (2 ^ min ((i : Int)).toNat IntKind.u8.bits)) 1 = 1)
theorem gp_all : ((List.range 256).all fun x => (List.range 9).all fun l => gpF x l == (List.range (8 - l)).all fun k => !pbit x k) = true := by kernel_rfl
theorem gp_bits {x l : Int} (h1 : 0 ≤ x) (h2 : x ≤ 255) (h3 : 0 ≤ l) (h4 : l ≤ 8) : gpF x l = (List.range (8 - l.toNat)).all fun k => !pbit x k := by
  obtain ⟨n, rfl⟩ := Int.eq_ofNat_of_zero_le h1
  obtain ⟨m, rfl⟩ := Int.eq_ofNat_of_zero_le h3
  have h := gp_all
  rw [List.all_eq_true] at h
  have h5 := h n (List.mem_range.2 (by omega))
  rw [List.all_eq_true] at h5
  exact eq_of_beq (h5 m (List.mem_range.2 (by omega)))
theorem gp_no {x l : Int} (h : 8 < l) : gpF x l = false := by unfold gpF; rw [decide_eq_false (by omega)]; rfl
theorem gp_hit {x l : Int} {i : Nat} (h1 : 0 ≤ x) (h2 : x ≤ 255) (h3 : 0 ≤ l) (h4 : (i : Int) < 8 - l) (h : pbit x i = true) : gpF x l = false := by
  rw [gp_bits h1 h2 h3 (by omega)]
  cases hq : ((List.range (8 - l.toNat)).all fun k => !pbit x k)
  · rfl
  · rw [List.all_eq_true] at hq
    have := hq i (List.mem_range.2 (by omega))
    rw [h] at this; cases this
theorem gp_yes {x l : Int} (h1 : 0 ≤ x) (h2 : x ≤ 255) (h3 : 0 ≤ l) (h4 : l ≤ 8) (h : ∀ k : Nat, (k : Int) < 8 - l → pbit x k = false) : gpF x l = true := by
  rw [gp_bits h1 h2 h3 h4, List.all_eq_true]
  intro k hk
  rw [h k (by have := List.mem_range.1 hk; omega)]; rfl
def noPr (c : Ch) : Bool := decide (c.pr = 0) && !c.up
def noRt (c : Ch) : Bool := eqLits [.int .u8 c.ra, .int .u8 c.rl, .int .u8 c.via] [.int .u8 0, .int .u8 0, .int .u8 0]
def noRl (c : Ch) : Bool := eqLits [.bool c.pm, .int .u8 c.da, .int .u8 c.dl, .int .u8 c.cl] [.bool false, .int .u8 0, .int .u8 0, .int .u8 0]
def nxV (c : Ch) : Bool := decide (c.via = 16) || (decide (c.via < 16) && !decide (c.via = c.dv))
def wfF (c : Ch) : Bool :=
  if c.kd = 0 then decide (c.dv < 16) && gpF c.ra c.rl && nxV c && noPr c && noRl c && decide (c.ix = 0)
  else if c.kd = 1 then decide (c.dv < 16) && gpF c.ra c.rl && decide (c.via = 0) && noPr c && noRl c && decide (c.ix = 0)
  else if c.kd = 2 then decide (c.dv < 16) && decide (c.ix < 64) && gpF c.da c.dl && decide (c.cl ≤ 16) && noPr c && noRt c
  else if c.kd = 3 then decide (c.dv < 16) && decide (c.ix < 64) && noPr c && noRt c && noRl c
  else if c.kd = 4 then decide (c.dv < 16) && decide (c.pr < 16) && decide (c.dv < c.pr) && noRt c && noRl c && decide (c.ix = 0)
  else if c.kd = 5 then decide (c.dv < 16) && decide (c.pr < 16) && !decide (c.dv = c.pr) && noRt c && noRl c && decide (c.ix = 0)
  else false


set_option maxHeartbeats 1000000 in
theorem isDeviceM (x : Int) : Sp Try.prog 64 #[.int .u8 x] [] (fun v F' => v = .bool (decide (x < 16)) ∧ F' = []) := by
  refine f_enter (args := [.int .u8 x]) Try.func64 rfl Try.ntmps64 rfl ?_
  intro w0 w a hpre hl hh
  simp only [slotsFrom, Nat.reduceAdd] at hl
  refine c_seq ?_
  refine c_region ?_
  refine wl (wl_val hl rfl trivial (r_assign hl rfl) ?_)
  clear hl a; intro a hl
  refine w_nil ?_
  have hl2 := hl.add (t := 0) (hl.nil) rfl; clear hl; have hl := hl2; clear hl2
  refine then_normal ?_
  refine c_seq ?_
  refine c_region ?_
  refine wl (wl_val hl rfl trivial (r_move hl rfl) ?_)
  clear hl a; intro a hl
  refine wl (wl_val hl rfl trivial (r_lss hl rfl rfl) ?_)
  clear hl a; intro a hl
  refine wl (wl_val hl rfl trivial (r_assign hl rfl) ?_)
  clear hl a; intro a hl
  refine w_nil ?_
  have hl2 := hl.add (t := 2) (hl.nil) rfl; clear hl; have hl := hl2; clear hl2
  refine then_normal ?_
  refine wp_ret ?_
  refine f_ret1 (F' := []) hl hh rfl rfl (by repeat (first | exact keeps_nil | apply keeps_cons (by repeat (first | exact find_head | apply find_tail)) (by first  | rfl) | exact keeps_self | apply keeps_mv)) ?_
  exact ⟨rfl, rfl⟩

set_option maxHeartbeats 1000000 in
theorem isPrefixM (x l : Int) (h1 : 0 ≤ x) (h2 : x ≤ 255) (h3 : 0 ≤ l) (h4 : l ≤ 255) : Sp Try.prog 65 #[.agg ⟨[.int .u8 x, .int .u8 l]⟩] [] (fun v F' => v = .bool (gpF x l) ∧ F' = []) := by
  refine f_enter (args := [.agg ⟨[.int .u8 x, .int .u8 l]⟩]) Try.func65 rfl Try.ntmps65 rfl ?_
  intro w0 w a hpre hl hh
  simp only [slotsFrom, Nat.reduceAdd] at hl
  refine c_seq ?_
  refine c_region ?_
  refine wl (w_box hl hh rfl trivial rfl rfl ?_)
  clear hl hh a w; intro k1 a w hl hh
  refine wl (wl_val hl rfl trivial (r_assign hl rfl) ?_)
  clear hl a; intro a hl
  refine w_nil ?_
  have hl2 := hl.add (t := 1) (hl.nil) rfl; clear hl; have hl := hl2; clear hl2
  refine then_normal ?_
  refine c_seq ?_
  refine c_seq ?_
  refine c_region ?_
  refine wl (wl_val hl rfl trivial (r_field hl rfl fld51_1) ?_)
  clear hl a; intro a hl
  refine wl (w_load hl hh rfl trivial one5 rfl (by repeat (first | exact find_head | apply find_tail)) (by first | rfl) ?_)
  clear hl a; intro a hl
  refine wl (wl_val hl rfl trivial (r_gtr hl rfl rfl) ?_)
  clear hl a; intro a hl
  refine w_nil ?_
  have hl2 := hl.add (t := 1) (hl.add (t := 6) (hl.nil) rfl) rfl; clear hl; have hl := hl2; clear hl2
  refine then_normal ?_
  refine c_cond hl rfl ?_ ?_
  · intro hc0
    try simp only [decide_eq_true_eq, decide_eq_false_iff_not, Bool.not_eq_true', Bool.not_eq_false', Bool.not_eq_true, Bool.not_eq_false, Bool.and_eq_true, Bool.or_eq_true, Bool.and_eq_false_iff, Bool.or_eq_false_iff, Bool.not_not, ne_eq, Int.not_lt, Int.not_le, Decidable.not_not, beq_iff_eq, bne_iff_ne] at hc0
    have hg := gp_no (x := x) (l := l) (by omega)
    refine c_seq ?_
    refine c_region ?_
    refine wl (wl_val hl rfl trivial (r_assign hl rfl) ?_)
    clear hl a; intro a hl
    refine w_nil ?_
    have hl2 := hl.add (t := 2) (hl.nil) rfl; clear hl; have hl := hl2; clear hl2
    refine then_normal ?_
    refine wp_ret ?_
    refine then_ret ?_
    refine f_ret1 (F' := []) hl hh rfl rfl (by repeat (first | exact keeps_nil | apply keeps_cons (by repeat (first | exact find_head | apply find_tail)) (by first  | rfl) | exact keeps_self | apply keeps_mv)) ?_
    exact ⟨by rw [hg], rfl⟩
  · intro hc0
    try simp only [decide_eq_true_eq, decide_eq_false_iff_not, Bool.not_eq_true', Bool.not_eq_false', Bool.not_eq_true, Bool.not_eq_false, Bool.and_eq_true, Bool.or_eq_true, Bool.and_eq_false_iff, Bool.or_eq_false_iff, Bool.not_not, ne_eq, Int.not_lt, Int.not_le, Decidable.not_not, beq_iff_eq, bne_iff_ne] at hc0
    refine wp_skip ?_
    refine then_normal ?_
    refine c_seq ?_
    refine c_seq ?_
    refine c_region ?_
    refine wl (wl_val hl rfl trivial (r_assign hl rfl) ?_)
    clear hl a; intro a hl
    refine w_nil ?_
    have hl2 := hl.add (t := 1) (hl.add (t := 3) (hl.nil) rfl) rfl; clear hl; have hl := hl2; clear hl2
    refine then_normal ?_
    refine wp_block ?_
    obtain ⟨KS0, hKS0, hk⟩ := (hl.add (t := 1) (hl.nil) rfl).name
    obtain ⟨HS0, hHS0, hh2⟩ := hh.name (keeps_nil)
    refine c_loop (α := Nat) (fun i => 8 - i) (fun i a w => ((i : Int) ≤ 8 - l ∧ ∀ k, k < i → pbit x k = false) ∧ Sl 21 ([(3, .int .i64 (i : Int))] ++ KS0) a ∧ Has _ w0 ([] ++ HS0) w) 0 ⟨⟨by omega, fun k hk => absurd hk (by omega)⟩, hl.addE (t := 3) (hk) rfl (by first | rfl), hh2⟩ ?_
    clear hk hh2 hl hh a w
    intro i a w hI
    obtain ⟨⟨hi, hal⟩, hl, hh⟩ := hI
    subst hKS0; subst hHS0
    simp only [List.cons_append, List.nil_append, List.append_nil] at hl hh
    refine c_seq ?_
    refine c_seq ?_
    refine c_region ?_
    refine wl (wl_val hl rfl trivial (r_move hl rfl) ?_)
    clear hl a; intro a hl
    refine wl (wl_val hl rfl trivial (r_field hl rfl fld51_1) ?_)
    clear hl a; intro a hl
    refine wl (w_load hl hh rfl trivial one5 rfl (by repeat (first | exact find_head | apply find_tail)) (by first | rfl) ?_)
    clear hl a; intro a hl
    first | refine wl (wl_val hl rfl trivial (r_conv hl rfl Try.underlying5 Try.underlying3 (by simp only [Fits]; omega)) ?_) | refine wl (wl_val hl rfl trivial (r_convW hl rfl Try.underlying5 Try.underlying3) ?_)
    clear hl a; intro a hl
    first | refine wl (wl_val hl rfl trivial (r_sub hl rfl rfl (by simp only [Fits]; omega)) ?_) | refine wl (wl_val hl rfl trivial (r_subW hl rfl rfl) ?_)
    clear hl a; intro a hl
    refine wl (wl_val hl rfl trivial (r_lss hl rfl rfl) ?_)
    clear hl a; intro a hl
    refine w_nil ?_
    have hl2 := hl.add (t := 1) (hl.add (t := 3) (hl.add (t := 12) (hl.nil) rfl) rfl) rfl; clear hl; have hl := hl2; clear hl2
    refine then_normal ?_
    refine c_cond hl rfl ?_ ?_
    · intro hc1
      try simp only [decide_eq_true_eq, decide_eq_false_iff_not, Bool.not_eq_true', Bool.not_eq_false', Bool.not_eq_true, Bool.not_eq_false, Bool.and_eq_true, Bool.or_eq_true, Bool.and_eq_false_iff, Bool.or_eq_false_iff, Bool.not_not, ne_eq, Int.not_lt, Int.not_le, Decidable.not_not, beq_iff_eq, bne_iff_ne] at hc1
      refine wp_skip ?_
      refine then_normal ?_
      refine c_seq ?_
      refine wp_block ?_
      refine c_seq ?_
      refine c_region ?_
      refine wl (wl_val hl rfl trivial (r_field hl rfl fld51_0) ?_)
      clear hl a; intro a hl
      refine wl (w_load hl hh rfl trivial one5 rfl (by repeat (first | exact find_head | apply find_tail)) (by first | rfl) ?_)
      clear hl a; intro a hl
      refine wl (wl_val hl rfl trivial (r_move hl rfl) ?_)
      clear hl a; intro a hl
      refine wl (wl_val hl rfl trivial (r_shr hl rfl rfl (by omega)) ?_)
      clear hl a; intro a hl
      refine wl (wl_val hl rfl trivial (r_and hl rfl rfl) ?_)
      clear hl a; intro a hl
      refine wl (wl_val hl rfl trivial (r_eql hl rfl rfl) ?_)
      clear hl a; intro a hl
      refine w_nil ?_
      have hl2 := hl.add (t := 1) (hl.add (t := 3) (hl.add (t := 20) (hl.nil) rfl) rfl) rfl; clear hl; have hl := hl2; clear hl2
      refine then_normal ?_
      refine c_cond hl rfl ?_ ?_
      · intro hc2
        try simp only [decide_eq_true_eq, decide_eq_false_iff_not, Bool.not_eq_true', Bool.not_eq_false', Bool.not_eq_true, Bool.not_eq_false, Bool.and_eq_true, Bool.or_eq_true, Bool.and_eq_false_iff, Bool.or_eq_false_iff, Bool.not_not, ne_eq, Int.not_lt, Int.not_le, Decidable.not_not, beq_iff_eq, bne_iff_ne] at hc2
        have hg := gp_hit (x := x) (l := l) (i := i) h1 h2 h3 (by omega) (decide_eq_true hc2)
        refine c_seq ?_
        refine c_region ?_
        refine wl (wl_val hl rfl trivial (r_assign hl rfl) ?_)
        clear hl a; intro a hl
        refine w_nil ?_
        have hl2 := hl.add (t := 2) (hl.nil) rfl; clear hl; have hl := hl2; clear hl2
        refine then_normal ?_
        refine wp_ret ?_
        refine blk_ret ?_
        refine then_ret ?_
        refine then_ret ?_
        refine blk_ret ?_
        refine then_ret ?_
        refine f_ret1 (F' := []) hl hh rfl rfl (by repeat (first | exact keeps_nil | apply keeps_cons (by repeat (first | exact find_head | apply find_tail)) (by first  | rfl) | exact keeps_self | apply keeps_mv)) ?_
        exact ⟨by rw [hg], rfl⟩
      · intro hc2
        try simp only [decide_eq_true_eq, decide_eq_false_iff_not, Bool.not_eq_true', Bool.not_eq_false', Bool.not_eq_true, Bool.not_eq_false, Bool.and_eq_true, Bool.or_eq_true, Bool.and_eq_false_iff, Bool.or_eq_false_iff, Bool.not_not, ne_eq, Int.not_lt, Int.not_le, Decidable.not_not, beq_iff_eq, bne_iff_ne] at hc2
        have hnb : pbit x i = false := decide_eq_false hc2
        refine wp_skip ?_
        refine blk_normal ?_
        refine then_normal ?_
        refine c_region ?_
        refine wl (wl_val hl rfl trivial (r_move hl rfl) ?_)
        clear hl a; intro a hl
        first | refine wl (wl_val hl rfl trivial (r_add hl rfl rfl (by simp only [Fits]; omega)) ?_) | refine wl (wl_val hl rfl trivial (r_addW hl rfl rfl) ?_)
        clear hl a; intro a hl
        refine wl (wl_val hl rfl trivial (r_assign hl rfl) ?_)
        clear hl a; intro a hl
        refine w_nil ?_
        have hl2 := hl.add (t := 1) (hl.add (t := 3) (hl.nil) rfl) rfl; clear hl; have hl := hl2; clear hl2
        refine then_normal ?_
        refine ⟨i + 1, (by omega), ⟨by omega, fun k hk => by by_cases e : k = i; (rw [e]; exact hnb); exact hal k (by omega)⟩, hl.addE (t := 3) (hl.addE (t := 1) (hl.nil) rfl (by first | rfl | rfl)) rfl (by first | rfl | rfl), hh.keep (by repeat (first | exact keeps_nil | apply keeps_cons (by repeat (first | exact find_head | apply find_tail)) (by first  | rfl) | exact keeps_self | apply keeps_mv))⟩
    · intro hc1
      try simp only [decide_eq_true_eq, decide_eq_false_iff_not, Bool.not_eq_true', Bool.not_eq_false', Bool.not_eq_true, Bool.not_eq_false, Bool.and_eq_true, Bool.or_eq_true, Bool.and_eq_false_iff, Bool.or_eq_false_iff, Bool.not_not, ne_eq, Int.not_lt, Int.not_le, Decidable.not_not, beq_iff_eq, bne_iff_ne] at hc1
      have hg := gp_yes (x := x) (l := l) h1 h2 h3 (by omega) (fun k hk => hal k (by omega))
      refine wp_exit ?_
      refine then_exit ?_
      refine then_exit ?_
      refine blk_exit ?_
      refine then_normal ?_
      refine c_seq ?_
      refine c_region ?_
      refine wl (wl_val hl rfl trivial (r_assign hl rfl) ?_)
      clear hl a; intro a hl
      refine w_nil ?_
      have hl2 := hl.add (t := 2) (hl.nil) rfl; clear hl; have hl := hl2; clear hl2
      refine then_normal ?_
      refine wp_ret ?_
      refine f_ret1 (F' := []) hl hh rfl rfl (by repeat (first | exact keeps_nil | apply keeps_cons (by repeat (first | exact find_head | apply find_tail)) (by first  | rfl) | exact keeps_self | apply keeps_mv)) ?_
      exact ⟨by rw [hg], rfl⟩
end Go.Proofs.Qxb6500907a

import Derived.Test.Qxb6500912aGreatDoorZ11
namespace Go.Proofs.Qxb6500912aGreatDoor
open Go.Eng
set_option linter.unusedVariables false
set_option linter.unusedSimpArgs false
theorem cal49 : callable Tryz.prog 49 = true := by kernel_rfl
/-! ## an acknowledgement, in the model -/
def enterM (s : CS) (sk : Bool) : CS :=
  { halveM s with cwnd := if sk then bndP s (halveM s).ssth else bndP s ((halveM s).ssth + s.dupt * s.mss), phase := 1, recov := s.nxt, high := s.una, forced := true, resc := false, credit := 0 }
def sigM (s : CS) (sk lu : Bool) : Prop := (sk = false ∧ s.dupt ≤ s.dups + 1 ∧ s.recov < s.una) ∨ (sk = true ∧ (s.dupt ≤ s.dups + 1 ∨ lu = true))
instance (s : CS) (sk lu : Bool) : Decidable (sigM s sk lu) := by unfold sigM; infer_instance
def dupM (s : CS) (sk lu : Bool) : CS :=
  if s.phase = 1 ∧ sk = false then { s with dups := s.dups + 1, cwnd := bndP s (s.cwnd + s.mss) }
  else if ¬ s.phase = 0 then { s with dups := s.dups + 1 }
  else if sigM s sk lu then enterM { s with dups := s.dups + 1 } sk else { s with dups := s.dups + 1 }
def adv0 (s : CS) (ack : Int) : CS := { s with una := ack, high := max s.high ack, dups := 0, forced := false, timed := false }
def advM (s : CS) (sk : Bool) (ack : Int) : CS :=
  if s.phase = 0 then openM (adv0 s ack) (ack - s.una)
  else if s.phase = 2 then (if s.recov ≤ ack then { openM (adv0 s ack) (ack - s.una) with phase := 0 } else openM (adv0 s ack) (ack - s.una))
  else if s.recov ≤ ack then { adv0 s ack with cwnd := if sk then s.cwnd else bndP s (min s.ssth (max (s.nxt - ack) s.mss + s.mss)), phase := 0, credit := 0 }
  else if sk = false then { adv0 s ack with cwnd := bndP s (s.cwnd - (ack - s.una) + (if s.mss ≤ ack - s.una then s.mss else 0)), forced := true }
  else adv0 s ack
def ackM (s : CS) (sk : Bool) (ack : Int) (dup lu : Bool) : CS :=
  if ack < s.una ∨ s.nxt < ack then s
  else if ack = s.una then (if dup = true ∧ ¬ s.nxt = s.una then dupM s sk lu else s)
  else advM s sk ack
section
variable {s : CS} {sk lu dup : Bool} {ack : Int}
theorem ack_out (h : ack < s.una ∨ s.nxt < ack) : ackM s sk ack dup lu = s := if_pos h
theorem ack_no (h : ¬ (ack < s.una ∨ s.nxt < ack)) (h1 : ack = s.una) (h2 : dup = false ∨ s.nxt = s.una) : ackM s sk ack dup lu = s := by
  unfold ackM
  rw [if_neg h, if_pos h1, if_neg]
  rintro ⟨h3, h4⟩
  rcases h2 with h2 | h2
  · rw [h2] at h3; cases h3
  · exact h4 h2
theorem ack_dup (h : ¬ (ack < s.una ∨ s.nxt < ack)) (h1 : ack = s.una) (h2 : dup = true) (h3 : ¬ s.nxt = s.una) : ackM s sk ack dup lu = dupM s sk lu := by
  unfold ackM; rw [if_neg h, if_pos h1, if_pos ⟨h2, h3⟩]
theorem ack_adv (h : ¬ (ack < s.una ∨ s.nxt < ack)) (h1 : ¬ ack = s.una) : ackM s sk ack dup lu = advM s sk ack := by
  unfold ackM; rw [if_neg h, if_neg h1]
theorem dup_1 (h : s.phase = 1) (h1 : sk = false) : dupM s sk lu = { s with dups := s.dups + 1, cwnd := bndP s (s.cwnd + s.mss) } := if_pos ⟨h, h1⟩
theorem dup_2 (h : ¬ (s.phase = 1 ∧ sk = false)) (h1 : ¬ s.phase = 0) : dupM s sk lu = { s with dups := s.dups + 1 } := (if_neg h).trans (if_pos h1)
theorem dup_3 (h : s.phase = 0) (h2 : sigM s sk lu) : dupM s sk lu = enterM { s with dups := s.dups + 1 } sk := (if_neg (by omega)).trans ((if_neg (by omega)).trans (if_pos h2))
theorem dup_4 (h : s.phase = 0) (h2 : ¬ sigM s sk lu) : dupM s sk lu = { s with dups := s.dups + 1 } := (if_neg (by omega)).trans ((if_neg (by omega)).trans (if_neg h2))
theorem adv_0 (h : s.phase = 0) : advM s sk ack = openM (adv0 s ack) (ack - s.una) := if_pos h
theorem adv_2a (h : s.phase = 2) (h1 : s.recov ≤ ack) : advM s sk ack = { openM (adv0 s ack) (ack - s.una) with phase := 0 } := (if_neg (by omega)).trans ((if_pos h).trans (if_pos h1))
theorem adv_2b (h : s.phase = 2) (h1 : ¬ s.recov ≤ ack) : advM s sk ack = openM (adv0 s ack) (ack - s.una) := (if_neg (by omega)).trans ((if_pos h).trans (if_neg h1))
theorem adv_1a (h0 : ¬ s.phase = 0) (h : ¬ s.phase = 2) (h1 : s.recov ≤ ack) : advM s sk ack = { adv0 s ack with cwnd := if sk then s.cwnd else bndP s (min s.ssth (max (s.nxt - ack) s.mss + s.mss)), phase := 0, credit := 0 } := (if_neg h0).trans ((if_neg h).trans (if_pos h1))
theorem adv_1b (h0 : ¬ s.phase = 0) (h : ¬ s.phase = 2) (h1 : ¬ s.recov ≤ ack) (h2 : sk = false) : advM s sk ack = { adv0 s ack with cwnd := bndP s (s.cwnd - (ack - s.una) + (if s.mss ≤ ack - s.una then s.mss else 0)), forced := true } := (if_neg h0).trans ((if_neg h).trans ((if_neg h1).trans (if_pos h2)))
theorem adv_1c (h0 : ¬ s.phase = 0) (h : ¬ s.phase = 2) (h1 : ¬ s.recov ≤ ack) (h2 : ¬ sk = false) : advM s sk ack = adv0 s ack := (if_neg h0).trans ((if_neg h).trans ((if_neg h1).trans (if_neg h2)))
theorem dups_mk (hs : Mk s) (h : s.dups + 1 ≤ 1152921504606846976) : Mk { s with dups := s.dups + 1 } := by
  have := hs.dups
  exact ⟨⟨hs.init, hs.maxc, hs.bn, hs.bd, hs.abc, hs.dupt, hs.mss⟩, hs.cwnd, hs.ssth, hs.credit, hs.una, hs.nxt, hs.fl, hs.phase, hs.recov, hs.high, ⟨by show 0 ≤ s.dups + 1; omega, h⟩⟩
theorem adv0_mk (hs : Mk s) (h1 : s.una ≤ ack) (h2 : ack ≤ s.nxt) : Mk (adv0 s ack) := by
  have a1 := hs.una; have a2 := hs.fl; have a3 := hs.high
  exact ⟨⟨hs.init, hs.maxc, hs.bn, hs.bd, hs.abc, hs.dupt, hs.mss⟩, hs.cwnd, hs.ssth, hs.credit, ⟨by show 0 ≤ ack; omega, h2⟩, hs.nxt, by show s.nxt - ack ≤ _; omega, hs.phase, hs.recov, ⟨by show ack ≤ max s.high ack; omega, by show max s.high ack ≤ s.nxt; omega⟩, ⟨by show (0 : Int) ≤ 0; decide, by show (0 : Int) ≤ 1152921504606846976; decide⟩⟩
theorem open_recov {s : CS} {k : Int} : (openM s k).recov = s.recov := by
  unfold openM; split
  · rfl
  · split <;> rfl
theorem sig_no (hk : sk = false) (h : ¬ (s.dupt ≤ s.dups + 1 ∧ s.recov < s.una)) : ¬ sigM s sk lu := by
  rintro (⟨_, h1, h2⟩ | ⟨h1, _⟩)
  · exact h ⟨h1, h2⟩
  · rw [hk] at h1; cases h1
theorem dup_3n (hk : sk = false) (h : s.phase = 0) (h1 : s.dupt ≤ s.dups + 1) (h2 : s.recov < s.una) : dupM s sk lu = { halveM { s with dups := s.dups + 1 } with cwnd := bndP s ((halveM { s with dups := s.dups + 1 }).ssth + s.dupt * s.mss), phase := 1, recov := s.nxt, high := s.una, forced := true, resc := false, credit := 0 } := by
  rw [dup_3 h (.inl ⟨hk, h1, h2⟩), hk]; rfl
theorem adv_1an (hk : sk = false) (h0 : ¬ s.phase = 0) (h : ¬ s.phase = 2) (h1 : s.recov ≤ ack) : advM s sk ack = { adv0 s ack with cwnd := bndP s (min s.ssth (max (s.nxt - ack) s.mss + s.mss)), phase := 0, credit := 0 } := by
  rw [adv_1a h0 h h1, hk]; rfl
theorem adv_1T {c : Int} (hk : sk = false) (h0 : ¬ s.phase = 0) (h : ¬ s.phase = 2) (h1 : ¬ s.recov ≤ ack) (h2 : s.mss ≤ ack - s.una) (hc : c = s.cwnd - (ack - s.una) + s.mss) : advM s sk ack = { adv0 s ack with cwnd := bndP s c, forced := true } := by
  rw [adv_1b h0 h h1 hk, if_pos h2, hc]
theorem adv_1F {c : Int} (hk : sk = false) (h0 : ¬ s.phase = 0) (h : ¬ s.phase = 2) (h1 : ¬ s.recov ≤ ack) (h2 : ¬ s.mss ≤ ack - s.una) (hc : c = s.cwnd - (ack - s.una)) : advM s sk ack = { adv0 s ack with cwnd := bndP s c, forced := true } := by
  rw [adv_1b h0 h h1 hk, if_neg h2, Int.add_zero, hc]
end


set_option maxHeartbeats 1000000 in
theorem bounded_c (mp : Nat) (s : CS) (st : Int) (sk : Bool) (bp : Nat) (hs : Cf s) (x : Int) : SpK Tryz.prog 44 #[.pointer (some ⟨mp, 0, none⟩), .int .i64 x] (fun w => w.heap[mp]? = some (C (encM s st sk bp) 69)) [] (fun v F' => v = .int .i64 (bndP s x) ∧ F' = []) := by
  refine f_enter (args := [.pointer (some ⟨mp, 0, none⟩), .int .i64 x]) Tryz.func44 rfl Tryz.ntmps44 rfl ?_
  intro w0 w a hpre hl hh
  have o2 := hs.maxc; have o7 := hs.mss
  simp only [slotsFrom, Nat.reduceAdd] at hl
  refine c_seq ?_
  refine c_region ?_
  refine wl (wl_val hl rfl trivial (r_assign hl rfl) ?_)
  clear hl a; intro a hl
  refine w_nil ?_
  have hl2 := hl.add (t := 0) (hl.add (t := 1) (hl.nil) rfl) rfl; clear hl; have hl := hl2; clear hl2
  refine then_normal ?_
  refine c_seq ?_
  refine c_seq ?_
  refine c_region ?_
  refine wl (wl_val hl rfl trivial (r_move hl rfl) ?_)
  clear hl a; intro a hl
  refine wl (wl_val hl rfl trivial (r_move hl rfl) ?_)
  clear hl a; intro a hl
  refine wl (wl_val hl rfl trivial (r_nilCheck hl rfl) ?_)
  clear hl a; intro a hl
  refine wl (wl_val hl rfl trivial (r_field hl rfl fld69_1) ?_)
  clear hl a; intro a hl
  first | refine wl (w_load hl hh rfl trivial one2 rfl (by repeat (first | exact find_head | apply find_tail)) (by first | rfl) ?_) | refine wl (w_loadR hl hh rfl trivial one2 rfl hpre (by simp) rfl ?_)
  clear hl a; intro a hl
  refine wl (wl_val hl rfl trivial (r_lss hl rfl rfl) ?_)
  clear hl a; intro a hl
  refine w_nil ?_
  have hl2 := hl.add (t := 0) (hl.add (t := 1) (hl.add (t := 10) (hl.nil) rfl) rfl) rfl; clear hl; have hl := hl2; clear hl2
  refine then_normal ?_
  refine c_cond hl rfl ?_ ?_
  · intro hc0
    try simp only [decide_eq_true_eq, decide_eq_false_iff_not, Bool.not_eq_true', Bool.not_eq_false', Bool.not_eq_true, Bool.not_eq_false, Bool.and_eq_true, Bool.or_eq_true, Bool.and_eq_false_iff, Bool.or_eq_false_iff, Bool.not_not, ne_eq, Int.not_lt, Int.not_le, Decidable.not_not, beq_iff_eq, bne_iff_ne] at hc0
    refine c_seq ?_
    refine c_region ?_
    refine wl (wl_val hl rfl trivial (r_move hl rfl) ?_)
    clear hl a; intro a hl
    refine wl (wl_val hl rfl trivial (r_nilCheck hl rfl) ?_)
    clear hl a; intro a hl
    refine wl (wl_val hl rfl trivial (r_field hl rfl fld69_1) ?_)
    clear hl a; intro a hl
    first | refine wl (w_load hl hh rfl trivial one2 rfl (by repeat (first | exact find_head | apply find_tail)) (by first | rfl) ?_) | refine wl (w_loadR hl hh rfl trivial one2 rfl hpre (by simp) rfl ?_)
    clear hl a; intro a hl
    refine wl (wl_val hl rfl trivial (r_assign hl rfl) ?_)
    clear hl a; intro a hl
    refine w_nil ?_
    have hl2 := hl.add (t := 4) (hl.nil) rfl; clear hl; have hl := hl2; clear hl2
    refine then_normal ?_
    refine wp_ret ?_
    refine then_ret ?_
    refine f_ret1 (F' := []) hl hh rfl rfl (by repeat (first | exact keeps_nil | apply keeps_cons (by repeat (first | exact find_head | apply find_tail)) (by first  | rfl) | exact keeps_self | apply keeps_mv)) ?_
    exact ⟨congrArg _ (bnd_1 hc0).symm, rfl⟩
  · intro hc0
    try simp only [decide_eq_true_eq, decide_eq_false_iff_not, Bool.not_eq_true', Bool.not_eq_false', Bool.not_eq_true, Bool.not_eq_false, Bool.and_eq_true, Bool.or_eq_true, Bool.and_eq_false_iff, Bool.or_eq_false_iff, Bool.not_not, ne_eq, Int.not_lt, Int.not_le, Decidable.not_not, beq_iff_eq, bne_iff_ne] at hc0
    refine wp_skip ?_
    refine then_normal ?_
    refine c_seq ?_
    refine c_seq ?_
    refine c_region ?_
    refine wl (wl_val hl rfl trivial (r_move hl rfl) ?_)
    clear hl a; intro a hl
    refine wl (wl_val hl rfl trivial (r_move hl rfl) ?_)
    clear hl a; intro a hl
    refine wl (wl_val hl rfl trivial (r_nilCheck hl rfl) ?_)
    clear hl a; intro a hl
    refine wl (wl_val hl rfl trivial (r_field hl rfl fld69_0) ?_)
    clear hl a; intro a hl
    refine wl (wl_val hl rfl trivial (r_field hl rfl fld31_1) ?_)
    clear hl a; intro a hl
    first | refine wl (w_load hl hh rfl trivial one29 rfl (by repeat (first | exact find_head | apply find_tail)) (by first | rfl) ?_) | refine wl (w_loadR hl hh rfl trivial one29 rfl hpre (by simp) rfl ?_)
    clear hl a; intro a hl
    first | refine wl (wl_val hl rfl trivial (r_conv hl rfl Tryz.underlying29 Tryz.underlying2 (by simp only [Fits]; omega)) ?_) | refine wl (wl_val hl rfl trivial (r_convW hl rfl Tryz.underlying29 Tryz.underlying2) ?_)
    clear hl a; intro a hl
    refine wl (wl_val hl rfl trivial (r_gtr hl rfl rfl) ?_)
    clear hl a; intro a hl
    refine w_nil ?_
    have hl2 := hl.add (t := 0) (hl.add (t := 1) (hl.add (t := 22) (hl.nil) rfl) rfl) rfl; clear hl; have hl := hl2; clear hl2
    refine then_normal ?_
    refine c_cond hl rfl ?_ ?_
    · intro hc1
      try simp only [decide_eq_true_eq, decide_eq_false_iff_not, Bool.not_eq_true', Bool.not_eq_false', Bool.not_eq_true, Bool.not_eq_false, Bool.and_eq_true, Bool.or_eq_true, Bool.and_eq_false_iff, Bool.or_eq_false_iff, Bool.not_not, ne_eq, Int.not_lt, Int.not_le, Decidable.not_not, beq_iff_eq, bne_iff_ne] at hc1
      refine c_seq ?_
      refine c_region ?_
      refine wl (wl_val hl rfl trivial (r_move hl rfl) ?_)
      clear hl a; intro a hl
      refine wl (wl_val hl rfl trivial (r_nilCheck hl rfl) ?_)
      clear hl a; intro a hl
      refine wl (wl_val hl rfl trivial (r_field hl rfl fld69_0) ?_)
      clear hl a; intro a hl
      refine wl (wl_val hl rfl trivial (r_field hl rfl fld31_1) ?_)
      clear hl a; intro a hl
      first | refine wl (w_load hl hh rfl trivial one29 rfl (by repeat (first | exact find_head | apply find_tail)) (by first | rfl) ?_) | refine wl (w_loadR hl hh rfl trivial one29 rfl hpre (by simp) rfl ?_)
      clear hl a; intro a hl
      first | refine wl (wl_val hl rfl trivial (r_conv hl rfl Tryz.underlying29 Tryz.underlying2 (by simp only [Fits]; omega)) ?_) | refine wl (wl_val hl rfl trivial (r_convW hl rfl Tryz.underlying29 Tryz.underlying2) ?_)
      clear hl a; intro a hl
      refine wl (wl_val hl rfl trivial (r_assign hl rfl) ?_)
      clear hl a; intro a hl
      refine w_nil ?_
      have hl2 := hl.add (t := 4) (hl.nil) rfl; clear hl; have hl := hl2; clear hl2
      refine then_normal ?_
      refine wp_ret ?_
      refine then_ret ?_
      refine f_ret1 (F' := []) hl hh rfl rfl (by repeat (first | exact keeps_nil | apply keeps_cons (by repeat (first | exact find_head | apply find_tail)) (by first  | rfl) | exact keeps_self | apply keeps_mv)) ?_
      exact ⟨congrArg _ (bnd_2 (by omega) hc1).symm, rfl⟩
    · intro hc1
      try simp only [decide_eq_true_eq, decide_eq_false_iff_not, Bool.not_eq_true', Bool.not_eq_false', Bool.not_eq_true, Bool.not_eq_false, Bool.and_eq_true, Bool.or_eq_true, Bool.and_eq_false_iff, Bool.or_eq_false_iff, Bool.not_not, ne_eq, Int.not_lt, Int.not_le, Decidable.not_not, beq_iff_eq, bne_iff_ne] at hc1
      refine wp_skip ?_
      refine then_normal ?_
      refine c_seq ?_
      refine c_region ?_
      refine wl (wl_val hl rfl trivial (r_move hl rfl) ?_)
      clear hl a; intro a hl
      refine wl (wl_val hl rfl trivial (r_assign hl rfl) ?_)
      clear hl a; intro a hl
      refine w_nil ?_
      have hl2 := hl.add (t := 4) (hl.nil) rfl; clear hl; have hl := hl2; clear hl2
      refine then_normal ?_
      refine wp_ret ?_
      refine f_ret1 (F' := []) hl hh rfl rfl (by repeat (first | exact keeps_nil | apply keeps_cons (by repeat (first | exact find_head | apply find_tail)) (by first  | rfl) | exact keeps_self | apply keeps_mv)) ?_
      exact ⟨congrArg _ (bnd_3 (by omega) (by omega)).symm, rfl⟩

set_option maxHeartbeats 16000000 in
theorem ack_n (mp : Nat) (s : CS) (st : Int) (sk : Bool) (bp : Nat) (hs : Mk s) (hk : sk = false) (hcr : s.credit ≤ 1073741824) (hdp : s.dups + 1 ≤ 1152921504606846976) (ack : Int) (hak : -4611686018427387904 ≤ ack ∧ ack ≤ 4611686018427387904) (dup lu : Bool) (sv : Value) : Sp Tryz.prog 21 #[.pointer (some ⟨mp, 0, none⟩), .int .i64 ack, .bool dup, sv] [(mp, C (encM (s) st sk bp) 69)] (fun v F' => v = .tuple #[] ∧ F' = [(mp, C (encM (ackM s sk ack dup lu) st sk bp) 69)]) := by
  refine f_enter (args := [.pointer (some ⟨mp, 0, none⟩), .int .i64 ack, .bool dup, sv]) Tryz.func21 rfl Tryz.ntmps21 rfl ?_
  intro w0 w a hpre hl hh
  have o1 := hs.init; have o2 := hs.maxc; have o3 := hs.bn; have o4 := hs.bd; have o5 := hs.abc; have o6 := hs.dupt; have o7 := hs.mss; have o8 := hs.cwnd; have o9 := hs.ssth; have o10 := hs.credit; have o11 := hs.una; have o12 := hs.nxt; have o13 := hs.phase; have o14 := hs.recov; have o15 := hs.high; have o16 := hs.dups; have o17 := hs.fl
  have hdm := prod_bd (a := s.dupt) (b := s.mss) (A := 16) (B := 65535) (by omega) (by omega)
  have hcv : 2 * s.mss ≤ (cutV (s.nxt - s.una) s.bn s.bd s.mss s.maxc) ∧ (cutV (s.nxt - s.una) s.bn s.bd s.mss s.maxc) ≤ s.maxc := by unfold cutV; omega
  simp only [slotsFrom, Nat.reduceAdd] at hl
  refine c_seq ?_
  refine c_seq ?_
  refine c_region ?_
  refine wl (wl_val hl rfl trivial (r_move hl rfl) ?_)
  clear hl a; intro a hl
  refine wl (wl_val hl rfl trivial (r_move hl rfl) ?_)
  clear hl a; intro a hl
  refine wl (wl_val hl rfl trivial (r_nilCheck hl rfl) ?_)
  clear hl a; intro a hl
  refine wl (wl_val hl rfl trivial (r_field hl rfl fld69_8) ?_)
  clear hl a; intro a hl
  refine wl (w_load hl hh rfl trivial one2 rfl (by repeat (first | exact find_head | apply find_tail)) (by first | rfl) ?_)
  clear hl a; intro a hl
  refine wl (wl_val hl rfl trivial (r_lss hl rfl rfl) ?_)
  clear hl a; intro a hl
  refine wl (wl_val hl rfl trivial (r_move hl rfl) ?_)
  clear hl a; intro a hl
  refine sl_split (t := 19) hl rfl ?_ ?_
  · intro hg1; clear hl; intro hl
    try simp only [decide_eq_true_eq, decide_eq_false_iff_not, Bool.not_eq_true', Bool.not_eq_false', Bool.not_eq_true, Bool.not_eq_false, Bool.and_eq_true, Bool.or_eq_true, Bool.and_eq_false_iff, Bool.or_eq_false_iff, Bool.not_not, ne_eq, Int.not_lt, Int.not_le, Decidable.not_not, beq_iff_eq, bne_iff_ne] at hg1
    refine wl (wl_skip hl rfl ⟨_, _, rfl, rfl, rfl⟩ ?_)
    clear hl a; intro a hl
    refine wl (wl_skip hl rfl ⟨_, _, rfl, rfl, rfl⟩ ?_)
    clear hl a; intro a hl
    refine wl (wl_skip hl rfl ⟨_, _, rfl, rfl, rfl⟩ ?_)
    clear hl a; intro a hl
    refine wl (wl_skip hl rfl ⟨_, _, rfl, rfl, rfl⟩ ?_)
    clear hl a; intro a hl
    refine wl (wl_skip hl rfl ⟨_, _, rfl, rfl, rfl⟩ ?_)
    clear hl a; intro a hl
    refine wl (wl_skip hl rfl ⟨_, _, rfl, rfl, rfl⟩ ?_)
    clear hl a; intro a hl
    refine wl (wl_val hl rfl trivial (r_pickT hl rfl rfl) ?_)
    clear hl a; intro a hl
    refine w_nil ?_
    have hl2 := hl.add (t := 0) (hl.add (t := 1) (hl.add (t := 2) (hl.add (t := 3) (hl.add (t := 26) (hl.nil) rfl) rfl) rfl) rfl) rfl; clear hl; have hl := hl2; clear hl2
    refine then_normal ?_
    refine c_condT hl rfl ?_
    refine wp_ret ?_
    refine then_ret ?_
    refine f_ret0 (F' := [(mp, C (encM (ackM s sk ack dup lu) st sk bp) 69)]) hl hh rfl (by repeat (first | exact keeps_nil | apply keeps_cons (by repeat (first | exact find_head | apply find_tail)) (by first  | (exact blk_eqM (congrArg (fun z => encM z st sk bp) (ack_out (by omega)).symm)) | rfl) | exact keeps_self | apply keeps_mv)) ?_
    exact ⟨rfl, rfl⟩
  · intro hg1; clear hl; intro hl
    try simp only [decide_eq_true_eq, decide_eq_false_iff_not, Bool.not_eq_true', Bool.not_eq_false', Bool.not_eq_true, Bool.not_eq_false, Bool.and_eq_true, Bool.or_eq_true, Bool.and_eq_false_iff, Bool.or_eq_false_iff, Bool.not_not, ne_eq, Int.not_lt, Int.not_le, Decidable.not_not, beq_iff_eq, bne_iff_ne] at hg1
    refine wl (wl_val hl rfl ⟨_, _, rfl, rfl, rfl⟩ (r_move hl rfl) ?_)
    clear hl a; intro a hl
    refine wl (wl_val hl rfl ⟨_, _, rfl, rfl, rfl⟩ (r_move hl rfl) ?_)
    clear hl a; intro a hl
    refine wl (wl_val hl rfl ⟨_, _, rfl, rfl, rfl⟩ (r_nilCheck hl rfl) ?_)
    clear hl a; intro a hl
    refine wl (wl_val hl rfl ⟨_, _, rfl, rfl, rfl⟩ (r_field hl rfl fld69_9) ?_)
    clear hl a; intro a hl
    refine wl (w_load hl hh rfl ⟨_, _, rfl, rfl, rfl⟩ one2 rfl (by repeat (first | exact find_head | apply find_tail)) (by first | rfl) ?_)
    clear hl a; intro a hl
    refine wl (wl_val hl rfl ⟨_, _, rfl, rfl, rfl⟩ (r_gtr hl rfl rfl) ?_)
    clear hl a; intro a hl
    refine wl (wl_val hl rfl trivial (r_pickF hl rfl rfl) ?_)
    clear hl a; intro a hl
    refine w_nil ?_
    have hl2 := hl.add (t := 0) (hl.add (t := 1) (hl.add (t := 2) (hl.add (t := 3) (hl.add (t := 26) (hl.nil) rfl) rfl) rfl) rfl) rfl; clear hl; have hl := hl2; clear hl2
    refine then_normal ?_
    refine c_cond hl rfl ?_ ?_
    · intro hc0
      try simp only [decide_eq_true_eq, decide_eq_false_iff_not, Bool.not_eq_true', Bool.not_eq_false', Bool.not_eq_true, Bool.not_eq_false, Bool.and_eq_true, Bool.or_eq_true, Bool.and_eq_false_iff, Bool.or_eq_false_iff, Bool.not_not, ne_eq, Int.not_lt, Int.not_le, Decidable.not_not, beq_iff_eq, bne_iff_ne] at hc0
      refine wp_ret ?_
      refine then_ret ?_
      refine f_ret0 (F' := [(mp, C (encM (ackM s sk ack dup lu) st sk bp) 69)]) hl hh rfl (by repeat (first | exact keeps_nil | apply keeps_cons (by repeat (first | exact find_head | apply find_tail)) (by first  | (exact blk_eqM (congrArg (fun z => encM z st sk bp) (ack_out (by omega)).symm)) | rfl) | exact keeps_self | apply keeps_mv)) ?_
      exact ⟨rfl, rfl⟩
    · intro hc0
      try simp only [decide_eq_true_eq, decide_eq_false_iff_not, Bool.not_eq_true', Bool.not_eq_false', Bool.not_eq_true, Bool.not_eq_false, Bool.and_eq_true, Bool.or_eq_true, Bool.and_eq_false_iff, Bool.or_eq_false_iff, Bool.not_not, ne_eq, Int.not_lt, Int.not_le, Decidable.not_not, beq_iff_eq, bne_iff_ne] at hc0
      refine wp_skip ?_
      refine then_normal ?_
      refine c_seq ?_
      refine c_seq ?_
      refine c_region ?_
      refine wl (wl_val hl rfl trivial (r_move hl rfl) ?_)
      clear hl a; intro a hl
      refine wl (wl_val hl rfl trivial (r_nilCheck hl rfl) ?_)
      clear hl a; intro a hl
      refine wl (wl_val hl rfl trivial (r_field hl rfl fld69_3) ?_)
      clear hl a; intro a hl
      refine wl (w_load hl hh rfl trivial one4 rfl (by repeat (first | exact find_head | apply find_tail)) (by first | rfl) ?_)
      clear hl a; intro a hl
      refine w_nil ?_
      have hl2 := hl.add (t := 0) (hl.add (t := 1) (hl.add (t := 2) (hl.add (t := 3) (hl.add (t := 30) (hl.nil) rfl) rfl) rfl) rfl) rfl; clear hl; have hl := hl2; clear hl2
      refine then_normal ?_
      refine c_cond hl rfl ?_ ?_
      · intro hc1
        try simp only [decide_eq_true_eq, decide_eq_false_iff_not, Bool.not_eq_true', Bool.not_eq_false', Bool.not_eq_true, Bool.not_eq_false, Bool.and_eq_true, Bool.or_eq_true, Bool.and_eq_false_iff, Bool.or_eq_false_iff, Bool.not_not, ne_eq, Int.not_lt, Int.not_le, Decidable.not_not, beq_iff_eq, bne_iff_ne] at hc1
        exfalso; first | contradiction | omega | (simp_all; done)
      · intro hc1
        try simp only [decide_eq_true_eq, decide_eq_false_iff_not, Bool.not_eq_true', Bool.not_eq_false', Bool.not_eq_true, Bool.not_eq_false, Bool.and_eq_true, Bool.or_eq_true, Bool.and_eq_false_iff, Bool.or_eq_false_iff, Bool.not_not, ne_eq, Int.not_lt, Int.not_le, Decidable.not_not, beq_iff_eq, bne_iff_ne] at hc1
        refine wp_skip ?_
        refine then_normal ?_
        refine c_seq ?_
        refine c_seq ?_
        refine c_region ?_
        refine wl (wl_val hl rfl trivial (r_move hl rfl) ?_)
        clear hl a; intro a hl
        refine wl (wl_val hl rfl trivial (r_move hl rfl) ?_)
        clear hl a; intro a hl
        refine wl (wl_val hl rfl trivial (r_nilCheck hl rfl) ?_)
        clear hl a; intro a hl
        refine wl (wl_val hl rfl trivial (r_field hl rfl fld69_8) ?_)
        clear hl a; intro a hl
        refine wl (w_load hl hh rfl trivial one2 rfl (by repeat (first | exact find_head | apply find_tail)) (by first | rfl) ?_)
        clear hl a; intro a hl
        refine wl (wl_val hl rfl trivial (r_eql hl rfl rfl) ?_)
        clear hl a; intro a hl
        refine w_nil ?_
        have hl2 := hl.add (t := 0) (hl.add (t := 1) (hl.add (t := 2) (hl.add (t := 61) (hl.nil) rfl) rfl) rfl) rfl; clear hl; have hl := hl2; clear hl2
        refine then_normal ?_
        refine c_cond hl rfl ?_ ?_
        · intro hc3
          try simp only [decide_eq_true_eq, decide_eq_false_iff_not, Bool.not_eq_true', Bool.not_eq_false', Bool.not_eq_true, Bool.not_eq_false, Bool.and_eq_true, Bool.or_eq_true, Bool.and_eq_false_iff, Bool.or_eq_false_iff, Bool.not_not, ne_eq, Int.not_lt, Int.not_le, Decidable.not_not, beq_iff_eq, bne_iff_ne] at hc3
          refine c_seq ?_
          refine c_seq ?_
          refine c_draw [(mp, C (encM (s) st sk bp) 69)] [11, 12] mixed hh ?_
          clear hh w; intro w hh
          have hM : Mem [(mp, C (encM (s) st sk bp) 69)] w := (by (repeat (first | exact Mem.nil | refine Mem.cons hh.mem (by (repeat (first | exact find_head | apply find_tail)); done) ?_ | refine Mem.consR hh (by assumption) (by simp) ?_ | fail)); done)
          refine d_take (i := 0) hl rfl (by kernel_rfl) (by kernel_rfl) (by kernel_rfl) (by kernel_rfl) (by kernel_rfl) rfl trivial (fun _ _ _ h => h) hM (fun w hC => r_move hl rfl) rfl ?_
          clear hl a; intro a hl
          refine d_take (i := 1) hl rfl (by kernel_rfl) (by kernel_rfl) (by kernel_rfl) (by kernel_rfl) (by kernel_rfl) rfl trivial (fun _ _ _ h => h) hM (fun w hC => r_not hl rfl) rfl ?_
          clear hl a; intro a hl
          refine d_take (i := 2) hl rfl (by kernel_rfl) (by kernel_rfl) (by kernel_rfl) (by kernel_rfl) (by kernel_rfl) rfl trivial (fun _ _ _ h => h) hM (fun w hC => r_move hl rfl) rfl ?_
          clear hl a; intro a hl
          refine sl_split (t := 64) hl rfl ?_ ?_
          · intro hg2; clear hl; intro hl
            try simp only [decide_eq_true_eq, decide_eq_false_iff_not, Bool.not_eq_true', Bool.not_eq_false', Bool.not_eq_true, Bool.not_eq_false, Bool.and_eq_true, Bool.or_eq_true, Bool.and_eq_false_iff, Bool.or_eq_false_iff, Bool.not_not, ne_eq, Int.not_lt, Int.not_le, Decidable.not_not, beq_iff_eq, bne_iff_ne] at hg2
            refine d_skip (i := 3) hl rfl (by kernel_rfl) (by kernel_rfl) (by kernel_rfl) (by kernel_rfl) (by kernel_rfl) rfl ⟨_, _, rfl, rfl, rfl⟩ (fun _ _ _ h => h) hM ?_
            clear hl a; intro a hl
            refine d_skip (i := 4) hl rfl (by kernel_rfl) (by kernel_rfl) (by kernel_rfl) (by kernel_rfl) (by kernel_rfl) rfl ⟨_, _, rfl, rfl, rfl⟩ (fun _ _ _ h => h) hM ?_
            clear hl a; intro a hl
            refine d_skip (i := 5) hl rfl (by kernel_rfl) (by kernel_rfl) (by kernel_rfl) (by kernel_rfl) (by kernel_rfl) rfl ⟨_, _, rfl, rfl, rfl⟩ (fun _ _ _ h => h) hM ?_
            clear hl a; intro a hl
            refine d_skip (i := 6) hl rfl (by kernel_rfl) (by kernel_rfl) (by kernel_rfl) (by kernel_rfl) (by kernel_rfl) rfl ⟨_, _, rfl, rfl, rfl⟩ (fun _ _ _ h => h) hM ?_
            clear hl a; intro a hl
            refine d_skip (i := 7) hl rfl (by kernel_rfl) (by kernel_rfl) (by kernel_rfl) (by kernel_rfl) (by kernel_rfl) rfl ⟨_, _, rfl, rfl, rfl⟩ (fun _ _ _ h => h) hM ?_
            clear hl a; intro a hl
            refine d_skip (i := 8) hl rfl (by kernel_rfl) (by kernel_rfl) (by kernel_rfl) (by kernel_rfl) (by kernel_rfl) rfl ⟨_, _, rfl, rfl, rfl⟩ (fun _ _ _ h => h) hM ?_
            clear hl a; intro a hl
            refine d_skip (i := 9) hl rfl (by kernel_rfl) (by kernel_rfl) (by kernel_rfl) (by kernel_rfl) (by kernel_rfl) rfl ⟨_, _, rfl, rfl, rfl⟩ (fun _ _ _ h => h) hM ?_
            clear hl a; intro a hl
            refine d_skip (i := 10) hl rfl (by kernel_rfl) (by kernel_rfl) (by kernel_rfl) (by kernel_rfl) (by kernel_rfl) rfl ⟨_, _, rfl, rfl, rfl⟩ (fun _ _ _ h => h) hM ?_
            clear hl a; intro a hl
            refine d_skip (i := 11) hl rfl (by kernel_rfl) (by kernel_rfl) (by kernel_rfl) (by kernel_rfl) (by kernel_rfl) rfl ⟨_, _, rfl, rfl, rfl⟩ (fun _ _ _ h => h) hM ?_
            clear hl a; intro a hl
            refine d_takeL (i := 12) hl rfl (by kernel_rfl) (by kernel_rfl) (by kernel_rfl) (by kernel_rfl) (by kernel_rfl) rfl trivial (fun _ _ _ h => h) (fun w => r_pickT hl rfl rfl) rfl ?_
            clear hl a; intro a hl
            refine d_done (by kernel_rfl) ?_
            try clear hM
            have hl2 := hl.add (t := 0) (hl.add (t := 74) (hl.nil) rfl) rfl; clear hl; have hl := hl2; clear hl2
            refine then_normal ?_
            refine c_condT hl rfl ?_
            refine wp_ret ?_
            refine then_ret ?_
            refine then_ret ?_
            refine f_ret0 (F' := [(mp, C (encM (ackM s sk ack dup lu) st sk bp) 69)]) hl hh rfl (by repeat (first | exact keeps_nil | apply keeps_cons (by repeat (first | exact find_head | apply find_tail)) (by first  | (exact blk_eqM (congrArg (fun z => encM z st sk bp) (ack_no (show ¬ (ack < s.una ∨ s.nxt < ack) by omega) (by omega) (by first | exact .inl (by assumption) | exact .inr (by omega))).symm)) | rfl) | exact keeps_self | apply keeps_mv)) ?_
            exact ⟨rfl, rfl⟩
          · intro hg2; clear hl; intro hl
            try simp only [decide_eq_true_eq, decide_eq_false_iff_not, Bool.not_eq_true', Bool.not_eq_false', Bool.not_eq_true, Bool.not_eq_false, Bool.and_eq_true, Bool.or_eq_true, Bool.and_eq_false_iff, Bool.or_eq_false_iff, Bool.not_not, ne_eq, Int.not_lt, Int.not_le, Decidable.not_not, beq_iff_eq, bne_iff_ne] at hg2
            refine d_take (i := 3) hl rfl (by kernel_rfl) (by kernel_rfl) (by kernel_rfl) (by kernel_rfl) (by kernel_rfl) rfl ⟨_, _, rfl, rfl, rfl⟩ (fun _ _ _ h => h) hM (fun w hC => r_move hl rfl) rfl ?_
            clear hl a; intro a hl
            refine d_take (i := 4) hl rfl (by kernel_rfl) (by kernel_rfl) (by kernel_rfl) (by kernel_rfl) (by kernel_rfl) rfl ⟨_, _, rfl, rfl, rfl⟩ (fun _ _ _ h => h) hM (fun w hC => r_nilCheck hl rfl) rfl ?_
            clear hl a; intro a hl
            refine d_take (i := 5) hl rfl (by kernel_rfl) (by kernel_rfl) (by kernel_rfl) (by kernel_rfl) (by kernel_rfl) rfl ⟨_, _, rfl, rfl, rfl⟩ (fun _ _ _ h => h) hM (fun w hC => r_field hl rfl fld69_9) rfl ?_
            clear hl a; intro a hl
            refine d_take (i := 6) hl rfl (by kernel_rfl) (by kernel_rfl) (by kernel_rfl) (by kernel_rfl) (by kernel_rfl) rfl ⟨_, _, rfl, rfl, rfl⟩ (fun _ _ _ h => h) hM (fun w hC => r_loadC hl rfl one2 hC (by repeat (first | exact find_head | apply find_tail)) (by first | rfl)) rfl ?_
            clear hl a; intro a hl
            refine d_take (i := 7) hl rfl (by kernel_rfl) (by kernel_rfl) (by kernel_rfl) (by kernel_rfl) (by kernel_rfl) rfl ⟨_, _, rfl, rfl, rfl⟩ (fun _ _ _ h => h) hM (fun w hC => r_move hl rfl) rfl ?_
            clear hl a; intro a hl
            refine d_take (i := 8) hl rfl (by kernel_rfl) (by kernel_rfl) (by kernel_rfl) (by kernel_rfl) (by kernel_rfl) rfl ⟨_, _, rfl, rfl, rfl⟩ (fun _ _ _ h => h) hM (fun w hC => r_nilCheck hl rfl) rfl ?_
            clear hl a; intro a hl
            refine d_take (i := 9) hl rfl (by kernel_rfl) (by kernel_rfl) (by kernel_rfl) (by kernel_rfl) (by kernel_rfl) rfl ⟨_, _, rfl, rfl, rfl⟩ (fun _ _ _ h => h) hM (fun w hC => r_field hl rfl fld69_8) rfl ?_
            clear hl a; intro a hl
            refine d_take (i := 10) hl rfl (by kernel_rfl) (by kernel_rfl) (by kernel_rfl) (by kernel_rfl) (by kernel_rfl) rfl ⟨_, _, rfl, rfl, rfl⟩ (fun _ _ _ h => h) hM (fun w hC => r_loadC hl rfl one2 hC (by repeat (first | exact find_head | apply find_tail)) (by first | rfl)) rfl ?_
            clear hl a; intro a hl
            refine d_takeL (i := 11) hl rfl (by kernel_rfl) (by kernel_rfl) (by kernel_rfl) (by kernel_rfl) (by kernel_rfl) rfl ⟨_, _, rfl, rfl, rfl⟩ (fun _ _ _ h => h) (fun w => r_eql hl rfl rfl) rfl ?_
            clear hl a; intro a hl
            refine d_takeL (i := 12) hl rfl (by kernel_rfl) (by kernel_rfl) (by kernel_rfl) (by kernel_rfl) (by kernel_rfl) rfl trivial (fun _ _ _ h => h) (fun w => r_pickF hl rfl rfl) rfl ?_
            clear hl a; intro a hl
            refine d_done (by kernel_rfl) ?_
            try clear hM
            have hl2 := hl.add (t := 0) (hl.add (t := 74) (hl.nil) rfl) rfl; clear hl; have hl := hl2; clear hl2
            refine then_normal ?_
            refine c_cond hl rfl ?_ ?_
            · intro hc4
              try simp only [decide_eq_true_eq, decide_eq_false_iff_not, Bool.not_eq_true', Bool.not_eq_false', Bool.not_eq_true, Bool.not_eq_false, Bool.and_eq_true, Bool.or_eq_true, Bool.and_eq_false_iff, Bool.or_eq_false_iff, Bool.not_not, ne_eq, Int.not_lt, Int.not_le, Decidable.not_not, beq_iff_eq, bne_iff_ne] at hc4
              refine wp_ret ?_
              refine then_ret ?_
              refine then_ret ?_
              refine f_ret0 (F' := [(mp, C (encM (ackM s sk ack dup lu) st sk bp) 69)]) hl hh rfl (by repeat (first | exact keeps_nil | apply keeps_cons (by repeat (first | exact find_head | apply find_tail)) (by first  | (exact blk_eqM (congrArg (fun z => encM z st sk bp) (ack_no (show ¬ (ack < s.una ∨ s.nxt < ack) by omega) (by omega) (by first | exact .inl (by assumption) | exact .inr (by omega))).symm)) | rfl) | exact keeps_self | apply keeps_mv)) ?_
              exact ⟨rfl, rfl⟩
            · intro hc4
              try simp only [decide_eq_true_eq, decide_eq_false_iff_not, Bool.not_eq_true', Bool.not_eq_false', Bool.not_eq_true, Bool.not_eq_false, Bool.and_eq_true, Bool.or_eq_true, Bool.and_eq_false_iff, Bool.or_eq_false_iff, Bool.not_not, ne_eq, Int.not_lt, Int.not_le, Decidable.not_not, beq_iff_eq, bne_iff_ne] at hc4
              refine wp_skip ?_
              refine then_normal ?_
              refine c_seq ?_
              refine c_region ?_
              refine wl (wl_val hl rfl trivial (r_move hl rfl) ?_)
              clear hl a; intro a hl
              refine wl (wl_val hl rfl trivial (r_nilCheck hl rfl) ?_)
              clear hl a; intro a hl
              refine wl (wl_val hl rfl trivial (r_field hl rfl fld69_13) ?_)
              clear hl a; intro a hl
              refine wl (w_load hl hh rfl trivial one2 rfl (by repeat (first | exact find_head | apply find_tail)) (by first | rfl) ?_)
              clear hl a; intro a hl
              first | refine wl (wl_val hl rfl trivial (r_add hl rfl rfl (by simp only [Fits]; omega)) ?_) | refine wl (wl_val hl rfl trivial (r_addW hl rfl rfl) ?_)
              clear hl a; intro a hl
              refine wl (wl_val hl rfl trivial (r_nilCheck hl rfl) ?_)
              clear hl a; intro a hl
              refine wl (wl_val hl rfl trivial (r_field hl rfl fld69_13) ?_)
              clear hl a; intro a hl
              refine wl (w_store hl hh trivial one2 rfl rfl (by repeat (first | exact find_head | apply find_tail)) (by first | (simp; done) | (simp; omega)) (by first | rfl | assumption | (apply Row.one; assumption)) (by first | (simp only [encM, setL, List.getElem?_cons_zero, List.getElem?_cons_succ, Value.cells, List.take_zero, List.take_succ_cons, List.take_nil, List.drop_zero, List.drop_succ_cons, List.drop_nil, List.length_cons, List.length_nil, List.cons_append, List.nil_append, List.append_nil, Nat.zero_add, Nat.add_zero, Nat.reduceAdd, Nat.reduceBEq, Nat.reduceEqDiff, Nat.ble, BEq.rfl, Bool.and_true, Bool.and_self, cond_true, beq_self_eq_true]; rfl) | (simp only [setL, List.getElem?_cons_zero, List.getElem?_cons_succ, Value.cells, List.take_zero, List.take_succ_cons, List.take_nil, List.drop_zero, List.drop_succ_cons, List.drop_nil, List.length_cons, List.length_nil, List.cons_append, List.nil_append, List.append_nil, Nat.zero_add, Nat.add_zero, Nat.reduceAdd, Nat.reduceBEq, Nat.reduceEqDiff, Nat.ble, BEq.rfl, Bool.and_true, Bool.and_self, cond_true, beq_self_eq_true]; rfl)) ?_)
              clear hh w; intro w hh
              refine w_nil ?_
              have hl2 := hl.add (t := 0) (hl.nil) rfl; clear hl; have hl := hl2; clear hl2
              refine then_normal ?_
              refine c_seq ?_
              refine c_draw [(mp, C (encM ({ s with dups := s.dups + 1 }) st sk bp) 69)] [10, 11] mixed hh ?_
              clear hh w; intro w hh
              have hM : Mem [(mp, C (encM ({ s with dups := s.dups + 1 }) st sk bp) 69)] w := (by (repeat (first | exact Mem.nil | refine Mem.cons hh.mem (by (repeat (first | exact find_head | apply find_tail)); done) ?_ | refine Mem.consR hh (by assumption) (by simp) ?_ | fail)); done)
              refine d_take (i := 0) hl rfl (by kernel_rfl) (by kernel_rfl) (by kernel_rfl) (by kernel_rfl) (by kernel_rfl) rfl trivial (fun _ _ _ h => h) hM (fun w hC => r_move hl rfl) rfl ?_
              clear hl a; intro a hl
              refine d_take (i := 1) hl rfl (by kernel_rfl) (by kernel_rfl) (by kernel_rfl) (by kernel_rfl) (by kernel_rfl) rfl trivial (fun _ _ _ h => h) hM (fun w hC => r_nilCheck hl rfl) rfl ?_
              clear hl a; intro a hl
              refine d_take (i := 2) hl rfl (by kernel_rfl) (by kernel_rfl) (by kernel_rfl) (by kernel_rfl) (by kernel_rfl) rfl trivial (fun _ _ _ h => h) hM (fun w hC => r_field hl rfl fld69_13) rfl ?_
              clear hl a; intro a hl
              refine d_take (i := 3) hl rfl (by kernel_rfl) (by kernel_rfl) (by kernel_rfl) (by kernel_rfl) (by kernel_rfl) rfl trivial (fun _ _ _ h => h) hM (fun w hC => r_loadC hl rfl one2 hC (by repeat (first | exact find_head | apply find_tail)) (by first | rfl)) rfl ?_
              clear hl a; intro a hl
              refine d_take (i := 4) hl rfl (by kernel_rfl) (by kernel_rfl) (by kernel_rfl) (by kernel_rfl) (by kernel_rfl) rfl trivial (fun _ _ _ h => h) hM (fun w hC => r_move hl rfl) rfl ?_
              clear hl a; intro a hl
              refine d_take (i := 5) hl rfl (by kernel_rfl) (by kernel_rfl) (by kernel_rfl) (by kernel_rfl) (by kernel_rfl) rfl trivial (fun _ _ _ h => h) hM (fun w hC => r_nilCheck hl rfl) rfl ?_
              clear hl a; intro a hl
              refine d_take (i := 6) hl rfl (by kernel_rfl) (by kernel_rfl) (by kernel_rfl) (by kernel_rfl) (by kernel_rfl) rfl trivial (fun _ _ _ h => h) hM (fun w hC => r_field hl rfl fld69_0) rfl ?_
              clear hl a; intro a hl
              refine d_take (i := 7) hl rfl (by kernel_rfl) (by kernel_rfl) (by kernel_rfl) (by kernel_rfl) (by kernel_rfl) rfl trivial (fun _ _ _ h => h) hM (fun w hC => r_field hl rfl fld31_5) rfl ?_
              clear hl a; intro a hl
              refine d_take (i := 8) hl rfl (by kernel_rfl) (by kernel_rfl) (by kernel_rfl) (by kernel_rfl) (by kernel_rfl) rfl trivial (fun _ _ _ h => h) hM (fun w hC => r_loadC hl rfl one29 hC (by repeat (first | exact find_head | apply find_tail)) (by first | rfl)) rfl ?_
              clear hl a; intro a hl
              first | refine d_take (i := 9) hl rfl (by kernel_rfl) (by kernel_rfl) (by kernel_rfl) (by kernel_rfl) (by kernel_rfl) rfl trivial (fun _ _ _ h => h) hM (fun w hC => r_conv hl rfl Tryz.underlying29 Tryz.underlying2 (by simp only [Fits]; omega)) rfl ?_ | refine d_take (i := 9) hl rfl (by kernel_rfl) (by kernel_rfl) (by kernel_rfl) (by kernel_rfl) (by kernel_rfl) rfl trivial (fun _ _ _ h => h) hM (fun w hC => r_convW hl rfl Tryz.underlying29 Tryz.underlying2) rfl ?_
              clear hl a; intro a hl
              refine d_takeL (i := 10) hl rfl (by kernel_rfl) (by kernel_rfl) (by kernel_rfl) (by kernel_rfl) (by kernel_rfl) rfl trivial (fun _ _ _ h => h) (fun w => r_geq hl rfl rfl) rfl ?_
              clear hl a; intro a hl
              refine d_takeL (i := 11) hl rfl (by kernel_rfl) (by kernel_rfl) (by kernel_rfl) (by kernel_rfl) (by kernel_rfl) rfl trivial (fun _ _ _ h => h) (fun w => r_assign hl rfl) rfl ?_
              clear hl a; intro a hl
              refine d_done (by kernel_rfl) ?_
              try clear hM
              have hl2 := hl.add (t := 0) (hl.add (t := 11) (hl.nil) rfl) rfl; clear hl; have hl := hl2; clear hl2
              refine then_normal ?_
              refine c_seq ?_
              refine wp_block ?_
              refine c_seq ?_
              refine c_region ?_
              refine wl (wl_val hl rfl trivial (r_move hl rfl) ?_)
              clear hl a; intro a hl
              refine wl (wl_val hl rfl trivial (r_nilCheck hl rfl) ?_)
              clear hl a; intro a hl
              refine wl (wl_val hl rfl trivial (r_field hl rfl fld69_10) ?_)
              clear hl a; intro a hl
              refine wl (w_load hl hh rfl trivial one59 rfl (by repeat (first | exact find_head | apply find_tail)) (by first | rfl) ?_)
              clear hl a; intro a hl
              refine wl (wl_val hl rfl trivial (r_eql hl rfl rfl) ?_)
              clear hl a; intro a hl
              refine wl (wl_val hl rfl trivial (r_move hl rfl) ?_)
              clear hl a; intro a hl
              refine sl_split (t := 99) hl rfl ?_ ?_
              · intro hg3; clear hl; intro hl
                try simp only [decide_eq_true_eq, decide_eq_false_iff_not, Bool.not_eq_true', Bool.not_eq_false', Bool.not_eq_true, Bool.not_eq_false, Bool.and_eq_true, Bool.or_eq_true, Bool.and_eq_false_iff, Bool.or_eq_false_iff, Bool.not_not, ne_eq, Int.not_lt, Int.not_le, Decidable.not_not, beq_iff_eq, bne_iff_ne] at hg3
                refine wl (wl_val hl rfl ⟨_, _, rfl, rfl, rfl⟩ (r_move hl rfl) ?_)
                clear hl a; intro a hl
                refine wl (wl_val hl rfl ⟨_, _, rfl, rfl, rfl⟩ (r_nilCheck hl rfl) ?_)
                clear hl a; intro a hl
                refine wl (wl_val hl rfl ⟨_, _, rfl, rfl, rfl⟩ (r_field hl rfl fld69_3) ?_)
                clear hl a; intro a hl
                refine wl (w_load hl hh rfl ⟨_, _, rfl, rfl, rfl⟩ one4 rfl (by repeat (first | exact find_head | apply find_tail)) (by first | rfl) ?_)
                clear hl a; intro a hl
                refine wl (wl_val hl rfl ⟨_, _, rfl, rfl, rfl⟩ (r_not hl rfl) ?_)
                clear hl a; intro a hl
                refine wl (wl_val hl rfl trivial (r_pickT hl rfl rfl) ?_)
                clear hl a; intro a hl
                refine wl (wl_val hl rfl trivial (r_assign hl rfl) ?_)
                clear hl a; intro a hl
                refine w_nil ?_
                have hl2 := hl.add (t := 0) (hl.add (t := 11) (hl.add (t := 93) (hl.nil) rfl) rfl) rfl; clear hl; have hl := hl2; clear hl2
                refine then_normal ?_
                refine c_cond hl rfl ?_ ?_
                · intro hc5
                  try simp only [decide_eq_true_eq, decide_eq_false_iff_not, Bool.not_eq_true', Bool.not_eq_false', Bool.not_eq_true, Bool.not_eq_false, Bool.and_eq_true, Bool.or_eq_true, Bool.and_eq_false_iff, Bool.or_eq_false_iff, Bool.not_not, ne_eq, Int.not_lt, Int.not_le, Decidable.not_not, beq_iff_eq, bne_iff_ne] at hc5
                  refine c_draw [(mp, C (encM ({ s with dups := s.dups + 1 }) st sk bp) 69)] [12, 13, 14] mixed hh ?_
                  clear hh w; intro w hh
                  have hM : Mem [(mp, C (encM ({ s with dups := s.dups + 1 }) st sk bp) 69)] w := (by (repeat (first | exact Mem.nil | refine Mem.cons hh.mem (by (repeat (first | exact find_head | apply find_tail)); done) ?_ | refine Mem.consR hh (by assumption) (by simp) ?_ | fail)); done)
                  refine d_take (i := 0) hl rfl (by kernel_rfl) (by kernel_rfl) (by kernel_rfl) (by kernel_rfl) (by kernel_rfl) rfl trivial (fun _ _ _ h => h) hM (fun w hC => r_move hl rfl) rfl ?_
                  clear hl a; intro a hl
                  refine d_take (i := 1) hl rfl (by kernel_rfl) (by kernel_rfl) (by kernel_rfl) (by kernel_rfl) (by kernel_rfl) rfl trivial (fun _ _ _ h => h) hM (fun w hC => r_move hl rfl) rfl ?_
                  clear hl a; intro a hl
                  refine d_take (i := 2) hl rfl (by kernel_rfl) (by kernel_rfl) (by kernel_rfl) (by kernel_rfl) (by kernel_rfl) rfl trivial (fun _ _ _ h => h) hM (fun w hC => r_move hl rfl) rfl ?_
                  clear hl a; intro a hl
                  refine d_take (i := 3) hl rfl (by kernel_rfl) (by kernel_rfl) (by kernel_rfl) (by kernel_rfl) (by kernel_rfl) rfl trivial (fun _ _ _ h => h) hM (fun w hC => r_nilCheck hl rfl) rfl ?_
                  clear hl a; intro a hl
                  refine d_take (i := 4) hl rfl (by kernel_rfl) (by kernel_rfl) (by kernel_rfl) (by kernel_rfl) (by kernel_rfl) rfl trivial (fun _ _ _ h => h) hM (fun w hC => r_field hl rfl fld69_5) rfl ?_
                  clear hl a; intro a hl
                  refine d_take (i := 5) hl rfl (by kernel_rfl) (by kernel_rfl) (by kernel_rfl) (by kernel_rfl) (by kernel_rfl) rfl trivial (fun _ _ _ h => h) hM (fun w hC => r_loadC hl rfl one2 hC (by repeat (first | exact find_head | apply find_tail)) (by first | rfl)) rfl ?_
                  clear hl a; intro a hl
                  refine d_take (i := 6) hl rfl (by kernel_rfl) (by kernel_rfl) (by kernel_rfl) (by kernel_rfl) (by kernel_rfl) rfl trivial (fun _ _ _ h => h) hM (fun w hC => r_move hl rfl) rfl ?_
                  clear hl a; intro a hl
                  refine d_take (i := 7) hl rfl (by kernel_rfl) (by kernel_rfl) (by kernel_rfl) (by kernel_rfl) (by kernel_rfl) rfl trivial (fun _ _ _ h => h) hM (fun w hC => r_nilCheck hl rfl) rfl ?_
                  clear hl a; intro a hl
                  refine d_take (i := 8) hl rfl (by kernel_rfl) (by kernel_rfl) (by kernel_rfl) (by kernel_rfl) (by kernel_rfl) rfl trivial (fun _ _ _ h => h) hM (fun w hC => r_field hl rfl fld69_1) rfl ?_
                  clear hl a; intro a hl
                  refine d_take (i := 9) hl rfl (by kernel_rfl) (by kernel_rfl) (by kernel_rfl) (by kernel_rfl) (by kernel_rfl) rfl trivial (fun _ _ _ h => h) hM (fun w hC => r_loadC hl rfl one2 hC (by repeat (first | exact find_head | apply find_tail)) (by first | rfl)) rfl ?_
                  clear hl a; intro a hl
                  first | refine d_take (i := 10) hl rfl (by kernel_rfl) (by kernel_rfl) (by kernel_rfl) (by kernel_rfl) (by kernel_rfl) rfl trivial (fun _ _ _ h => h) hM (fun w hC => r_add hl rfl rfl (by simp only [Fits]; omega)) rfl ?_ | refine d_take (i := 10) hl rfl (by kernel_rfl) (by kernel_rfl) (by kernel_rfl) (by kernel_rfl) (by kernel_rfl) rfl trivial (fun _ _ _ h => h) hM (fun w hC => r_addW hl rfl rfl) rfl ?_
                  clear hl a; intro a hl
                  refine d_one (i := 11) (by kernel_rfl) rfl ?_
                  try clear hM
                  refine id (w_call hl hh rfl trivial rfl cal44 rfl (bounded_c mp ({ s with dups := s.dups + 1 }) st sk bp ⟨hs.init, hs.maxc, hs.bn, hs.bd, hs.abc, hs.dupt, hs.mss⟩ _) (by repeat (first | exact keeps_nil | apply keeps_cons (by repeat (first | exact find_head | apply find_tail)) (by first  | rfl) | exact keeps_self | apply keeps_mv)) (hh.mem _ _ (Find.mem (by repeat (first | exact find_head | apply find_tail)))) ?_)
                  clear hl hh a w; intro vc Fc a w hR hl hh
                  obtain ⟨rfl, rfl⟩ := hR
                  try simp only [List.cons_append, List.nil_append] at hh
                  have hM : Mem [(mp, C (encM ({ s with dups := s.dups + 1 }) st sk bp) 69)] w := (by (repeat (first | exact Mem.nil | refine Mem.cons hh.mem (by (repeat (first | exact find_head | apply find_tail)); done) ?_ | refine Mem.consR hh (by assumption) (by simp) ?_ | fail)); done)
                  refine d_step (fun _ => hM) ?_
                  refine d_takeL (i := 12) hl rfl (by kernel_rfl) (by kernel_rfl) (by kernel_rfl) (by kernel_rfl) (by kernel_rfl) rfl trivial (fun _ _ _ h => h) (fun w => r_nilCheck hl rfl) rfl ?_
                  clear hl a; intro a hl
                  refine d_takeL (i := 13) hl rfl (by kernel_rfl) (by kernel_rfl) (by kernel_rfl) (by kernel_rfl) (by kernel_rfl) rfl trivial (fun _ _ _ h => h) (fun w => r_field hl rfl fld69_5) rfl ?_
                  clear hl a; intro a hl
                  refine d_one (i := 14) (by kernel_rfl) rfl ?_
                  try clear hM
                  refine id (w_store hl hh trivial one2 rfl rfl (by repeat (first | exact find_head | apply find_tail)) (by first | (simp; done) | (simp; omega)) (by first | rfl | assumption | (apply Row.one; assumption)) (by first | (simp only [encM, setL, List.getElem?_cons_zero, List.getElem?_cons_succ, Value.cells, List.take_zero, List.take_succ_cons, List.take_nil, List.drop_zero, List.drop_succ_cons, List.drop_nil, List.length_cons, List.length_nil, List.cons_append, List.nil_append, List.append_nil, Nat.zero_add, Nat.add_zero, Nat.reduceAdd, Nat.reduceBEq, Nat.reduceEqDiff, Nat.ble, BEq.rfl, Bool.and_true, Bool.and_self, cond_true, beq_self_eq_true]; rfl) | (simp only [setL, List.getElem?_cons_zero, List.getElem?_cons_succ, Value.cells, List.take_zero, List.take_succ_cons, List.take_nil, List.drop_zero, List.drop_succ_cons, List.drop_nil, List.length_cons, List.length_nil, List.cons_append, List.nil_append, List.append_nil, Nat.zero_add, Nat.add_zero, Nat.reduceAdd, Nat.reduceBEq, Nat.reduceEqDiff, Nat.ble, BEq.rfl, Bool.and_true, Bool.and_self, cond_true, beq_self_eq_true]; rfl)) ?_)
                  clear hh w; intro w hh
                  refine d_step (fun h => absurd h (by decide)) ?_
                  refine d_done (by kernel_rfl) ?_
                  try clear hM
                  have hl2 := hl.nil; clear hl; have hl := hl2; clear hl2
                  refine blk_normal ?_
                  refine then_normal ?_
                  refine wp_ret ?_
                  refine then_ret ?_
                  refine f_ret0 (F' := [(mp, C (encM (ackM s sk ack dup lu) st sk bp) 69)]) hl hh rfl (by repeat (first | exact keeps_nil | apply keeps_cons (by repeat (first | exact find_head | apply find_tail)) (by first  | (exfalso; omega) | (exact absurd (hk.symm.trans (show sk = true by assumption)) (by decide)) | (exact blk_eqM (congrArg (fun z => encM z st sk bp) ((ack_dup (show ¬ (ack < s.una ∨ s.nxt < ack) by omega) (by omega) (by assumption) (by omega)).trans (dup_1 (by assumption) hk)).symm)) | (exact blk_eqM (congrArg (fun z => encM z st sk bp) ((ack_dup (show ¬ (ack < s.una ∨ s.nxt < ack) by omega) (by omega) (by assumption) (by omega)).trans (dup_2 (by omega) (by omega))).symm)) | (exact blk_eqM (congrArg (fun z => encM z st sk bp) ((ack_dup (show ¬ (ack < s.una ∨ s.nxt < ack) by omega) (by omega) (by assumption) (by omega)).trans (dup_3n hk (by assumption) (by omega) (by omega))).symm)) | (exact blk_eqM (congrArg (fun z => encM z st sk bp) ((ack_dup (show ¬ (ack < s.una ∨ s.nxt < ack) by omega) (by omega) (by assumption) (by omega)).trans (dup_4 (by assumption) (sig_no hk (by omega)))).symm)) | rfl) | exact keeps_self | apply keeps_mv)) ?_
                  exact ⟨rfl, rfl⟩
                · intro hc5
                  try simp only [decide_eq_true_eq, decide_eq_false_iff_not, Bool.not_eq_true', Bool.not_eq_false', Bool.not_eq_true, Bool.not_eq_false, Bool.and_eq_true, Bool.or_eq_true, Bool.and_eq_false_iff, Bool.or_eq_false_iff, Bool.not_not, ne_eq, Int.not_lt, Int.not_le, Decidable.not_not, beq_iff_eq, bne_iff_ne] at hc5
                  refine c_seq ?_
                  refine c_region ?_
                  refine wl (wl_val hl rfl trivial (r_move hl rfl) ?_)
                  clear hl a; intro a hl
                  refine wl (wl_val hl rfl trivial (r_nilCheck hl rfl) ?_)
                  clear hl a; intro a hl
                  refine wl (wl_val hl rfl trivial (r_field hl rfl fld69_10) ?_)
                  clear hl a; intro a hl
                  refine wl (w_load hl hh rfl trivial one59 rfl (by repeat (first | exact find_head | apply find_tail)) (by first | rfl) ?_)
                  clear hl a; intro a hl
                  refine wl (wl_val hl rfl trivial (r_neq hl rfl rfl) ?_)
                  clear hl a; intro a hl
                  refine wl (wl_val hl rfl trivial (r_assign hl rfl) ?_)
                  clear hl a; intro a hl
                  refine w_nil ?_
                  have hl2 := hl.add (t := 0) (hl.add (t := 11) (hl.add (t := 120) (hl.nil) rfl) rfl) rfl; clear hl; have hl := hl2; clear hl2
                  refine then_normal ?_
                  refine c_cond hl rfl ?_ ?_
                  · intro hc6
                    try simp only [decide_eq_true_eq, decide_eq_false_iff_not, Bool.not_eq_true', Bool.not_eq_false', Bool.not_eq_true, Bool.not_eq_false, Bool.and_eq_true, Bool.or_eq_true, Bool.and_eq_false_iff, Bool.or_eq_false_iff, Bool.not_not, ne_eq, Int.not_lt, Int.not_le, Decidable.not_not, beq_iff_eq, bne_iff_ne] at hc6
                    refine wp_skip ?_
                    refine blk_normal ?_
                    refine then_normal ?_
                    refine wp_ret ?_
                    refine then_ret ?_
                    refine f_ret0 (F' := [(mp, C (encM (ackM s sk ack dup lu) st sk bp) 69)]) hl hh rfl (by repeat (first | exact keeps_nil | apply keeps_cons (by repeat (first | exact find_head | apply find_tail)) (by first  | (exfalso; omega) | (exact absurd (hk.symm.trans (show sk = true by assumption)) (by decide)) | (exact blk_eqM (congrArg (fun z => encM z st sk bp) ((ack_dup (show ¬ (ack < s.una ∨ s.nxt < ack) by omega) (by omega) (by assumption) (by omega)).trans (dup_1 (by assumption) hk)).symm)) | (exact blk_eqM (congrArg (fun z => encM z st sk bp) ((ack_dup (show ¬ (ack < s.una ∨ s.nxt < ack) by omega) (by omega) (by assumption) (by omega)).trans (dup_2 (by omega) (by omega))).symm)) | (exact blk_eqM (congrArg (fun z => encM z st sk bp) ((ack_dup (show ¬ (ack < s.una ∨ s.nxt < ack) by omega) (by omega) (by assumption) (by omega)).trans (dup_3n hk (by assumption) (by omega) (by omega))).symm)) | (exact blk_eqM (congrArg (fun z => encM z st sk bp) ((ack_dup (show ¬ (ack < s.una ∨ s.nxt < ack) by omega) (by omega) (by assumption) (by omega)).trans (dup_4 (by assumption) (sig_no hk (by omega)))).symm)) | rfl) | exact keeps_self | apply keeps_mv)) ?_
                    exact ⟨rfl, rfl⟩
                  · intro hc6
                    try simp only [decide_eq_true_eq, decide_eq_false_iff_not, Bool.not_eq_true', Bool.not_eq_false', Bool.not_eq_true, Bool.not_eq_false, Bool.and_eq_true, Bool.or_eq_true, Bool.and_eq_false_iff, Bool.or_eq_false_iff, Bool.not_not, ne_eq, Int.not_lt, Int.not_le, Decidable.not_not, beq_iff_eq, bne_iff_ne] at hc6
                    refine c_seq ?_
                    refine c_seq ?_
                    refine c_draw [(mp, C (encM ({ s with dups := s.dups + 1 }) st sk bp) 69)] [17, 18, 19] mixed hh ?_
                    clear hh w; intro w hh
                    have hM : Mem [(mp, C (encM ({ s with dups := s.dups + 1 }) st sk bp) 69)] w := (by (repeat (first | exact Mem.nil | refine Mem.cons hh.mem (by (repeat (first | exact find_head | apply find_tail)); done) ?_ | refine Mem.consR hh (by assumption) (by simp) ?_ | fail)); done)
                    refine d_take (i := 0) hl rfl (by kernel_rfl) (by kernel_rfl) (by kernel_rfl) (by kernel_rfl) (by kernel_rfl) rfl trivial (fun _ _ _ h => h) hM (fun w hC => r_move hl rfl) rfl ?_
                    clear hl a; intro a hl
                    refine d_take (i := 1) hl rfl (by kernel_rfl) (by kernel_rfl) (by kernel_rfl) (by kernel_rfl) (by kernel_rfl) rfl trivial (fun _ _ _ h => h) hM (fun w hC => r_nilCheck hl rfl) rfl ?_
                    clear hl a; intro a hl
                    refine d_take (i := 2) hl rfl (by kernel_rfl) (by kernel_rfl) (by kernel_rfl) (by kernel_rfl) (by kernel_rfl) rfl trivial (fun _ _ _ h => h) hM (fun w hC => r_field hl rfl fld69_3) rfl ?_
                    clear hl a; intro a hl
                    refine d_take (i := 3) hl rfl (by kernel_rfl) (by kernel_rfl) (by kernel_rfl) (by kernel_rfl) (by kernel_rfl) rfl trivial (fun _ _ _ h => h) hM (fun w hC => r_loadC hl rfl one4 hC (by repeat (first | exact find_head | apply find_tail)) (by first | rfl)) rfl ?_
                    clear hl a; intro a hl
                    refine d_take (i := 4) hl rfl (by kernel_rfl) (by kernel_rfl) (by kernel_rfl) (by kernel_rfl) (by kernel_rfl) rfl trivial (fun _ _ _ h => h) hM (fun w hC => r_not hl rfl) rfl ?_
                    clear hl a; intro a hl
                    refine d_take (i := 5) hl rfl (by kernel_rfl) (by kernel_rfl) (by kernel_rfl) (by kernel_rfl) (by kernel_rfl) rfl trivial (fun _ _ _ h => h) hM (fun w hC => r_move hl rfl) rfl ?_
                    clear hl a; intro a hl
                    refine sl_split (t := 132) hl rfl ?_ ?_
                    · intro hg4; clear hl; intro hl
                      try simp only [decide_eq_true_eq, decide_eq_false_iff_not, Bool.not_eq_true', Bool.not_eq_false', Bool.not_eq_true, Bool.not_eq_false, Bool.and_eq_true, Bool.or_eq_true, Bool.and_eq_false_iff, Bool.or_eq_false_iff, Bool.not_not, ne_eq, Int.not_lt, Int.not_le, Decidable.not_not, beq_iff_eq, bne_iff_ne] at hg4
                      refine d_take (i := 6) hl rfl (by kernel_rfl) (by kernel_rfl) (by kernel_rfl) (by kernel_rfl) (by kernel_rfl) rfl ⟨_, _, rfl, rfl, rfl⟩ (fun _ _ _ h => h) hM (fun w hC => r_move hl rfl) rfl ?_
                      clear hl a; intro a hl
                      refine d_take (i := 7) hl rfl (by kernel_rfl) (by kernel_rfl) (by kernel_rfl) (by kernel_rfl) (by kernel_rfl) rfl trivial (fun _ _ _ h => h) hM (fun w hC => r_pickT hl rfl rfl) rfl ?_
                      clear hl a; intro a hl
                      refine d_take (i := 8) hl rfl (by kernel_rfl) (by kernel_rfl) (by kernel_rfl) (by kernel_rfl) (by kernel_rfl) rfl trivial (fun _ _ _ h => h) hM (fun w hC => r_move hl rfl) rfl ?_
                      clear hl a; intro a hl
                      refine sl_split (t := 135) hl rfl ?_ ?_
                      · intro hg5; clear hl; intro hl
                        try simp only [decide_eq_true_eq, decide_eq_false_iff_not, Bool.not_eq_true', Bool.not_eq_false', Bool.not_eq_true, Bool.not_eq_false, Bool.and_eq_true, Bool.or_eq_true, Bool.and_eq_false_iff, Bool.or_eq_false_iff, Bool.not_not, ne_eq, Int.not_lt, Int.not_le, Decidable.not_not, beq_iff_eq, bne_iff_ne] at hg5
                        refine d_take (i := 9) hl rfl (by kernel_rfl) (by kernel_rfl) (by kernel_rfl) (by kernel_rfl) (by kernel_rfl) rfl ⟨_, _, rfl, rfl, rfl⟩ (fun _ _ _ h => h) hM (fun w hC => r_move hl rfl) rfl ?_
                        clear hl a; intro a hl
                        refine d_take (i := 10) hl rfl (by kernel_rfl) (by kernel_rfl) (by kernel_rfl) (by kernel_rfl) (by kernel_rfl) rfl ⟨_, _, rfl, rfl, rfl⟩ (fun _ _ _ h => h) hM (fun w hC => r_nilCheck hl rfl) rfl ?_
                        clear hl a; intro a hl
                        refine d_take (i := 11) hl rfl (by kernel_rfl) (by kernel_rfl) (by kernel_rfl) (by kernel_rfl) (by kernel_rfl) rfl ⟨_, _, rfl, rfl, rfl⟩ (fun _ _ _ h => h) hM (fun w hC => r_field hl rfl fld69_8) rfl ?_
                        clear hl a; intro a hl
                        refine d_take (i := 12) hl rfl (by kernel_rfl) (by kernel_rfl) (by kernel_rfl) (by kernel_rfl) (by kernel_rfl) rfl ⟨_, _, rfl, rfl, rfl⟩ (fun _ _ _ h => h) hM (fun w hC => r_loadC hl rfl one2 hC (by repeat (first | exact find_head | apply find_tail)) (by first | rfl)) rfl ?_
                        clear hl a; intro a hl
                        refine d_take (i := 13) hl rfl (by kernel_rfl) (by kernel_rfl) (by kernel_rfl) (by kernel_rfl) (by kernel_rfl) rfl ⟨_, _, rfl, rfl, rfl⟩ (fun _ _ _ h => h) hM (fun w hC => r_move hl rfl) rfl ?_
                        clear hl a; intro a hl
                        refine d_take (i := 14) hl rfl (by kernel_rfl) (by kernel_rfl) (by kernel_rfl) (by kernel_rfl) (by kernel_rfl) rfl ⟨_, _, rfl, rfl, rfl⟩ (fun _ _ _ h => h) hM (fun w hC => r_nilCheck hl rfl) rfl ?_
                        clear hl a; intro a hl
                        refine d_take (i := 15) hl rfl (by kernel_rfl) (by kernel_rfl) (by kernel_rfl) (by kernel_rfl) (by kernel_rfl) rfl ⟨_, _, rfl, rfl, rfl⟩ (fun _ _ _ h => h) hM (fun w hC => r_field hl rfl fld69_11) rfl ?_
                        clear hl a; intro a hl
                        refine d_take (i := 16) hl rfl (by kernel_rfl) (by kernel_rfl) (by kernel_rfl) (by kernel_rfl) (by kernel_rfl) rfl ⟨_, _, rfl, rfl, rfl⟩ (fun _ _ _ h => h) hM (fun w hC => r_loadC hl rfl one2 hC (by repeat (first | exact find_head | apply find_tail)) (by first | rfl)) rfl ?_
                        clear hl a; intro a hl
                        refine d_takeL (i := 17) hl rfl (by kernel_rfl) (by kernel_rfl) (by kernel_rfl) (by kernel_rfl) (by kernel_rfl) rfl ⟨_, _, rfl, rfl, rfl⟩ (fun _ _ _ h => h) (fun w => r_gtr hl rfl rfl) rfl ?_
                        clear hl a; intro a hl
                        refine d_takeL (i := 18) hl rfl (by kernel_rfl) (by kernel_rfl) (by kernel_rfl) (by kernel_rfl) (by kernel_rfl) rfl trivial (fun _ _ _ h => h) (fun w => r_pickT hl rfl rfl) rfl ?_
                        clear hl a; intro a hl
                        refine d_takeL (i := 19) hl rfl (by kernel_rfl) (by kernel_rfl) (by kernel_rfl) (by kernel_rfl) (by kernel_rfl) rfl trivial (fun _ _ _ h => h) (fun w => r_assign hl rfl) rfl ?_
                        clear hl a; intro a hl
                        refine d_done (by kernel_rfl) ?_
                        try clear hM
                        have hl2 := hl.add (t := 0) (hl.add (t := 11) (hl.add (t := 126) (hl.nil) rfl) rfl) rfl; clear hl; have hl := hl2; clear hl2
                        refine then_normal ?_
                        refine c_cond hl rfl ?_ ?_
                        · intro hc7
                          try simp only [decide_eq_true_eq, decide_eq_false_iff_not, Bool.not_eq_true', Bool.not_eq_false', Bool.not_eq_true, Bool.not_eq_false, Bool.and_eq_true, Bool.or_eq_true, Bool.and_eq_false_iff, Bool.or_eq_false_iff, Bool.not_not, ne_eq, Int.not_lt, Int.not_le, Decidable.not_not, beq_iff_eq, bne_iff_ne] at hc7
                          refine wp_skip ?_
                          refine then_normal ?_
                          refine c_cond hl rfl ?_ ?_
                          · intro hc8
                            try simp only [decide_eq_true_eq, decide_eq_false_iff_not, Bool.not_eq_true', Bool.not_eq_false', Bool.not_eq_true, Bool.not_eq_false, Bool.and_eq_true, Bool.or_eq_true, Bool.and_eq_false_iff, Bool.or_eq_false_iff, Bool.not_not, ne_eq, Int.not_lt, Int.not_le, Decidable.not_not, beq_iff_eq, bne_iff_ne] at hc8
                            refine c_seq ?_
                            refine c_region ?_
                            refine wl (wl_val hl rfl trivial (r_move hl rfl) ?_)
                            clear hl a; intro a hl
                            refine wl (w_call hl hh rfl trivial rfl cal48 rfl (halve_m mp ({ s with dups := s.dups + 1 }) st sk bp (dups_mk hs hdp)) (by repeat (first | exact keeps_nil | apply keeps_cons (by repeat (first | exact find_head | apply find_tail)) (by first  | rfl) | exact keeps_self | apply keeps_mv)) trivial ?_)
                            clear hl hh a w; intro vc Fc a w hR hl hh
                            obtain ⟨rfl, rfl⟩ := hR
                            try simp only [List.cons_append, List.nil_append] at hh
                            refine w_nil ?_
                            have hl2 := hl.add (t := 0) (hl.nil) rfl; clear hl; have hl := hl2; clear hl2
                            refine then_normal ?_
                            refine c_seq ?_
                            refine c_region ?_
                            refine wl (wl_val hl rfl trivial (r_move hl rfl) ?_)
                            clear hl a; intro a hl
                            refine wl (wl_val hl rfl trivial (r_move hl rfl) ?_)
                            clear hl a; intro a hl
                            refine wl (wl_val hl rfl trivial (r_move hl rfl) ?_)
                            clear hl a; intro a hl
                            refine wl (wl_val hl rfl trivial (r_nilCheck hl rfl) ?_)
                            clear hl a; intro a hl
                            refine wl (wl_val hl rfl trivial (r_field hl rfl fld69_6) ?_)
                            clear hl a; intro a hl
                            refine wl (w_load hl hh rfl trivial one2 rfl (by repeat (first | exact find_head | apply find_tail)) (by first | rfl) ?_)
                            clear hl a; intro a hl
                            refine wl (w_call hl hh rfl trivial rfl cal44 rfl (bounded_c mp (halveM { s with dups := s.dups + 1 }) st sk bp ⟨hs.init, hs.maxc, hs.bn, hs.bd, hs.abc, hs.dupt, hs.mss⟩ _) (by repeat (first | exact keeps_nil | apply keeps_cons (by repeat (first | exact find_head | apply find_tail)) (by first  | rfl) | exact keeps_self | apply keeps_mv)) (hh.mem _ _ (Find.mem (by repeat (first | exact find_head | apply find_tail)))) ?_)
                            clear hl hh a w; intro vc Fc a w hR hl hh
                            obtain ⟨rfl, rfl⟩ := hR
                            try simp only [List.cons_append, List.nil_append] at hh
                            refine wl (wl_val hl rfl trivial (r_nilCheck hl rfl) ?_)
                            clear hl a; intro a hl
                            refine wl (wl_val hl rfl trivial (r_field hl rfl fld69_5) ?_)
                            clear hl a; intro a hl
                            refine wl (w_store hl hh trivial one2 rfl rfl (by repeat (first | exact find_head | apply find_tail)) (by first | (simp; done) | (simp; omega)) (by first | rfl | assumption | (apply Row.one; assumption)) (by first | (simp only [encM, setL, List.getElem?_cons_zero, List.getElem?_cons_succ, Value.cells, List.take_zero, List.take_succ_cons, List.take_nil, List.drop_zero, List.drop_succ_cons, List.drop_nil, List.length_cons, List.length_nil, List.cons_append, List.nil_append, List.append_nil, Nat.zero_add, Nat.add_zero, Nat.reduceAdd, Nat.reduceBEq, Nat.reduceEqDiff, Nat.ble, BEq.rfl, Bool.and_true, Bool.and_self, cond_true, beq_self_eq_true]; rfl) | (simp only [setL, List.getElem?_cons_zero, List.getElem?_cons_succ, Value.cells, List.take_zero, List.take_succ_cons, List.take_nil, List.drop_zero, List.drop_succ_cons, List.drop_nil, List.length_cons, List.length_nil, List.cons_append, List.nil_append, List.append_nil, Nat.zero_add, Nat.add_zero, Nat.reduceAdd, Nat.reduceBEq, Nat.reduceEqDiff, Nat.ble, BEq.rfl, Bool.and_true, Bool.and_self, cond_true, beq_self_eq_true]; rfl)) ?_)
                            clear hh w; intro w hh
                            refine w_nil ?_
                            have hl2 := hl.add (t := 0) (hl.nil) rfl; clear hl; have hl := hl2; clear hl2
                            refine then_normal ?_
                            refine c_seq ?_
                            refine c_seq ?_
                            refine c_region ?_
                            refine wl (wl_val hl rfl trivial (r_move hl rfl) ?_)
                            clear hl a; intro a hl
                            refine wl (wl_val hl rfl trivial (r_nilCheck hl rfl) ?_)
                            clear hl a; intro a hl
                            refine wl (wl_val hl rfl trivial (r_field hl rfl fld69_3) ?_)
                            clear hl a; intro a hl
                            refine wl (w_load hl hh rfl trivial one4 rfl (by repeat (first | exact find_head | apply find_tail)) (by first | rfl) ?_)
                            clear hl a; intro a hl
                            refine wl (wl_val hl rfl trivial (r_not hl rfl) ?_)
                            clear hl a; intro a hl
                            refine w_nil ?_
                            have hl2 := hl.add (t := 0) (hl.add (t := 179) (hl.nil) rfl) rfl; clear hl; have hl := hl2; clear hl2
                            refine then_normal ?_
                            refine c_cond hl rfl ?_ ?_
                            · intro hc9
                              try simp only [decide_eq_true_eq, decide_eq_false_iff_not, Bool.not_eq_true', Bool.not_eq_false', Bool.not_eq_true, Bool.not_eq_false, Bool.and_eq_true, Bool.or_eq_true, Bool.and_eq_false_iff, Bool.or_eq_false_iff, Bool.not_not, ne_eq, Int.not_lt, Int.not_le, Decidable.not_not, beq_iff_eq, bne_iff_ne] at hc9
                              refine c_draw [(mp, C (encM ({ s with dups := s.dups + 1, ssth := (cutV (s.nxt - s.una) s.bn s.bd s.mss s.maxc), cwnd := bndP s (cutV (s.nxt - s.una) s.bn s.bd s.mss s.maxc) }) st sk bp) 69)] [19, 20, 21] mixed hh ?_
                              clear hh w; intro w hh
                              have hM : Mem [(mp, C (encM ({ s with dups := s.dups + 1, ssth := (cutV (s.nxt - s.una) s.bn s.bd s.mss s.maxc), cwnd := bndP s (cutV (s.nxt - s.una) s.bn s.bd s.mss s.maxc) }) st sk bp) 69)] w := (by (repeat (first | exact Mem.nil | refine Mem.cons hh.mem (by (repeat (first | exact find_head | apply find_tail)); done) ?_ | refine Mem.consR hh (by assumption) (by simp) ?_ | fail)); done)
                              refine d_take (i := 0) hl rfl (by kernel_rfl) (by kernel_rfl) (by kernel_rfl) (by kernel_rfl) (by kernel_rfl) rfl trivial (fun _ _ _ h => h) hM (fun w hC => r_move hl rfl) rfl ?_
                              clear hl a; intro a hl
                              refine d_take (i := 1) hl rfl (by kernel_rfl) (by kernel_rfl) (by kernel_rfl) (by kernel_rfl) (by kernel_rfl) rfl trivial (fun _ _ _ h => h) hM (fun w hC => r_move hl rfl) rfl ?_
                              clear hl a; intro a hl
                              refine d_take (i := 2) hl rfl (by kernel_rfl) (by kernel_rfl) (by kernel_rfl) (by kernel_rfl) (by kernel_rfl) rfl trivial (fun _ _ _ h => h) hM (fun w hC => r_move hl rfl) rfl ?_
                              clear hl a; intro a hl
                              refine d_take (i := 3) hl rfl (by kernel_rfl) (by kernel_rfl) (by kernel_rfl) (by kernel_rfl) (by kernel_rfl) rfl trivial (fun _ _ _ h => h) hM (fun w hC => r_nilCheck hl rfl) rfl ?_
                              clear hl a; intro a hl
                              refine d_take (i := 4) hl rfl (by kernel_rfl) (by kernel_rfl) (by kernel_rfl) (by kernel_rfl) (by kernel_rfl) rfl trivial (fun _ _ _ h => h) hM (fun w hC => r_field hl rfl fld69_6) rfl ?_
                              clear hl a; intro a hl
                              refine d_take (i := 5) hl rfl (by kernel_rfl) (by kernel_rfl) (by kernel_rfl) (by kernel_rfl) (by kernel_rfl) rfl trivial (fun _ _ _ h => h) hM (fun w hC => r_loadC hl rfl one2 hC (by repeat (first | exact find_head | apply find_tail)) (by first | rfl)) rfl ?_
                              clear hl a; intro a hl
                              refine d_take (i := 6) hl rfl (by kernel_rfl) (by kernel_rfl) (by kernel_rfl) (by kernel_rfl) (by kernel_rfl) rfl trivial (fun _ _ _ h => h) hM (fun w hC => r_move hl rfl) rfl ?_
                              clear hl a; intro a hl
                              refine d_take (i := 7) hl rfl (by kernel_rfl) (by kernel_rfl) (by kernel_rfl) (by kernel_rfl) (by kernel_rfl) rfl trivial (fun _ _ _ h => h) hM (fun w hC => r_nilCheck hl rfl) rfl ?_
                              clear hl a; intro a hl
                              refine d_take (i := 8) hl rfl (by kernel_rfl) (by kernel_rfl) (by kernel_rfl) (by kernel_rfl) (by kernel_rfl) rfl trivial (fun _ _ _ h => h) hM (fun w hC => r_field hl rfl fld69_0) rfl ?_
                              clear hl a; intro a hl
                              refine d_take (i := 9) hl rfl (by kernel_rfl) (by kernel_rfl) (by kernel_rfl) (by kernel_rfl) (by kernel_rfl) rfl trivial (fun _ _ _ h => h) hM (fun w hC => r_field hl rfl fld31_5) rfl ?_
                              clear hl a; intro a hl
                              refine d_take (i := 10) hl rfl (by kernel_rfl) (by kernel_rfl) (by kernel_rfl) (by kernel_rfl) (by kernel_rfl) rfl trivial (fun _ _ _ h => h) hM (fun w hC => r_loadC hl rfl one29 hC (by repeat (first | exact find_head | apply find_tail)) (by first | rfl)) rfl ?_
                              clear hl a; intro a hl
                              first | refine d_take (i := 11) hl rfl (by kernel_rfl) (by kernel_rfl) (by kernel_rfl) (by kernel_rfl) (by kernel_rfl) rfl trivial (fun _ _ _ h => h) hM (fun w hC => r_conv hl rfl Tryz.underlying29 Tryz.underlying2 (by simp only [Fits]; omega)) rfl ?_ | refine d_take (i := 11) hl rfl (by kernel_rfl) (by kernel_rfl) (by kernel_rfl) (by kernel_rfl) (by kernel_rfl) rfl trivial (fun _ _ _ h => h) hM (fun w hC => r_convW hl rfl Tryz.underlying29 Tryz.underlying2) rfl ?_
                              clear hl a; intro a hl
                              refine d_take (i := 12) hl rfl (by kernel_rfl) (by kernel_rfl) (by kernel_rfl) (by kernel_rfl) (by kernel_rfl) rfl trivial (fun _ _ _ h => h) hM (fun w hC => r_move hl rfl) rfl ?_
                              clear hl a; intro a hl
                              refine d_take (i := 13) hl rfl (by kernel_rfl) (by kernel_rfl) (by kernel_rfl) (by kernel_rfl) (by kernel_rfl) rfl trivial (fun _ _ _ h => h) hM (fun w hC => r_nilCheck hl rfl) rfl ?_
                              clear hl a; intro a hl
                              refine d_take (i := 14) hl rfl (by kernel_rfl) (by kernel_rfl) (by kernel_rfl) (by kernel_rfl) (by kernel_rfl) rfl trivial (fun _ _ _ h => h) hM (fun w hC => r_field hl rfl fld69_1) rfl ?_
                              clear hl a; intro a hl
                              refine d_take (i := 15) hl rfl (by kernel_rfl) (by kernel_rfl) (by kernel_rfl) (by kernel_rfl) (by kernel_rfl) rfl trivial (fun _ _ _ h => h) hM (fun w hC => r_loadC hl rfl one2 hC (by repeat (first | exact find_head | apply find_tail)) (by first | rfl)) rfl ?_
                              clear hl a; intro a hl
                              first | refine d_take (i := 16) hl rfl (by kernel_rfl) (by kernel_rfl) (by kernel_rfl) (by kernel_rfl) (by kernel_rfl) rfl trivial (fun _ _ _ h => h) hM (fun w hC => r_mul hl rfl rfl (by simp only [Fits]; omega)) rfl ?_ | refine d_take (i := 16) hl rfl (by kernel_rfl) (by kernel_rfl) (by kernel_rfl) (by kernel_rfl) (by kernel_rfl) rfl trivial (fun _ _ _ h => h) hM (fun w hC => r_mulW hl rfl rfl) rfl ?_
                              clear hl a; intro a hl
                              first | refine d_take (i := 17) hl rfl (by kernel_rfl) (by kernel_rfl) (by kernel_rfl) (by kernel_rfl) (by kernel_rfl) rfl trivial (fun _ _ _ h => h) hM (fun w hC => r_add hl rfl rfl (by simp only [Fits]; omega)) rfl ?_ | refine d_take (i := 17) hl rfl (by kernel_rfl) (by kernel_rfl) (by kernel_rfl) (by kernel_rfl) (by kernel_rfl) rfl trivial (fun _ _ _ h => h) hM (fun w hC => r_addW hl rfl rfl) rfl ?_
                              clear hl a; intro a hl
                              refine d_one (i := 18) (by kernel_rfl) rfl ?_
                              try clear hM
                              refine id (w_call hl hh rfl trivial rfl cal44 rfl (bounded_c mp ({ s with dups := s.dups + 1, ssth := (cutV (s.nxt - s.una) s.bn s.bd s.mss s.maxc), cwnd := bndP s (cutV (s.nxt - s.una) s.bn s.bd s.mss s.maxc) }) st sk bp ⟨hs.init, hs.maxc, hs.bn, hs.bd, hs.abc, hs.dupt, hs.mss⟩ _) (by repeat (first | exact keeps_nil | apply keeps_cons (by repeat (first | exact find_head | apply find_tail)) (by first  | rfl) | exact keeps_self | apply keeps_mv)) (hh.mem _ _ (Find.mem (by repeat (first | exact find_head | apply find_tail)))) ?_)
                              clear hl hh a w; intro vc Fc a w hR hl hh
                              obtain ⟨rfl, rfl⟩ := hR
                              try simp only [List.cons_append, List.nil_append] at hh
                              have hM : Mem [(mp, C (encM ({ s with dups := s.dups + 1, ssth := (cutV (s.nxt - s.una) s.bn s.bd s.mss s.maxc), cwnd := bndP s (cutV (s.nxt - s.una) s.bn s.bd s.mss s.maxc) }) st sk bp) 69)] w := (by (repeat (first | exact Mem.nil | refine Mem.cons hh.mem (by (repeat (first | exact find_head | apply find_tail)); done) ?_ | refine Mem.consR hh (by assumption) (by simp) ?_ | fail)); done)
                              refine d_step (fun _ => hM) ?_
                              refine d_takeL (i := 19) hl rfl (by kernel_rfl) (by kernel_rfl) (by kernel_rfl) (by kernel_rfl) (by kernel_rfl) rfl trivial (fun _ _ _ h => h) (fun w => r_nilCheck hl rfl) rfl ?_
                              clear hl a; intro a hl
                              refine d_takeL (i := 20) hl rfl (by kernel_rfl) (by kernel_rfl) (by kernel_rfl) (by kernel_rfl) (by kernel_rfl) rfl trivial (fun _ _ _ h => h) (fun w => r_field hl rfl fld69_5) rfl ?_
                              clear hl a; intro a hl
                              refine d_one (i := 21) (by kernel_rfl) rfl ?_
                              try clear hM
                              refine id (w_store hl hh trivial one2 rfl rfl (by repeat (first | exact find_head | apply find_tail)) (by first | (simp; done) | (simp; omega)) (by first | rfl | assumption | (apply Row.one; assumption)) (by first | (simp only [encM, setL, List.getElem?_cons_zero, List.getElem?_cons_succ, Value.cells, List.take_zero, List.take_succ_cons, List.take_nil, List.drop_zero, List.drop_succ_cons, List.drop_nil, List.length_cons, List.length_nil, List.cons_append, List.nil_append, List.append_nil, Nat.zero_add, Nat.add_zero, Nat.reduceAdd, Nat.reduceBEq, Nat.reduceEqDiff, Nat.ble, BEq.rfl, Bool.and_true, Bool.and_self, cond_true, beq_self_eq_true]; rfl) | (simp only [setL, List.getElem?_cons_zero, List.getElem?_cons_succ, Value.cells, List.take_zero, List.take_succ_cons, List.take_nil, List.drop_zero, List.drop_succ_cons, List.drop_nil, List.length_cons, List.length_nil, List.cons_append, List.nil_append, List.append_nil, Nat.zero_add, Nat.add_zero, Nat.reduceAdd, Nat.reduceBEq, Nat.reduceEqDiff, Nat.ble, BEq.rfl, Bool.and_true, Bool.and_self, cond_true, beq_self_eq_true]; rfl)) ?_)
                              clear hh w; intro w hh
                              refine d_step (fun h => absurd h (by decide)) ?_
                              refine d_done (by kernel_rfl) ?_
                              try clear hM
                              have hl2 := hl.add (t := 0) (hl.nil) rfl; clear hl; have hl := hl2; clear hl2
                              refine then_normal ?_
                              refine c_seq ?_
                              refine c_draw [] [17, 18, 19] mixed hh ?_
                              clear hh w; intro w hh
                              have hM : Mem [] w := Mem.nil
                              refine d_take (i := 0) hl rfl (by kernel_rfl) (by kernel_rfl) (by kernel_rfl) (by kernel_rfl) (by kernel_rfl) rfl trivial (fun _ _ _ h => h) hM (fun w hC => r_move hl rfl) rfl ?_
                              clear hl a; intro a hl
                              refine d_take (i := 1) hl rfl (by kernel_rfl) (by kernel_rfl) (by kernel_rfl) (by kernel_rfl) (by kernel_rfl) rfl trivial (fun _ _ _ h => h) hM (fun w hC => r_move hl rfl) rfl ?_
                              clear hl a; intro a hl
                              refine d_take (i := 2) hl rfl (by kernel_rfl) (by kernel_rfl) (by kernel_rfl) (by kernel_rfl) (by kernel_rfl) rfl trivial (fun _ _ _ h => h) hM (fun w hC => r_move hl rfl) rfl ?_
                              clear hl a; intro a hl
                              refine d_take (i := 3) hl rfl (by kernel_rfl) (by kernel_rfl) (by kernel_rfl) (by kernel_rfl) (by kernel_rfl) rfl trivial (fun _ _ _ h => h) hM (fun w hC => r_move hl rfl) rfl ?_
                              clear hl a; intro a hl
                              refine d_take (i := 4) hl rfl (by kernel_rfl) (by kernel_rfl) (by kernel_rfl) (by kernel_rfl) (by kernel_rfl) rfl trivial (fun _ _ _ h => h) hM (fun w hC => r_nilCheck hl rfl) rfl ?_
                              clear hl a; intro a hl
                              refine d_take (i := 5) hl rfl (by kernel_rfl) (by kernel_rfl) (by kernel_rfl) (by kernel_rfl) (by kernel_rfl) rfl trivial (fun _ _ _ h => h) hM (fun w hC => r_field hl rfl fld69_9) rfl ?_
                              clear hl a; intro a hl
                              refine d_take (i := 7) hl rfl (by kernel_rfl) (by kernel_rfl) (by kernel_rfl) (by kernel_rfl) (by kernel_rfl) rfl trivial (fun _ _ _ h => h) hM (fun w hC => r_move hl rfl) rfl ?_
                              clear hl a; intro a hl
                              refine d_take (i := 8) hl rfl (by kernel_rfl) (by kernel_rfl) (by kernel_rfl) (by kernel_rfl) (by kernel_rfl) rfl trivial (fun _ _ _ h => h) hM (fun w hC => r_nilCheck hl rfl) rfl ?_
                              clear hl a; intro a hl
                              refine d_take (i := 9) hl rfl (by kernel_rfl) (by kernel_rfl) (by kernel_rfl) (by kernel_rfl) (by kernel_rfl) rfl trivial (fun _ _ _ h => h) hM (fun w hC => r_field hl rfl fld69_8) rfl ?_
                              clear hl a; intro a hl
                              refine d_two (i := 6) (j := 10) (by kernel_rfl) rfl rfl ?_ ?_
                              ·
                                try clear hM
                                refine id (w_load hl hh rfl trivial one2 rfl (by repeat (first | exact find_head | apply find_tail)) (by first | rfl) ?_)
                                clear hl a; intro a hl
                                have hM : Mem [] w := Mem.nil
                                refine d_step (fun _ => hM) ?_
                                refine d_one (i := 10) (by kernel_rfl) rfl ?_
                                try clear hM
                                refine id (w_load hl hh rfl trivial one2 rfl (by repeat (first | exact find_head | apply find_tail)) (by first | rfl) ?_)
                                clear hl a; intro a hl
                                have hM : Mem [] w := Mem.nil
                                refine d_step (fun _ => hM) ?_
                                refine d_take (i := 11) hl rfl (by kernel_rfl) (by kernel_rfl) (by kernel_rfl) (by kernel_rfl) (by kernel_rfl) rfl trivial (fun _ _ _ h => h) hM (fun w hC => r_nilCheck hl rfl) rfl ?_
                                clear hl a; intro a hl
                                refine d_take (i := 12) hl rfl (by kernel_rfl) (by kernel_rfl) (by kernel_rfl) (by kernel_rfl) (by kernel_rfl) rfl trivial (fun _ _ _ h => h) hM (fun w hC => r_field hl rfl fld69_10) rfl ?_
                                clear hl a; intro a hl
                                refine d_one (i := 13) (by kernel_rfl) rfl ?_
                                try clear hM
                                refine id (w_store hl hh trivial one59 rfl rfl (by repeat (first | exact find_head | apply find_tail)) (by first | (simp; done) | (simp; omega)) (by first | rfl | assumption | (apply Row.one; assumption)) (by first | (simp only [encM, setL, List.getElem?_cons_zero, List.getElem?_cons_succ, Value.cells, List.take_zero, List.take_succ_cons, List.take_nil, List.drop_zero, List.drop_succ_cons, List.drop_nil, List.length_cons, List.length_nil, List.cons_append, List.nil_append, List.append_nil, Nat.zero_add, Nat.add_zero, Nat.reduceAdd, Nat.reduceBEq, Nat.reduceEqDiff, Nat.ble, BEq.rfl, Bool.and_true, Bool.and_self, cond_true, beq_self_eq_true]; rfl) | (simp only [setL, List.getElem?_cons_zero, List.getElem?_cons_succ, Value.cells, List.take_zero, List.take_succ_cons, List.take_nil, List.drop_zero, List.drop_succ_cons, List.drop_nil, List.length_cons, List.length_nil, List.cons_append, List.nil_append, List.append_nil, Nat.zero_add, Nat.add_zero, Nat.reduceAdd, Nat.reduceBEq, Nat.reduceEqDiff, Nat.ble, BEq.rfl, Bool.and_true, Bool.and_self, cond_true, beq_self_eq_true]; rfl)) ?_)
                                clear hh w; intro w hh
                                have hM : Mem [] w := Mem.nil
                                refine d_step (fun _ => hM) ?_
                                refine d_take (i := 14) hl rfl (by kernel_rfl) (by kernel_rfl) (by kernel_rfl) (by kernel_rfl) (by kernel_rfl) rfl trivial (fun _ _ _ h => h) hM (fun w hC => r_nilCheck hl rfl) rfl ?_
                                clear hl a; intro a hl
                                refine d_take (i := 15) hl rfl (by kernel_rfl) (by kernel_rfl) (by kernel_rfl) (by kernel_rfl) (by kernel_rfl) rfl trivial (fun _ _ _ h => h) hM (fun w hC => r_field hl rfl fld69_11) rfl ?_
                                clear hl a; intro a hl
                                refine d_one (i := 16) (by kernel_rfl) rfl ?_
                                try clear hM
                                refine id (w_store hl hh trivial one2 rfl rfl (by repeat (first | exact find_head | apply find_tail)) (by first | (simp; done) | (simp; omega)) (by first | rfl | assumption | (apply Row.one; assumption)) (by first | (simp only [encM, setL, List.getElem?_cons_zero, List.getElem?_cons_succ, Value.cells, List.take_zero, List.take_succ_cons, List.take_nil, List.drop_zero, List.drop_succ_cons, List.drop_nil, List.length_cons, List.length_nil, List.cons_append, List.nil_append, List.append_nil, Nat.zero_add, Nat.add_zero, Nat.reduceAdd, Nat.reduceBEq, Nat.reduceEqDiff, Nat.ble, BEq.rfl, Bool.and_true, Bool.and_self, cond_true, beq_self_eq_true]; rfl) | (simp only [setL, List.getElem?_cons_zero, List.getElem?_cons_succ, Value.cells, List.take_zero, List.take_succ_cons, List.take_nil, List.drop_zero, List.drop_succ_cons, List.drop_nil, List.length_cons, List.length_nil, List.cons_append, List.nil_append, List.append_nil, Nat.zero_add, Nat.add_zero, Nat.reduceAdd, Nat.reduceBEq, Nat.reduceEqDiff, Nat.ble, BEq.rfl, Bool.and_true, Bool.and_self, cond_true, beq_self_eq_true]; rfl)) ?_)
                                clear hh w; intro w hh
                                have hM : Mem [] w := Mem.nil
                                refine d_step (fun _ => hM) ?_
                                refine d_takeL (i := 17) hl rfl (by kernel_rfl) (by kernel_rfl) (by kernel_rfl) (by kernel_rfl) (by kernel_rfl) rfl trivial (fun _ _ _ h => h) (fun w => r_nilCheck hl rfl) rfl ?_
                                clear hl a; intro a hl
                                refine d_takeL (i := 18) hl rfl (by kernel_rfl) (by kernel_rfl) (by kernel_rfl) (by kernel_rfl) (by kernel_rfl) rfl trivial (fun _ _ _ h => h) (fun w => r_field hl rfl fld69_12) rfl ?_
                                clear hl a; intro a hl
                                refine d_one (i := 19) (by kernel_rfl) rfl ?_
                                try clear hM
                                refine id (w_store hl hh trivial one2 rfl rfl (by repeat (first | exact find_head | apply find_tail)) (by first | (simp; done) | (simp; omega)) (by first | rfl | assumption | (apply Row.one; assumption)) (by first | (simp only [encM, setL, List.getElem?_cons_zero, List.getElem?_cons_succ, Value.cells, List.take_zero, List.take_succ_cons, List.take_nil, List.drop_zero, List.drop_succ_cons, List.drop_nil, List.length_cons, List.length_nil, List.cons_append, List.nil_append, List.append_nil, Nat.zero_add, Nat.add_zero, Nat.reduceAdd, Nat.reduceBEq, Nat.reduceEqDiff, Nat.ble, BEq.rfl, Bool.and_true, Bool.and_self, cond_true, beq_self_eq_true]; rfl) | (simp only [setL, List.getElem?_cons_zero, List.getElem?_cons_succ, Value.cells, List.take_zero, List.take_succ_cons, List.take_nil, List.drop_zero, List.drop_succ_cons, List.drop_nil, List.length_cons, List.length_nil, List.cons_append, List.nil_append, List.append_nil, Nat.zero_add, Nat.add_zero, Nat.reduceAdd, Nat.reduceBEq, Nat.reduceEqDiff, Nat.ble, BEq.rfl, Bool.and_true, Bool.and_self, cond_true, beq_self_eq_true]; rfl)) ?_)
                                clear hh w; intro w hh
                                refine d_step (fun h => absurd h (by decide)) ?_
                                refine d_done (by kernel_rfl) ?_
                                try clear hM
                                have hl2 := hl.add (t := 0) (hl.nil) rfl; clear hl; have hl := hl2; clear hl2
                                refine then_normal ?_
                                refine c_region ?_
                                refine wl (wl_val hl rfl trivial (r_move hl rfl) ?_)
                                clear hl a; intro a hl
                                refine wl (wl_val hl rfl trivial (r_move hl rfl) ?_)
                                clear hl a; intro a hl
                                refine wl (wl_val hl rfl trivial (r_move hl rfl) ?_)
                                clear hl a; intro a hl
                                refine wl (wl_val hl rfl trivial (r_nilCheck hl rfl) ?_)
                                clear hl a; intro a hl
                                refine wl (wl_val hl rfl trivial (r_field hl rfl fld69_14) ?_)
                                clear hl a; intro a hl
                                refine wl (w_store hl hh trivial one4 rfl rfl (by repeat (first | exact find_head | apply find_tail)) (by first | (simp; done) | (simp; omega)) (by first | rfl | assumption | (apply Row.one; assumption)) (by first | (simp only [encM, setL, List.getElem?_cons_zero, List.getElem?_cons_succ, Value.cells, List.take_zero, List.take_succ_cons, List.take_nil, List.drop_zero, List.drop_succ_cons, List.drop_nil, List.length_cons, List.length_nil, List.cons_append, List.nil_append, List.append_nil, Nat.zero_add, Nat.add_zero, Nat.reduceAdd, Nat.reduceBEq, Nat.reduceEqDiff, Nat.ble, BEq.rfl, Bool.and_true, Bool.and_self, cond_true, beq_self_eq_true]; rfl) | (simp only [setL, List.getElem?_cons_zero, List.getElem?_cons_succ, Value.cells, List.take_zero, List.take_succ_cons, List.take_nil, List.drop_zero, List.drop_succ_cons, List.drop_nil, List.length_cons, List.length_nil, List.cons_append, List.nil_append, List.append_nil, Nat.zero_add, Nat.add_zero, Nat.reduceAdd, Nat.reduceBEq, Nat.reduceEqDiff, Nat.ble, BEq.rfl, Bool.and_true, Bool.and_self, cond_true, beq_self_eq_true]; rfl)) ?_)
                                clear hh w; intro w hh
                                refine wl (wl_val hl rfl trivial (r_nilCheck hl rfl) ?_)
                                clear hl a; intro a hl
                                refine wl (wl_val hl rfl trivial (r_field hl rfl fld69_16) ?_)
                                clear hl a; intro a hl
                                refine wl (w_store hl hh trivial one4 rfl rfl (by repeat (first | exact find_head | apply find_tail)) (by first | (simp; done) | (simp; omega)) (by first | rfl | assumption | (apply Row.one; assumption)) (by first | (simp only [encM, setL, List.getElem?_cons_zero, List.getElem?_cons_succ, Value.cells, List.take_zero, List.take_succ_cons, List.take_nil, List.drop_zero, List.drop_succ_cons, List.drop_nil, List.length_cons, List.length_nil, List.cons_append, List.nil_append, List.append_nil, Nat.zero_add, Nat.add_zero, Nat.reduceAdd, Nat.reduceBEq, Nat.reduceEqDiff, Nat.ble, BEq.rfl, Bool.and_true, Bool.and_self, cond_true, beq_self_eq_true]; rfl) | (simp only [setL, List.getElem?_cons_zero, List.getElem?_cons_succ, Value.cells, List.take_zero, List.take_succ_cons, List.take_nil, List.drop_zero, List.drop_succ_cons, List.drop_nil, List.length_cons, List.length_nil, List.cons_append, List.nil_append, List.append_nil, Nat.zero_add, Nat.add_zero, Nat.reduceAdd, Nat.reduceBEq, Nat.reduceEqDiff, Nat.ble, BEq.rfl, Bool.and_true, Bool.and_self, cond_true, beq_self_eq_true]; rfl)) ?_)
                                clear hh w; intro w hh
                                refine wl (wl_val hl rfl trivial (r_nilCheck hl rfl) ?_)
                                clear hl a; intro a hl
                                refine wl (wl_val hl rfl trivial (r_field hl rfl fld69_7) ?_)
                                clear hl a; intro a hl
                                refine wl (w_store hl hh trivial one2 rfl rfl (by repeat (first | exact find_head | apply find_tail)) (by first | (simp; done) | (simp; omega)) (by first | rfl | assumption | (apply Row.one; assumption)) (by first | (simp only [encM, setL, List.getElem?_cons_zero, List.getElem?_cons_succ, Value.cells, List.take_zero, List.take_succ_cons, List.take_nil, List.drop_zero, List.drop_succ_cons, List.drop_nil, List.length_cons, List.length_nil, List.cons_append, List.nil_append, List.append_nil, Nat.zero_add, Nat.add_zero, Nat.reduceAdd, Nat.reduceBEq, Nat.reduceEqDiff, Nat.ble, BEq.rfl, Bool.and_true, Bool.and_self, cond_true, beq_self_eq_true]; rfl) | (simp only [setL, List.getElem?_cons_zero, List.getElem?_cons_succ, Value.cells, List.take_zero, List.take_succ_cons, List.take_nil, List.drop_zero, List.drop_succ_cons, List.drop_nil, List.length_cons, List.length_nil, List.cons_append, List.nil_append, List.append_nil, Nat.zero_add, Nat.add_zero, Nat.reduceAdd, Nat.reduceBEq, Nat.reduceEqDiff, Nat.ble, BEq.rfl, Bool.and_true, Bool.and_self, cond_true, beq_self_eq_true]; rfl)) ?_)
                                clear hh w; intro w hh
                                refine w_nil ?_
                                have hl2 := hl.nil; clear hl; have hl := hl2; clear hl2
                                replace hh : Has _ w0 [(mp, C (encM ({ halveM { s with dups := s.dups + 1 } with cwnd := bndP s ((halveM { s with dups := s.dups + 1 }).ssth + s.dupt * s.mss), phase := 1, recov := s.nxt, high := s.una, forced := true, resc := false, credit := 0 }) st sk bp) 69)] w := hh
                                refine blk_normal ?_
                                refine then_normal ?_
                                refine wp_ret ?_
                                refine then_ret ?_
                                refine f_ret0 (F' := [(mp, C (encM (ackM s sk ack dup lu) st sk bp) 69)]) hl hh rfl (by repeat (first | exact keeps_nil | apply keeps_cons (by repeat (first | exact find_head | apply find_tail)) (by first  | (exfalso; omega) | (exact absurd (hk.symm.trans (show sk = true by assumption)) (by decide)) | (exact blk_eqM (congrArg (fun z => encM z st sk bp) ((ack_dup (show ¬ (ack < s.una ∨ s.nxt < ack) by omega) (by omega) (by assumption) (by omega)).trans (dup_1 (by assumption) hk)).symm)) | (exact blk_eqM (congrArg (fun z => encM z st sk bp) ((ack_dup (show ¬ (ack < s.una ∨ s.nxt < ack) by omega) (by omega) (by assumption) (by omega)).trans (dup_2 (by omega) (by omega))).symm)) | (exact blk_eqM (congrArg (fun z => encM z st sk bp) ((ack_dup (show ¬ (ack < s.una ∨ s.nxt < ack) by omega) (by omega) (by assumption) (by omega)).trans (dup_3n hk (by assumption) (by omega) (by omega))).symm)) | (exact blk_eqM (congrArg (fun z => encM z st sk bp) ((ack_dup (show ¬ (ack < s.una ∨ s.nxt < ack) by omega) (by omega) (by assumption) (by omega)).trans (dup_4 (by assumption) (sig_no hk (by omega)))).symm)) | rfl) | exact keeps_self | apply keeps_mv)) ?_
                                exact ⟨rfl, rfl⟩
                              ·
                                try clear hM
                                refine id (w_load hl hh rfl trivial one2 rfl (by repeat (first | exact find_head | apply find_tail)) (by first | rfl) ?_)
                                clear hl a; intro a hl
                                have hM : Mem [] w := Mem.nil
                                refine d_step (fun _ => hM) ?_
                                refine d_one (i := 6) (by kernel_rfl) rfl ?_
                                try clear hM
                                refine id (w_load hl hh rfl trivial one2 rfl (by repeat (first | exact find_head | apply find_tail)) (by first | rfl) ?_)
                                clear hl a; intro a hl
                                have hM : Mem [] w := Mem.nil
                                refine d_step (fun _ => hM) ?_
                                refine d_take (i := 11) hl rfl (by kernel_rfl) (by kernel_rfl) (by kernel_rfl) (by kernel_rfl) (by kernel_rfl) rfl trivial (fun _ _ _ h => h) hM (fun w hC => r_nilCheck hl rfl) rfl ?_
                                clear hl a; intro a hl
                                refine d_take (i := 12) hl rfl (by kernel_rfl) (by kernel_rfl) (by kernel_rfl) (by kernel_rfl) (by kernel_rfl) rfl trivial (fun _ _ _ h => h) hM (fun w hC => r_field hl rfl fld69_10) rfl ?_
                                clear hl a; intro a hl
                                refine d_one (i := 13) (by kernel_rfl) rfl ?_
                                try clear hM
                                refine id (w_store hl hh trivial one59 rfl rfl (by repeat (first | exact find_head | apply find_tail)) (by first | (simp; done) | (simp; omega)) (by first | rfl | assumption | (apply Row.one; assumption)) (by first | (simp only [encM, setL, List.getElem?_cons_zero, List.getElem?_cons_succ, Value.cells, List.take_zero, List.take_succ_cons, List.take_nil, List.drop_zero, List.drop_succ_cons, List.drop_nil, List.length_cons, List.length_nil, List.cons_append, List.nil_append, List.append_nil, Nat.zero_add, Nat.add_zero, Nat.reduceAdd, Nat.reduceBEq, Nat.reduceEqDiff, Nat.ble, BEq.rfl, Bool.and_true, Bool.and_self, cond_true, beq_self_eq_true]; rfl) | (simp only [setL, List.getElem?_cons_zero, List.getElem?_cons_succ, Value.cells, List.take_zero, List.take_succ_cons, List.take_nil, List.drop_zero, List.drop_succ_cons, List.drop_nil, List.length_cons, List.length_nil, List.cons_append, List.nil_append, List.append_nil, Nat.zero_add, Nat.add_zero, Nat.reduceAdd, Nat.reduceBEq, Nat.reduceEqDiff, Nat.ble, BEq.rfl, Bool.and_true, Bool.and_self, cond_true, beq_self_eq_true]; rfl)) ?_)
                                clear hh w; intro w hh
                                have hM : Mem [] w := Mem.nil
                                refine d_step (fun _ => hM) ?_
                                refine d_take (i := 14) hl rfl (by kernel_rfl) (by kernel_rfl) (by kernel_rfl) (by kernel_rfl) (by kernel_rfl) rfl trivial (fun _ _ _ h => h) hM (fun w hC => r_nilCheck hl rfl) rfl ?_
                                clear hl a; intro a hl
                                refine d_take (i := 15) hl rfl (by kernel_rfl) (by kernel_rfl) (by kernel_rfl) (by kernel_rfl) (by kernel_rfl) rfl trivial (fun _ _ _ h => h) hM (fun w hC => r_field hl rfl fld69_11) rfl ?_
                                clear hl a; intro a hl
                                refine d_one (i := 16) (by kernel_rfl) rfl ?_
                                try clear hM
                                refine id (w_store hl hh trivial one2 rfl rfl (by repeat (first | exact find_head | apply find_tail)) (by first | (simp; done) | (simp; omega)) (by first | rfl | assumption | (apply Row.one; assumption)) (by first | (simp only [encM, setL, List.getElem?_cons_zero, List.getElem?_cons_succ, Value.cells, List.take_zero, List.take_succ_cons, List.take_nil, List.drop_zero, List.drop_succ_cons, List.drop_nil, List.length_cons, List.length_nil, List.cons_append, List.nil_append, List.append_nil, Nat.zero_add, Nat.add_zero, Nat.reduceAdd, Nat.reduceBEq, Nat.reduceEqDiff, Nat.ble, BEq.rfl, Bool.and_true, Bool.and_self, cond_true, beq_self_eq_true]; rfl) | (simp only [setL, List.getElem?_cons_zero, List.getElem?_cons_succ, Value.cells, List.take_zero, List.take_succ_cons, List.take_nil, List.drop_zero, List.drop_succ_cons, List.drop_nil, List.length_cons, List.length_nil, List.cons_append, List.nil_append, List.append_nil, Nat.zero_add, Nat.add_zero, Nat.reduceAdd, Nat.reduceBEq, Nat.reduceEqDiff, Nat.ble, BEq.rfl, Bool.and_true, Bool.and_self, cond_true, beq_self_eq_true]; rfl)) ?_)
                                clear hh w; intro w hh
                                have hM : Mem [] w := Mem.nil
                                refine d_step (fun _ => hM) ?_
                                refine d_takeL (i := 17) hl rfl (by kernel_rfl) (by kernel_rfl) (by kernel_rfl) (by kernel_rfl) (by kernel_rfl) rfl trivial (fun _ _ _ h => h) (fun w => r_nilCheck hl rfl) rfl ?_
                                clear hl a; intro a hl
                                refine d_takeL (i := 18) hl rfl (by kernel_rfl) (by kernel_rfl) (by kernel_rfl) (by kernel_rfl) (by kernel_rfl) rfl trivial (fun _ _ _ h => h) (fun w => r_field hl rfl fld69_12) rfl ?_
                                clear hl a; intro a hl
                                refine d_one (i := 19) (by kernel_rfl) rfl ?_
                                try clear hM
                                refine id (w_store hl hh trivial one2 rfl rfl (by repeat (first | exact find_head | apply find_tail)) (by first | (simp; done) | (simp; omega)) (by first | rfl | assumption | (apply Row.one; assumption)) (by first | (simp only [encM, setL, List.getElem?_cons_zero, List.getElem?_cons_succ, Value.cells, List.take_zero, List.take_succ_cons, List.take_nil, List.drop_zero, List.drop_succ_cons, List.drop_nil, List.length_cons, List.length_nil, List.cons_append, List.nil_append, List.append_nil, Nat.zero_add, Nat.add_zero, Nat.reduceAdd, Nat.reduceBEq, Nat.reduceEqDiff, Nat.ble, BEq.rfl, Bool.and_true, Bool.and_self, cond_true, beq_self_eq_true]; rfl) | (simp only [setL, List.getElem?_cons_zero, List.getElem?_cons_succ, Value.cells, List.take_zero, List.take_succ_cons, List.take_nil, List.drop_zero, List.drop_succ_cons, List.drop_nil, List.length_cons, List.length_nil, List.cons_append, List.nil_append, List.append_nil, Nat.zero_add, Nat.add_zero, Nat.reduceAdd, Nat.reduceBEq, Nat.reduceEqDiff, Nat.ble, BEq.rfl, Bool.and_true, Bool.and_self, cond_true, beq_self_eq_true]; rfl)) ?_)
                                clear hh w; intro w hh
                                refine d_step (fun h => absurd h (by decide)) ?_
                                refine d_done (by kernel_rfl) ?_
                                try clear hM
                                have hl2 := hl.add (t := 0) (hl.nil) rfl; clear hl; have hl := hl2; clear hl2
                                refine then_normal ?_
                                refine c_region ?_
                                refine wl (wl_val hl rfl trivial (r_move hl rfl) ?_)
                                clear hl a; intro a hl
                                refine wl (wl_val hl rfl trivial (r_move hl rfl) ?_)
                                clear hl a; intro a hl
                                refine wl (wl_val hl rfl trivial (r_move hl rfl) ?_)
                                clear hl a; intro a hl
                                refine wl (wl_val hl rfl trivial (r_nilCheck hl rfl) ?_)
                                clear hl a; intro a hl
                                refine wl (wl_val hl rfl trivial (r_field hl rfl fld69_14) ?_)
                                clear hl a; intro a hl
                                refine wl (w_store hl hh trivial one4 rfl rfl (by repeat (first | exact find_head | apply find_tail)) (by first | (simp; done) | (simp; omega)) (by first | rfl | assumption | (apply Row.one; assumption)) (by first | (simp only [encM, setL, List.getElem?_cons_zero, List.getElem?_cons_succ, Value.cells, List.take_zero, List.take_succ_cons, List.take_nil, List.drop_zero, List.drop_succ_cons, List.drop_nil, List.length_cons, List.length_nil, List.cons_append, List.nil_append, List.append_nil, Nat.zero_add, Nat.add_zero, Nat.reduceAdd, Nat.reduceBEq, Nat.reduceEqDiff, Nat.ble, BEq.rfl, Bool.and_true, Bool.and_self, cond_true, beq_self_eq_true]; rfl) | (simp only [setL, List.getElem?_cons_zero, List.getElem?_cons_succ, Value.cells, List.take_zero, List.take_succ_cons, List.take_nil, List.drop_zero, List.drop_succ_cons, List.drop_nil, List.length_cons, List.length_nil, List.cons_append, List.nil_append, List.append_nil, Nat.zero_add, Nat.add_zero, Nat.reduceAdd, Nat.reduceBEq, Nat.reduceEqDiff, Nat.ble, BEq.rfl, Bool.and_true, Bool.and_self, cond_true, beq_self_eq_true]; rfl)) ?_)
                                clear hh w; intro w hh
                                refine wl (wl_val hl rfl trivial (r_nilCheck hl rfl) ?_)
                                clear hl a; intro a hl
                                refine wl (wl_val hl rfl trivial (r_field hl rfl fld69_16) ?_)
                                clear hl a; intro a hl
                                refine wl (w_store hl hh trivial one4 rfl rfl (by repeat (first | exact find_head | apply find_tail)) (by first | (simp; done) | (simp; omega)) (by first | rfl | assumption | (apply Row.one; assumption)) (by first | (simp only [encM, setL, List.getElem?_cons_zero, List.getElem?_cons_succ, Value.cells, List.take_zero, List.take_succ_cons, List.take_nil, List.drop_zero, List.drop_succ_cons, List.drop_nil, List.length_cons, List.length_nil, List.cons_append, List.nil_append, List.append_nil, Nat.zero_add, Nat.add_zero, Nat.reduceAdd, Nat.reduceBEq, Nat.reduceEqDiff, Nat.ble, BEq.rfl, Bool.and_true, Bool.and_self, cond_true, beq_self_eq_true]; rfl) | (simp only [setL, List.getElem?_cons_zero, List.getElem?_cons_succ, Value.cells, List.take_zero, List.take_succ_cons, List.take_nil, List.drop_zero, List.drop_succ_cons, List.drop_nil, List.length_cons, List.length_nil, List.cons_append, List.nil_append, List.append_nil, Nat.zero_add, Nat.add_zero, Nat.reduceAdd, Nat.reduceBEq, Nat.reduceEqDiff, Nat.ble, BEq.rfl, Bool.and_true, Bool.and_self, cond_true, beq_self_eq_true]; rfl)) ?_)
                                clear hh w; intro w hh
                                refine wl (wl_val hl rfl trivial (r_nilCheck hl rfl) ?_)
                                clear hl a; intro a hl
                                refine wl (wl_val hl rfl trivial (r_field hl rfl fld69_7) ?_)
                                clear hl a; intro a hl
                                refine wl (w_store hl hh trivial one2 rfl rfl (by repeat (first | exact find_head | apply find_tail)) (by first | (simp; done) | (simp; omega)) (by first | rfl | assumption | (apply Row.one; assumption)) (by first | (simp only [encM, setL, List.getElem?_cons_zero, List.getElem?_cons_succ, Value.cells, List.take_zero, List.take_succ_cons, List.take_nil, List.drop_zero, List.drop_succ_cons, List.drop_nil, List.length_cons, List.length_nil, List.cons_append, List.nil_append, List.append_nil, Nat.zero_add, Nat.add_zero, Nat.reduceAdd, Nat.reduceBEq, Nat.reduceEqDiff, Nat.ble, BEq.rfl, Bool.and_true, Bool.and_self, cond_true, beq_self_eq_true]; rfl) | (simp only [setL, List.getElem?_cons_zero, List.getElem?_cons_succ, Value.cells, List.take_zero, List.take_succ_cons, List.take_nil, List.drop_zero, List.drop_succ_cons, List.drop_nil, List.length_cons, List.length_nil, List.cons_append, List.nil_append, List.append_nil, Nat.zero_add, Nat.add_zero, Nat.reduceAdd, Nat.reduceBEq, Nat.reduceEqDiff, Nat.ble, BEq.rfl, Bool.and_true, Bool.and_self, cond_true, beq_self_eq_true]; rfl)) ?_)
                                clear hh w; intro w hh
                                refine w_nil ?_
                                have hl2 := hl.nil; clear hl; have hl := hl2; clear hl2
                                replace hh : Has _ w0 [(mp, C (encM ({ halveM { s with dups := s.dups + 1 } with cwnd := bndP s ((halveM { s with dups := s.dups + 1 }).ssth + s.dupt * s.mss), phase := 1, recov := s.nxt, high := s.una, forced := true, resc := false, credit := 0 }) st sk bp) 69)] w := hh
                                refine blk_normal ?_
                                refine then_normal ?_
                                refine wp_ret ?_
                                refine then_ret ?_
                                refine f_ret0 (F' := [(mp, C (encM (ackM s sk ack dup lu) st sk bp) 69)]) hl hh rfl (by repeat (first | exact keeps_nil | apply keeps_cons (by repeat (first | exact find_head | apply find_tail)) (by first  | (exfalso; omega) | (exact absurd (hk.symm.trans (show sk = true by assumption)) (by decide)) | (exact blk_eqM (congrArg (fun z => encM z st sk bp) ((ack_dup (show ¬ (ack < s.una ∨ s.nxt < ack) by omega) (by omega) (by assumption) (by omega)).trans (dup_1 (by assumption) hk)).symm)) | (exact blk_eqM (congrArg (fun z => encM z st sk bp) ((ack_dup (show ¬ (ack < s.una ∨ s.nxt < ack) by omega) (by omega) (by assumption) (by omega)).trans (dup_2 (by omega) (by omega))).symm)) | (exact blk_eqM (congrArg (fun z => encM z st sk bp) ((ack_dup (show ¬ (ack < s.una ∨ s.nxt < ack) by omega) (by omega) (by assumption) (by omega)).trans (dup_3n hk (by assumption) (by omega) (by omega))).symm)) | (exact blk_eqM (congrArg (fun z => encM z st sk bp) ((ack_dup (show ¬ (ack < s.una ∨ s.nxt < ack) by omega) (by omega) (by assumption) (by omega)).trans (dup_4 (by assumption) (sig_no hk (by omega)))).symm)) | rfl) | exact keeps_self | apply keeps_mv)) ?_
                                exact ⟨rfl, rfl⟩
                            · intro hc9
                              try simp only [decide_eq_true_eq, decide_eq_false_iff_not, Bool.not_eq_true', Bool.not_eq_false', Bool.not_eq_true, Bool.not_eq_false, Bool.and_eq_true, Bool.or_eq_true, Bool.and_eq_false_iff, Bool.or_eq_false_iff, Bool.not_not, ne_eq, Int.not_lt, Int.not_le, Decidable.not_not, beq_iff_eq, bne_iff_ne] at hc9
                              exfalso; first | contradiction | omega | (simp_all; done)
                          · intro hc8
                            try simp only [decide_eq_true_eq, decide_eq_false_iff_not, Bool.not_eq_true', Bool.not_eq_false', Bool.not_eq_true, Bool.not_eq_false, Bool.and_eq_true, Bool.or_eq_true, Bool.and_eq_false_iff, Bool.or_eq_false_iff, Bool.not_not, ne_eq, Int.not_lt, Int.not_le, Decidable.not_not, beq_iff_eq, bne_iff_ne] at hc8
                            refine wp_skip ?_
                            refine blk_normal ?_
                            refine then_normal ?_
                            refine wp_ret ?_
                            refine then_ret ?_
                            refine f_ret0 (F' := [(mp, C (encM (ackM s sk ack dup lu) st sk bp) 69)]) hl hh rfl (by repeat (first | exact keeps_nil | apply keeps_cons (by repeat (first | exact find_head | apply find_tail)) (by first  | (exfalso; omega) | (exact absurd (hk.symm.trans (show sk = true by assumption)) (by decide)) | (exact blk_eqM (congrArg (fun z => encM z st sk bp) ((ack_dup (show ¬ (ack < s.una ∨ s.nxt < ack) by omega) (by omega) (by assumption) (by omega)).trans (dup_1 (by assumption) hk)).symm)) | (exact blk_eqM (congrArg (fun z => encM z st sk bp) ((ack_dup (show ¬ (ack < s.una ∨ s.nxt < ack) by omega) (by omega) (by assumption) (by omega)).trans (dup_2 (by omega) (by omega))).symm)) | (exact blk_eqM (congrArg (fun z => encM z st sk bp) ((ack_dup (show ¬ (ack < s.una ∨ s.nxt < ack) by omega) (by omega) (by assumption) (by omega)).trans (dup_3n hk (by assumption) (by omega) (by omega))).symm)) | (exact blk_eqM (congrArg (fun z => encM z st sk bp) ((ack_dup (show ¬ (ack < s.una ∨ s.nxt < ack) by omega) (by omega) (by assumption) (by omega)).trans (dup_4 (by assumption) (sig_no hk (by omega)))).symm)) | rfl) | exact keeps_self | apply keeps_mv)) ?_
                            exact ⟨rfl, rfl⟩
                        · intro hc7
                          try simp only [decide_eq_true_eq, decide_eq_false_iff_not, Bool.not_eq_true', Bool.not_eq_false', Bool.not_eq_true, Bool.not_eq_false, Bool.and_eq_true, Bool.or_eq_true, Bool.and_eq_false_iff, Bool.or_eq_false_iff, Bool.not_not, ne_eq, Int.not_lt, Int.not_le, Decidable.not_not, beq_iff_eq, bne_iff_ne] at hc7
                          refine c_draw [(mp, C (encM ({ s with dups := s.dups + 1 }) st sk bp) 69)] [15, 16, 17, 18] mixed hh ?_
                          clear hh w; intro w hh
                          have hM : Mem [(mp, C (encM ({ s with dups := s.dups + 1 }) st sk bp) 69)] w := (by (repeat (first | exact Mem.nil | refine Mem.cons hh.mem (by (repeat (first | exact find_head | apply find_tail)); done) ?_ | refine Mem.consR hh (by assumption) (by simp) ?_ | fail)); done)
                          refine d_take (i := 0) hl rfl (by kernel_rfl) (by kernel_rfl) (by kernel_rfl) (by kernel_rfl) (by kernel_rfl) rfl trivial (fun _ _ _ h => h) hM (fun w hC => r_move hl rfl) rfl ?_
                          clear hl a; intro a hl
                          refine d_take (i := 1) hl rfl (by kernel_rfl) (by kernel_rfl) (by kernel_rfl) (by kernel_rfl) (by kernel_rfl) rfl trivial (fun _ _ _ h => h) hM (fun w hC => r_nilCheck hl rfl) rfl ?_
                          clear hl a; intro a hl
                          refine d_take (i := 2) hl rfl (by kernel_rfl) (by kernel_rfl) (by kernel_rfl) (by kernel_rfl) (by kernel_rfl) rfl trivial (fun _ _ _ h => h) hM (fun w hC => r_field hl rfl fld69_3) rfl ?_
                          clear hl a; intro a hl
                          refine d_take (i := 3) hl rfl (by kernel_rfl) (by kernel_rfl) (by kernel_rfl) (by kernel_rfl) (by kernel_rfl) rfl trivial (fun _ _ _ h => h) hM (fun w hC => r_loadC hl rfl one4 hC (by repeat (first | exact find_head | apply find_tail)) (by first | rfl)) rfl ?_
                          clear hl a; intro a hl
                          refine d_take (i := 4) hl rfl (by kernel_rfl) (by kernel_rfl) (by kernel_rfl) (by kernel_rfl) (by kernel_rfl) rfl trivial (fun _ _ _ h => h) hM (fun w hC => r_move hl rfl) rfl ?_
                          clear hl a; intro a hl
                          refine sl_split (t := 150) hl rfl ?_ ?_
                          · intro hg6; clear hl; intro hl
                            try simp only [decide_eq_true_eq, decide_eq_false_iff_not, Bool.not_eq_true', Bool.not_eq_false', Bool.not_eq_true, Bool.not_eq_false, Bool.and_eq_true, Bool.or_eq_true, Bool.and_eq_false_iff, Bool.or_eq_false_iff, Bool.not_not, ne_eq, Int.not_lt, Int.not_le, Decidable.not_not, beq_iff_eq, bne_iff_ne] at hg6
                            exfalso; first | contradiction | omega | (simp_all; done)
                          · intro hg6; clear hl; intro hl
                            try simp only [decide_eq_true_eq, decide_eq_false_iff_not, Bool.not_eq_true', Bool.not_eq_false', Bool.not_eq_true, Bool.not_eq_false, Bool.and_eq_true, Bool.or_eq_true, Bool.and_eq_false_iff, Bool.or_eq_false_iff, Bool.not_not, ne_eq, Int.not_lt, Int.not_le, Decidable.not_not, beq_iff_eq, bne_iff_ne] at hg6
                            refine d_skip (i := 5) hl rfl (by kernel_rfl) (by kernel_rfl) (by kernel_rfl) (by kernel_rfl) (by kernel_rfl) rfl ⟨_, _, rfl, rfl, rfl⟩ (fun _ _ _ h => h) hM ?_
                            clear hl a; intro a hl
                            refine d_skip (i := 6) hl rfl (by kernel_rfl) (by kernel_rfl) (by kernel_rfl) (by kernel_rfl) (by kernel_rfl) rfl ⟨_, _, rfl, rfl, rfl⟩ (fun _ _ _ h => h) hM ?_
                            clear hl a; intro a hl
                            refine d_skipU (i := 7) hl rfl (by kernel_rfl) (by kernel_rfl) (by kernel_rfl) (by kernel_rfl) (by kernel_rfl) rfl ⟨_, _, rfl, rfl, rfl⟩ (fun _ _ _ h => h) hM ?_
                            clear hl a; intro a hl
                            refine d_skipU (i := 8) hl rfl (by kernel_rfl) (by kernel_rfl) (by kernel_rfl) (by kernel_rfl) (by kernel_rfl) rfl ⟨_, _, rfl, rfl, rfl⟩ (fun _ _ _ h => h) hM ?_
                            clear hl a; intro a hl
                            refine d_skipU (i := 9) hl rfl (by kernel_rfl) (by kernel_rfl) (by kernel_rfl) (by kernel_rfl) (by kernel_rfl) rfl ⟨_, _, rfl, rfl, rfl⟩ (fun _ _ _ h => h) hM ?_
                            clear hl a; intro a hl
                            refine d_skipU (i := 10) hl rfl (by kernel_rfl) (by kernel_rfl) (by kernel_rfl) (by kernel_rfl) (by kernel_rfl) rfl ⟨_, _, rfl, rfl, rfl⟩ (fun _ _ _ h => h) hM ?_
                            clear hl a; intro a hl
                            refine d_skipU (i := 11) hl rfl (by kernel_rfl) (by kernel_rfl) (by kernel_rfl) (by kernel_rfl) (by kernel_rfl) rfl ⟨_, _, rfl, rfl, rfl⟩ (fun _ _ _ h => h) hM ?_
                            clear hl a; intro a hl
                            refine d_skipU (i := 12) hl rfl (by kernel_rfl) (by kernel_rfl) (by kernel_rfl) (by kernel_rfl) (by kernel_rfl) rfl ⟨_, _, rfl, rfl, rfl⟩ (fun _ _ _ h => h) hM ?_
                            clear hl a; intro a hl
                            refine d_skipU (i := 13) hl rfl (by kernel_rfl) (by kernel_rfl) (by kernel_rfl) (by kernel_rfl) (by kernel_rfl) rfl ⟨_, _, rfl, rfl, rfl⟩ (fun _ _ _ h => h) hM ?_
                            clear hl a; intro a hl
                            refine d_skipU (i := 14) hl rfl (by kernel_rfl) (by kernel_rfl) (by kernel_rfl) (by kernel_rfl) (by kernel_rfl) rfl ⟨_, _, rfl, rfl, rfl⟩ (fun _ _ _ h => h) hM ?_
                            clear hl a; intro a hl
                            refine d_skipU (i := 15) hl rfl (by kernel_rfl) (by kernel_rfl) (by kernel_rfl) (by kernel_rfl) (by kernel_rfl) rfl ⟨_, _, rfl, rfl, rfl⟩ (fun _ _ _ h => h) hM ?_
                            clear hl a; intro a hl
                            refine d_skip (i := 16) hl rfl (by kernel_rfl) (by kernel_rfl) (by kernel_rfl) (by kernel_rfl) (by kernel_rfl) rfl ⟨_, _, rfl, rfl, rfl⟩ (fun _ _ _ h => h) hM ?_
                            clear hl a; intro a hl
                            refine d_takeL (i := 17) hl rfl (by kernel_rfl) (by kernel_rfl) (by kernel_rfl) (by kernel_rfl) (by kernel_rfl) rfl trivial (fun _ _ _ h => h) (fun w => r_pickF hl rfl rfl) rfl ?_
                            clear hl a; intro a hl
                            refine d_takeL (i := 18) hl rfl (by kernel_rfl) (by kernel_rfl) (by kernel_rfl) (by kernel_rfl) (by kernel_rfl) rfl trivial (fun _ _ _ h => h) (fun w => r_assign hl rfl) rfl ?_
                            clear hl a; intro a hl
                            refine d_done (by kernel_rfl) ?_
                            try clear hM
                            have hl2 := hl.add (t := 0) (hl.add (t := 126) (hl.nil) rfl) rfl; clear hl; have hl := hl2; clear hl2
                            refine then_normal ?_
                            refine c_condF hl rfl ?_
                            refine wp_skip ?_
                            refine blk_normal ?_
                            refine then_normal ?_
                            refine wp_ret ?_
                            refine then_ret ?_
                            refine f_ret0 (F' := [(mp, C (encM (ackM s sk ack dup lu) st sk bp) 69)]) hl hh rfl (by repeat (first | exact keeps_nil | apply keeps_cons (by repeat (first | exact find_head | apply find_tail)) (by first  | (exfalso; omega) | (exact absurd (hk.symm.trans (show sk = true by assumption)) (by decide)) | (exact blk_eqM (congrArg (fun z => encM z st sk bp) ((ack_dup (show ¬ (ack < s.una ∨ s.nxt < ack) by omega) (by omega) (by assumption) (by omega)).trans (dup_1 (by assumption) hk)).symm)) | (exact blk_eqM (congrArg (fun z => encM z st sk bp) ((ack_dup (show ¬ (ack < s.una ∨ s.nxt < ack) by omega) (by omega) (by assumption) (by omega)).trans (dup_2 (by omega) (by omega))).symm)) | (exact blk_eqM (congrArg (fun z => encM z st sk bp) ((ack_dup (show ¬ (ack < s.una ∨ s.nxt < ack) by omega) (by omega) (by assumption) (by omega)).trans (dup_3n hk (by assumption) (by omega) (by omega))).symm)) | (exact blk_eqM (congrArg (fun z => encM z st sk bp) ((ack_dup (show ¬ (ack < s.una ∨ s.nxt < ack) by omega) (by omega) (by assumption) (by omega)).trans (dup_4 (by assumption) (sig_no hk (by omega)))).symm)) | rfl) | exact keeps_self | apply keeps_mv)) ?_
                            exact ⟨rfl, rfl⟩
                      · intro hg5; clear hl; intro hl
                        try simp only [decide_eq_true_eq, decide_eq_false_iff_not, Bool.not_eq_true', Bool.not_eq_false', Bool.not_eq_true, Bool.not_eq_false, Bool.and_eq_true, Bool.or_eq_true, Bool.and_eq_false_iff, Bool.or_eq_false_iff, Bool.not_not, ne_eq, Int.not_lt, Int.not_le, Decidable.not_not, beq_iff_eq, bne_iff_ne] at hg5
                        refine d_skip (i := 9) hl rfl (by kernel_rfl) (by kernel_rfl) (by kernel_rfl) (by kernel_rfl) (by kernel_rfl) rfl ⟨_, _, rfl, rfl, rfl⟩ (fun _ _ _ h => h) hM ?_
                        clear hl a; intro a hl
                        refine d_skip (i := 10) hl rfl (by kernel_rfl) (by kernel_rfl) (by kernel_rfl) (by kernel_rfl) (by kernel_rfl) rfl ⟨_, _, rfl, rfl, rfl⟩ (fun _ _ _ h => h) hM ?_
                        clear hl a; intro a hl
                        refine d_skip (i := 11) hl rfl (by kernel_rfl) (by kernel_rfl) (by kernel_rfl) (by kernel_rfl) (by kernel_rfl) rfl ⟨_, _, rfl, rfl, rfl⟩ (fun _ _ _ h => h) hM ?_
                        clear hl a; intro a hl
                        refine d_skip (i := 12) hl rfl (by kernel_rfl) (by kernel_rfl) (by kernel_rfl) (by kernel_rfl) (by kernel_rfl) rfl ⟨_, _, rfl, rfl, rfl⟩ (fun _ _ _ h => h) hM ?_
                        clear hl a; intro a hl
                        refine d_skip (i := 13) hl rfl (by kernel_rfl) (by kernel_rfl) (by kernel_rfl) (by kernel_rfl) (by kernel_rfl) rfl ⟨_, _, rfl, rfl, rfl⟩ (fun _ _ _ h => h) hM ?_
                        clear hl a; intro a hl
                        refine d_skip (i := 14) hl rfl (by kernel_rfl) (by kernel_rfl) (by kernel_rfl) (by kernel_rfl) (by kernel_rfl) rfl ⟨_, _, rfl, rfl, rfl⟩ (fun _ _ _ h => h) hM ?_
                        clear hl a; intro a hl
                        refine d_skip (i := 15) hl rfl (by kernel_rfl) (by kernel_rfl) (by kernel_rfl) (by kernel_rfl) (by kernel_rfl) rfl ⟨_, _, rfl, rfl, rfl⟩ (fun _ _ _ h => h) hM ?_
                        clear hl a; intro a hl
                        refine d_skip (i := 16) hl rfl (by kernel_rfl) (by kernel_rfl) (by kernel_rfl) (by kernel_rfl) (by kernel_rfl) rfl ⟨_, _, rfl, rfl, rfl⟩ (fun _ _ _ h => h) hM ?_
                        clear hl a; intro a hl
                        refine d_skip (i := 17) hl rfl (by kernel_rfl) (by kernel_rfl) (by kernel_rfl) (by kernel_rfl) (by kernel_rfl) rfl ⟨_, _, rfl, rfl, rfl⟩ (fun _ _ _ h => h) hM ?_
                        clear hl a; intro a hl
                        refine d_takeL (i := 18) hl rfl (by kernel_rfl) (by kernel_rfl) (by kernel_rfl) (by kernel_rfl) (by kernel_rfl) rfl trivial (fun _ _ _ h => h) (fun w => r_pickF hl rfl rfl) rfl ?_
                        clear hl a; intro a hl
                        refine d_takeL (i := 19) hl rfl (by kernel_rfl) (by kernel_rfl) (by kernel_rfl) (by kernel_rfl) (by kernel_rfl) rfl trivial (fun _ _ _ h => h) (fun w => r_assign hl rfl) rfl ?_
                        clear hl a; intro a hl
                        refine d_done (by kernel_rfl) ?_
                        try clear hM
                        have hl2 := hl.add (t := 0) (hl.add (t := 11) (hl.add (t := 126) (hl.nil) rfl) rfl) rfl; clear hl; have hl := hl2; clear hl2
                        refine then_normal ?_
                        refine c_condF hl rfl ?_
                        refine c_draw [(mp, C (encM ({ s with dups := s.dups + 1 }) st sk bp) 69)] [15, 16, 17, 18] mixed hh ?_
                        clear hh w; intro w hh
                        have hM : Mem [(mp, C (encM ({ s with dups := s.dups + 1 }) st sk bp) 69)] w := (by (repeat (first | exact Mem.nil | refine Mem.cons hh.mem (by (repeat (first | exact find_head | apply find_tail)); done) ?_ | refine Mem.consR hh (by assumption) (by simp) ?_ | fail)); done)
                        refine d_take (i := 0) hl rfl (by kernel_rfl) (by kernel_rfl) (by kernel_rfl) (by kernel_rfl) (by kernel_rfl) rfl trivial (fun _ _ _ h => h) hM (fun w hC => r_move hl rfl) rfl ?_
                        clear hl a; intro a hl
                        refine d_take (i := 1) hl rfl (by kernel_rfl) (by kernel_rfl) (by kernel_rfl) (by kernel_rfl) (by kernel_rfl) rfl trivial (fun _ _ _ h => h) hM (fun w hC => r_nilCheck hl rfl) rfl ?_
                        clear hl a; intro a hl
                        refine d_take (i := 2) hl rfl (by kernel_rfl) (by kernel_rfl) (by kernel_rfl) (by kernel_rfl) (by kernel_rfl) rfl trivial (fun _ _ _ h => h) hM (fun w hC => r_field hl rfl fld69_3) rfl ?_
                        clear hl a; intro a hl
                        refine d_take (i := 3) hl rfl (by kernel_rfl) (by kernel_rfl) (by kernel_rfl) (by kernel_rfl) (by kernel_rfl) rfl trivial (fun _ _ _ h => h) hM (fun w hC => r_loadC hl rfl one4 hC (by repeat (first | exact find_head | apply find_tail)) (by first | rfl)) rfl ?_
                        clear hl a; intro a hl
                        refine d_take (i := 4) hl rfl (by kernel_rfl) (by kernel_rfl) (by kernel_rfl) (by kernel_rfl) (by kernel_rfl) rfl trivial (fun _ _ _ h => h) hM (fun w hC => r_move hl rfl) rfl ?_
                        clear hl a; intro a hl
                        refine sl_split (t := 150) hl rfl ?_ ?_
                        · intro hg7; clear hl; intro hl
                          try simp only [decide_eq_true_eq, decide_eq_false_iff_not, Bool.not_eq_true', Bool.not_eq_false', Bool.not_eq_true, Bool.not_eq_false, Bool.and_eq_true, Bool.or_eq_true, Bool.and_eq_false_iff, Bool.or_eq_false_iff, Bool.not_not, ne_eq, Int.not_lt, Int.not_le, Decidable.not_not, beq_iff_eq, bne_iff_ne] at hg7
                          exfalso; first | contradiction | omega | (simp_all; done)
                        · intro hg7; clear hl; intro hl
                          try simp only [decide_eq_true_eq, decide_eq_false_iff_not, Bool.not_eq_true', Bool.not_eq_false', Bool.not_eq_true, Bool.not_eq_false, Bool.and_eq_true, Bool.or_eq_true, Bool.and_eq_false_iff, Bool.or_eq_false_iff, Bool.not_not, ne_eq, Int.not_lt, Int.not_le, Decidable.not_not, beq_iff_eq, bne_iff_ne] at hg7
                          refine d_skip (i := 5) hl rfl (by kernel_rfl) (by kernel_rfl) (by kernel_rfl) (by kernel_rfl) (by kernel_rfl) rfl ⟨_, _, rfl, rfl, rfl⟩ (fun _ _ _ h => h) hM ?_
                          clear hl a; intro a hl
                          refine d_skip (i := 6) hl rfl (by kernel_rfl) (by kernel_rfl) (by kernel_rfl) (by kernel_rfl) (by kernel_rfl) rfl ⟨_, _, rfl, rfl, rfl⟩ (fun _ _ _ h => h) hM ?_
                          clear hl a; intro a hl
                          refine d_skipU (i := 7) hl rfl (by kernel_rfl) (by kernel_rfl) (by kernel_rfl) (by kernel_rfl) (by kernel_rfl) rfl ⟨_, _, rfl, rfl, rfl⟩ (fun _ _ _ h => h) hM ?_
                          clear hl a; intro a hl
                          refine d_skipU (i := 8) hl rfl (by kernel_rfl) (by kernel_rfl) (by kernel_rfl) (by kernel_rfl) (by kernel_rfl) rfl ⟨_, _, rfl, rfl, rfl⟩ (fun _ _ _ h => h) hM ?_
                          clear hl a; intro a hl
                          refine d_skipU (i := 9) hl rfl (by kernel_rfl) (by kernel_rfl) (by kernel_rfl) (by kernel_rfl) (by kernel_rfl) rfl ⟨_, _, rfl, rfl, rfl⟩ (fun _ _ _ h => h) hM ?_
                          clear hl a; intro a hl
                          refine d_skipU (i := 10) hl rfl (by kernel_rfl) (by kernel_rfl) (by kernel_rfl) (by kernel_rfl) (by kernel_rfl) rfl ⟨_, _, rfl, rfl, rfl⟩ (fun _ _ _ h => h) hM ?_
                          clear hl a; intro a hl
                          refine d_skipU (i := 11) hl rfl (by kernel_rfl) (by kernel_rfl) (by kernel_rfl) (by kernel_rfl) (by kernel_rfl) rfl ⟨_, _, rfl, rfl, rfl⟩ (fun _ _ _ h => h) hM ?_
                          clear hl a; intro a hl
                          refine d_skipU (i := 12) hl rfl (by kernel_rfl) (by kernel_rfl) (by kernel_rfl) (by kernel_rfl) (by kernel_rfl) rfl ⟨_, _, rfl, rfl, rfl⟩ (fun _ _ _ h => h) hM ?_
                          clear hl a; intro a hl
                          refine d_skipU (i := 13) hl rfl (by kernel_rfl) (by kernel_rfl) (by kernel_rfl) (by kernel_rfl) (by kernel_rfl) rfl ⟨_, _, rfl, rfl, rfl⟩ (fun _ _ _ h => h) hM ?_
                          clear hl a; intro a hl
                          refine d_skipU (i := 14) hl rfl (by kernel_rfl) (by kernel_rfl) (by kernel_rfl) (by kernel_rfl) (by kernel_rfl) rfl ⟨_, _, rfl, rfl, rfl⟩ (fun _ _ _ h => h) hM ?_
                          clear hl a; intro a hl
                          refine d_skipU (i := 15) hl rfl (by kernel_rfl) (by kernel_rfl) (by kernel_rfl) (by kernel_rfl) (by kernel_rfl) rfl ⟨_, _, rfl, rfl, rfl⟩ (fun _ _ _ h => h) hM ?_
                          clear hl a; intro a hl
                          refine d_skip (i := 16) hl rfl (by kernel_rfl) (by kernel_rfl) (by kernel_rfl) (by kernel_rfl) (by kernel_rfl) rfl ⟨_, _, rfl, rfl, rfl⟩ (fun _ _ _ h => h) hM ?_
                          clear hl a; intro a hl
                          refine d_takeL (i := 17) hl rfl (by kernel_rfl) (by kernel_rfl) (by kernel_rfl) (by kernel_rfl) (by kernel_rfl) rfl trivial (fun _ _ _ h => h) (fun w => r_pickF hl rfl rfl) rfl ?_
                          clear hl a; intro a hl
                          refine d_takeL (i := 18) hl rfl (by kernel_rfl) (by kernel_rfl) (by kernel_rfl) (by kernel_rfl) (by kernel_rfl) rfl trivial (fun _ _ _ h => h) (fun w => r_assign hl rfl) rfl ?_
                          clear hl a; intro a hl
                          refine d_done (by kernel_rfl) ?_
                          try clear hM
                          have hl2 := hl.add (t := 0) (hl.add (t := 126) (hl.nil) rfl) rfl; clear hl; have hl := hl2; clear hl2
                          refine then_normal ?_
                          refine c_condF hl rfl ?_
                          refine wp_skip ?_
                          refine blk_normal ?_
                          refine then_normal ?_
                          refine wp_ret ?_
                          refine then_ret ?_
                          refine f_ret0 (F' := [(mp, C (encM (ackM s sk ack dup lu) st sk bp) 69)]) hl hh rfl (by repeat (first | exact keeps_nil | apply keeps_cons (by repeat (first | exact find_head | apply find_tail)) (by first  | (exfalso; omega) | (exact absurd (hk.symm.trans (show sk = true by assumption)) (by decide)) | (exact blk_eqM (congrArg (fun z => encM z st sk bp) ((ack_dup (show ¬ (ack < s.una ∨ s.nxt < ack) by omega) (by omega) (by assumption) (by omega)).trans (dup_1 (by assumption) hk)).symm)) | (exact blk_eqM (congrArg (fun z => encM z st sk bp) ((ack_dup (show ¬ (ack < s.una ∨ s.nxt < ack) by omega) (by omega) (by assumption) (by omega)).trans (dup_2 (by omega) (by omega))).symm)) | (exact blk_eqM (congrArg (fun z => encM z st sk bp) ((ack_dup (show ¬ (ack < s.una ∨ s.nxt < ack) by omega) (by omega) (by assumption) (by omega)).trans (dup_3n hk (by assumption) (by omega) (by omega))).symm)) | (exact blk_eqM (congrArg (fun z => encM z st sk bp) ((ack_dup (show ¬ (ack < s.una ∨ s.nxt < ack) by omega) (by omega) (by assumption) (by omega)).trans (dup_4 (by assumption) (sig_no hk (by omega)))).symm)) | rfl) | exact keeps_self | apply keeps_mv)) ?_
                          exact ⟨rfl, rfl⟩
                    · intro hg4; clear hl; intro hl
                      try simp only [decide_eq_true_eq, decide_eq_false_iff_not, Bool.not_eq_true', Bool.not_eq_false', Bool.not_eq_true, Bool.not_eq_false, Bool.and_eq_true, Bool.or_eq_true, Bool.and_eq_false_iff, Bool.or_eq_false_iff, Bool.not_not, ne_eq, Int.not_lt, Int.not_le, Decidable.not_not, beq_iff_eq, bne_iff_ne] at hg4
                      exfalso; first | contradiction | omega | (simp_all; done)
              · intro hg3; clear hl; intro hl
                try simp only [decide_eq_true_eq, decide_eq_false_iff_not, Bool.not_eq_true', Bool.not_eq_false', Bool.not_eq_true, Bool.not_eq_false, Bool.and_eq_true, Bool.or_eq_true, Bool.and_eq_false_iff, Bool.or_eq_false_iff, Bool.not_not, ne_eq, Int.not_lt, Int.not_le, Decidable.not_not, beq_iff_eq, bne_iff_ne] at hg3
                refine wl (wl_skip hl rfl ⟨_, _, rfl, rfl, rfl⟩ ?_)
                clear hl a; intro a hl
                refine wl (wl_skip hl rfl ⟨_, _, rfl, rfl, rfl⟩ ?_)
                clear hl a; intro a hl
                refine wl (wl_skip hl rfl ⟨_, _, rfl, rfl, rfl⟩ ?_)
                clear hl a; intro a hl
                refine wl (wl_skip hl rfl ⟨_, _, rfl, rfl, rfl⟩ ?_)
                clear hl a; intro a hl
                refine wl (wl_skip hl rfl ⟨_, _, rfl, rfl, rfl⟩ ?_)
                clear hl a; intro a hl
                refine wl (wl_val hl rfl trivial (r_pickF hl rfl rfl) ?_)
                clear hl a; intro a hl
                refine wl (wl_val hl rfl trivial (r_assign hl rfl) ?_)
                clear hl a; intro a hl
                refine w_nil ?_
                have hl2 := hl.add (t := 0) (hl.add (t := 11) (hl.add (t := 93) (hl.nil) rfl) rfl) rfl; clear hl; have hl := hl2; clear hl2
                refine then_normal ?_
                refine c_condF hl rfl ?_
                refine c_seq ?_
                refine c_region ?_
                refine wl (wl_val hl rfl trivial (r_move hl rfl) ?_)
                clear hl a; intro a hl
                refine wl (wl_val hl rfl trivial (r_nilCheck hl rfl) ?_)
                clear hl a; intro a hl
                refine wl (wl_val hl rfl trivial (r_field hl rfl fld69_10) ?_)
                clear hl a; intro a hl
                refine wl (w_load hl hh rfl trivial one59 rfl (by repeat (first | exact find_head | apply find_tail)) (by first | rfl) ?_)
                clear hl a; intro a hl
                refine wl (wl_val hl rfl trivial (r_neq hl rfl rfl) ?_)
                clear hl a; intro a hl
                refine wl (wl_val hl rfl trivial (r_assign hl rfl) ?_)
                clear hl a; intro a hl
                refine w_nil ?_
                have hl2 := hl.add (t := 0) (hl.add (t := 11) (hl.add (t := 120) (hl.nil) rfl) rfl) rfl; clear hl; have hl := hl2; clear hl2
                refine then_normal ?_
                refine c_cond hl rfl ?_ ?_
                · intro hc6
                  try simp only [decide_eq_true_eq, decide_eq_false_iff_not, Bool.not_eq_true', Bool.not_eq_false', Bool.not_eq_true, Bool.not_eq_false, Bool.and_eq_true, Bool.or_eq_true, Bool.and_eq_false_iff, Bool.or_eq_false_iff, Bool.not_not, ne_eq, Int.not_lt, Int.not_le, Decidable.not_not, beq_iff_eq, bne_iff_ne] at hc6
                  refine wp_skip ?_
                  refine blk_normal ?_
                  refine then_normal ?_
                  refine wp_ret ?_
                  refine then_ret ?_
                  refine f_ret0 (F' := [(mp, C (encM (ackM s sk ack dup lu) st sk bp) 69)]) hl hh rfl (by repeat (first | exact keeps_nil | apply keeps_cons (by repeat (first | exact find_head | apply find_tail)) (by first  | (exfalso; omega) | (exact absurd (hk.symm.trans (show sk = true by assumption)) (by decide)) | (exact blk_eqM (congrArg (fun z => encM z st sk bp) ((ack_dup (show ¬ (ack < s.una ∨ s.nxt < ack) by omega) (by omega) (by assumption) (by omega)).trans (dup_1 (by assumption) hk)).symm)) | (exact blk_eqM (congrArg (fun z => encM z st sk bp) ((ack_dup (show ¬ (ack < s.una ∨ s.nxt < ack) by omega) (by omega) (by assumption) (by omega)).trans (dup_2 (by omega) (by omega))).symm)) | (exact blk_eqM (congrArg (fun z => encM z st sk bp) ((ack_dup (show ¬ (ack < s.una ∨ s.nxt < ack) by omega) (by omega) (by assumption) (by omega)).trans (dup_3n hk (by assumption) (by omega) (by omega))).symm)) | (exact blk_eqM (congrArg (fun z => encM z st sk bp) ((ack_dup (show ¬ (ack < s.una ∨ s.nxt < ack) by omega) (by omega) (by assumption) (by omega)).trans (dup_4 (by assumption) (sig_no hk (by omega)))).symm)) | rfl) | exact keeps_self | apply keeps_mv)) ?_
                  exact ⟨rfl, rfl⟩
                · intro hc6
                  try simp only [decide_eq_true_eq, decide_eq_false_iff_not, Bool.not_eq_true', Bool.not_eq_false', Bool.not_eq_true, Bool.not_eq_false, Bool.and_eq_true, Bool.or_eq_true, Bool.and_eq_false_iff, Bool.or_eq_false_iff, Bool.not_not, ne_eq, Int.not_lt, Int.not_le, Decidable.not_not, beq_iff_eq, bne_iff_ne] at hc6
                  refine c_seq ?_
                  refine c_seq ?_
                  refine c_draw [(mp, C (encM ({ s with dups := s.dups + 1 }) st sk bp) 69)] [17, 18, 19] mixed hh ?_
                  clear hh w; intro w hh
                  have hM : Mem [(mp, C (encM ({ s with dups := s.dups + 1 }) st sk bp) 69)] w := (by (repeat (first | exact Mem.nil | refine Mem.cons hh.mem (by (repeat (first | exact find_head | apply find_tail)); done) ?_ | refine Mem.consR hh (by assumption) (by simp) ?_ | fail)); done)
                  refine d_take (i := 0) hl rfl (by kernel_rfl) (by kernel_rfl) (by kernel_rfl) (by kernel_rfl) (by kernel_rfl) rfl trivial (fun _ _ _ h => h) hM (fun w hC => r_move hl rfl) rfl ?_
                  clear hl a; intro a hl
                  refine d_take (i := 1) hl rfl (by kernel_rfl) (by kernel_rfl) (by kernel_rfl) (by kernel_rfl) (by kernel_rfl) rfl trivial (fun _ _ _ h => h) hM (fun w hC => r_nilCheck hl rfl) rfl ?_
                  clear hl a; intro a hl
                  refine d_take (i := 2) hl rfl (by kernel_rfl) (by kernel_rfl) (by kernel_rfl) (by kernel_rfl) (by kernel_rfl) rfl trivial (fun _ _ _ h => h) hM (fun w hC => r_field hl rfl fld69_3) rfl ?_
                  clear hl a; intro a hl
                  refine d_take (i := 3) hl rfl (by kernel_rfl) (by kernel_rfl) (by kernel_rfl) (by kernel_rfl) (by kernel_rfl) rfl trivial (fun _ _ _ h => h) hM (fun w hC => r_loadC hl rfl one4 hC (by repeat (first | exact find_head | apply find_tail)) (by first | rfl)) rfl ?_
                  clear hl a; intro a hl
                  refine d_take (i := 4) hl rfl (by kernel_rfl) (by kernel_rfl) (by kernel_rfl) (by kernel_rfl) (by kernel_rfl) rfl trivial (fun _ _ _ h => h) hM (fun w hC => r_not hl rfl) rfl ?_
                  clear hl a; intro a hl
                  refine d_take (i := 5) hl rfl (by kernel_rfl) (by kernel_rfl) (by kernel_rfl) (by kernel_rfl) (by kernel_rfl) rfl trivial (fun _ _ _ h => h) hM (fun w hC => r_move hl rfl) rfl ?_
                  clear hl a; intro a hl
                  refine sl_split (t := 132) hl rfl ?_ ?_
                  · intro hg8; clear hl; intro hl
                    try simp only [decide_eq_true_eq, decide_eq_false_iff_not, Bool.not_eq_true', Bool.not_eq_false', Bool.not_eq_true, Bool.not_eq_false, Bool.and_eq_true, Bool.or_eq_true, Bool.and_eq_false_iff, Bool.or_eq_false_iff, Bool.not_not, ne_eq, Int.not_lt, Int.not_le, Decidable.not_not, beq_iff_eq, bne_iff_ne] at hg8
                    refine d_take (i := 6) hl rfl (by kernel_rfl) (by kernel_rfl) (by kernel_rfl) (by kernel_rfl) (by kernel_rfl) rfl ⟨_, _, rfl, rfl, rfl⟩ (fun _ _ _ h => h) hM (fun w hC => r_move hl rfl) rfl ?_
                    clear hl a; intro a hl
                    refine d_take (i := 7) hl rfl (by kernel_rfl) (by kernel_rfl) (by kernel_rfl) (by kernel_rfl) (by kernel_rfl) rfl trivial (fun _ _ _ h => h) hM (fun w hC => r_pickT hl rfl rfl) rfl ?_
                    clear hl a; intro a hl
                    refine d_take (i := 8) hl rfl (by kernel_rfl) (by kernel_rfl) (by kernel_rfl) (by kernel_rfl) (by kernel_rfl) rfl trivial (fun _ _ _ h => h) hM (fun w hC => r_move hl rfl) rfl ?_
                    clear hl a; intro a hl
                    refine sl_split (t := 135) hl rfl ?_ ?_
                    · intro hg9; clear hl; intro hl
                      try simp only [decide_eq_true_eq, decide_eq_false_iff_not, Bool.not_eq_true', Bool.not_eq_false', Bool.not_eq_true, Bool.not_eq_false, Bool.and_eq_true, Bool.or_eq_true, Bool.and_eq_false_iff, Bool.or_eq_false_iff, Bool.not_not, ne_eq, Int.not_lt, Int.not_le, Decidable.not_not, beq_iff_eq, bne_iff_ne] at hg9
                      refine d_take (i := 9) hl rfl (by kernel_rfl) (by kernel_rfl) (by kernel_rfl) (by kernel_rfl) (by kernel_rfl) rfl ⟨_, _, rfl, rfl, rfl⟩ (fun _ _ _ h => h) hM (fun w hC => r_move hl rfl) rfl ?_
                      clear hl a; intro a hl
                      refine d_take (i := 10) hl rfl (by kernel_rfl) (by kernel_rfl) (by kernel_rfl) (by kernel_rfl) (by kernel_rfl) rfl ⟨_, _, rfl, rfl, rfl⟩ (fun _ _ _ h => h) hM (fun w hC => r_nilCheck hl rfl) rfl ?_
                      clear hl a; intro a hl
                      refine d_take (i := 11) hl rfl (by kernel_rfl) (by kernel_rfl) (by kernel_rfl) (by kernel_rfl) (by kernel_rfl) rfl ⟨_, _, rfl, rfl, rfl⟩ (fun _ _ _ h => h) hM (fun w hC => r_field hl rfl fld69_8) rfl ?_
                      clear hl a; intro a hl
                      refine d_take (i := 12) hl rfl (by kernel_rfl) (by kernel_rfl) (by kernel_rfl) (by kernel_rfl) (by kernel_rfl) rfl ⟨_, _, rfl, rfl, rfl⟩ (fun _ _ _ h => h) hM (fun w hC => r_loadC hl rfl one2 hC (by repeat (first | exact find_head | apply find_tail)) (by first | rfl)) rfl ?_
                      clear hl a; intro a hl
                      refine d_take (i := 13) hl rfl (by kernel_rfl) (by kernel_rfl) (by kernel_rfl) (by kernel_rfl) (by kernel_rfl) rfl ⟨_, _, rfl, rfl, rfl⟩ (fun _ _ _ h => h) hM (fun w hC => r_move hl rfl) rfl ?_
                      clear hl a; intro a hl
                      refine d_take (i := 14) hl rfl (by kernel_rfl) (by kernel_rfl) (by kernel_rfl) (by kernel_rfl) (by kernel_rfl) rfl ⟨_, _, rfl, rfl, rfl⟩ (fun _ _ _ h => h) hM (fun w hC => r_nilCheck hl rfl) rfl ?_
                      clear hl a; intro a hl
                      refine d_take (i := 15) hl rfl (by kernel_rfl) (by kernel_rfl) (by kernel_rfl) (by kernel_rfl) (by kernel_rfl) rfl ⟨_, _, rfl, rfl, rfl⟩ (fun _ _ _ h => h) hM (fun w hC => r_field hl rfl fld69_11) rfl ?_
                      clear hl a; intro a hl
                      refine d_take (i := 16) hl rfl (by kernel_rfl) (by kernel_rfl) (by kernel_rfl) (by kernel_rfl) (by kernel_rfl) rfl ⟨_, _, rfl, rfl, rfl⟩ (fun _ _ _ h => h) hM (fun w hC => r_loadC hl rfl one2 hC (by repeat (first | exact find_head | apply find_tail)) (by first | rfl)) rfl ?_
                      clear hl a; intro a hl
                      refine d_takeL (i := 17) hl rfl (by kernel_rfl) (by kernel_rfl) (by kernel_rfl) (by kernel_rfl) (by kernel_rfl) rfl ⟨_, _, rfl, rfl, rfl⟩ (fun _ _ _ h => h) (fun w => r_gtr hl rfl rfl) rfl ?_
                      clear hl a; intro a hl
                      refine d_takeL (i := 18) hl rfl (by kernel_rfl) (by kernel_rfl) (by kernel_rfl) (by kernel_rfl) (by kernel_rfl) rfl trivial (fun _ _ _ h => h) (fun w => r_pickT hl rfl rfl) rfl ?_
                      clear hl a; intro a hl
                      refine d_takeL (i := 19) hl rfl (by kernel_rfl) (by kernel_rfl) (by kernel_rfl) (by kernel_rfl) (by kernel_rfl) rfl trivial (fun _ _ _ h => h) (fun w => r_assign hl rfl) rfl ?_
                      clear hl a; intro a hl
                      refine d_done (by kernel_rfl) ?_
                      try clear hM
                      have hl2 := hl.add (t := 0) (hl.add (t := 11) (hl.add (t := 126) (hl.nil) rfl) rfl) rfl; clear hl; have hl := hl2; clear hl2
                      refine then_normal ?_
                      refine c_cond hl rfl ?_ ?_
                      · intro hc7
                        try simp only [decide_eq_true_eq, decide_eq_false_iff_not, Bool.not_eq_true', Bool.not_eq_false', Bool.not_eq_true, Bool.not_eq_false, Bool.and_eq_true, Bool.or_eq_true, Bool.and_eq_false_iff, Bool.or_eq_false_iff, Bool.not_not, ne_eq, Int.not_lt, Int.not_le, Decidable.not_not, beq_iff_eq, bne_iff_ne] at hc7
                        refine wp_skip ?_
                        refine then_normal ?_
                        refine c_cond hl rfl ?_ ?_
                        · intro hc8
                          try simp only [decide_eq_true_eq, decide_eq_false_iff_not, Bool.not_eq_true', Bool.not_eq_false', Bool.not_eq_true, Bool.not_eq_false, Bool.and_eq_true, Bool.or_eq_true, Bool.and_eq_false_iff, Bool.or_eq_false_iff, Bool.not_not, ne_eq, Int.not_lt, Int.not_le, Decidable.not_not, beq_iff_eq, bne_iff_ne] at hc8
                          refine c_seq ?_
                          refine c_region ?_
                          refine wl (wl_val hl rfl trivial (r_move hl rfl) ?_)
                          clear hl a; intro a hl
                          refine wl (w_call hl hh rfl trivial rfl cal48 rfl (halve_m mp ({ s with dups := s.dups + 1 }) st sk bp (dups_mk hs hdp)) (by repeat (first | exact keeps_nil | apply keeps_cons (by repeat (first | exact find_head | apply find_tail)) (by first  | rfl) | exact keeps_self | apply keeps_mv)) trivial ?_)
                          clear hl hh a w; intro vc Fc a w hR hl hh
                          obtain ⟨rfl, rfl⟩ := hR
                          try simp only [List.cons_append, List.nil_append] at hh
                          refine w_nil ?_
                          have hl2 := hl.add (t := 0) (hl.nil) rfl; clear hl; have hl := hl2; clear hl2
                          refine then_normal ?_
                          refine c_seq ?_
                          refine c_region ?_
                          refine wl (wl_val hl rfl trivial (r_move hl rfl) ?_)
                          clear hl a; intro a hl
                          refine wl (wl_val hl rfl trivial (r_move hl rfl) ?_)
                          clear hl a; intro a hl
                          refine wl (wl_val hl rfl trivial (r_move hl rfl) ?_)
                          clear hl a; intro a hl
                          refine wl (wl_val hl rfl trivial (r_nilCheck hl rfl) ?_)
                          clear hl a; intro a hl
                          refine wl (wl_val hl rfl trivial (r_field hl rfl fld69_6) ?_)
                          clear hl a; intro a hl
                          refine wl (w_load hl hh rfl trivial one2 rfl (by repeat (first | exact find_head | apply find_tail)) (by first | rfl) ?_)
                          clear hl a; intro a hl
                          refine wl (w_call hl hh rfl trivial rfl cal44 rfl (bounded_c mp (halveM { s with dups := s.dups + 1 }) st sk bp ⟨hs.init, hs.maxc, hs.bn, hs.bd, hs.abc, hs.dupt, hs.mss⟩ _) (by repeat (first | exact keeps_nil | apply keeps_cons (by repeat (first | exact find_head | apply find_tail)) (by first  | rfl) | exact keeps_self | apply keeps_mv)) (hh.mem _ _ (Find.mem (by repeat (first | exact find_head | apply find_tail)))) ?_)
                          clear hl hh a w; intro vc Fc a w hR hl hh
                          obtain ⟨rfl, rfl⟩ := hR
                          try simp only [List.cons_append, List.nil_append] at hh
                          refine wl (wl_val hl rfl trivial (r_nilCheck hl rfl) ?_)
                          clear hl a; intro a hl
                          refine wl (wl_val hl rfl trivial (r_field hl rfl fld69_5) ?_)
                          clear hl a; intro a hl
                          refine wl (w_store hl hh trivial one2 rfl rfl (by repeat (first | exact find_head | apply find_tail)) (by first | (simp; done) | (simp; omega)) (by first | rfl | assumption | (apply Row.one; assumption)) (by first | (simp only [encM, setL, List.getElem?_cons_zero, List.getElem?_cons_succ, Value.cells, List.take_zero, List.take_succ_cons, List.take_nil, List.drop_zero, List.drop_succ_cons, List.drop_nil, List.length_cons, List.length_nil, List.cons_append, List.nil_append, List.append_nil, Nat.zero_add, Nat.add_zero, Nat.reduceAdd, Nat.reduceBEq, Nat.reduceEqDiff, Nat.ble, BEq.rfl, Bool.and_true, Bool.and_self, cond_true, beq_self_eq_true]; rfl) | (simp only [setL, List.getElem?_cons_zero, List.getElem?_cons_succ, Value.cells, List.take_zero, List.take_succ_cons, List.take_nil, List.drop_zero, List.drop_succ_cons, List.drop_nil, List.length_cons, List.length_nil, List.cons_append, List.nil_append, List.append_nil, Nat.zero_add, Nat.add_zero, Nat.reduceAdd, Nat.reduceBEq, Nat.reduceEqDiff, Nat.ble, BEq.rfl, Bool.and_true, Bool.and_self, cond_true, beq_self_eq_true]; rfl)) ?_)
                          clear hh w; intro w hh
                          refine w_nil ?_
                          have hl2 := hl.add (t := 0) (hl.nil) rfl; clear hl; have hl := hl2; clear hl2
                          refine then_normal ?_
                          refine c_seq ?_
                          refine c_seq ?_
                          refine c_region ?_
                          refine wl (wl_val hl rfl trivial (r_move hl rfl) ?_)
                          clear hl a; intro a hl
                          refine wl (wl_val hl rfl trivial (r_nilCheck hl rfl) ?_)
                          clear hl a; intro a hl
                          refine wl (wl_val hl rfl trivial (r_field hl rfl fld69_3) ?_)
                          clear hl a; intro a hl
                          refine wl (w_load hl hh rfl trivial one4 rfl (by repeat (first | exact find_head | apply find_tail)) (by first | rfl) ?_)
                          clear hl a; intro a hl
                          refine wl (wl_val hl rfl trivial (r_not hl rfl) ?_)
                          clear hl a; intro a hl
                          refine w_nil ?_
                          have hl2 := hl.add (t := 0) (hl.add (t := 179) (hl.nil) rfl) rfl; clear hl; have hl := hl2; clear hl2
                          refine then_normal ?_
                          refine c_cond hl rfl ?_ ?_
                          · intro hc9
                            try simp only [decide_eq_true_eq, decide_eq_false_iff_not, Bool.not_eq_true', Bool.not_eq_false', Bool.not_eq_true, Bool.not_eq_false, Bool.and_eq_true, Bool.or_eq_true, Bool.and_eq_false_iff, Bool.or_eq_false_iff, Bool.not_not, ne_eq, Int.not_lt, Int.not_le, Decidable.not_not, beq_iff_eq, bne_iff_ne] at hc9
                            refine c_draw [(mp, C (encM ({ s with dups := s.dups + 1, ssth := (cutV (s.nxt - s.una) s.bn s.bd s.mss s.maxc), cwnd := bndP s (cutV (s.nxt - s.una) s.bn s.bd s.mss s.maxc) }) st sk bp) 69)] [19, 20, 21] mixed hh ?_
                            clear hh w; intro w hh
                            have hM : Mem [(mp, C (encM ({ s with dups := s.dups + 1, ssth := (cutV (s.nxt - s.una) s.bn s.bd s.mss s.maxc), cwnd := bndP s (cutV (s.nxt - s.una) s.bn s.bd s.mss s.maxc) }) st sk bp) 69)] w := (by (repeat (first | exact Mem.nil | refine Mem.cons hh.mem (by (repeat (first | exact find_head | apply find_tail)); done) ?_ | refine Mem.consR hh (by assumption) (by simp) ?_ | fail)); done)
                            refine d_take (i := 0) hl rfl (by kernel_rfl) (by kernel_rfl) (by kernel_rfl) (by kernel_rfl) (by kernel_rfl) rfl trivial (fun _ _ _ h => h) hM (fun w hC => r_move hl rfl) rfl ?_
                            clear hl a; intro a hl
                            refine d_take (i := 1) hl rfl (by kernel_rfl) (by kernel_rfl) (by kernel_rfl) (by kernel_rfl) (by kernel_rfl) rfl trivial (fun _ _ _ h => h) hM (fun w hC => r_move hl rfl) rfl ?_
                            clear hl a; intro a hl
                            refine d_take (i := 2) hl rfl (by kernel_rfl) (by kernel_rfl) (by kernel_rfl) (by kernel_rfl) (by kernel_rfl) rfl trivial (fun _ _ _ h => h) hM (fun w hC => r_move hl rfl) rfl ?_
                            clear hl a; intro a hl
                            refine d_take (i := 3) hl rfl (by kernel_rfl) (by kernel_rfl) (by kernel_rfl) (by kernel_rfl) (by kernel_rfl) rfl trivial (fun _ _ _ h => h) hM (fun w hC => r_nilCheck hl rfl) rfl ?_
                            clear hl a; intro a hl
                            refine d_take (i := 4) hl rfl (by kernel_rfl) (by kernel_rfl) (by kernel_rfl) (by kernel_rfl) (by kernel_rfl) rfl trivial (fun _ _ _ h => h) hM (fun w hC => r_field hl rfl fld69_6) rfl ?_
                            clear hl a; intro a hl
                            refine d_take (i := 5) hl rfl (by kernel_rfl) (by kernel_rfl) (by kernel_rfl) (by kernel_rfl) (by kernel_rfl) rfl trivial (fun _ _ _ h => h) hM (fun w hC => r_loadC hl rfl one2 hC (by repeat (first | exact find_head | apply find_tail)) (by first | rfl)) rfl ?_
                            clear hl a; intro a hl
                            refine d_take (i := 6) hl rfl (by kernel_rfl) (by kernel_rfl) (by kernel_rfl) (by kernel_rfl) (by kernel_rfl) rfl trivial (fun _ _ _ h => h) hM (fun w hC => r_move hl rfl) rfl ?_
                            clear hl a; intro a hl
                            refine d_take (i := 7) hl rfl (by kernel_rfl) (by kernel_rfl) (by kernel_rfl) (by kernel_rfl) (by kernel_rfl) rfl trivial (fun _ _ _ h => h) hM (fun w hC => r_nilCheck hl rfl) rfl ?_
                            clear hl a; intro a hl
                            refine d_take (i := 8) hl rfl (by kernel_rfl) (by kernel_rfl) (by kernel_rfl) (by kernel_rfl) (by kernel_rfl) rfl trivial (fun _ _ _ h => h) hM (fun w hC => r_field hl rfl fld69_0) rfl ?_
                            clear hl a; intro a hl
                            refine d_take (i := 9) hl rfl (by kernel_rfl) (by kernel_rfl) (by kernel_rfl) (by kernel_rfl) (by kernel_rfl) rfl trivial (fun _ _ _ h => h) hM (fun w hC => r_field hl rfl fld31_5) rfl ?_
                            clear hl a; intro a hl
                            refine d_take (i := 10) hl rfl (by kernel_rfl) (by kernel_rfl) (by kernel_rfl) (by kernel_rfl) (by kernel_rfl) rfl trivial (fun _ _ _ h => h) hM (fun w hC => r_loadC hl rfl one29 hC (by repeat (first | exact find_head | apply find_tail)) (by first | rfl)) rfl ?_
                            clear hl a; intro a hl
                            first | refine d_take (i := 11) hl rfl (by kernel_rfl) (by kernel_rfl) (by kernel_rfl) (by kernel_rfl) (by kernel_rfl) rfl trivial (fun _ _ _ h => h) hM (fun w hC => r_conv hl rfl Tryz.underlying29 Tryz.underlying2 (by simp only [Fits]; omega)) rfl ?_ | refine d_take (i := 11) hl rfl (by kernel_rfl) (by kernel_rfl) (by kernel_rfl) (by kernel_rfl) (by kernel_rfl) rfl trivial (fun _ _ _ h => h) hM (fun w hC => r_convW hl rfl Tryz.underlying29 Tryz.underlying2) rfl ?_
                            clear hl a; intro a hl
                            refine d_take (i := 12) hl rfl (by kernel_rfl) (by kernel_rfl) (by kernel_rfl) (by kernel_rfl) (by kernel_rfl) rfl trivial (fun _ _ _ h => h) hM (fun w hC => r_move hl rfl) rfl ?_
                            clear hl a; intro a hl
                            refine d_take (i := 13) hl rfl (by kernel_rfl) (by kernel_rfl) (by kernel_rfl) (by kernel_rfl) (by kernel_rfl) rfl trivial (fun _ _ _ h => h) hM (fun w hC => r_nilCheck hl rfl) rfl ?_
                            clear hl a; intro a hl
                            refine d_take (i := 14) hl rfl (by kernel_rfl) (by kernel_rfl) (by kernel_rfl) (by kernel_rfl) (by kernel_rfl) rfl trivial (fun _ _ _ h => h) hM (fun w hC => r_field hl rfl fld69_1) rfl ?_
                            clear hl a; intro a hl
                            refine d_take (i := 15) hl rfl (by kernel_rfl) (by kernel_rfl) (by kernel_rfl) (by kernel_rfl) (by kernel_rfl) rfl trivial (fun _ _ _ h => h) hM (fun w hC => r_loadC hl rfl one2 hC (by repeat (first | exact find_head | apply find_tail)) (by first | rfl)) rfl ?_
                            clear hl a; intro a hl
                            first | refine d_take (i := 16) hl rfl (by kernel_rfl) (by kernel_rfl) (by kernel_rfl) (by kernel_rfl) (by kernel_rfl) rfl trivial (fun _ _ _ h => h) hM (fun w hC => r_mul hl rfl rfl (by simp only [Fits]; omega)) rfl ?_ | refine d_take (i := 16) hl rfl (by kernel_rfl) (by kernel_rfl) (by kernel_rfl) (by kernel_rfl) (by kernel_rfl) rfl trivial (fun _ _ _ h => h) hM (fun w hC => r_mulW hl rfl rfl) rfl ?_
                            clear hl a; intro a hl
                            first | refine d_take (i := 17) hl rfl (by kernel_rfl) (by kernel_rfl) (by kernel_rfl) (by kernel_rfl) (by kernel_rfl) rfl trivial (fun _ _ _ h => h) hM (fun w hC => r_add hl rfl rfl (by simp only [Fits]; omega)) rfl ?_ | refine d_take (i := 17) hl rfl (by kernel_rfl) (by kernel_rfl) (by kernel_rfl) (by kernel_rfl) (by kernel_rfl) rfl trivial (fun _ _ _ h => h) hM (fun w hC => r_addW hl rfl rfl) rfl ?_
                            clear hl a; intro a hl
                            refine d_one (i := 18) (by kernel_rfl) rfl ?_
                            try clear hM
                            refine id (w_call hl hh rfl trivial rfl cal44 rfl (bounded_c mp ({ s with dups := s.dups + 1, ssth := (cutV (s.nxt - s.una) s.bn s.bd s.mss s.maxc), cwnd := bndP s (cutV (s.nxt - s.una) s.bn s.bd s.mss s.maxc) }) st sk bp ⟨hs.init, hs.maxc, hs.bn, hs.bd, hs.abc, hs.dupt, hs.mss⟩ _) (by repeat (first | exact keeps_nil | apply keeps_cons (by repeat (first | exact find_head | apply find_tail)) (by first  | rfl) | exact keeps_self | apply keeps_mv)) (hh.mem _ _ (Find.mem (by repeat (first | exact find_head | apply find_tail)))) ?_)
                            clear hl hh a w; intro vc Fc a w hR hl hh
                            obtain ⟨rfl, rfl⟩ := hR
                            try simp only [List.cons_append, List.nil_append] at hh
                            have hM : Mem [(mp, C (encM ({ s with dups := s.dups + 1, ssth := (cutV (s.nxt - s.una) s.bn s.bd s.mss s.maxc), cwnd := bndP s (cutV (s.nxt - s.una) s.bn s.bd s.mss s.maxc) }) st sk bp) 69)] w := (by (repeat (first | exact Mem.nil | refine Mem.cons hh.mem (by (repeat (first | exact find_head | apply find_tail)); done) ?_ | refine Mem.consR hh (by assumption) (by simp) ?_ | fail)); done)
                            refine d_step (fun _ => hM) ?_
                            refine d_takeL (i := 19) hl rfl (by kernel_rfl) (by kernel_rfl) (by kernel_rfl) (by kernel_rfl) (by kernel_rfl) rfl trivial (fun _ _ _ h => h) (fun w => r_nilCheck hl rfl) rfl ?_
                            clear hl a; intro a hl
                            refine d_takeL (i := 20) hl rfl (by kernel_rfl) (by kernel_rfl) (by kernel_rfl) (by kernel_rfl) (by kernel_rfl) rfl trivial (fun _ _ _ h => h) (fun w => r_field hl rfl fld69_5) rfl ?_
                            clear hl a; intro a hl
                            refine d_one (i := 21) (by kernel_rfl) rfl ?_
                            try clear hM
                            refine id (w_store hl hh trivial one2 rfl rfl (by repeat (first | exact find_head | apply find_tail)) (by first | (simp; done) | (simp; omega)) (by first | rfl | assumption | (apply Row.one; assumption)) (by first | (simp only [encM, setL, List.getElem?_cons_zero, List.getElem?_cons_succ, Value.cells, List.take_zero, List.take_succ_cons, List.take_nil, List.drop_zero, List.drop_succ_cons, List.drop_nil, List.length_cons, List.length_nil, List.cons_append, List.nil_append, List.append_nil, Nat.zero_add, Nat.add_zero, Nat.reduceAdd, Nat.reduceBEq, Nat.reduceEqDiff, Nat.ble, BEq.rfl, Bool.and_true, Bool.and_self, cond_true, beq_self_eq_true]; rfl) | (simp only [setL, List.getElem?_cons_zero, List.getElem?_cons_succ, Value.cells, List.take_zero, List.take_succ_cons, List.take_nil, List.drop_zero, List.drop_succ_cons, List.drop_nil, List.length_cons, List.length_nil, List.cons_append, List.nil_append, List.append_nil, Nat.zero_add, Nat.add_zero, Nat.reduceAdd, Nat.reduceBEq, Nat.reduceEqDiff, Nat.ble, BEq.rfl, Bool.and_true, Bool.and_self, cond_true, beq_self_eq_true]; rfl)) ?_)
                            clear hh w; intro w hh
                            refine d_step (fun h => absurd h (by decide)) ?_
                            refine d_done (by kernel_rfl) ?_
                            try clear hM
                            have hl2 := hl.add (t := 0) (hl.nil) rfl; clear hl; have hl := hl2; clear hl2
                            refine then_normal ?_
                            refine c_seq ?_
                            refine c_draw [] [17, 18, 19] mixed hh ?_
                            clear hh w; intro w hh
                            have hM : Mem [] w := Mem.nil
                            refine d_take (i := 0) hl rfl (by kernel_rfl) (by kernel_rfl) (by kernel_rfl) (by kernel_rfl) (by kernel_rfl) rfl trivial (fun _ _ _ h => h) hM (fun w hC => r_move hl rfl) rfl ?_
                            clear hl a; intro a hl
                            refine d_take (i := 1) hl rfl (by kernel_rfl) (by kernel_rfl) (by kernel_rfl) (by kernel_rfl) (by kernel_rfl) rfl trivial (fun _ _ _ h => h) hM (fun w hC => r_move hl rfl) rfl ?_
                            clear hl a; intro a hl
                            refine d_take (i := 2) hl rfl (by kernel_rfl) (by kernel_rfl) (by kernel_rfl) (by kernel_rfl) (by kernel_rfl) rfl trivial (fun _ _ _ h => h) hM (fun w hC => r_move hl rfl) rfl ?_
                            clear hl a; intro a hl
                            refine d_take (i := 3) hl rfl (by kernel_rfl) (by kernel_rfl) (by kernel_rfl) (by kernel_rfl) (by kernel_rfl) rfl trivial (fun _ _ _ h => h) hM (fun w hC => r_move hl rfl) rfl ?_
                            clear hl a; intro a hl
                            refine d_take (i := 4) hl rfl (by kernel_rfl) (by kernel_rfl) (by kernel_rfl) (by kernel_rfl) (by kernel_rfl) rfl trivial (fun _ _ _ h => h) hM (fun w hC => r_nilCheck hl rfl) rfl ?_
                            clear hl a; intro a hl
                            refine d_take (i := 5) hl rfl (by kernel_rfl) (by kernel_rfl) (by kernel_rfl) (by kernel_rfl) (by kernel_rfl) rfl trivial (fun _ _ _ h => h) hM (fun w hC => r_field hl rfl fld69_9) rfl ?_
                            clear hl a; intro a hl
                            refine d_take (i := 7) hl rfl (by kernel_rfl) (by kernel_rfl) (by kernel_rfl) (by kernel_rfl) (by kernel_rfl) rfl trivial (fun _ _ _ h => h) hM (fun w hC => r_move hl rfl) rfl ?_
                            clear hl a; intro a hl
                            refine d_take (i := 8) hl rfl (by kernel_rfl) (by kernel_rfl) (by kernel_rfl) (by kernel_rfl) (by kernel_rfl) rfl trivial (fun _ _ _ h => h) hM (fun w hC => r_nilCheck hl rfl) rfl ?_
                            clear hl a; intro a hl
                            refine d_take (i := 9) hl rfl (by kernel_rfl) (by kernel_rfl) (by kernel_rfl) (by kernel_rfl) (by kernel_rfl) rfl trivial (fun _ _ _ h => h) hM (fun w hC => r_field hl rfl fld69_8) rfl ?_
                            clear hl a; intro a hl
                            refine d_two (i := 6) (j := 10) (by kernel_rfl) rfl rfl ?_ ?_
                            ·
                              try clear hM
                              refine id (w_load hl hh rfl trivial one2 rfl (by repeat (first | exact find_head | apply find_tail)) (by first | rfl) ?_)
                              clear hl a; intro a hl
                              have hM : Mem [] w := Mem.nil
                              refine d_step (fun _ => hM) ?_
                              refine d_one (i := 10) (by kernel_rfl) rfl ?_
                              try clear hM
                              refine id (w_load hl hh rfl trivial one2 rfl (by repeat (first | exact find_head | apply find_tail)) (by first | rfl) ?_)
                              clear hl a; intro a hl
                              have hM : Mem [] w := Mem.nil
                              refine d_step (fun _ => hM) ?_
                              refine d_take (i := 11) hl rfl (by kernel_rfl) (by kernel_rfl) (by kernel_rfl) (by kernel_rfl) (by kernel_rfl) rfl trivial (fun _ _ _ h => h) hM (fun w hC => r_nilCheck hl rfl) rfl ?_
                              clear hl a; intro a hl
                              refine d_take (i := 12) hl rfl (by kernel_rfl) (by kernel_rfl) (by kernel_rfl) (by kernel_rfl) (by kernel_rfl) rfl trivial (fun _ _ _ h => h) hM (fun w hC => r_field hl rfl fld69_10) rfl ?_
                              clear hl a; intro a hl
                              refine d_one (i := 13) (by kernel_rfl) rfl ?_
                              try clear hM
                              refine id (w_store hl hh trivial one59 rfl rfl (by repeat (first | exact find_head | apply find_tail)) (by first | (simp; done) | (simp; omega)) (by first | rfl | assumption | (apply Row.one; assumption)) (by first | (simp only [encM, setL, List.getElem?_cons_zero, List.getElem?_cons_succ, Value.cells, List.take_zero, List.take_succ_cons, List.take_nil, List.drop_zero, List.drop_succ_cons, List.drop_nil, List.length_cons, List.length_nil, List.cons_append, List.nil_append, List.append_nil, Nat.zero_add, Nat.add_zero, Nat.reduceAdd, Nat.reduceBEq, Nat.reduceEqDiff, Nat.ble, BEq.rfl, Bool.and_true, Bool.and_self, cond_true, beq_self_eq_true]; rfl) | (simp only [setL, List.getElem?_cons_zero, List.getElem?_cons_succ, Value.cells, List.take_zero, List.take_succ_cons, List.take_nil, List.drop_zero, List.drop_succ_cons, List.drop_nil, List.length_cons, List.length_nil, List.cons_append, List.nil_append, List.append_nil, Nat.zero_add, Nat.add_zero, Nat.reduceAdd, Nat.reduceBEq, Nat.reduceEqDiff, Nat.ble, BEq.rfl, Bool.and_true, Bool.and_self, cond_true, beq_self_eq_true]; rfl)) ?_)
                              clear hh w; intro w hh
                              have hM : Mem [] w := Mem.nil
                              refine d_step (fun _ => hM) ?_
                              refine d_take (i := 14) hl rfl (by kernel_rfl) (by kernel_rfl) (by kernel_rfl) (by kernel_rfl) (by kernel_rfl) rfl trivial (fun _ _ _ h => h) hM (fun w hC => r_nilCheck hl rfl) rfl ?_
                              clear hl a; intro a hl
                              refine d_take (i := 15) hl rfl (by kernel_rfl) (by kernel_rfl) (by kernel_rfl) (by kernel_rfl) (by kernel_rfl) rfl trivial (fun _ _ _ h => h) hM (fun w hC => r_field hl rfl fld69_11) rfl ?_
                              clear hl a; intro a hl
                              refine d_one (i := 16) (by kernel_rfl) rfl ?_
                              try clear hM
                              refine id (w_store hl hh trivial one2 rfl rfl (by repeat (first | exact find_head | apply find_tail)) (by first | (simp; done) | (simp; omega)) (by first | rfl | assumption | (apply Row.one; assumption)) (by first | (simp only [encM, setL, List.getElem?_cons_zero, List.getElem?_cons_succ, Value.cells, List.take_zero, List.take_succ_cons, List.take_nil, List.drop_zero, List.drop_succ_cons, List.drop_nil, List.length_cons, List.length_nil, List.cons_append, List.nil_append, List.append_nil, Nat.zero_add, Nat.add_zero, Nat.reduceAdd, Nat.reduceBEq, Nat.reduceEqDiff, Nat.ble, BEq.rfl, Bool.and_true, Bool.and_self, cond_true, beq_self_eq_true]; rfl) | (simp only [setL, List.getElem?_cons_zero, List.getElem?_cons_succ, Value.cells, List.take_zero, List.take_succ_cons, List.take_nil, List.drop_zero, List.drop_succ_cons, List.drop_nil, List.length_cons, List.length_nil, List.cons_append, List.nil_append, List.append_nil, Nat.zero_add, Nat.add_zero, Nat.reduceAdd, Nat.reduceBEq, Nat.reduceEqDiff, Nat.ble, BEq.rfl, Bool.and_true, Bool.and_self, cond_true, beq_self_eq_true]; rfl)) ?_)
                              clear hh w; intro w hh
                              have hM : Mem [] w := Mem.nil
                              refine d_step (fun _ => hM) ?_
                              refine d_takeL (i := 17) hl rfl (by kernel_rfl) (by kernel_rfl) (by kernel_rfl) (by kernel_rfl) (by kernel_rfl) rfl trivial (fun _ _ _ h => h) (fun w => r_nilCheck hl rfl) rfl ?_
                              clear hl a; intro a hl
                              refine d_takeL (i := 18) hl rfl (by kernel_rfl) (by kernel_rfl) (by kernel_rfl) (by kernel_rfl) (by kernel_rfl) rfl trivial (fun _ _ _ h => h) (fun w => r_field hl rfl fld69_12) rfl ?_
                              clear hl a; intro a hl
                              refine d_one (i := 19) (by kernel_rfl) rfl ?_
                              try clear hM
                              refine id (w_store hl hh trivial one2 rfl rfl (by repeat (first | exact find_head | apply find_tail)) (by first | (simp; done) | (simp; omega)) (by first | rfl | assumption | (apply Row.one; assumption)) (by first | (simp only [encM, setL, List.getElem?_cons_zero, List.getElem?_cons_succ, Value.cells, List.take_zero, List.take_succ_cons, List.take_nil, List.drop_zero, List.drop_succ_cons, List.drop_nil, List.length_cons, List.length_nil, List.cons_append, List.nil_append, List.append_nil, Nat.zero_add, Nat.add_zero, Nat.reduceAdd, Nat.reduceBEq, Nat.reduceEqDiff, Nat.ble, BEq.rfl, Bool.and_true, Bool.and_self, cond_true, beq_self_eq_true]; rfl) | (simp only [setL, List.getElem?_cons_zero, List.getElem?_cons_succ, Value.cells, List.take_zero, List.take_succ_cons, List.take_nil, List.drop_zero, List.drop_succ_cons, List.drop_nil, List.length_cons, List.length_nil, List.cons_append, List.nil_append, List.append_nil, Nat.zero_add, Nat.add_zero, Nat.reduceAdd, Nat.reduceBEq, Nat.reduceEqDiff, Nat.ble, BEq.rfl, Bool.and_true, Bool.and_self, cond_true, beq_self_eq_true]; rfl)) ?_)
                              clear hh w; intro w hh
                              refine d_step (fun h => absurd h (by decide)) ?_
                              refine d_done (by kernel_rfl) ?_
                              try clear hM
                              have hl2 := hl.add (t := 0) (hl.nil) rfl; clear hl; have hl := hl2; clear hl2
                              refine then_normal ?_
                              refine c_region ?_
                              refine wl (wl_val hl rfl trivial (r_move hl rfl) ?_)
                              clear hl a; intro a hl
                              refine wl (wl_val hl rfl trivial (r_move hl rfl) ?_)
                              clear hl a; intro a hl
                              refine wl (wl_val hl rfl trivial (r_move hl rfl) ?_)
                              clear hl a; intro a hl
                              refine wl (wl_val hl rfl trivial (r_nilCheck hl rfl) ?_)
                              clear hl a; intro a hl
                              refine wl (wl_val hl rfl trivial (r_field hl rfl fld69_14) ?_)
                              clear hl a; intro a hl
                              refine wl (w_store hl hh trivial one4 rfl rfl (by repeat (first | exact find_head | apply find_tail)) (by first | (simp; done) | (simp; omega)) (by first | rfl | assumption | (apply Row.one; assumption)) (by first | (simp only [encM, setL, List.getElem?_cons_zero, List.getElem?_cons_succ, Value.cells, List.take_zero, List.take_succ_cons, List.take_nil, List.drop_zero, List.drop_succ_cons, List.drop_nil, List.length_cons, List.length_nil, List.cons_append, List.nil_append, List.append_nil, Nat.zero_add, Nat.add_zero, Nat.reduceAdd, Nat.reduceBEq, Nat.reduceEqDiff, Nat.ble, BEq.rfl, Bool.and_true, Bool.and_self, cond_true, beq_self_eq_true]; rfl) | (simp only [setL, List.getElem?_cons_zero, List.getElem?_cons_succ, Value.cells, List.take_zero, List.take_succ_cons, List.take_nil, List.drop_zero, List.drop_succ_cons, List.drop_nil, List.length_cons, List.length_nil, List.cons_append, List.nil_append, List.append_nil, Nat.zero_add, Nat.add_zero, Nat.reduceAdd, Nat.reduceBEq, Nat.reduceEqDiff, Nat.ble, BEq.rfl, Bool.and_true, Bool.and_self, cond_true, beq_self_eq_true]; rfl)) ?_)
                              clear hh w; intro w hh
                              refine wl (wl_val hl rfl trivial (r_nilCheck hl rfl) ?_)
                              clear hl a; intro a hl
                              refine wl (wl_val hl rfl trivial (r_field hl rfl fld69_16) ?_)
                              clear hl a; intro a hl
                              refine wl (w_store hl hh trivial one4 rfl rfl (by repeat (first | exact find_head | apply find_tail)) (by first | (simp; done) | (simp; omega)) (by first | rfl | assumption | (apply Row.one; assumption)) (by first | (simp only [encM, setL, List.getElem?_cons_zero, List.getElem?_cons_succ, Value.cells, List.take_zero, List.take_succ_cons, List.take_nil, List.drop_zero, List.drop_succ_cons, List.drop_nil, List.length_cons, List.length_nil, List.cons_append, List.nil_append, List.append_nil, Nat.zero_add, Nat.add_zero, Nat.reduceAdd, Nat.reduceBEq, Nat.reduceEqDiff, Nat.ble, BEq.rfl, Bool.and_true, Bool.and_self, cond_true, beq_self_eq_true]; rfl) | (simp only [setL, List.getElem?_cons_zero, List.getElem?_cons_succ, Value.cells, List.take_zero, List.take_succ_cons, List.take_nil, List.drop_zero, List.drop_succ_cons, List.drop_nil, List.length_cons, List.length_nil, List.cons_append, List.nil_append, List.append_nil, Nat.zero_add, Nat.add_zero, Nat.reduceAdd, Nat.reduceBEq, Nat.reduceEqDiff, Nat.ble, BEq.rfl, Bool.and_true, Bool.and_self, cond_true, beq_self_eq_true]; rfl)) ?_)
                              clear hh w; intro w hh
                              refine wl (wl_val hl rfl trivial (r_nilCheck hl rfl) ?_)
                              clear hl a; intro a hl
                              refine wl (wl_val hl rfl trivial (r_field hl rfl fld69_7) ?_)
                              clear hl a; intro a hl
                              refine wl (w_store hl hh trivial one2 rfl rfl (by repeat (first | exact find_head | apply find_tail)) (by first | (simp; done) | (simp; omega)) (by first | rfl | assumption | (apply Row.one; assumption)) (by first | (simp only [encM, setL, List.getElem?_cons_zero, List.getElem?_cons_succ, Value.cells, List.take_zero, List.take_succ_cons, List.take_nil, List.drop_zero, List.drop_succ_cons, List.drop_nil, List.length_cons, List.length_nil, List.cons_append, List.nil_append, List.append_nil, Nat.zero_add, Nat.add_zero, Nat.reduceAdd, Nat.reduceBEq, Nat.reduceEqDiff, Nat.ble, BEq.rfl, Bool.and_true, Bool.and_self, cond_true, beq_self_eq_true]; rfl) | (simp only [setL, List.getElem?_cons_zero, List.getElem?_cons_succ, Value.cells, List.take_zero, List.take_succ_cons, List.take_nil, List.drop_zero, List.drop_succ_cons, List.drop_nil, List.length_cons, List.length_nil, List.cons_append, List.nil_append, List.append_nil, Nat.zero_add, Nat.add_zero, Nat.reduceAdd, Nat.reduceBEq, Nat.reduceEqDiff, Nat.ble, BEq.rfl, Bool.and_true, Bool.and_self, cond_true, beq_self_eq_true]; rfl)) ?_)
                              clear hh w; intro w hh
                              refine w_nil ?_
                              have hl2 := hl.nil; clear hl; have hl := hl2; clear hl2
                              replace hh : Has _ w0 [(mp, C (encM ({ halveM { s with dups := s.dups + 1 } with cwnd := bndP s ((halveM { s with dups := s.dups + 1 }).ssth + s.dupt * s.mss), phase := 1, recov := s.nxt, high := s.una, forced := true, resc := false, credit := 0 }) st sk bp) 69)] w := hh
                              refine blk_normal ?_
                              refine then_normal ?_
                              refine wp_ret ?_
                              refine then_ret ?_
                              refine f_ret0 (F' := [(mp, C (encM (ackM s sk ack dup lu) st sk bp) 69)]) hl hh rfl (by repeat (first | exact keeps_nil | apply keeps_cons (by repeat (first | exact find_head | apply find_tail)) (by first  | (exfalso; omega) | (exact absurd (hk.symm.trans (show sk = true by assumption)) (by decide)) | (exact blk_eqM (congrArg (fun z => encM z st sk bp) ((ack_dup (show ¬ (ack < s.una ∨ s.nxt < ack) by omega) (by omega) (by assumption) (by omega)).trans (dup_1 (by assumption) hk)).symm)) | (exact blk_eqM (congrArg (fun z => encM z st sk bp) ((ack_dup (show ¬ (ack < s.una ∨ s.nxt < ack) by omega) (by omega) (by assumption) (by omega)).trans (dup_2 (by omega) (by omega))).symm)) | (exact blk_eqM (congrArg (fun z => encM z st sk bp) ((ack_dup (show ¬ (ack < s.una ∨ s.nxt < ack) by omega) (by omega) (by assumption) (by omega)).trans (dup_3n hk (by assumption) (by omega) (by omega))).symm)) | (exact blk_eqM (congrArg (fun z => encM z st sk bp) ((ack_dup (show ¬ (ack < s.una ∨ s.nxt < ack) by omega) (by omega) (by assumption) (by omega)).trans (dup_4 (by assumption) (sig_no hk (by omega)))).symm)) | rfl) | exact keeps_self | apply keeps_mv)) ?_
                              exact ⟨rfl, rfl⟩
                            ·
                              try clear hM
                              refine id (w_load hl hh rfl trivial one2 rfl (by repeat (first | exact find_head | apply find_tail)) (by first | rfl) ?_)
                              clear hl a; intro a hl
                              have hM : Mem [] w := Mem.nil
                              refine d_step (fun _ => hM) ?_
                              refine d_one (i := 6) (by kernel_rfl) rfl ?_
                              try clear hM
                              refine id (w_load hl hh rfl trivial one2 rfl (by repeat (first | exact find_head | apply find_tail)) (by first | rfl) ?_)
                              clear hl a; intro a hl
                              have hM : Mem [] w := Mem.nil
                              refine d_step (fun _ => hM) ?_
                              refine d_take (i := 11) hl rfl (by kernel_rfl) (by kernel_rfl) (by kernel_rfl) (by kernel_rfl) (by kernel_rfl) rfl trivial (fun _ _ _ h => h) hM (fun w hC => r_nilCheck hl rfl) rfl ?_
                              clear hl a; intro a hl
                              refine d_take (i := 12) hl rfl (by kernel_rfl) (by kernel_rfl) (by kernel_rfl) (by kernel_rfl) (by kernel_rfl) rfl trivial (fun _ _ _ h => h) hM (fun w hC => r_field hl rfl fld69_10) rfl ?_
                              clear hl a; intro a hl
                              refine d_one (i := 13) (by kernel_rfl) rfl ?_
                              try clear hM
                              refine id (w_store hl hh trivial one59 rfl rfl (by repeat (first | exact find_head | apply find_tail)) (by first | (simp; done) | (simp; omega)) (by first | rfl | assumption | (apply Row.one; assumption)) (by first | (simp only [encM, setL, List.getElem?_cons_zero, List.getElem?_cons_succ, Value.cells, List.take_zero, List.take_succ_cons, List.take_nil, List.drop_zero, List.drop_succ_cons, List.drop_nil, List.length_cons, List.length_nil, List.cons_append, List.nil_append, List.append_nil, Nat.zero_add, Nat.add_zero, Nat.reduceAdd, Nat.reduceBEq, Nat.reduceEqDiff, Nat.ble, BEq.rfl, Bool.and_true, Bool.and_self, cond_true, beq_self_eq_true]; rfl) | (simp only [setL, List.getElem?_cons_zero, List.getElem?_cons_succ, Value.cells, List.take_zero, List.take_succ_cons, List.take_nil, List.drop_zero, List.drop_succ_cons, List.drop_nil, List.length_cons, List.length_nil, List.cons_append, List.nil_append, List.append_nil, Nat.zero_add, Nat.add_zero, Nat.reduceAdd, Nat.reduceBEq, Nat.reduceEqDiff, Nat.ble, BEq.rfl, Bool.and_true, Bool.and_self, cond_true, beq_self_eq_true]; rfl)) ?_)
                              clear hh w; intro w hh
                              have hM : Mem [] w := Mem.nil
                              refine d_step (fun _ => hM) ?_
                              refine d_take (i := 14) hl rfl (by kernel_rfl) (by kernel_rfl) (by kernel_rfl) (by kernel_rfl) (by kernel_rfl) rfl trivial (fun _ _ _ h => h) hM (fun w hC => r_nilCheck hl rfl) rfl ?_
                              clear hl a; intro a hl
                              refine d_take (i := 15) hl rfl (by kernel_rfl) (by kernel_rfl) (by kernel_rfl) (by kernel_rfl) (by kernel_rfl) rfl trivial (fun _ _ _ h => h) hM (fun w hC => r_field hl rfl fld69_11) rfl ?_
                              clear hl a; intro a hl
                              refine d_one (i := 16) (by kernel_rfl) rfl ?_
                              try clear hM
                              refine id (w_store hl hh trivial one2 rfl rfl (by repeat (first | exact find_head | apply find_tail)) (by first | (simp; done) | (simp; omega)) (by first | rfl | assumption | (apply Row.one; assumption)) (by first | (simp only [encM, setL, List.getElem?_cons_zero, List.getElem?_cons_succ, Value.cells, List.take_zero, List.take_succ_cons, List.take_nil, List.drop_zero, List.drop_succ_cons, List.drop_nil, List.length_cons, List.length_nil, List.cons_append, List.nil_append, List.append_nil, Nat.zero_add, Nat.add_zero, Nat.reduceAdd, Nat.reduceBEq, Nat.reduceEqDiff, Nat.ble, BEq.rfl, Bool.and_true, Bool.and_self, cond_true, beq_self_eq_true]; rfl) | (simp only [setL, List.getElem?_cons_zero, List.getElem?_cons_succ, Value.cells, List.take_zero, List.take_succ_cons, List.take_nil, List.drop_zero, List.drop_succ_cons, List.drop_nil, List.length_cons, List.length_nil, List.cons_append, List.nil_append, List.append_nil, Nat.zero_add, Nat.add_zero, Nat.reduceAdd, Nat.reduceBEq, Nat.reduceEqDiff, Nat.ble, BEq.rfl, Bool.and_true, Bool.and_self, cond_true, beq_self_eq_true]; rfl)) ?_)
                              clear hh w; intro w hh
                              have hM : Mem [] w := Mem.nil
                              refine d_step (fun _ => hM) ?_
                              refine d_takeL (i := 17) hl rfl (by kernel_rfl) (by kernel_rfl) (by kernel_rfl) (by kernel_rfl) (by kernel_rfl) rfl trivial (fun _ _ _ h => h) (fun w => r_nilCheck hl rfl) rfl ?_
                              clear hl a; intro a hl
                              refine d_takeL (i := 18) hl rfl (by kernel_rfl) (by kernel_rfl) (by kernel_rfl) (by kernel_rfl) (by kernel_rfl) rfl trivial (fun _ _ _ h => h) (fun w => r_field hl rfl fld69_12) rfl ?_
                              clear hl a; intro a hl
                              refine d_one (i := 19) (by kernel_rfl) rfl ?_
                              try clear hM
                              refine id (w_store hl hh trivial one2 rfl rfl (by repeat (first | exact find_head | apply find_tail)) (by first | (simp; done) | (simp; omega)) (by first | rfl | assumption | (apply Row.one; assumption)) (by first | (simp only [encM, setL, List.getElem?_cons_zero, List.getElem?_cons_succ, Value.cells, List.take_zero, List.take_succ_cons, List.take_nil, List.drop_zero, List.drop_succ_cons, List.drop_nil, List.length_cons, List.length_nil, List.cons_append, List.nil_append, List.append_nil, Nat.zero_add, Nat.add_zero, Nat.reduceAdd, Nat.reduceBEq, Nat.reduceEqDiff, Nat.ble, BEq.rfl, Bool.and_true, Bool.and_self, cond_true, beq_self_eq_true]; rfl) | (simp only [setL, List.getElem?_cons_zero, List.getElem?_cons_succ, Value.cells, List.take_zero, List.take_succ_cons, List.take_nil, List.drop_zero, List.drop_succ_cons, List.drop_nil, List.length_cons, List.length_nil, List.cons_append, List.nil_append, List.append_nil, Nat.zero_add, Nat.add_zero, Nat.reduceAdd, Nat.reduceBEq, Nat.reduceEqDiff, Nat.ble, BEq.rfl, Bool.and_true, Bool.and_self, cond_true, beq_self_eq_true]; rfl)) ?_)
                              clear hh w; intro w hh
                              refine d_step (fun h => absurd h (by decide)) ?_
                              refine d_done (by kernel_rfl) ?_
                              try clear hM
                              have hl2 := hl.add (t := 0) (hl.nil) rfl; clear hl; have hl := hl2; clear hl2
                              refine then_normal ?_
                              refine c_region ?_
                              refine wl (wl_val hl rfl trivial (r_move hl rfl) ?_)
                              clear hl a; intro a hl
                              refine wl (wl_val hl rfl trivial (r_move hl rfl) ?_)
                              clear hl a; intro a hl
                              refine wl (wl_val hl rfl trivial (r_move hl rfl) ?_)
                              clear hl a; intro a hl
                              refine wl (wl_val hl rfl trivial (r_nilCheck hl rfl) ?_)
                              clear hl a; intro a hl
                              refine wl (wl_val hl rfl trivial (r_field hl rfl fld69_14) ?_)
                              clear hl a; intro a hl
                              refine wl (w_store hl hh trivial one4 rfl rfl (by repeat (first | exact find_head | apply find_tail)) (by first | (simp; done) | (simp; omega)) (by first | rfl | assumption | (apply Row.one; assumption)) (by first | (simp only [encM, setL, List.getElem?_cons_zero, List.getElem?_cons_succ, Value.cells, List.take_zero, List.take_succ_cons, List.take_nil, List.drop_zero, List.drop_succ_cons, List.drop_nil, List.length_cons, List.length_nil, List.cons_append, List.nil_append, List.append_nil, Nat.zero_add, Nat.add_zero, Nat.reduceAdd, Nat.reduceBEq, Nat.reduceEqDiff, Nat.ble, BEq.rfl, Bool.and_true, Bool.and_self, cond_true, beq_self_eq_true]; rfl) | (simp only [setL, List.getElem?_cons_zero, List.getElem?_cons_succ, Value.cells, List.take_zero, List.take_succ_cons, List.take_nil, List.drop_zero, List.drop_succ_cons, List.drop_nil, List.length_cons, List.length_nil, List.cons_append, List.nil_append, List.append_nil, Nat.zero_add, Nat.add_zero, Nat.reduceAdd, Nat.reduceBEq, Nat.reduceEqDiff, Nat.ble, BEq.rfl, Bool.and_true, Bool.and_self, cond_true, beq_self_eq_true]; rfl)) ?_)
                              clear hh w; intro w hh
                              refine wl (wl_val hl rfl trivial (r_nilCheck hl rfl) ?_)
                              clear hl a; intro a hl
                              refine wl (wl_val hl rfl trivial (r_field hl rfl fld69_16) ?_)
                              clear hl a; intro a hl
                              refine wl (w_store hl hh trivial one4 rfl rfl (by repeat (first | exact find_head | apply find_tail)) (by first | (simp; done) | (simp; omega)) (by first | rfl | assumption | (apply Row.one; assumption)) (by first | (simp only [encM, setL, List.getElem?_cons_zero, List.getElem?_cons_succ, Value.cells, List.take_zero, List.take_succ_cons, List.take_nil, List.drop_zero, List.drop_succ_cons, List.drop_nil, List.length_cons, List.length_nil, List.cons_append, List.nil_append, List.append_nil, Nat.zero_add, Nat.add_zero, Nat.reduceAdd, Nat.reduceBEq, Nat.reduceEqDiff, Nat.ble, BEq.rfl, Bool.and_true, Bool.and_self, cond_true, beq_self_eq_true]; rfl) | (simp only [setL, List.getElem?_cons_zero, List.getElem?_cons_succ, Value.cells, List.take_zero, List.take_succ_cons, List.take_nil, List.drop_zero, List.drop_succ_cons, List.drop_nil, List.length_cons, List.length_nil, List.cons_append, List.nil_append, List.append_nil, Nat.zero_add, Nat.add_zero, Nat.reduceAdd, Nat.reduceBEq, Nat.reduceEqDiff, Nat.ble, BEq.rfl, Bool.and_true, Bool.and_self, cond_true, beq_self_eq_true]; rfl)) ?_)
                              clear hh w; intro w hh
                              refine wl (wl_val hl rfl trivial (r_nilCheck hl rfl) ?_)
                              clear hl a; intro a hl
                              refine wl (wl_val hl rfl trivial (r_field hl rfl fld69_7) ?_)
                              clear hl a; intro a hl
                              refine wl (w_store hl hh trivial one2 rfl rfl (by repeat (first | exact find_head | apply find_tail)) (by first | (simp; done) | (simp; omega)) (by first | rfl | assumption | (apply Row.one; assumption)) (by first | (simp only [encM, setL, List.getElem?_cons_zero, List.getElem?_cons_succ, Value.cells, List.take_zero, List.take_succ_cons, List.take_nil, List.drop_zero, List.drop_succ_cons, List.drop_nil, List.length_cons, List.length_nil, List.cons_append, List.nil_append, List.append_nil, Nat.zero_add, Nat.add_zero, Nat.reduceAdd, Nat.reduceBEq, Nat.reduceEqDiff, Nat.ble, BEq.rfl, Bool.and_true, Bool.and_self, cond_true, beq_self_eq_true]; rfl) | (simp only [setL, List.getElem?_cons_zero, List.getElem?_cons_succ, Value.cells, List.take_zero, List.take_succ_cons, List.take_nil, List.drop_zero, List.drop_succ_cons, List.drop_nil, List.length_cons, List.length_nil, List.cons_append, List.nil_append, List.append_nil, Nat.zero_add, Nat.add_zero, Nat.reduceAdd, Nat.reduceBEq, Nat.reduceEqDiff, Nat.ble, BEq.rfl, Bool.and_true, Bool.and_self, cond_true, beq_self_eq_true]; rfl)) ?_)
                              clear hh w; intro w hh
                              refine w_nil ?_
                              have hl2 := hl.nil; clear hl; have hl := hl2; clear hl2
                              replace hh : Has _ w0 [(mp, C (encM ({ halveM { s with dups := s.dups + 1 } with cwnd := bndP s ((halveM { s with dups := s.dups + 1 }).ssth + s.dupt * s.mss), phase := 1, recov := s.nxt, high := s.una, forced := true, resc := false, credit := 0 }) st sk bp) 69)] w := hh
                              refine blk_normal ?_
                              refine then_normal ?_
                              refine wp_ret ?_
                              refine then_ret ?_
                              refine f_ret0 (F' := [(mp, C (encM (ackM s sk ack dup lu) st sk bp) 69)]) hl hh rfl (by repeat (first | exact keeps_nil | apply keeps_cons (by repeat (first | exact find_head | apply find_tail)) (by first  | (exfalso; omega) | (exact absurd (hk.symm.trans (show sk = true by assumption)) (by decide)) | (exact blk_eqM (congrArg (fun z => encM z st sk bp) ((ack_dup (show ¬ (ack < s.una ∨ s.nxt < ack) by omega) (by omega) (by assumption) (by omega)).trans (dup_1 (by assumption) hk)).symm)) | (exact blk_eqM (congrArg (fun z => encM z st sk bp) ((ack_dup (show ¬ (ack < s.una ∨ s.nxt < ack) by omega) (by omega) (by assumption) (by omega)).trans (dup_2 (by omega) (by omega))).symm)) | (exact blk_eqM (congrArg (fun z => encM z st sk bp) ((ack_dup (show ¬ (ack < s.una ∨ s.nxt < ack) by omega) (by omega) (by assumption) (by omega)).trans (dup_3n hk (by assumption) (by omega) (by omega))).symm)) | (exact blk_eqM (congrArg (fun z => encM z st sk bp) ((ack_dup (show ¬ (ack < s.una ∨ s.nxt < ack) by omega) (by omega) (by assumption) (by omega)).trans (dup_4 (by assumption) (sig_no hk (by omega)))).symm)) | rfl) | exact keeps_self | apply keeps_mv)) ?_
                              exact ⟨rfl, rfl⟩
                          · intro hc9
                            try simp only [decide_eq_true_eq, decide_eq_false_iff_not, Bool.not_eq_true', Bool.not_eq_false', Bool.not_eq_true, Bool.not_eq_false, Bool.and_eq_true, Bool.or_eq_true, Bool.and_eq_false_iff, Bool.or_eq_false_iff, Bool.not_not, ne_eq, Int.not_lt, Int.not_le, Decidable.not_not, beq_iff_eq, bne_iff_ne] at hc9
                            exfalso; first | contradiction | omega | (simp_all; done)
                        · intro hc8
                          try simp only [decide_eq_true_eq, decide_eq_false_iff_not, Bool.not_eq_true', Bool.not_eq_false', Bool.not_eq_true, Bool.not_eq_false, Bool.and_eq_true, Bool.or_eq_true, Bool.and_eq_false_iff, Bool.or_eq_false_iff, Bool.not_not, ne_eq, Int.not_lt, Int.not_le, Decidable.not_not, beq_iff_eq, bne_iff_ne] at hc8
                          refine wp_skip ?_
                          refine blk_normal ?_
                          refine then_normal ?_
                          refine wp_ret ?_
                          refine then_ret ?_
                          refine f_ret0 (F' := [(mp, C (encM (ackM s sk ack dup lu) st sk bp) 69)]) hl hh rfl (by repeat (first | exact keeps_nil | apply keeps_cons (by repeat (first | exact find_head | apply find_tail)) (by first  | (exfalso; omega) | (exact absurd (hk.symm.trans (show sk = true by assumption)) (by decide)) | (exact blk_eqM (congrArg (fun z => encM z st sk bp) ((ack_dup (show ¬ (ack < s.una ∨ s.nxt < ack) by omega) (by omega) (by assumption) (by omega)).trans (dup_1 (by assumption) hk)).symm)) | (exact blk_eqM (congrArg (fun z => encM z st sk bp) ((ack_dup (show ¬ (ack < s.una ∨ s.nxt < ack) by omega) (by omega) (by assumption) (by omega)).trans (dup_2 (by omega) (by omega))).symm)) | (exact blk_eqM (congrArg (fun z => encM z st sk bp) ((ack_dup (show ¬ (ack < s.una ∨ s.nxt < ack) by omega) (by omega) (by assumption) (by omega)).trans (dup_3n hk (by assumption) (by omega) (by omega))).symm)) | (exact blk_eqM (congrArg (fun z => encM z st sk bp) ((ack_dup (show ¬ (ack < s.una ∨ s.nxt < ack) by omega) (by omega) (by assumption) (by omega)).trans (dup_4 (by assumption) (sig_no hk (by omega)))).symm)) | rfl) | exact keeps_self | apply keeps_mv)) ?_
                          exact ⟨rfl, rfl⟩
                      · intro hc7
                        try simp only [decide_eq_true_eq, decide_eq_false_iff_not, Bool.not_eq_true', Bool.not_eq_false', Bool.not_eq_true, Bool.not_eq_false, Bool.and_eq_true, Bool.or_eq_true, Bool.and_eq_false_iff, Bool.or_eq_false_iff, Bool.not_not, ne_eq, Int.not_lt, Int.not_le, Decidable.not_not, beq_iff_eq, bne_iff_ne] at hc7
                        refine c_draw [(mp, C (encM ({ s with dups := s.dups + 1 }) st sk bp) 69)] [15, 16, 17, 18] mixed hh ?_
                        clear hh w; intro w hh
                        have hM : Mem [(mp, C (encM ({ s with dups := s.dups + 1 }) st sk bp) 69)] w := (by (repeat (first | exact Mem.nil | refine Mem.cons hh.mem (by (repeat (first | exact find_head | apply find_tail)); done) ?_ | refine Mem.consR hh (by assumption) (by simp) ?_ | fail)); done)
                        refine d_take (i := 0) hl rfl (by kernel_rfl) (by kernel_rfl) (by kernel_rfl) (by kernel_rfl) (by kernel_rfl) rfl trivial (fun _ _ _ h => h) hM (fun w hC => r_move hl rfl) rfl ?_
                        clear hl a; intro a hl
                        refine d_take (i := 1) hl rfl (by kernel_rfl) (by kernel_rfl) (by kernel_rfl) (by kernel_rfl) (by kernel_rfl) rfl trivial (fun _ _ _ h => h) hM (fun w hC => r_nilCheck hl rfl) rfl ?_
                        clear hl a; intro a hl
                        refine d_take (i := 2) hl rfl (by kernel_rfl) (by kernel_rfl) (by kernel_rfl) (by kernel_rfl) (by kernel_rfl) rfl trivial (fun _ _ _ h => h) hM (fun w hC => r_field hl rfl fld69_3) rfl ?_
                        clear hl a; intro a hl
                        refine d_take (i := 3) hl rfl (by kernel_rfl) (by kernel_rfl) (by kernel_rfl) (by kernel_rfl) (by kernel_rfl) rfl trivial (fun _ _ _ h => h) hM (fun w hC => r_loadC hl rfl one4 hC (by repeat (first | exact find_head | apply find_tail)) (by first | rfl)) rfl ?_
                        clear hl a; intro a hl
                        refine d_take (i := 4) hl rfl (by kernel_rfl) (by kernel_rfl) (by kernel_rfl) (by kernel_rfl) (by kernel_rfl) rfl trivial (fun _ _ _ h => h) hM (fun w hC => r_move hl rfl) rfl ?_
                        clear hl a; intro a hl
                        refine sl_split (t := 150) hl rfl ?_ ?_
                        · intro hg10; clear hl; intro hl
                          try simp only [decide_eq_true_eq, decide_eq_false_iff_not, Bool.not_eq_true', Bool.not_eq_false', Bool.not_eq_true, Bool.not_eq_false, Bool.and_eq_true, Bool.or_eq_true, Bool.and_eq_false_iff, Bool.or_eq_false_iff, Bool.not_not, ne_eq, Int.not_lt, Int.not_le, Decidable.not_not, beq_iff_eq, bne_iff_ne] at hg10
                          exfalso; first | contradiction | omega | (simp_all; done)
                        · intro hg10; clear hl; intro hl
                          try simp only [decide_eq_true_eq, decide_eq_false_iff_not, Bool.not_eq_true', Bool.not_eq_false', Bool.not_eq_true, Bool.not_eq_false, Bool.and_eq_true, Bool.or_eq_true, Bool.and_eq_false_iff, Bool.or_eq_false_iff, Bool.not_not, ne_eq, Int.not_lt, Int.not_le, Decidable.not_not, beq_iff_eq, bne_iff_ne] at hg10
                          refine d_skip (i := 5) hl rfl (by kernel_rfl) (by kernel_rfl) (by kernel_rfl) (by kernel_rfl) (by kernel_rfl) rfl ⟨_, _, rfl, rfl, rfl⟩ (fun _ _ _ h => h) hM ?_
                          clear hl a; intro a hl
                          refine d_skip (i := 6) hl rfl (by kernel_rfl) (by kernel_rfl) (by kernel_rfl) (by kernel_rfl) (by kernel_rfl) rfl ⟨_, _, rfl, rfl, rfl⟩ (fun _ _ _ h => h) hM ?_
                          clear hl a; intro a hl
                          refine d_skipU (i := 7) hl rfl (by kernel_rfl) (by kernel_rfl) (by kernel_rfl) (by kernel_rfl) (by kernel_rfl) rfl ⟨_, _, rfl, rfl, rfl⟩ (fun _ _ _ h => h) hM ?_
                          clear hl a; intro a hl
                          refine d_skipU (i := 8) hl rfl (by kernel_rfl) (by kernel_rfl) (by kernel_rfl) (by kernel_rfl) (by kernel_rfl) rfl ⟨_, _, rfl, rfl, rfl⟩ (fun _ _ _ h => h) hM ?_
                          clear hl a; intro a hl
                          refine d_skipU (i := 9) hl rfl (by kernel_rfl) (by kernel_rfl) (by kernel_rfl) (by kernel_rfl) (by kernel_rfl) rfl ⟨_, _, rfl, rfl, rfl⟩ (fun _ _ _ h => h) hM ?_
                          clear hl a; intro a hl
                          refine d_skipU (i := 10) hl rfl (by kernel_rfl) (by kernel_rfl) (by kernel_rfl) (by kernel_rfl) (by kernel_rfl) rfl ⟨_, _, rfl, rfl, rfl⟩ (fun _ _ _ h => h) hM ?_
                          clear hl a; intro a hl
                          refine d_skipU (i := 11) hl rfl (by kernel_rfl) (by kernel_rfl) (by kernel_rfl) (by kernel_rfl) (by kernel_rfl) rfl ⟨_, _, rfl, rfl, rfl⟩ (fun _ _ _ h => h) hM ?_
                          clear hl a; intro a hl
                          refine d_skipU (i := 12) hl rfl (by kernel_rfl) (by kernel_rfl) (by kernel_rfl) (by kernel_rfl) (by kernel_rfl) rfl ⟨_, _, rfl, rfl, rfl⟩ (fun _ _ _ h => h) hM ?_
                          clear hl a; intro a hl
                          refine d_skipU (i := 13) hl rfl (by kernel_rfl) (by kernel_rfl) (by kernel_rfl) (by kernel_rfl) (by kernel_rfl) rfl ⟨_, _, rfl, rfl, rfl⟩ (fun _ _ _ h => h) hM ?_
                          clear hl a; intro a hl
                          refine d_skipU (i := 14) hl rfl (by kernel_rfl) (by kernel_rfl) (by kernel_rfl) (by kernel_rfl) (by kernel_rfl) rfl ⟨_, _, rfl, rfl, rfl⟩ (fun _ _ _ h => h) hM ?_
                          clear hl a; intro a hl
                          refine d_skipU (i := 15) hl rfl (by kernel_rfl) (by kernel_rfl) (by kernel_rfl) (by kernel_rfl) (by kernel_rfl) rfl ⟨_, _, rfl, rfl, rfl⟩ (fun _ _ _ h => h) hM ?_
                          clear hl a; intro a hl
                          refine d_skip (i := 16) hl rfl (by kernel_rfl) (by kernel_rfl) (by kernel_rfl) (by kernel_rfl) (by kernel_rfl) rfl ⟨_, _, rfl, rfl, rfl⟩ (fun _ _ _ h => h) hM ?_
                          clear hl a; intro a hl
                          refine d_takeL (i := 17) hl rfl (by kernel_rfl) (by kernel_rfl) (by kernel_rfl) (by kernel_rfl) (by kernel_rfl) rfl trivial (fun _ _ _ h => h) (fun w => r_pickF hl rfl rfl) rfl ?_
                          clear hl a; intro a hl
                          refine d_takeL (i := 18) hl rfl (by kernel_rfl) (by kernel_rfl) (by kernel_rfl) (by kernel_rfl) (by kernel_rfl) rfl trivial (fun _ _ _ h => h) (fun w => r_assign hl rfl) rfl ?_
                          clear hl a; intro a hl
                          refine d_done (by kernel_rfl) ?_
                          try clear hM
                          have hl2 := hl.add (t := 0) (hl.add (t := 126) (hl.nil) rfl) rfl; clear hl; have hl := hl2; clear hl2
                          refine then_normal ?_
                          refine c_condF hl rfl ?_
                          refine wp_skip ?_
                          refine blk_normal ?_
                          refine then_normal ?_
                          refine wp_ret ?_
                          refine then_ret ?_
                          refine f_ret0 (F' := [(mp, C (encM (ackM s sk ack dup lu) st sk bp) 69)]) hl hh rfl (by repeat (first | exact keeps_nil | apply keeps_cons (by repeat (first | exact find_head | apply find_tail)) (by first  | (exfalso; omega) | (exact absurd (hk.symm.trans (show sk = true by assumption)) (by decide)) | (exact blk_eqM (congrArg (fun z => encM z st sk bp) ((ack_dup (show ¬ (ack < s.una ∨ s.nxt < ack) by omega) (by omega) (by assumption) (by omega)).trans (dup_1 (by assumption) hk)).symm)) | (exact blk_eqM (congrArg (fun z => encM z st sk bp) ((ack_dup (show ¬ (ack < s.una ∨ s.nxt < ack) by omega) (by omega) (by assumption) (by omega)).trans (dup_2 (by omega) (by omega))).symm)) | (exact blk_eqM (congrArg (fun z => encM z st sk bp) ((ack_dup (show ¬ (ack < s.una ∨ s.nxt < ack) by omega) (by omega) (by assumption) (by omega)).trans (dup_3n hk (by assumption) (by omega) (by omega))).symm)) | (exact blk_eqM (congrArg (fun z => encM z st sk bp) ((ack_dup (show ¬ (ack < s.una ∨ s.nxt < ack) by omega) (by omega) (by assumption) (by omega)).trans (dup_4 (by assumption) (sig_no hk (by omega)))).symm)) | rfl) | exact keeps_self | apply keeps_mv)) ?_
                          exact ⟨rfl, rfl⟩
                    · intro hg9; clear hl; intro hl
                      try simp only [decide_eq_true_eq, decide_eq_false_iff_not, Bool.not_eq_true', Bool.not_eq_false', Bool.not_eq_true, Bool.not_eq_false, Bool.and_eq_true, Bool.or_eq_true, Bool.and_eq_false_iff, Bool.or_eq_false_iff, Bool.not_not, ne_eq, Int.not_lt, Int.not_le, Decidable.not_not, beq_iff_eq, bne_iff_ne] at hg9
                      refine d_skip (i := 9) hl rfl (by kernel_rfl) (by kernel_rfl) (by kernel_rfl) (by kernel_rfl) (by kernel_rfl) rfl ⟨_, _, rfl, rfl, rfl⟩ (fun _ _ _ h => h) hM ?_
                      clear hl a; intro a hl
                      refine d_skip (i := 10) hl rfl (by kernel_rfl) (by kernel_rfl) (by kernel_rfl) (by kernel_rfl) (by kernel_rfl) rfl ⟨_, _, rfl, rfl, rfl⟩ (fun _ _ _ h => h) hM ?_
                      clear hl a; intro a hl
                      refine d_skip (i := 11) hl rfl (by kernel_rfl) (by kernel_rfl) (by kernel_rfl) (by kernel_rfl) (by kernel_rfl) rfl ⟨_, _, rfl, rfl, rfl⟩ (fun _ _ _ h => h) hM ?_
                      clear hl a; intro a hl
                      refine d_skip (i := 12) hl rfl (by kernel_rfl) (by kernel_rfl) (by kernel_rfl) (by kernel_rfl) (by kernel_rfl) rfl ⟨_, _, rfl, rfl, rfl⟩ (fun _ _ _ h => h) hM ?_
                      clear hl a; intro a hl
                      refine d_skip (i := 13) hl rfl (by kernel_rfl) (by kernel_rfl) (by kernel_rfl) (by kernel_rfl) (by kernel_rfl) rfl ⟨_, _, rfl, rfl, rfl⟩ (fun _ _ _ h => h) hM ?_
                      clear hl a; intro a hl
                      refine d_skip (i := 14) hl rfl (by kernel_rfl) (by kernel_rfl) (by kernel_rfl) (by kernel_rfl) (by kernel_rfl) rfl ⟨_, _, rfl, rfl, rfl⟩ (fun _ _ _ h => h) hM ?_
                      clear hl a; intro a hl
                      refine d_skip (i := 15) hl rfl (by kernel_rfl) (by kernel_rfl) (by kernel_rfl) (by kernel_rfl) (by kernel_rfl) rfl ⟨_, _, rfl, rfl, rfl⟩ (fun _ _ _ h => h) hM ?_
                      clear hl a; intro a hl
                      refine d_skip (i := 16) hl rfl (by kernel_rfl) (by kernel_rfl) (by kernel_rfl) (by kernel_rfl) (by kernel_rfl) rfl ⟨_, _, rfl, rfl, rfl⟩ (fun _ _ _ h => h) hM ?_
                      clear hl a; intro a hl
                      refine d_skip (i := 17) hl rfl (by kernel_rfl) (by kernel_rfl) (by kernel_rfl) (by kernel_rfl) (by kernel_rfl) rfl ⟨_, _, rfl, rfl, rfl⟩ (fun _ _ _ h => h) hM ?_
                      clear hl a; intro a hl
                      refine d_takeL (i := 18) hl rfl (by kernel_rfl) (by kernel_rfl) (by kernel_rfl) (by kernel_rfl) (by kernel_rfl) rfl trivial (fun _ _ _ h => h) (fun w => r_pickF hl rfl rfl) rfl ?_
                      clear hl a; intro a hl
                      refine d_takeL (i := 19) hl rfl (by kernel_rfl) (by kernel_rfl) (by kernel_rfl) (by kernel_rfl) (by kernel_rfl) rfl trivial (fun _ _ _ h => h) (fun w => r_assign hl rfl) rfl ?_
                      clear hl a; intro a hl
                      refine d_done (by kernel_rfl) ?_
                      try clear hM
                      have hl2 := hl.add (t := 0) (hl.add (t := 11) (hl.add (t := 126) (hl.nil) rfl) rfl) rfl; clear hl; have hl := hl2; clear hl2
                      refine then_normal ?_
                      refine c_condF hl rfl ?_
                      refine c_draw [(mp, C (encM ({ s with dups := s.dups + 1 }) st sk bp) 69)] [15, 16, 17, 18] mixed hh ?_
                      clear hh w; intro w hh
                      have hM : Mem [(mp, C (encM ({ s with dups := s.dups + 1 }) st sk bp) 69)] w := (by (repeat (first | exact Mem.nil | refine Mem.cons hh.mem (by (repeat (first | exact find_head | apply find_tail)); done) ?_ | refine Mem.consR hh (by assumption) (by simp) ?_ | fail)); done)
                      refine d_take (i := 0) hl rfl (by kernel_rfl) (by kernel_rfl) (by kernel_rfl) (by kernel_rfl) (by kernel_rfl) rfl trivial (fun _ _ _ h => h) hM (fun w hC => r_move hl rfl) rfl ?_
                      clear hl a; intro a hl
                      refine d_take (i := 1) hl rfl (by kernel_rfl) (by kernel_rfl) (by kernel_rfl) (by kernel_rfl) (by kernel_rfl) rfl trivial (fun _ _ _ h => h) hM (fun w hC => r_nilCheck hl rfl) rfl ?_
                      clear hl a; intro a hl
                      refine d_take (i := 2) hl rfl (by kernel_rfl) (by kernel_rfl) (by kernel_rfl) (by kernel_rfl) (by kernel_rfl) rfl trivial (fun _ _ _ h => h) hM (fun w hC => r_field hl rfl fld69_3) rfl ?_
                      clear hl a; intro a hl
                      refine d_take (i := 3) hl rfl (by kernel_rfl) (by kernel_rfl) (by kernel_rfl) (by kernel_rfl) (by kernel_rfl) rfl trivial (fun _ _ _ h => h) hM (fun w hC => r_loadC hl rfl one4 hC (by repeat (first | exact find_head | apply find_tail)) (by first | rfl)) rfl ?_
                      clear hl a; intro a hl
                      refine d_take (i := 4) hl rfl (by kernel_rfl) (by kernel_rfl) (by kernel_rfl) (by kernel_rfl) (by kernel_rfl) rfl trivial (fun _ _ _ h => h) hM (fun w hC => r_move hl rfl) rfl ?_
                      clear hl a; intro a hl
                      refine sl_split (t := 150) hl rfl ?_ ?_
                      · intro hg11; clear hl; intro hl
                        try simp only [decide_eq_true_eq, decide_eq_false_iff_not, Bool.not_eq_true', Bool.not_eq_false', Bool.not_eq_true, Bool.not_eq_false, Bool.and_eq_true, Bool.or_eq_true, Bool.and_eq_false_iff, Bool.or_eq_false_iff, Bool.not_not, ne_eq, Int.not_lt, Int.not_le, Decidable.not_not, beq_iff_eq, bne_iff_ne] at hg11
                        exfalso; first | contradiction | omega | (simp_all; done)
                      · intro hg11; clear hl; intro hl
                        try simp only [decide_eq_true_eq, decide_eq_false_iff_not, Bool.not_eq_true', Bool.not_eq_false', Bool.not_eq_true, Bool.not_eq_false, Bool.and_eq_true, Bool.or_eq_true, Bool.and_eq_false_iff, Bool.or_eq_false_iff, Bool.not_not, ne_eq, Int.not_lt, Int.not_le, Decidable.not_not, beq_iff_eq, bne_iff_ne] at hg11
                        refine d_skip (i := 5) hl rfl (by kernel_rfl) (by kernel_rfl) (by kernel_rfl) (by kernel_rfl) (by kernel_rfl) rfl ⟨_, _, rfl, rfl, rfl⟩ (fun _ _ _ h => h) hM ?_
                        clear hl a; intro a hl
                        refine d_skip (i := 6) hl rfl (by kernel_rfl) (by kernel_rfl) (by kernel_rfl) (by kernel_rfl) (by kernel_rfl) rfl ⟨_, _, rfl, rfl, rfl⟩ (fun _ _ _ h => h) hM ?_
                        clear hl a; intro a hl
                        refine d_skipU (i := 7) hl rfl (by kernel_rfl) (by kernel_rfl) (by kernel_rfl) (by kernel_rfl) (by kernel_rfl) rfl ⟨_, _, rfl, rfl, rfl⟩ (fun _ _ _ h => h) hM ?_
                        clear hl a; intro a hl
                        refine d_skipU (i := 8) hl rfl (by kernel_rfl) (by kernel_rfl) (by kernel_rfl) (by kernel_rfl) (by kernel_rfl) rfl ⟨_, _, rfl, rfl, rfl⟩ (fun _ _ _ h => h) hM ?_
                        clear hl a; intro a hl
                        refine d_skipU (i := 9) hl rfl (by kernel_rfl) (by kernel_rfl) (by kernel_rfl) (by kernel_rfl) (by kernel_rfl) rfl ⟨_, _, rfl, rfl, rfl⟩ (fun _ _ _ h => h) hM ?_
                        clear hl a; intro a hl
                        refine d_skipU (i := 10) hl rfl (by kernel_rfl) (by kernel_rfl) (by kernel_rfl) (by kernel_rfl) (by kernel_rfl) rfl ⟨_, _, rfl, rfl, rfl⟩ (fun _ _ _ h => h) hM ?_
                        clear hl a; intro a hl
                        refine d_skipU (i := 11) hl rfl (by kernel_rfl) (by kernel_rfl) (by kernel_rfl) (by kernel_rfl) (by kernel_rfl) rfl ⟨_, _, rfl, rfl, rfl⟩ (fun _ _ _ h => h) hM ?_
                        clear hl a; intro a hl
                        refine d_skipU (i := 12) hl rfl (by kernel_rfl) (by kernel_rfl) (by kernel_rfl) (by kernel_rfl) (by kernel_rfl) rfl ⟨_, _, rfl, rfl, rfl⟩ (fun _ _ _ h => h) hM ?_
                        clear hl a; intro a hl
                        refine d_skipU (i := 13) hl rfl (by kernel_rfl) (by kernel_rfl) (by kernel_rfl) (by kernel_rfl) (by kernel_rfl) rfl ⟨_, _, rfl, rfl, rfl⟩ (fun _ _ _ h => h) hM ?_
                        clear hl a; intro a hl
                        refine d_skipU (i := 14) hl rfl (by kernel_rfl) (by kernel_rfl) (by kernel_rfl) (by kernel_rfl) (by kernel_rfl) rfl ⟨_, _, rfl, rfl, rfl⟩ (fun _ _ _ h => h) hM ?_
                        clear hl a; intro a hl
                        refine d_skipU (i := 15) hl rfl (by kernel_rfl) (by kernel_rfl) (by kernel_rfl) (by kernel_rfl) (by kernel_rfl) rfl ⟨_, _, rfl, rfl, rfl⟩ (fun _ _ _ h => h) hM ?_
                        clear hl a; intro a hl
                        refine d_skip (i := 16) hl rfl (by kernel_rfl) (by kernel_rfl) (by kernel_rfl) (by kernel_rfl) (by kernel_rfl) rfl ⟨_, _, rfl, rfl, rfl⟩ (fun _ _ _ h => h) hM ?_
                        clear hl a; intro a hl
                        refine d_takeL (i := 17) hl rfl (by kernel_rfl) (by kernel_rfl) (by kernel_rfl) (by kernel_rfl) (by kernel_rfl) rfl trivial (fun _ _ _ h => h) (fun w => r_pickF hl rfl rfl) rfl ?_
                        clear hl a; intro a hl
                        refine d_takeL (i := 18) hl rfl (by kernel_rfl) (by kernel_rfl) (by kernel_rfl) (by kernel_rfl) (by kernel_rfl) rfl trivial (fun _ _ _ h => h) (fun w => r_assign hl rfl) rfl ?_
                        clear hl a; intro a hl
                        refine d_done (by kernel_rfl) ?_
                        try clear hM
                        have hl2 := hl.add (t := 0) (hl.add (t := 126) (hl.nil) rfl) rfl; clear hl; have hl := hl2; clear hl2
                        refine then_normal ?_
                        refine c_condF hl rfl ?_
                        refine wp_skip ?_
                        refine blk_normal ?_
                        refine then_normal ?_
                        refine wp_ret ?_
                        refine then_ret ?_
                        refine f_ret0 (F' := [(mp, C (encM (ackM s sk ack dup lu) st sk bp) 69)]) hl hh rfl (by repeat (first | exact keeps_nil | apply keeps_cons (by repeat (first | exact find_head | apply find_tail)) (by first  | (exfalso; omega) | (exact absurd (hk.symm.trans (show sk = true by assumption)) (by decide)) | (exact blk_eqM (congrArg (fun z => encM z st sk bp) ((ack_dup (show ¬ (ack < s.una ∨ s.nxt < ack) by omega) (by omega) (by assumption) (by omega)).trans (dup_1 (by assumption) hk)).symm)) | (exact blk_eqM (congrArg (fun z => encM z st sk bp) ((ack_dup (show ¬ (ack < s.una ∨ s.nxt < ack) by omega) (by omega) (by assumption) (by omega)).trans (dup_2 (by omega) (by omega))).symm)) | (exact blk_eqM (congrArg (fun z => encM z st sk bp) ((ack_dup (show ¬ (ack < s.una ∨ s.nxt < ack) by omega) (by omega) (by assumption) (by omega)).trans (dup_3n hk (by assumption) (by omega) (by omega))).symm)) | (exact blk_eqM (congrArg (fun z => encM z st sk bp) ((ack_dup (show ¬ (ack < s.una ∨ s.nxt < ack) by omega) (by omega) (by assumption) (by omega)).trans (dup_4 (by assumption) (sig_no hk (by omega)))).symm)) | rfl) | exact keeps_self | apply keeps_mv)) ?_
                        exact ⟨rfl, rfl⟩
                  · intro hg8; clear hl; intro hl
                    try simp only [decide_eq_true_eq, decide_eq_false_iff_not, Bool.not_eq_true', Bool.not_eq_false', Bool.not_eq_true, Bool.not_eq_false, Bool.and_eq_true, Bool.or_eq_true, Bool.and_eq_false_iff, Bool.or_eq_false_iff, Bool.not_not, ne_eq, Int.not_lt, Int.not_le, Decidable.not_not, beq_iff_eq, bne_iff_ne] at hg8
                    exfalso; first | contradiction | omega | (simp_all; done)
        · intro hc3
          try simp only [decide_eq_true_eq, decide_eq_false_iff_not, Bool.not_eq_true', Bool.not_eq_false', Bool.not_eq_true, Bool.not_eq_false, Bool.and_eq_true, Bool.or_eq_true, Bool.and_eq_false_iff, Bool.or_eq_false_iff, Bool.not_not, ne_eq, Int.not_lt, Int.not_le, Decidable.not_not, beq_iff_eq, bne_iff_ne] at hc3
          refine wp_skip ?_
          refine then_normal ?_
          refine c_seq ?_
          refine c_region ?_
          refine wl (wl_val hl rfl trivial (r_move hl rfl) ?_)
          clear hl a; intro a hl
          refine wl (wl_val hl rfl trivial (r_move hl rfl) ?_)
          clear hl a; intro a hl
          refine wl (wl_val hl rfl trivial (r_nilCheck hl rfl) ?_)
          clear hl a; intro a hl
          refine wl (wl_val hl rfl trivial (r_field hl rfl fld69_8) ?_)
          clear hl a; intro a hl
          refine wl (w_load hl hh rfl trivial one2 rfl (by repeat (first | exact find_head | apply find_tail)) (by first | rfl) ?_)
          clear hl a; intro a hl
          first | refine wl (wl_val hl rfl trivial (r_sub hl rfl rfl (by simp only [Fits]; omega)) ?_) | refine wl (wl_val hl rfl trivial (r_subW hl rfl rfl) ?_)
          clear hl a; intro a hl
          refine wl (wl_val hl rfl trivial (r_assign hl rfl) ?_)
          clear hl a; intro a hl
          refine w_nil ?_
          have hl2 := hl.add (t := 0) (hl.add (t := 1) (hl.add (t := 12) (hl.nil) rfl) rfl) rfl; clear hl; have hl := hl2; clear hl2
          refine then_normal ?_
          refine c_seq ?_
          refine c_region ?_
          refine wl (wl_val hl rfl trivial (r_move hl rfl) ?_)
          clear hl a; intro a hl
          refine wl (wl_val hl rfl trivial (r_move hl rfl) ?_)
          clear hl a; intro a hl
          refine wl (wl_val hl rfl trivial (r_nilCheck hl rfl) ?_)
          clear hl a; intro a hl
          refine wl (wl_val hl rfl trivial (r_field hl rfl fld69_8) ?_)
          clear hl a; intro a hl
          refine wl (w_store hl hh trivial one2 rfl rfl (by repeat (first | exact find_head | apply find_tail)) (by first | (simp; done) | (simp; omega)) (by first | rfl | assumption | (apply Row.one; assumption)) (by first | (simp only [encM, setL, List.getElem?_cons_zero, List.getElem?_cons_succ, Value.cells, List.take_zero, List.take_succ_cons, List.take_nil, List.drop_zero, List.drop_succ_cons, List.drop_nil, List.length_cons, List.length_nil, List.cons_append, List.nil_append, List.append_nil, Nat.zero_add, Nat.add_zero, Nat.reduceAdd, Nat.reduceBEq, Nat.reduceEqDiff, Nat.ble, BEq.rfl, Bool.and_true, Bool.and_self, cond_true, beq_self_eq_true]; rfl) | (simp only [setL, List.getElem?_cons_zero, List.getElem?_cons_succ, Value.cells, List.take_zero, List.take_succ_cons, List.take_nil, List.drop_zero, List.drop_succ_cons, List.drop_nil, List.length_cons, List.length_nil, List.cons_append, List.nil_append, List.append_nil, Nat.zero_add, Nat.add_zero, Nat.reduceAdd, Nat.reduceBEq, Nat.reduceEqDiff, Nat.ble, BEq.rfl, Bool.and_true, Bool.and_self, cond_true, beq_self_eq_true]; rfl)) ?_)
          clear hh w; intro w hh
          refine w_nil ?_
          have hl2 := hl.add (t := 0) (hl.add (t := 1) (hl.add (t := 12) (hl.nil) rfl) rfl) rfl; clear hl; have hl := hl2; clear hl2
          refine then_normal ?_
          refine c_seq ?_
          refine c_region ?_
          refine wl (wl_val hl rfl trivial (r_move hl rfl) ?_)
          clear hl a; intro a hl
          refine wl (wl_val hl rfl trivial (r_move hl rfl) ?_)
          clear hl a; intro a hl
          refine wl (wl_val hl rfl trivial (r_nilCheck hl rfl) ?_)
          clear hl a; intro a hl
          refine wl (wl_val hl rfl trivial (r_field hl rfl fld69_12) ?_)
          clear hl a; intro a hl
          refine wl (w_load hl hh rfl trivial one2 rfl (by repeat (first | exact find_head | apply find_tail)) (by first | rfl) ?_)
          clear hl a; intro a hl
          refine wl (wl_val hl rfl trivial (r_move hl rfl) ?_)
          clear hl a; intro a hl
          refine wl (wl_val hl rfl trivial (r_maxI hl rfl rfl) ?_)
          clear hl a; intro a hl
          refine wl (wl_val hl rfl trivial (r_nilCheck hl rfl) ?_)
          clear hl a; intro a hl
          refine wl (wl_val hl rfl trivial (r_field hl rfl fld69_12) ?_)
          clear hl a; intro a hl
          refine wl (w_store hl hh trivial one2 rfl rfl (by repeat (first | exact find_head | apply find_tail)) (by first | (simp; done) | (simp; omega)) (by first | rfl | assumption | (apply Row.one; assumption)) (by first | (simp only [encM, setL, List.getElem?_cons_zero, List.getElem?_cons_succ, Value.cells, List.take_zero, List.take_succ_cons, List.take_nil, List.drop_zero, List.drop_succ_cons, List.drop_nil, List.length_cons, List.length_nil, List.cons_append, List.nil_append, List.append_nil, Nat.zero_add, Nat.add_zero, Nat.reduceAdd, Nat.reduceBEq, Nat.reduceEqDiff, Nat.ble, BEq.rfl, Bool.and_true, Bool.and_self, cond_true, beq_self_eq_true]; rfl) | (simp only [setL, List.getElem?_cons_zero, List.getElem?_cons_succ, Value.cells, List.take_zero, List.take_succ_cons, List.take_nil, List.drop_zero, List.drop_succ_cons, List.drop_nil, List.length_cons, List.length_nil, List.cons_append, List.nil_append, List.append_nil, Nat.zero_add, Nat.add_zero, Nat.reduceAdd, Nat.reduceBEq, Nat.reduceEqDiff, Nat.ble, BEq.rfl, Bool.and_true, Bool.and_self, cond_true, beq_self_eq_true]; rfl)) ?_)
          clear hh w; intro w hh
          refine w_nil ?_
          have hl2 := hl.add (t := 0) (hl.add (t := 1) (hl.add (t := 12) (hl.nil) rfl) rfl) rfl; clear hl; have hl := hl2; clear hl2
          refine then_normal ?_
          refine c_seq ?_
          refine c_region ?_
          refine wl (wl_val hl rfl trivial (r_move hl rfl) ?_)
          clear hl a; intro a hl
          refine wl (wl_val hl rfl trivial (r_move hl rfl) ?_)
          clear hl a; intro a hl
          refine wl (wl_val hl rfl trivial (r_move hl rfl) ?_)
          clear hl a; intro a hl
          refine wl (wl_val hl rfl trivial (r_nilCheck hl rfl) ?_)
          clear hl a; intro a hl
          refine wl (wl_val hl rfl trivial (r_field hl rfl fld69_13) ?_)
          clear hl a; intro a hl
          refine wl (w_store hl hh trivial one2 rfl rfl (by repeat (first | exact find_head | apply find_tail)) (by first | (simp; done) | (simp; omega)) (by first | rfl | assumption | (apply Row.one; assumption)) (by first | (simp only [encM, setL, List.getElem?_cons_zero, List.getElem?_cons_succ, Value.cells, List.take_zero, List.take_succ_cons, List.take_nil, List.drop_zero, List.drop_succ_cons, List.drop_nil, List.length_cons, List.length_nil, List.cons_append, List.nil_append, List.append_nil, Nat.zero_add, Nat.add_zero, Nat.reduceAdd, Nat.reduceBEq, Nat.reduceEqDiff, Nat.ble, BEq.rfl, Bool.and_true, Bool.and_self, cond_true, beq_self_eq_true]; rfl) | (simp only [setL, List.getElem?_cons_zero, List.getElem?_cons_succ, Value.cells, List.take_zero, List.take_succ_cons, List.take_nil, List.drop_zero, List.drop_succ_cons, List.drop_nil, List.length_cons, List.length_nil, List.cons_append, List.nil_append, List.append_nil, Nat.zero_add, Nat.add_zero, Nat.reduceAdd, Nat.reduceBEq, Nat.reduceEqDiff, Nat.ble, BEq.rfl, Bool.and_true, Bool.and_self, cond_true, beq_self_eq_true]; rfl)) ?_)
          clear hh w; intro w hh
          refine wl (wl_val hl rfl trivial (r_nilCheck hl rfl) ?_)
          clear hl a; intro a hl
          refine wl (wl_val hl rfl trivial (r_field hl rfl fld69_14) ?_)
          clear hl a; intro a hl
          refine wl (w_store hl hh trivial one4 rfl rfl (by repeat (first | exact find_head | apply find_tail)) (by first | (simp; done) | (simp; omega)) (by first | rfl | assumption | (apply Row.one; assumption)) (by first | (simp only [encM, setL, List.getElem?_cons_zero, List.getElem?_cons_succ, Value.cells, List.take_zero, List.take_succ_cons, List.take_nil, List.drop_zero, List.drop_succ_cons, List.drop_nil, List.length_cons, List.length_nil, List.cons_append, List.nil_append, List.append_nil, Nat.zero_add, Nat.add_zero, Nat.reduceAdd, Nat.reduceBEq, Nat.reduceEqDiff, Nat.ble, BEq.rfl, Bool.and_true, Bool.and_self, cond_true, beq_self_eq_true]; rfl) | (simp only [setL, List.getElem?_cons_zero, List.getElem?_cons_succ, Value.cells, List.take_zero, List.take_succ_cons, List.take_nil, List.drop_zero, List.drop_succ_cons, List.drop_nil, List.length_cons, List.length_nil, List.cons_append, List.nil_append, List.append_nil, Nat.zero_add, Nat.add_zero, Nat.reduceAdd, Nat.reduceBEq, Nat.reduceEqDiff, Nat.ble, BEq.rfl, Bool.and_true, Bool.and_self, cond_true, beq_self_eq_true]; rfl)) ?_)
          clear hh w; intro w hh
          refine wl (wl_val hl rfl trivial (r_nilCheck hl rfl) ?_)
          clear hl a; intro a hl
          refine wl (wl_val hl rfl trivial (r_field hl rfl fld69_15) ?_)
          clear hl a; intro a hl
          refine wl (w_store hl hh trivial one4 rfl rfl (by repeat (first | exact find_head | apply find_tail)) (by first | (simp; done) | (simp; omega)) (by first | rfl | assumption | (apply Row.one; assumption)) (by first | (simp only [encM, setL, List.getElem?_cons_zero, List.getElem?_cons_succ, Value.cells, List.take_zero, List.take_succ_cons, List.take_nil, List.drop_zero, List.drop_succ_cons, List.drop_nil, List.length_cons, List.length_nil, List.cons_append, List.nil_append, List.append_nil, Nat.zero_add, Nat.add_zero, Nat.reduceAdd, Nat.reduceBEq, Nat.reduceEqDiff, Nat.ble, BEq.rfl, Bool.and_true, Bool.and_self, cond_true, beq_self_eq_true]; rfl) | (simp only [setL, List.getElem?_cons_zero, List.getElem?_cons_succ, Value.cells, List.take_zero, List.take_succ_cons, List.take_nil, List.drop_zero, List.drop_succ_cons, List.drop_nil, List.length_cons, List.length_nil, List.cons_append, List.nil_append, List.append_nil, Nat.zero_add, Nat.add_zero, Nat.reduceAdd, Nat.reduceBEq, Nat.reduceEqDiff, Nat.ble, BEq.rfl, Bool.and_true, Bool.and_self, cond_true, beq_self_eq_true]; rfl)) ?_)
          clear hh w; intro w hh
          refine w_nil ?_
          have hl2 := hl.add (t := 0) (hl.add (t := 1) (hl.add (t := 12) (hl.nil) rfl) rfl) rfl; clear hl; have hl := hl2; clear hl2
          refine then_normal ?_
          refine wp_block ?_
          refine c_seq ?_
          refine c_region ?_
          refine wl (wl_val hl rfl trivial (r_move hl rfl) ?_)
          clear hl a; intro a hl
          refine wl (wl_val hl rfl trivial (r_nilCheck hl rfl) ?_)
          clear hl a; intro a hl
          refine wl (wl_val hl rfl trivial (r_field hl rfl fld69_10) ?_)
          clear hl a; intro a hl
          refine wl (w_load hl hh rfl trivial one59 rfl (by repeat (first | exact find_head | apply find_tail)) (by first | rfl) ?_)
          clear hl a; intro a hl
          refine wl (wl_val hl rfl trivial (r_eql hl rfl rfl) ?_)
          clear hl a; intro a hl
          refine wl (wl_val hl rfl trivial (r_assign hl rfl) ?_)
          clear hl a; intro a hl
          refine w_nil ?_
          have hl2 := hl.add (t := 0) (hl.add (t := 1) (hl.add (t := 12) (hl.add (t := 255) (hl.nil) rfl) rfl) rfl) rfl; clear hl; have hl := hl2; clear hl2
          refine then_normal ?_
          refine c_cond hl rfl ?_ ?_
          · intro hc10
            try simp only [decide_eq_true_eq, decide_eq_false_iff_not, Bool.not_eq_true', Bool.not_eq_false', Bool.not_eq_true, Bool.not_eq_false, Bool.and_eq_true, Bool.or_eq_true, Bool.and_eq_false_iff, Bool.or_eq_false_iff, Bool.not_not, ne_eq, Int.not_lt, Int.not_le, Decidable.not_not, beq_iff_eq, bne_iff_ne] at hc10
            refine c_region ?_
            refine wl (wl_val hl rfl trivial (r_move hl rfl) ?_)
            clear hl a; intro a hl
            refine wl (wl_val hl rfl trivial (r_move hl rfl) ?_)
            clear hl a; intro a hl
            refine wl (w_call hl hh rfl trivial rfl cal49 rfl (open_m mp (adv0 s ack) st sk bp (adv0_mk hs (by omega) (by omega)) hcr (ack - s.una) (by omega)) (by repeat (first | exact keeps_nil | apply keeps_cons (by repeat (first | exact find_head | apply find_tail)) (by first  | rfl) | exact keeps_self | apply keeps_mv)) trivial ?_)
            clear hl hh a w; intro vc Fc a w hR hl hh
            obtain ⟨rfl, rfl⟩ := hR
            try simp only [List.cons_append, List.nil_append] at hh
            refine w_nil ?_
            have hl2 := hl.nil; clear hl; have hl := hl2; clear hl2
            refine blk_normal ?_
            refine f_end0 (F' := [(mp, C (encM (ackM s sk ack dup lu) st sk bp) 69)]) hl hh rfl (by repeat (first | exact keeps_nil | apply keeps_cons (by repeat (first | exact find_head | apply find_tail)) (by first  | (exfalso; omega) | (exact absurd (hk.symm.trans (show sk = true by assumption)) (by decide)) | (exact blk_eqM (congrArg (fun z => encM z st sk bp) ((ack_adv (show ¬ (ack < s.una ∨ s.nxt < ack) by omega) (by omega)).trans (adv_0 (by assumption))).symm)) | (exact blk_eqM (congrArg (fun z => encM z st sk bp) ((ack_adv (show ¬ (ack < s.una ∨ s.nxt < ack) by omega) (by omega)).trans (adv_2a (by assumption) (by omega))).symm)) | (exact blk_eqM (congrArg (fun z => encM z st sk bp) ((ack_adv (show ¬ (ack < s.una ∨ s.nxt < ack) by omega) (by omega)).trans (adv_2b (by assumption) (by omega))).symm)) | (exact blk_eqM (congrArg (fun z => encM z st sk bp) ((ack_adv (show ¬ (ack < s.una ∨ s.nxt < ack) by omega) (by omega)).trans (adv_1an hk (by omega) (by omega) (by omega))).symm)) | (exact blk_eqM (congrArg (fun z => encM z st sk bp) ((ack_adv (show ¬ (ack < s.una ∨ s.nxt < ack) by omega) (by omega)).trans (adv_1T hk (by omega) (by omega) (by omega) (by omega) hc9)).symm)) | (exact blk_eqM (congrArg (fun z => encM z st sk bp) ((ack_adv (show ¬ (ack < s.una ∨ s.nxt < ack) by omega) (by omega)).trans (adv_1F hk (by omega) (by omega) (by omega) (by omega) hc9)).symm)) | rfl) | exact keeps_self | apply keeps_mv)) ?_
            exact ⟨rfl, rfl⟩
          · intro hc10
            try simp only [decide_eq_true_eq, decide_eq_false_iff_not, Bool.not_eq_true', Bool.not_eq_false', Bool.not_eq_true, Bool.not_eq_false, Bool.and_eq_true, Bool.or_eq_true, Bool.and_eq_false_iff, Bool.or_eq_false_iff, Bool.not_not, ne_eq, Int.not_lt, Int.not_le, Decidable.not_not, beq_iff_eq, bne_iff_ne] at hc10
            refine c_seq ?_
            refine c_region ?_
            refine wl (wl_val hl rfl trivial (r_move hl rfl) ?_)
            clear hl a; intro a hl
            refine wl (wl_val hl rfl trivial (r_nilCheck hl rfl) ?_)
            clear hl a; intro a hl
            refine wl (wl_val hl rfl trivial (r_field hl rfl fld69_10) ?_)
            clear hl a; intro a hl
            refine wl (w_load hl hh rfl trivial one59 rfl (by repeat (first | exact find_head | apply find_tail)) (by first | rfl) ?_)
            clear hl a; intro a hl
            refine wl (wl_val hl rfl trivial (r_eql hl rfl rfl) ?_)
            clear hl a; intro a hl
            refine wl (wl_val hl rfl trivial (r_assign hl rfl) ?_)
            clear hl a; intro a hl
            refine w_nil ?_
            have hl2 := hl.add (t := 0) (hl.add (t := 1) (hl.add (t := 12) (hl.add (t := 264) (hl.nil) rfl) rfl) rfl) rfl; clear hl; have hl := hl2; clear hl2
            refine then_normal ?_
            refine c_cond hl rfl ?_ ?_
            · intro hc11
              try simp only [decide_eq_true_eq, decide_eq_false_iff_not, Bool.not_eq_true', Bool.not_eq_false', Bool.not_eq_true, Bool.not_eq_false, Bool.and_eq_true, Bool.or_eq_true, Bool.and_eq_false_iff, Bool.or_eq_false_iff, Bool.not_not, ne_eq, Int.not_lt, Int.not_le, Decidable.not_not, beq_iff_eq, bne_iff_ne] at hc11
              refine c_seq ?_
              refine c_region ?_
              refine wl (wl_val hl rfl trivial (r_move hl rfl) ?_)
              clear hl a; intro a hl
              refine wl (wl_val hl rfl trivial (r_move hl rfl) ?_)
              clear hl a; intro a hl
              refine wl (w_call hl hh rfl trivial rfl cal49 rfl (open_m mp (adv0 s ack) st sk bp (adv0_mk hs (by omega) (by omega)) hcr (ack - s.una) (by omega)) (by repeat (first | exact keeps_nil | apply keeps_cons (by repeat (first | exact find_head | apply find_tail)) (by first  | rfl) | exact keeps_self | apply keeps_mv)) trivial ?_)
              clear hl hh a w; intro vc Fc a w hR hl hh
              obtain ⟨rfl, rfl⟩ := hR
              try simp only [List.cons_append, List.nil_append] at hh
              refine w_nil ?_
              have hl2 := hl.add (t := 0) (hl.add (t := 1) (hl.nil) rfl) rfl; clear hl; have hl := hl2; clear hl2
              refine then_normal ?_
              refine c_seq ?_
              refine c_region ?_
              refine wl (wl_val hl rfl trivial (r_move hl rfl) ?_)
              clear hl a; intro a hl
              refine wl (wl_val hl rfl trivial (r_move hl rfl) ?_)
              clear hl a; intro a hl
              refine wl (wl_val hl rfl trivial (r_nilCheck hl rfl) ?_)
              clear hl a; intro a hl
              refine wl (wl_val hl rfl trivial (r_field hl rfl fld69_11) ?_)
              clear hl a; intro a hl
              refine wl (w_load hl hh rfl trivial one2 rfl (by repeat (first | exact find_head | apply find_tail)) (by first | rfl) ?_)
              clear hl a; intro a hl
              refine wl (wl_val hl rfl trivial (r_geq hl rfl rfl) ?_)
              clear hl a; intro a hl
              refine w_nil ?_
              have hl2 := hl.add (t := 0) (hl.add (t := 278) (hl.nil) rfl) rfl; clear hl; have hl := hl2; clear hl2
              refine then_normal ?_
              refine c_cond hl rfl ?_ ?_
              · intro hc12
                try simp only [decide_eq_true_eq, decide_eq_false_iff_not, Bool.not_eq_true', Bool.not_eq_false', Bool.not_eq_true, Bool.not_eq_false, Bool.and_eq_true, Bool.or_eq_true, Bool.and_eq_false_iff, Bool.or_eq_false_iff, Bool.not_not, ne_eq, Int.not_lt, Int.not_le, Decidable.not_not, beq_iff_eq, bne_iff_ne] at hc12
                rw [open_recov] at hc12
                change s.recov ≤ ack at hc12
                refine c_region ?_
                refine wl (wl_val hl rfl trivial (r_move hl rfl) ?_)
                clear hl a; intro a hl
                refine wl (wl_val hl rfl trivial (r_nilCheck hl rfl) ?_)
                clear hl a; intro a hl
                refine wl (wl_val hl rfl trivial (r_field hl rfl fld69_10) ?_)
                clear hl a; intro a hl
                refine wl (w_store hl hh trivial one59 rfl rfl (by repeat (first | exact find_head | apply find_tail)) (by first | (simp; done) | (simp; omega)) (by first | rfl | assumption | (apply Row.one; assumption)) (by first | (simp only [encM, setL, List.getElem?_cons_zero, List.getElem?_cons_succ, Value.cells, List.take_zero, List.take_succ_cons, List.take_nil, List.drop_zero, List.drop_succ_cons, List.drop_nil, List.length_cons, List.length_nil, List.cons_append, List.nil_append, List.append_nil, Nat.zero_add, Nat.add_zero, Nat.reduceAdd, Nat.reduceBEq, Nat.reduceEqDiff, Nat.ble, BEq.rfl, Bool.and_true, Bool.and_self, cond_true, beq_self_eq_true]; rfl) | (simp only [setL, List.getElem?_cons_zero, List.getElem?_cons_succ, Value.cells, List.take_zero, List.take_succ_cons, List.take_nil, List.drop_zero, List.drop_succ_cons, List.drop_nil, List.length_cons, List.length_nil, List.cons_append, List.nil_append, List.append_nil, Nat.zero_add, Nat.add_zero, Nat.reduceAdd, Nat.reduceBEq, Nat.reduceEqDiff, Nat.ble, BEq.rfl, Bool.and_true, Bool.and_self, cond_true, beq_self_eq_true]; rfl)) ?_)
                clear hh w; intro w hh
                refine w_nil ?_
                have hl2 := hl.nil; clear hl; have hl := hl2; clear hl2
                refine blk_normal ?_
                refine f_end0 (F' := [(mp, C (encM (ackM s sk ack dup lu) st sk bp) 69)]) hl hh rfl (by repeat (first | exact keeps_nil | apply keeps_cons (by repeat (first | exact find_head | apply find_tail)) (by first  | (exfalso; omega) | (exact absurd (hk.symm.trans (show sk = true by assumption)) (by decide)) | (exact blk_eqM (congrArg (fun z => encM z st sk bp) ((ack_adv (show ¬ (ack < s.una ∨ s.nxt < ack) by omega) (by omega)).trans (adv_0 (by assumption))).symm)) | (exact blk_eqM (congrArg (fun z => encM z st sk bp) ((ack_adv (show ¬ (ack < s.una ∨ s.nxt < ack) by omega) (by omega)).trans (adv_2a (by assumption) (by omega))).symm)) | (exact blk_eqM (congrArg (fun z => encM z st sk bp) ((ack_adv (show ¬ (ack < s.una ∨ s.nxt < ack) by omega) (by omega)).trans (adv_2b (by assumption) (by omega))).symm)) | (exact blk_eqM (congrArg (fun z => encM z st sk bp) ((ack_adv (show ¬ (ack < s.una ∨ s.nxt < ack) by omega) (by omega)).trans (adv_1an hk (by omega) (by omega) (by omega))).symm)) | (exact blk_eqM (congrArg (fun z => encM z st sk bp) ((ack_adv (show ¬ (ack < s.una ∨ s.nxt < ack) by omega) (by omega)).trans (adv_1T hk (by omega) (by omega) (by omega) (by omega) hc9)).symm)) | (exact blk_eqM (congrArg (fun z => encM z st sk bp) ((ack_adv (show ¬ (ack < s.una ∨ s.nxt < ack) by omega) (by omega)).trans (adv_1F hk (by omega) (by omega) (by omega) (by omega) hc9)).symm)) | rfl) | exact keeps_self | apply keeps_mv)) ?_
                exact ⟨rfl, rfl⟩
              · intro hc12
                try simp only [decide_eq_true_eq, decide_eq_false_iff_not, Bool.not_eq_true', Bool.not_eq_false', Bool.not_eq_true, Bool.not_eq_false, Bool.and_eq_true, Bool.or_eq_true, Bool.and_eq_false_iff, Bool.or_eq_false_iff, Bool.not_not, ne_eq, Int.not_lt, Int.not_le, Decidable.not_not, beq_iff_eq, bne_iff_ne] at hc12
                rw [open_recov] at hc12
                change ack < s.recov at hc12
                refine wp_skip ?_
                refine blk_normal ?_
                refine f_end0 (F' := [(mp, C (encM (ackM s sk ack dup lu) st sk bp) 69)]) hl hh rfl (by repeat (first | exact keeps_nil | apply keeps_cons (by repeat (first | exact find_head | apply find_tail)) (by first  | (exfalso; omega) | (exact absurd (hk.symm.trans (show sk = true by assumption)) (by decide)) | (exact blk_eqM (congrArg (fun z => encM z st sk bp) ((ack_adv (show ¬ (ack < s.una ∨ s.nxt < ack) by omega) (by omega)).trans (adv_0 (by assumption))).symm)) | (exact blk_eqM (congrArg (fun z => encM z st sk bp) ((ack_adv (show ¬ (ack < s.una ∨ s.nxt < ack) by omega) (by omega)).trans (adv_2a (by assumption) (by omega))).symm)) | (exact blk_eqM (congrArg (fun z => encM z st sk bp) ((ack_adv (show ¬ (ack < s.una ∨ s.nxt < ack) by omega) (by omega)).trans (adv_2b (by assumption) (by omega))).symm)) | (exact blk_eqM (congrArg (fun z => encM z st sk bp) ((ack_adv (show ¬ (ack < s.una ∨ s.nxt < ack) by omega) (by omega)).trans (adv_1an hk (by omega) (by omega) (by omega))).symm)) | (exact blk_eqM (congrArg (fun z => encM z st sk bp) ((ack_adv (show ¬ (ack < s.una ∨ s.nxt < ack) by omega) (by omega)).trans (adv_1T hk (by omega) (by omega) (by omega) (by omega) hc9)).symm)) | (exact blk_eqM (congrArg (fun z => encM z st sk bp) ((ack_adv (show ¬ (ack < s.una ∨ s.nxt < ack) by omega) (by omega)).trans (adv_1F hk (by omega) (by omega) (by omega) (by omega) hc9)).symm)) | rfl) | exact keeps_self | apply keeps_mv)) ?_
                exact ⟨rfl, rfl⟩
            · intro hc11
              try simp only [decide_eq_true_eq, decide_eq_false_iff_not, Bool.not_eq_true', Bool.not_eq_false', Bool.not_eq_true, Bool.not_eq_false, Bool.and_eq_true, Bool.or_eq_true, Bool.and_eq_false_iff, Bool.or_eq_false_iff, Bool.not_not, ne_eq, Int.not_lt, Int.not_le, Decidable.not_not, beq_iff_eq, bne_iff_ne] at hc11
              refine c_seq ?_
              refine c_region ?_
              refine wl (wl_val hl rfl trivial (r_move hl rfl) ?_)
              clear hl a; intro a hl
              refine wl (wl_val hl rfl trivial (r_move hl rfl) ?_)
              clear hl a; intro a hl
              refine wl (wl_val hl rfl trivial (r_nilCheck hl rfl) ?_)
              clear hl a; intro a hl
              refine wl (wl_val hl rfl trivial (r_field hl rfl fld69_11) ?_)
              clear hl a; intro a hl
              refine wl (w_load hl hh rfl trivial one2 rfl (by repeat (first | exact find_head | apply find_tail)) (by first | rfl) ?_)
              clear hl a; intro a hl
              refine wl (wl_val hl rfl trivial (r_geq hl rfl rfl) ?_)
              clear hl a; intro a hl
              refine wl (wl_val hl rfl trivial (r_assign hl rfl) ?_)
              clear hl a; intro a hl
              refine w_nil ?_
              have hl2 := hl.add (t := 0) (hl.add (t := 12) (hl.add (t := 282) (hl.nil) rfl) rfl) rfl; clear hl; have hl := hl2; clear hl2
              refine then_normal ?_
              refine c_cond hl rfl ?_ ?_
              · intro hc13
                try simp only [decide_eq_true_eq, decide_eq_false_iff_not, Bool.not_eq_true', Bool.not_eq_false', Bool.not_eq_true, Bool.not_eq_false, Bool.and_eq_true, Bool.or_eq_true, Bool.and_eq_false_iff, Bool.or_eq_false_iff, Bool.not_not, ne_eq, Int.not_lt, Int.not_le, Decidable.not_not, beq_iff_eq, bne_iff_ne] at hc13
                refine c_seq ?_
                refine c_seq ?_
                refine c_region ?_
                refine wl (wl_val hl rfl trivial (r_move hl rfl) ?_)
                clear hl a; intro a hl
                refine wl (wl_val hl rfl trivial (r_nilCheck hl rfl) ?_)
                clear hl a; intro a hl
                refine wl (wl_val hl rfl trivial (r_field hl rfl fld69_3) ?_)
                clear hl a; intro a hl
                refine wl (w_load hl hh rfl trivial one4 rfl (by repeat (first | exact find_head | apply find_tail)) (by first | rfl) ?_)
                clear hl a; intro a hl
                refine wl (wl_val hl rfl trivial (r_not hl rfl) ?_)
                clear hl a; intro a hl
                refine w_nil ?_
                have hl2 := hl.add (t := 0) (hl.add (t := 293) (hl.nil) rfl) rfl; clear hl; have hl := hl2; clear hl2
                refine then_normal ?_
                refine c_cond hl rfl ?_ ?_
                · intro hc14
                  try simp only [decide_eq_true_eq, decide_eq_false_iff_not, Bool.not_eq_true', Bool.not_eq_false', Bool.not_eq_true, Bool.not_eq_false, Bool.and_eq_true, Bool.or_eq_true, Bool.and_eq_false_iff, Bool.or_eq_false_iff, Bool.not_not, ne_eq, Int.not_lt, Int.not_le, Decidable.not_not, beq_iff_eq, bne_iff_ne] at hc14
                  refine c_draw [(mp, C (encM ({ s with una := ack, high := max s.high ack, dups := 0, forced := false, timed := false }) st sk bp) 69)] [27, 28, 29] mixed hh ?_
                  clear hh w; intro w hh
                  have hM : Mem [(mp, C (encM ({ s with una := ack, high := max s.high ack, dups := 0, forced := false, timed := false }) st sk bp) 69)] w := (by (repeat (first | exact Mem.nil | refine Mem.cons hh.mem (by (repeat (first | exact find_head | apply find_tail)); done) ?_ | refine Mem.consR hh (by assumption) (by simp) ?_ | fail)); done)
                  refine d_take (i := 0) hl rfl (by kernel_rfl) (by kernel_rfl) (by kernel_rfl) (by kernel_rfl) (by kernel_rfl) rfl trivial (fun _ _ _ h => h) hM (fun w hC => r_move hl rfl) rfl ?_
                  clear hl a; intro a hl
                  refine d_take (i := 1) hl rfl (by kernel_rfl) (by kernel_rfl) (by kernel_rfl) (by kernel_rfl) (by kernel_rfl) rfl trivial (fun _ _ _ h => h) hM (fun w hC => r_move hl rfl) rfl ?_
                  clear hl a; intro a hl
                  refine d_take (i := 2) hl rfl (by kernel_rfl) (by kernel_rfl) (by kernel_rfl) (by kernel_rfl) (by kernel_rfl) rfl trivial (fun _ _ _ h => h) hM (fun w hC => r_move hl rfl) rfl ?_
                  clear hl a; intro a hl
                  refine d_take (i := 3) hl rfl (by kernel_rfl) (by kernel_rfl) (by kernel_rfl) (by kernel_rfl) (by kernel_rfl) rfl trivial (fun _ _ _ h => h) hM (fun w hC => r_nilCheck hl rfl) rfl ?_
                  clear hl a; intro a hl
                  refine d_take (i := 4) hl rfl (by kernel_rfl) (by kernel_rfl) (by kernel_rfl) (by kernel_rfl) (by kernel_rfl) rfl trivial (fun _ _ _ h => h) hM (fun w hC => r_field hl rfl fld69_6) rfl ?_
                  clear hl a; intro a hl
                  refine d_take (i := 5) hl rfl (by kernel_rfl) (by kernel_rfl) (by kernel_rfl) (by kernel_rfl) (by kernel_rfl) rfl trivial (fun _ _ _ h => h) hM (fun w hC => r_loadC hl rfl one2 hC (by repeat (first | exact find_head | apply find_tail)) (by first | rfl)) rfl ?_
                  clear hl a; intro a hl
                  refine d_take (i := 6) hl rfl (by kernel_rfl) (by kernel_rfl) (by kernel_rfl) (by kernel_rfl) (by kernel_rfl) rfl trivial (fun _ _ _ h => h) hM (fun w hC => r_move hl rfl) rfl ?_
                  clear hl a; intro a hl
                  refine d_take (i := 7) hl rfl (by kernel_rfl) (by kernel_rfl) (by kernel_rfl) (by kernel_rfl) (by kernel_rfl) rfl trivial (fun _ _ _ h => h) hM (fun w hC => r_nilCheck hl rfl) rfl ?_
                  clear hl a; intro a hl
                  refine d_take (i := 8) hl rfl (by kernel_rfl) (by kernel_rfl) (by kernel_rfl) (by kernel_rfl) (by kernel_rfl) rfl trivial (fun _ _ _ h => h) hM (fun w hC => r_field hl rfl fld69_9) rfl ?_
                  clear hl a; intro a hl
                  refine d_take (i := 9) hl rfl (by kernel_rfl) (by kernel_rfl) (by kernel_rfl) (by kernel_rfl) (by kernel_rfl) rfl trivial (fun _ _ _ h => h) hM (fun w hC => r_loadC hl rfl one2 hC (by repeat (first | exact find_head | apply find_tail)) (by first | rfl)) rfl ?_
                  clear hl a; intro a hl
                  refine d_take (i := 10) hl rfl (by kernel_rfl) (by kernel_rfl) (by kernel_rfl) (by kernel_rfl) (by kernel_rfl) rfl trivial (fun _ _ _ h => h) hM (fun w hC => r_move hl rfl) rfl ?_
                  clear hl a; intro a hl
                  refine d_take (i := 11) hl rfl (by kernel_rfl) (by kernel_rfl) (by kernel_rfl) (by kernel_rfl) (by kernel_rfl) rfl trivial (fun _ _ _ h => h) hM (fun w hC => r_nilCheck hl rfl) rfl ?_
                  clear hl a; intro a hl
                  refine d_take (i := 12) hl rfl (by kernel_rfl) (by kernel_rfl) (by kernel_rfl) (by kernel_rfl) (by kernel_rfl) rfl trivial (fun _ _ _ h => h) hM (fun w hC => r_field hl rfl fld69_8) rfl ?_
                  clear hl a; intro a hl
                  refine d_take (i := 13) hl rfl (by kernel_rfl) (by kernel_rfl) (by kernel_rfl) (by kernel_rfl) (by kernel_rfl) rfl trivial (fun _ _ _ h => h) hM (fun w hC => r_loadC hl rfl one2 hC (by repeat (first | exact find_head | apply find_tail)) (by first | rfl)) rfl ?_
                  clear hl a; intro a hl
                  first | refine d_take (i := 14) hl rfl (by kernel_rfl) (by kernel_rfl) (by kernel_rfl) (by kernel_rfl) (by kernel_rfl) rfl trivial (fun _ _ _ h => h) hM (fun w hC => r_sub hl rfl rfl (by simp only [Fits]; omega)) rfl ?_ | refine d_take (i := 14) hl rfl (by kernel_rfl) (by kernel_rfl) (by kernel_rfl) (by kernel_rfl) (by kernel_rfl) rfl trivial (fun _ _ _ h => h) hM (fun w hC => r_subW hl rfl rfl) rfl ?_
                  clear hl a; intro a hl
                  refine d_take (i := 15) hl rfl (by kernel_rfl) (by kernel_rfl) (by kernel_rfl) (by kernel_rfl) (by kernel_rfl) rfl trivial (fun _ _ _ h => h) hM (fun w hC => r_move hl rfl) rfl ?_
                  clear hl a; intro a hl
                  refine d_take (i := 16) hl rfl (by kernel_rfl) (by kernel_rfl) (by kernel_rfl) (by kernel_rfl) (by kernel_rfl) rfl trivial (fun _ _ _ h => h) hM (fun w hC => r_nilCheck hl rfl) rfl ?_
                  clear hl a; intro a hl
                  refine d_take (i := 17) hl rfl (by kernel_rfl) (by kernel_rfl) (by kernel_rfl) (by kernel_rfl) (by kernel_rfl) rfl trivial (fun _ _ _ h => h) hM (fun w hC => r_field hl rfl fld69_1) rfl ?_
                  clear hl a; intro a hl
                  refine d_take (i := 18) hl rfl (by kernel_rfl) (by kernel_rfl) (by kernel_rfl) (by kernel_rfl) (by kernel_rfl) rfl trivial (fun _ _ _ h => h) hM (fun w hC => r_loadC hl rfl one2 hC (by repeat (first | exact find_head | apply find_tail)) (by first | rfl)) rfl ?_
                  clear hl a; intro a hl
                  refine d_take (i := 19) hl rfl (by kernel_rfl) (by kernel_rfl) (by kernel_rfl) (by kernel_rfl) (by kernel_rfl) rfl trivial (fun _ _ _ h => h) hM (fun w hC => r_maxI hl rfl rfl) rfl ?_
                  clear hl a; intro a hl
                  refine d_take (i := 20) hl rfl (by kernel_rfl) (by kernel_rfl) (by kernel_rfl) (by kernel_rfl) (by kernel_rfl) rfl trivial (fun _ _ _ h => h) hM (fun w hC => r_move hl rfl) rfl ?_
                  clear hl a; intro a hl
                  refine d_take (i := 21) hl rfl (by kernel_rfl) (by kernel_rfl) (by kernel_rfl) (by kernel_rfl) (by kernel_rfl) rfl trivial (fun _ _ _ h => h) hM (fun w hC => r_nilCheck hl rfl) rfl ?_
                  clear hl a; intro a hl
                  refine d_take (i := 22) hl rfl (by kernel_rfl) (by kernel_rfl) (by kernel_rfl) (by kernel_rfl) (by kernel_rfl) rfl trivial (fun _ _ _ h => h) hM (fun w hC => r_field hl rfl fld69_1) rfl ?_
                  clear hl a; intro a hl
                  refine d_take (i := 23) hl rfl (by kernel_rfl) (by kernel_rfl) (by kernel_rfl) (by kernel_rfl) (by kernel_rfl) rfl trivial (fun _ _ _ h => h) hM (fun w hC => r_loadC hl rfl one2 hC (by repeat (first | exact find_head | apply find_tail)) (by first | rfl)) rfl ?_
                  clear hl a; intro a hl
                  first | refine d_take (i := 24) hl rfl (by kernel_rfl) (by kernel_rfl) (by kernel_rfl) (by kernel_rfl) (by kernel_rfl) rfl trivial (fun _ _ _ h => h) hM (fun w hC => r_add hl rfl rfl (by simp only [Fits]; omega)) rfl ?_ | refine d_take (i := 24) hl rfl (by kernel_rfl) (by kernel_rfl) (by kernel_rfl) (by kernel_rfl) (by kernel_rfl) rfl trivial (fun _ _ _ h => h) hM (fun w hC => r_addW hl rfl rfl) rfl ?_
                  clear hl a; intro a hl
                  refine d_take (i := 25) hl rfl (by kernel_rfl) (by kernel_rfl) (by kernel_rfl) (by kernel_rfl) (by kernel_rfl) rfl trivial (fun _ _ _ h => h) hM (fun w hC => r_minI hl rfl rfl) rfl ?_
                  clear hl a; intro a hl
                  refine d_one (i := 26) (by kernel_rfl) rfl ?_
                  try clear hM
                  refine id (w_call hl hh rfl trivial rfl cal44 rfl (bounded_c mp ({ s with una := ack, high := max s.high ack, dups := 0, forced := false, timed := false }) st sk bp ⟨hs.init, hs.maxc, hs.bn, hs.bd, hs.abc, hs.dupt, hs.mss⟩ _) (by repeat (first | exact keeps_nil | apply keeps_cons (by repeat (first | exact find_head | apply find_tail)) (by first  | rfl) | exact keeps_self | apply keeps_mv)) (hh.mem _ _ (Find.mem (by repeat (first | exact find_head | apply find_tail)))) ?_)
                  clear hl hh a w; intro vc Fc a w hR hl hh
                  obtain ⟨rfl, rfl⟩ := hR
                  try simp only [List.cons_append, List.nil_append] at hh
                  have hM : Mem [(mp, C (encM ({ s with una := ack, high := max s.high ack, dups := 0, forced := false, timed := false }) st sk bp) 69)] w := (by (repeat (first | exact Mem.nil | refine Mem.cons hh.mem (by (repeat (first | exact find_head | apply find_tail)); done) ?_ | refine Mem.consR hh (by assumption) (by simp) ?_ | fail)); done)
                  refine d_step (fun _ => hM) ?_
                  refine d_takeL (i := 27) hl rfl (by kernel_rfl) (by kernel_rfl) (by kernel_rfl) (by kernel_rfl) (by kernel_rfl) rfl trivial (fun _ _ _ h => h) (fun w => r_nilCheck hl rfl) rfl ?_
                  clear hl a; intro a hl
                  refine d_takeL (i := 28) hl rfl (by kernel_rfl) (by kernel_rfl) (by kernel_rfl) (by kernel_rfl) (by kernel_rfl) rfl trivial (fun _ _ _ h => h) (fun w => r_field hl rfl fld69_5) rfl ?_
                  clear hl a; intro a hl
                  refine d_one (i := 29) (by kernel_rfl) rfl ?_
                  try clear hM
                  refine id (w_store hl hh trivial one2 rfl rfl (by repeat (first | exact find_head | apply find_tail)) (by first | (simp; done) | (simp; omega)) (by first | rfl | assumption | (apply Row.one; assumption)) (by first | (simp only [encM, setL, List.getElem?_cons_zero, List.getElem?_cons_succ, Value.cells, List.take_zero, List.take_succ_cons, List.take_nil, List.drop_zero, List.drop_succ_cons, List.drop_nil, List.length_cons, List.length_nil, List.cons_append, List.nil_append, List.append_nil, Nat.zero_add, Nat.add_zero, Nat.reduceAdd, Nat.reduceBEq, Nat.reduceEqDiff, Nat.ble, BEq.rfl, Bool.and_true, Bool.and_self, cond_true, beq_self_eq_true]; rfl) | (simp only [setL, List.getElem?_cons_zero, List.getElem?_cons_succ, Value.cells, List.take_zero, List.take_succ_cons, List.take_nil, List.drop_zero, List.drop_succ_cons, List.drop_nil, List.length_cons, List.length_nil, List.cons_append, List.nil_append, List.append_nil, Nat.zero_add, Nat.add_zero, Nat.reduceAdd, Nat.reduceBEq, Nat.reduceEqDiff, Nat.ble, BEq.rfl, Bool.and_true, Bool.and_self, cond_true, beq_self_eq_true]; rfl)) ?_)
                  clear hh w; intro w hh
                  refine d_step (fun h => absurd h (by decide)) ?_
                  refine d_done (by kernel_rfl) ?_
                  try clear hM
                  have hl2 := hl.add (t := 0) (hl.nil) rfl; clear hl; have hl := hl2; clear hl2
                  refine then_normal ?_
                  refine c_region ?_
                  refine wl (wl_val hl rfl trivial (r_move hl rfl) ?_)
                  clear hl a; intro a hl
                  refine wl (wl_val hl rfl trivial (r_move hl rfl) ?_)
                  clear hl a; intro a hl
                  refine wl (wl_val hl rfl trivial (r_nilCheck hl rfl) ?_)
                  clear hl a; intro a hl
                  refine wl (wl_val hl rfl trivial (r_field hl rfl fld69_10) ?_)
                  clear hl a; intro a hl
                  refine wl (w_store hl hh trivial one59 rfl rfl (by repeat (first | exact find_head | apply find_tail)) (by first | (simp; done) | (simp; omega)) (by first | rfl | assumption | (apply Row.one; assumption)) (by first | (simp only [encM, setL, List.getElem?_cons_zero, List.getElem?_cons_succ, Value.cells, List.take_zero, List.take_succ_cons, List.take_nil, List.drop_zero, List.drop_succ_cons, List.drop_nil, List.length_cons, List.length_nil, List.cons_append, List.nil_append, List.append_nil, Nat.zero_add, Nat.add_zero, Nat.reduceAdd, Nat.reduceBEq, Nat.reduceEqDiff, Nat.ble, BEq.rfl, Bool.and_true, Bool.and_self, cond_true, beq_self_eq_true]; rfl) | (simp only [setL, List.getElem?_cons_zero, List.getElem?_cons_succ, Value.cells, List.take_zero, List.take_succ_cons, List.take_nil, List.drop_zero, List.drop_succ_cons, List.drop_nil, List.length_cons, List.length_nil, List.cons_append, List.nil_append, List.append_nil, Nat.zero_add, Nat.add_zero, Nat.reduceAdd, Nat.reduceBEq, Nat.reduceEqDiff, Nat.ble, BEq.rfl, Bool.and_true, Bool.and_self, cond_true, beq_self_eq_true]; rfl)) ?_)
                  clear hh w; intro w hh
                  refine wl (wl_val hl rfl trivial (r_nilCheck hl rfl) ?_)
                  clear hl a; intro a hl
                  refine wl (wl_val hl rfl trivial (r_field hl rfl fld69_7) ?_)
                  clear hl a; intro a hl
                  refine wl (w_store hl hh trivial one2 rfl rfl (by repeat (first | exact find_head | apply find_tail)) (by first | (simp; done) | (simp; omega)) (by first | rfl | assumption | (apply Row.one; assumption)) (by first | (simp only [encM, setL, List.getElem?_cons_zero, List.getElem?_cons_succ, Value.cells, List.take_zero, List.take_succ_cons, List.take_nil, List.drop_zero, List.drop_succ_cons, List.drop_nil, List.length_cons, List.length_nil, List.cons_append, List.nil_append, List.append_nil, Nat.zero_add, Nat.add_zero, Nat.reduceAdd, Nat.reduceBEq, Nat.reduceEqDiff, Nat.ble, BEq.rfl, Bool.and_true, Bool.and_self, cond_true, beq_self_eq_true]; rfl) | (simp only [setL, List.getElem?_cons_zero, List.getElem?_cons_succ, Value.cells, List.take_zero, List.take_succ_cons, List.take_nil, List.drop_zero, List.drop_succ_cons, List.drop_nil, List.length_cons, List.length_nil, List.cons_append, List.nil_append, List.append_nil, Nat.zero_add, Nat.add_zero, Nat.reduceAdd, Nat.reduceBEq, Nat.reduceEqDiff, Nat.ble, BEq.rfl, Bool.and_true, Bool.and_self, cond_true, beq_self_eq_true]; rfl)) ?_)
                  clear hh w; intro w hh
                  refine w_nil ?_
                  have hl2 := hl.nil; clear hl; have hl := hl2; clear hl2
                  replace hh : Has _ w0 [(mp, C (encM ({ adv0 s ack with cwnd := bndP s (min s.ssth (max (s.nxt - ack) s.mss + s.mss)), phase := 0, credit := 0 }) st sk bp) 69)] w := hh
                  refine blk_normal ?_
                  refine f_end0 (F' := [(mp, C (encM (ackM s sk ack dup lu) st sk bp) 69)]) hl hh rfl (by repeat (first | exact keeps_nil | apply keeps_cons (by repeat (first | exact find_head | apply find_tail)) (by first  | (exfalso; omega) | (exact absurd (hk.symm.trans (show sk = true by assumption)) (by decide)) | (exact blk_eqM (congrArg (fun z => encM z st sk bp) ((ack_adv (show ¬ (ack < s.una ∨ s.nxt < ack) by omega) (by omega)).trans (adv_0 (by assumption))).symm)) | (exact blk_eqM (congrArg (fun z => encM z st sk bp) ((ack_adv (show ¬ (ack < s.una ∨ s.nxt < ack) by omega) (by omega)).trans (adv_2a (by assumption) (by omega))).symm)) | (exact blk_eqM (congrArg (fun z => encM z st sk bp) ((ack_adv (show ¬ (ack < s.una ∨ s.nxt < ack) by omega) (by omega)).trans (adv_2b (by assumption) (by omega))).symm)) | (exact blk_eqM (congrArg (fun z => encM z st sk bp) ((ack_adv (show ¬ (ack < s.una ∨ s.nxt < ack) by omega) (by omega)).trans (adv_1an hk (by omega) (by omega) (by omega))).symm)) | (exact blk_eqM (congrArg (fun z => encM z st sk bp) ((ack_adv (show ¬ (ack < s.una ∨ s.nxt < ack) by omega) (by omega)).trans (adv_1T hk (by omega) (by omega) (by omega) (by omega) hc9)).symm)) | (exact blk_eqM (congrArg (fun z => encM z st sk bp) ((ack_adv (show ¬ (ack < s.una ∨ s.nxt < ack) by omega) (by omega)).trans (adv_1F hk (by omega) (by omega) (by omega) (by omega) hc9)).symm)) | rfl) | exact keeps_self | apply keeps_mv)) ?_
                  exact ⟨rfl, rfl⟩
                · intro hc14
                  try simp only [decide_eq_true_eq, decide_eq_false_iff_not, Bool.not_eq_true', Bool.not_eq_false', Bool.not_eq_true, Bool.not_eq_false, Bool.and_eq_true, Bool.or_eq_true, Bool.and_eq_false_iff, Bool.or_eq_false_iff, Bool.not_not, ne_eq, Int.not_lt, Int.not_le, Decidable.not_not, beq_iff_eq, bne_iff_ne] at hc14
                  exfalso; first | contradiction | omega | (simp_all; done)
              · intro hc13
                try simp only [decide_eq_true_eq, decide_eq_false_iff_not, Bool.not_eq_true', Bool.not_eq_false', Bool.not_eq_true, Bool.not_eq_false, Bool.and_eq_true, Bool.or_eq_true, Bool.and_eq_false_iff, Bool.or_eq_false_iff, Bool.not_not, ne_eq, Int.not_lt, Int.not_le, Decidable.not_not, beq_iff_eq, bne_iff_ne] at hc13
                refine c_seq ?_
                refine c_region ?_
                refine wl (wl_val hl rfl trivial (r_move hl rfl) ?_)
                clear hl a; intro a hl
                refine wl (wl_val hl rfl trivial (r_nilCheck hl rfl) ?_)
                clear hl a; intro a hl
                refine wl (wl_val hl rfl trivial (r_field hl rfl fld69_3) ?_)
                clear hl a; intro a hl
                refine wl (w_load hl hh rfl trivial one4 rfl (by repeat (first | exact find_head | apply find_tail)) (by first | rfl) ?_)
                clear hl a; intro a hl
                refine wl (wl_val hl rfl trivial (r_not hl rfl) ?_)
                clear hl a; intro a hl
                refine wl (wl_val hl rfl trivial (r_assign hl rfl) ?_)
                clear hl a; intro a hl
                refine w_nil ?_
                have hl2 := hl.add (t := 0) (hl.add (t := 12) (hl.add (t := 329) (hl.nil) rfl) rfl) rfl; clear hl; have hl := hl2; clear hl2
                refine then_normal ?_
                refine c_cond hl rfl ?_ ?_
                · intro hc15
                  try simp only [decide_eq_true_eq, decide_eq_false_iff_not, Bool.not_eq_true', Bool.not_eq_false', Bool.not_eq_true, Bool.not_eq_false, Bool.and_eq_true, Bool.or_eq_true, Bool.and_eq_false_iff, Bool.or_eq_false_iff, Bool.not_not, ne_eq, Int.not_lt, Int.not_le, Decidable.not_not, beq_iff_eq, bne_iff_ne] at hc15
                  refine c_seq ?_
                  refine c_region ?_
                  refine wl (wl_val hl rfl trivial (r_move hl rfl) ?_)
                  clear hl a; intro a hl
                  refine wl (wl_val hl rfl trivial (r_nilCheck hl rfl) ?_)
                  clear hl a; intro a hl
                  refine wl (wl_val hl rfl trivial (r_field hl rfl fld69_5) ?_)
                  clear hl a; intro a hl
                  refine wl (w_load hl hh rfl trivial one2 rfl (by repeat (first | exact find_head | apply find_tail)) (by first | rfl) ?_)
                  clear hl a; intro a hl
                  refine wl (wl_val hl rfl trivial (r_move hl rfl) ?_)
                  clear hl a; intro a hl
                  first | refine wl (wl_val hl rfl trivial (r_sub hl rfl rfl (by simp only [Fits]; omega)) ?_) | refine wl (wl_val hl rfl trivial (r_subW hl rfl rfl) ?_)
                  clear hl a; intro a hl
                  refine wl (wl_val hl rfl trivial (r_nilCheck hl rfl) ?_)
                  clear hl a; intro a hl
                  refine wl (wl_val hl rfl trivial (r_field hl rfl fld69_5) ?_)
                  clear hl a; intro a hl
                  refine wl (w_store hl hh trivial one2 rfl rfl (by repeat (first | exact find_head | apply find_tail)) (by first | (simp; done) | (simp; omega)) (by first | rfl | assumption | (apply Row.one; assumption)) (by first | (simp only [encM, setL, List.getElem?_cons_zero, List.getElem?_cons_succ, Value.cells, List.take_zero, List.take_succ_cons, List.take_nil, List.drop_zero, List.drop_succ_cons, List.drop_nil, List.length_cons, List.length_nil, List.cons_append, List.nil_append, List.append_nil, Nat.zero_add, Nat.add_zero, Nat.reduceAdd, Nat.reduceBEq, Nat.reduceEqDiff, Nat.ble, BEq.rfl, Bool.and_true, Bool.and_self, cond_true, beq_self_eq_true]; rfl) | (simp only [setL, List.getElem?_cons_zero, List.getElem?_cons_succ, Value.cells, List.take_zero, List.take_succ_cons, List.take_nil, List.drop_zero, List.drop_succ_cons, List.drop_nil, List.length_cons, List.length_nil, List.cons_append, List.nil_append, List.append_nil, Nat.zero_add, Nat.add_zero, Nat.reduceAdd, Nat.reduceBEq, Nat.reduceEqDiff, Nat.ble, BEq.rfl, Bool.and_true, Bool.and_self, cond_true, beq_self_eq_true]; rfl)) ?_)
                  clear hh w; intro w hh
                  refine w_nil ?_
                  have hl2 := hl.add (t := 0) (hl.add (t := 12) (hl.nil) rfl) rfl; clear hl; have hl := hl2; clear hl2
                  refine then_normal ?_
                  refine c_seq ?_
                  refine c_seq ?_
                  refine c_region ?_
                  refine wl (wl_val hl rfl trivial (r_move hl rfl) ?_)
                  clear hl a; intro a hl
                  refine wl (wl_val hl rfl trivial (r_move hl rfl) ?_)
                  clear hl a; intro a hl
                  refine wl (wl_val hl rfl trivial (r_nilCheck hl rfl) ?_)
                  clear hl a; intro a hl
                  refine wl (wl_val hl rfl trivial (r_field hl rfl fld69_1) ?_)
                  clear hl a; intro a hl
                  refine wl (w_load hl hh rfl trivial one2 rfl (by repeat (first | exact find_head | apply find_tail)) (by first | rfl) ?_)
                  clear hl a; intro a hl
                  refine wl (wl_val hl rfl trivial (r_geq hl rfl rfl) ?_)
                  clear hl a; intro a hl
                  refine w_nil ?_
                  have hl2 := hl.add (t := 0) (hl.add (t := 348) (hl.nil) rfl) rfl; clear hl; have hl := hl2; clear hl2
                  refine then_normal ?_
                  refine c_cond hl rfl ?_ ?_
                  · intro hc16
                    try simp only [decide_eq_true_eq, decide_eq_false_iff_not, Bool.not_eq_true', Bool.not_eq_false', Bool.not_eq_true, Bool.not_eq_false, Bool.and_eq_true, Bool.or_eq_true, Bool.and_eq_false_iff, Bool.or_eq_false_iff, Bool.not_not, ne_eq, Int.not_lt, Int.not_le, Decidable.not_not, beq_iff_eq, bne_iff_ne] at hc16
                    refine c_draw [(mp, C (encM ({ s with cwnd := s.cwnd - (ack - s.una), una := ack, high := max s.high ack, dups := 0, forced := false, timed := false }) st sk bp) 69)] [8, 9, 10, 11] mixed hh ?_
                    clear hh w; intro w hh
                    have hM : Mem [(mp, C (encM ({ s with cwnd := s.cwnd - (ack - s.una), una := ack, high := max s.high ack, dups := 0, forced := false, timed := false }) st sk bp) 69)] w := (by (repeat (first | exact Mem.nil | refine Mem.cons hh.mem (by (repeat (first | exact find_head | apply find_tail)); done) ?_ | refine Mem.consR hh (by assumption) (by simp) ?_ | fail)); done)
                    refine d_take (i := 0) hl rfl (by kernel_rfl) (by kernel_rfl) (by kernel_rfl) (by kernel_rfl) (by kernel_rfl) rfl trivial (fun _ _ _ h => h) hM (fun w hC => r_move hl rfl) rfl ?_
                    clear hl a; intro a hl
                    refine d_take (i := 1) hl rfl (by kernel_rfl) (by kernel_rfl) (by kernel_rfl) (by kernel_rfl) (by kernel_rfl) rfl trivial (fun _ _ _ h => h) hM (fun w hC => r_nilCheck hl rfl) rfl ?_
                    clear hl a; intro a hl
                    refine d_take (i := 2) hl rfl (by kernel_rfl) (by kernel_rfl) (by kernel_rfl) (by kernel_rfl) (by kernel_rfl) rfl trivial (fun _ _ _ h => h) hM (fun w hC => r_field hl rfl fld69_5) rfl ?_
                    clear hl a; intro a hl
                    refine d_take (i := 3) hl rfl (by kernel_rfl) (by kernel_rfl) (by kernel_rfl) (by kernel_rfl) (by kernel_rfl) rfl trivial (fun _ _ _ h => h) hM (fun w hC => r_loadC hl rfl one2 hC (by repeat (first | exact find_head | apply find_tail)) (by first | rfl)) rfl ?_
                    clear hl a; intro a hl
                    refine d_take (i := 4) hl rfl (by kernel_rfl) (by kernel_rfl) (by kernel_rfl) (by kernel_rfl) (by kernel_rfl) rfl trivial (fun _ _ _ h => h) hM (fun w hC => r_move hl rfl) rfl ?_
                    clear hl a; intro a hl
                    refine d_take (i := 5) hl rfl (by kernel_rfl) (by kernel_rfl) (by kernel_rfl) (by kernel_rfl) (by kernel_rfl) rfl trivial (fun _ _ _ h => h) hM (fun w hC => r_nilCheck hl rfl) rfl ?_
                    clear hl a; intro a hl
                    refine d_take (i := 6) hl rfl (by kernel_rfl) (by kernel_rfl) (by kernel_rfl) (by kernel_rfl) (by kernel_rfl) rfl trivial (fun _ _ _ h => h) hM (fun w hC => r_field hl rfl fld69_1) rfl ?_
                    clear hl a; intro a hl
                    refine d_take (i := 7) hl rfl (by kernel_rfl) (by kernel_rfl) (by kernel_rfl) (by kernel_rfl) (by kernel_rfl) rfl trivial (fun _ _ _ h => h) hM (fun w hC => r_loadC hl rfl one2 hC (by repeat (first | exact find_head | apply find_tail)) (by first | rfl)) rfl ?_
                    clear hl a; intro a hl
                    first | refine d_takeL (i := 8) hl rfl (by kernel_rfl) (by kernel_rfl) (by kernel_rfl) (by kernel_rfl) (by kernel_rfl) rfl trivial (fun _ _ _ h => h) (fun w => r_add hl rfl rfl (by simp only [Fits]; omega)) rfl ?_ | refine d_takeL (i := 8) hl rfl (by kernel_rfl) (by kernel_rfl) (by kernel_rfl) (by kernel_rfl) (by kernel_rfl) rfl trivial (fun _ _ _ h => h) (fun w => r_addW hl rfl rfl) rfl ?_
                    clear hl a; intro a hl
                    refine d_takeL (i := 9) hl rfl (by kernel_rfl) (by kernel_rfl) (by kernel_rfl) (by kernel_rfl) (by kernel_rfl) rfl trivial (fun _ _ _ h => h) (fun w => r_nilCheck hl rfl) rfl ?_
                    clear hl a; intro a hl
                    refine d_takeL (i := 10) hl rfl (by kernel_rfl) (by kernel_rfl) (by kernel_rfl) (by kernel_rfl) (by kernel_rfl) rfl trivial (fun _ _ _ h => h) (fun w => r_field hl rfl fld69_5) rfl ?_
                    clear hl a; intro a hl
                    refine d_one (i := 11) (by kernel_rfl) rfl ?_
                    try clear hM
                    refine id (w_store hl hh trivial one2 rfl rfl (by repeat (first | exact find_head | apply find_tail)) (by first | (simp; done) | (simp; omega)) (by first | rfl | assumption | (apply Row.one; assumption)) (by first | (simp only [encM, setL, List.getElem?_cons_zero, List.getElem?_cons_succ, Value.cells, List.take_zero, List.take_succ_cons, List.take_nil, List.drop_zero, List.drop_succ_cons, List.drop_nil, List.length_cons, List.length_nil, List.cons_append, List.nil_append, List.append_nil, Nat.zero_add, Nat.add_zero, Nat.reduceAdd, Nat.reduceBEq, Nat.reduceEqDiff, Nat.ble, BEq.rfl, Bool.and_true, Bool.and_self, cond_true, beq_self_eq_true]; rfl) | (simp only [setL, List.getElem?_cons_zero, List.getElem?_cons_succ, Value.cells, List.take_zero, List.take_succ_cons, List.take_nil, List.drop_zero, List.drop_succ_cons, List.drop_nil, List.length_cons, List.length_nil, List.cons_append, List.nil_append, List.append_nil, Nat.zero_add, Nat.add_zero, Nat.reduceAdd, Nat.reduceBEq, Nat.reduceEqDiff, Nat.ble, BEq.rfl, Bool.and_true, Bool.and_self, cond_true, beq_self_eq_true]; rfl)) ?_)
                    clear hh w; intro w hh
                    refine d_step (fun h => absurd h (by decide)) ?_
                    refine d_done (by kernel_rfl) ?_
                    try clear hM
                    have hl2 := hl.add (t := 0) (hl.nil) rfl; clear hl; have hl := hl2; clear hl2
                    obtain ⟨c9, hc9⟩ : ∃ z : Int, z = s.cwnd - (ack - s.una) + s.mss := ⟨_, rfl⟩
                    replace hh : Has (List.map Prod.fst [(mp, C (encM s st sk bp) 69)]) w0 [(mp, C (encM { adv0 s ack with cwnd := c9 } st sk bp) 69)] w := by rw [hc9]; exact hh
                    refine then_normal ?_
                    refine c_seq ?_
                    refine c_region ?_
                    refine wl (wl_val hl rfl trivial (r_move hl rfl) ?_)
                    clear hl a; intro a hl
                    refine wl (wl_val hl rfl trivial (r_move hl rfl) ?_)
                    clear hl a; intro a hl
                    refine wl (wl_val hl rfl trivial (r_move hl rfl) ?_)
                    clear hl a; intro a hl
                    refine wl (wl_val hl rfl trivial (r_nilCheck hl rfl) ?_)
                    clear hl a; intro a hl
                    refine wl (wl_val hl rfl trivial (r_field hl rfl fld69_5) ?_)
                    clear hl a; intro a hl
                    refine wl (w_load hl hh rfl trivial one2 rfl (by repeat (first | exact find_head | apply find_tail)) (by first | rfl) ?_)
                    clear hl a; intro a hl
                    refine wl (w_call hl hh rfl trivial rfl cal44 rfl (bounded_c mp ({ adv0 s ack with cwnd := c9 }) st sk bp ⟨hs.init, hs.maxc, hs.bn, hs.bd, hs.abc, hs.dupt, hs.mss⟩ _) (by repeat (first | exact keeps_nil | apply keeps_cons (by repeat (first | exact find_head | apply find_tail)) (by first  | rfl) | exact keeps_self | apply keeps_mv)) (hh.mem _ _ (Find.mem (by repeat (first | exact find_head | apply find_tail)))) ?_)
                    clear hl hh a w; intro vc Fc a w hR hl hh
                    obtain ⟨rfl, rfl⟩ := hR
                    try simp only [List.cons_append, List.nil_append] at hh
                    refine wl (wl_val hl rfl trivial (r_nilCheck hl rfl) ?_)
                    clear hl a; intro a hl
                    refine wl (wl_val hl rfl trivial (r_field hl rfl fld69_5) ?_)
                    clear hl a; intro a hl
                    refine wl (w_store hl hh trivial one2 rfl rfl (by repeat (first | exact find_head | apply find_tail)) (by first | (simp; done) | (simp; omega)) (by first | rfl | assumption | (apply Row.one; assumption)) (by first | (simp only [encM, setL, List.getElem?_cons_zero, List.getElem?_cons_succ, Value.cells, List.take_zero, List.take_succ_cons, List.take_nil, List.drop_zero, List.drop_succ_cons, List.drop_nil, List.length_cons, List.length_nil, List.cons_append, List.nil_append, List.append_nil, Nat.zero_add, Nat.add_zero, Nat.reduceAdd, Nat.reduceBEq, Nat.reduceEqDiff, Nat.ble, BEq.rfl, Bool.and_true, Bool.and_self, cond_true, beq_self_eq_true]; rfl) | (simp only [setL, List.getElem?_cons_zero, List.getElem?_cons_succ, Value.cells, List.take_zero, List.take_succ_cons, List.take_nil, List.drop_zero, List.drop_succ_cons, List.drop_nil, List.length_cons, List.length_nil, List.cons_append, List.nil_append, List.append_nil, Nat.zero_add, Nat.add_zero, Nat.reduceAdd, Nat.reduceBEq, Nat.reduceEqDiff, Nat.ble, BEq.rfl, Bool.and_true, Bool.and_self, cond_true, beq_self_eq_true]; rfl)) ?_)
                    clear hh w; intro w hh
                    refine w_nil ?_
                    have hl2 := hl.add (t := 0) (hl.nil) rfl; clear hl; have hl := hl2; clear hl2
                    refine then_normal ?_
                    refine c_region ?_
                    refine wl (wl_val hl rfl trivial (r_move hl rfl) ?_)
                    clear hl a; intro a hl
                    refine wl (wl_val hl rfl trivial (r_nilCheck hl rfl) ?_)
                    clear hl a; intro a hl
                    refine wl (wl_val hl rfl trivial (r_field hl rfl fld69_14) ?_)
                    clear hl a; intro a hl
                    refine wl (w_store hl hh trivial one4 rfl rfl (by repeat (first | exact find_head | apply find_tail)) (by first | (simp; done) | (simp; omega)) (by first | rfl | assumption | (apply Row.one; assumption)) (by first | (simp only [encM, setL, List.getElem?_cons_zero, List.getElem?_cons_succ, Value.cells, List.take_zero, List.take_succ_cons, List.take_nil, List.drop_zero, List.drop_succ_cons, List.drop_nil, List.length_cons, List.length_nil, List.cons_append, List.nil_append, List.append_nil, Nat.zero_add, Nat.add_zero, Nat.reduceAdd, Nat.reduceBEq, Nat.reduceEqDiff, Nat.ble, BEq.rfl, Bool.and_true, Bool.and_self, cond_true, beq_self_eq_true]; rfl) | (simp only [setL, List.getElem?_cons_zero, List.getElem?_cons_succ, Value.cells, List.take_zero, List.take_succ_cons, List.take_nil, List.drop_zero, List.drop_succ_cons, List.drop_nil, List.length_cons, List.length_nil, List.cons_append, List.nil_append, List.append_nil, Nat.zero_add, Nat.add_zero, Nat.reduceAdd, Nat.reduceBEq, Nat.reduceEqDiff, Nat.ble, BEq.rfl, Bool.and_true, Bool.and_self, cond_true, beq_self_eq_true]; rfl)) ?_)
                    clear hh w; intro w hh
                    refine w_nil ?_
                    have hl2 := hl.nil; clear hl; have hl := hl2; clear hl2
                    refine blk_normal ?_
                    refine f_end0 (F' := [(mp, C (encM (ackM s sk ack dup lu) st sk bp) 69)]) hl hh rfl (by repeat (first | exact keeps_nil | apply keeps_cons (by repeat (first | exact find_head | apply find_tail)) (by first  | (exfalso; omega) | (exact absurd (hk.symm.trans (show sk = true by assumption)) (by decide)) | (exact blk_eqM (congrArg (fun z => encM z st sk bp) ((ack_adv (show ¬ (ack < s.una ∨ s.nxt < ack) by omega) (by omega)).trans (adv_0 (by assumption))).symm)) | (exact blk_eqM (congrArg (fun z => encM z st sk bp) ((ack_adv (show ¬ (ack < s.una ∨ s.nxt < ack) by omega) (by omega)).trans (adv_2a (by assumption) (by omega))).symm)) | (exact blk_eqM (congrArg (fun z => encM z st sk bp) ((ack_adv (show ¬ (ack < s.una ∨ s.nxt < ack) by omega) (by omega)).trans (adv_2b (by assumption) (by omega))).symm)) | (exact blk_eqM (congrArg (fun z => encM z st sk bp) ((ack_adv (show ¬ (ack < s.una ∨ s.nxt < ack) by omega) (by omega)).trans (adv_1an hk (by omega) (by omega) (by omega))).symm)) | (exact blk_eqM (congrArg (fun z => encM z st sk bp) ((ack_adv (show ¬ (ack < s.una ∨ s.nxt < ack) by omega) (by omega)).trans (adv_1T hk (by omega) (by omega) (by omega) (by omega) hc9)).symm)) | (exact blk_eqM (congrArg (fun z => encM z st sk bp) ((ack_adv (show ¬ (ack < s.una ∨ s.nxt < ack) by omega) (by omega)).trans (adv_1F hk (by omega) (by omega) (by omega) (by omega) hc9)).symm)) | rfl) | exact keeps_self | apply keeps_mv)) ?_
                    exact ⟨rfl, rfl⟩
                  · intro hc16
                    try simp only [decide_eq_true_eq, decide_eq_false_iff_not, Bool.not_eq_true', Bool.not_eq_false', Bool.not_eq_true, Bool.not_eq_false, Bool.and_eq_true, Bool.or_eq_true, Bool.and_eq_false_iff, Bool.or_eq_false_iff, Bool.not_not, ne_eq, Int.not_lt, Int.not_le, Decidable.not_not, beq_iff_eq, bne_iff_ne] at hc16
                    obtain ⟨c9, hc9⟩ : ∃ z : Int, z = s.cwnd - (ack - s.una) := ⟨_, rfl⟩
                    replace hh : Has (List.map Prod.fst [(mp, C (encM s st sk bp) 69)]) w0 [(mp, C (encM { adv0 s ack with cwnd := c9 } st sk bp) 69)] w := by rw [hc9]; exact hh
                    refine wp_skip ?_
                    refine then_normal ?_
                    refine c_seq ?_
                    refine c_region ?_
                    refine wl (wl_val hl rfl trivial (r_move hl rfl) ?_)
                    clear hl a; intro a hl
                    refine wl (wl_val hl rfl trivial (r_move hl rfl) ?_)
                    clear hl a; intro a hl
                    refine wl (wl_val hl rfl trivial (r_move hl rfl) ?_)
                    clear hl a; intro a hl
                    refine wl (wl_val hl rfl trivial (r_nilCheck hl rfl) ?_)
                    clear hl a; intro a hl
                    refine wl (wl_val hl rfl trivial (r_field hl rfl fld69_5) ?_)
                    clear hl a; intro a hl
                    refine wl (w_load hl hh rfl trivial one2 rfl (by repeat (first | exact find_head | apply find_tail)) (by first | rfl) ?_)
                    clear hl a; intro a hl
                    refine wl (w_call hl hh rfl trivial rfl cal44 rfl (bounded_c mp ({ adv0 s ack with cwnd := c9 }) st sk bp ⟨hs.init, hs.maxc, hs.bn, hs.bd, hs.abc, hs.dupt, hs.mss⟩ _) (by repeat (first | exact keeps_nil | apply keeps_cons (by repeat (first | exact find_head | apply find_tail)) (by first  | rfl) | exact keeps_self | apply keeps_mv)) (hh.mem _ _ (Find.mem (by repeat (first | exact find_head | apply find_tail)))) ?_)
                    clear hl hh a w; intro vc Fc a w hR hl hh
                    obtain ⟨rfl, rfl⟩ := hR
                    try simp only [List.cons_append, List.nil_append] at hh
                    refine wl (wl_val hl rfl trivial (r_nilCheck hl rfl) ?_)
                    clear hl a; intro a hl
                    refine wl (wl_val hl rfl trivial (r_field hl rfl fld69_5) ?_)
                    clear hl a; intro a hl
                    refine wl (w_store hl hh trivial one2 rfl rfl (by repeat (first | exact find_head | apply find_tail)) (by first | (simp; done) | (simp; omega)) (by first | rfl | assumption | (apply Row.one; assumption)) (by first | (simp only [encM, setL, List.getElem?_cons_zero, List.getElem?_cons_succ, Value.cells, List.take_zero, List.take_succ_cons, List.take_nil, List.drop_zero, List.drop_succ_cons, List.drop_nil, List.length_cons, List.length_nil, List.cons_append, List.nil_append, List.append_nil, Nat.zero_add, Nat.add_zero, Nat.reduceAdd, Nat.reduceBEq, Nat.reduceEqDiff, Nat.ble, BEq.rfl, Bool.and_true, Bool.and_self, cond_true, beq_self_eq_true]; rfl) | (simp only [setL, List.getElem?_cons_zero, List.getElem?_cons_succ, Value.cells, List.take_zero, List.take_succ_cons, List.take_nil, List.drop_zero, List.drop_succ_cons, List.drop_nil, List.length_cons, List.length_nil, List.cons_append, List.nil_append, List.append_nil, Nat.zero_add, Nat.add_zero, Nat.reduceAdd, Nat.reduceBEq, Nat.reduceEqDiff, Nat.ble, BEq.rfl, Bool.and_true, Bool.and_self, cond_true, beq_self_eq_true]; rfl)) ?_)
                    clear hh w; intro w hh
                    refine w_nil ?_
                    have hl2 := hl.add (t := 0) (hl.nil) rfl; clear hl; have hl := hl2; clear hl2
                    refine then_normal ?_
                    refine c_region ?_
                    refine wl (wl_val hl rfl trivial (r_move hl rfl) ?_)
                    clear hl a; intro a hl
                    refine wl (wl_val hl rfl trivial (r_nilCheck hl rfl) ?_)
                    clear hl a; intro a hl
                    refine wl (wl_val hl rfl trivial (r_field hl rfl fld69_14) ?_)
                    clear hl a; intro a hl
                    refine wl (w_store hl hh trivial one4 rfl rfl (by repeat (first | exact find_head | apply find_tail)) (by first | (simp; done) | (simp; omega)) (by first | rfl | assumption | (apply Row.one; assumption)) (by first | (simp only [encM, setL, List.getElem?_cons_zero, List.getElem?_cons_succ, Value.cells, List.take_zero, List.take_succ_cons, List.take_nil, List.drop_zero, List.drop_succ_cons, List.drop_nil, List.length_cons, List.length_nil, List.cons_append, List.nil_append, List.append_nil, Nat.zero_add, Nat.add_zero, Nat.reduceAdd, Nat.reduceBEq, Nat.reduceEqDiff, Nat.ble, BEq.rfl, Bool.and_true, Bool.and_self, cond_true, beq_self_eq_true]; rfl) | (simp only [setL, List.getElem?_cons_zero, List.getElem?_cons_succ, Value.cells, List.take_zero, List.take_succ_cons, List.take_nil, List.drop_zero, List.drop_succ_cons, List.drop_nil, List.length_cons, List.length_nil, List.cons_append, List.nil_append, List.append_nil, Nat.zero_add, Nat.add_zero, Nat.reduceAdd, Nat.reduceBEq, Nat.reduceEqDiff, Nat.ble, BEq.rfl, Bool.and_true, Bool.and_self, cond_true, beq_self_eq_true]; rfl)) ?_)
                    clear hh w; intro w hh
                    refine w_nil ?_
                    have hl2 := hl.nil; clear hl; have hl := hl2; clear hl2
                    refine blk_normal ?_
                    refine f_end0 (F' := [(mp, C (encM (ackM s sk ack dup lu) st sk bp) 69)]) hl hh rfl (by repeat (first | exact keeps_nil | apply keeps_cons (by repeat (first | exact find_head | apply find_tail)) (by first  | (exfalso; omega) | (exact absurd (hk.symm.trans (show sk = true by assumption)) (by decide)) | (exact blk_eqM (congrArg (fun z => encM z st sk bp) ((ack_adv (show ¬ (ack < s.una ∨ s.nxt < ack) by omega) (by omega)).trans (adv_0 (by assumption))).symm)) | (exact blk_eqM (congrArg (fun z => encM z st sk bp) ((ack_adv (show ¬ (ack < s.una ∨ s.nxt < ack) by omega) (by omega)).trans (adv_2a (by assumption) (by omega))).symm)) | (exact blk_eqM (congrArg (fun z => encM z st sk bp) ((ack_adv (show ¬ (ack < s.una ∨ s.nxt < ack) by omega) (by omega)).trans (adv_2b (by assumption) (by omega))).symm)) | (exact blk_eqM (congrArg (fun z => encM z st sk bp) ((ack_adv (show ¬ (ack < s.una ∨ s.nxt < ack) by omega) (by omega)).trans (adv_1an hk (by omega) (by omega) (by omega))).symm)) | (exact blk_eqM (congrArg (fun z => encM z st sk bp) ((ack_adv (show ¬ (ack < s.una ∨ s.nxt < ack) by omega) (by omega)).trans (adv_1T hk (by omega) (by omega) (by omega) (by omega) hc9)).symm)) | (exact blk_eqM (congrArg (fun z => encM z st sk bp) ((ack_adv (show ¬ (ack < s.una ∨ s.nxt < ack) by omega) (by omega)).trans (adv_1F hk (by omega) (by omega) (by omega) (by omega) hc9)).symm)) | rfl) | exact keeps_self | apply keeps_mv)) ?_
                    exact ⟨rfl, rfl⟩
                · intro hc15
                  try simp only [decide_eq_true_eq, decide_eq_false_iff_not, Bool.not_eq_true', Bool.not_eq_false', Bool.not_eq_true, Bool.not_eq_false, Bool.and_eq_true, Bool.or_eq_true, Bool.and_eq_false_iff, Bool.or_eq_false_iff, Bool.not_not, ne_eq, Int.not_lt, Int.not_le, Decidable.not_not, beq_iff_eq, bne_iff_ne] at hc15
                  exfalso; first | contradiction | omega | (simp_all; done)
end Go.Proofs.Qxb6500912aGreatDoor

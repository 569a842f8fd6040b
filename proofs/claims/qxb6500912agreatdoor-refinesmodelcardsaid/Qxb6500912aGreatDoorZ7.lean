import Derived.Test.Qxb6500912aGreatDoorZ6
namespace Go.Proofs.Qxb6500912aGreatDoor
open Go.Eng
set_option linter.unusedVariables false
set_option linter.unusedSimpArgs false
theorem cal46 : callable Tryz.prog 46 = true := by kernel_rfl
theorem cal45 : callable Tryz.prog 45 = true := by kernel_rfl
/-! ## the estimate of what is in the network, byte by byte -/
def pTerm (s : CS) (g l : Nat → Bool) (k : Nat) : Nat := if g k = true then 0 else (if l k = true then 0 else 1) + (if s.una + (k : Int) < s.high then 1 else 0)
def pcn (s : CS) (g l : Nat → Bool) : Nat → Nat
  | 0 => 0
  | k + 1 => pcn s g l k + pTerm s g l k
theorem pcn_le (s : CS) (g l : Nat → Bool) : ∀ k, pcn s g l k ≤ 2 * k
  | 0 => Nat.le_refl _
  | k + 1 => by
    have := pcn_le s g l k
    unfold pcn pTerm
    split
    · omega
    · split <;> split <;> omega
def pipeN (s : CS) : Int := if s.phase = 1 then s.nxt - s.una else max (s.nxt - s.una - min s.dups (s.dupt - 1) * s.mss) 0
def pipeW (s : CS) (sk : Bool) (os : List Bk) (f : Nat) : Int := (pcn s (skG sk os) (lsG s f (skG sk os)) f : Int)
section
variable {s : CS} {g l : Nat → Bool} {k : Nat}
theorem pcn_g (h : g k = true) : pcn s g l (k + 1) = pcn s g l k := by
  show pcn s g l k + pTerm s g l k = _
  unfold pTerm; rw [if_pos h]; omega
theorem pcn_00 (h : g k = false) (h1 : l k = true) (h2 : ¬ s.una + (k : Int) < s.high) : pcn s g l (k + 1) = pcn s g l k := by
  show pcn s g l k + pTerm s g l k = _
  unfold pTerm; rw [if_neg (by rw [h]; decide), if_pos h1, if_neg h2]; rfl
theorem pcn_01 (h : g k = false) (h1 : l k = true) (h2 : s.una + (k : Int) < s.high) : (pcn s g l (k + 1) : Int) = (pcn s g l k : Int) + 1 := by
  show ((pcn s g l k + pTerm s g l k : Nat) : Int) = _
  unfold pTerm; rw [if_neg (by rw [h]; decide), if_pos h1, if_pos h2]; omega
theorem pcn_10 (h : g k = false) (h1 : l k = false) (h2 : ¬ s.una + (k : Int) < s.high) : (pcn s g l (k + 1) : Int) = (pcn s g l k : Int) + 1 := by
  show ((pcn s g l k + pTerm s g l k : Nat) : Int) = _
  unfold pTerm; rw [if_neg (by rw [h]; decide), if_neg (by rw [h1]; decide), if_neg h2]; omega
theorem pcn_11 (h : g k = false) (h1 : l k = false) (h2 : s.una + (k : Int) < s.high) : (pcn s g l (k + 1) : Int) = (pcn s g l k : Int) + 1 + 1 := by
  show ((pcn s g l k + pTerm s g l k : Nat) : Int) = _
  unfold pTerm; rw [if_neg (by rw [h]; decide), if_neg (by rw [h1]; decide), if_pos h2]; omega
end


set_option maxHeartbeats 1000000 in
theorem pipe_n (mp : Nat) (s : CS) (st : Int) (sk : Bool) (bp : Nat) (hs : Mk s) (hk : sk = false) (hph : ¬ s.phase = 2) : SpK Tryz.prog 37 #[.pointer (some ⟨mp, 0, none⟩)] (fun w => w.heap[mp]? = some (C (encM s st sk bp) 69)) [] (fun v F' => v = .int .i64 (pipeN s) ∧ F' = []) := by
  refine f_enter (args := [.pointer (some ⟨mp, 0, none⟩)]) Tryz.func37 rfl Tryz.ntmps37 rfl ?_
  intro w0 w a hpre hl hh
  have o1 := hs.init; have o2 := hs.maxc; have o3 := hs.bn; have o4 := hs.bd; have o5 := hs.abc; have o6 := hs.dupt; have o7 := hs.mss; have o8 := hs.cwnd; have o9 := hs.ssth; have o10 := hs.credit; have o11 := hs.una; have o12 := hs.nxt; have o13 := hs.phase; have o14 := hs.recov; have o15 := hs.high; have o16 := hs.dups; have o17 := hs.fl
  have hmb := prod_bd (a := min s.dups (s.dupt - 1)) (b := s.mss) (A := 15) (B := 65535) (by omega) (by omega)
  simp only [slotsFrom, Nat.reduceAdd] at hl
  refine c_seq ?_
  refine c_region ?_
  refine wl (wl_val hl rfl trivial (r_assign hl rfl) ?_)
  clear hl a; intro a hl
  refine w_nil ?_
  have hl2 := hl.add (t := 0) (hl.nil) rfl; clear hl; have hl := hl2; clear hl2
  refine then_normal ?_
  refine c_seq ?_
  refine c_draw [(mp, C (encM (s) st sk bp) 69)] [8, 9] mixed hh ?_
  clear hh w; intro w hh
  have hM : Mem [(mp, C (encM (s) st sk bp) 69)] w := (by (repeat (first | exact Mem.nil | refine Mem.consR hh (by assumption) (by simp) ?_ | refine Mem.cons hh.mem (by (repeat (first | exact find_head | apply find_tail)); done) ?_ | fail)); done)
  refine d_take (i := 0) hl rfl (by kernel_rfl) (by kernel_rfl) (by kernel_rfl) (by kernel_rfl) (by kernel_rfl) rfl trivial (fun _ _ _ h => h) hM (fun w hC => r_move hl rfl) rfl ?_
  clear hl a; intro a hl
  refine d_take (i := 1) hl rfl (by kernel_rfl) (by kernel_rfl) (by kernel_rfl) (by kernel_rfl) (by kernel_rfl) rfl trivial (fun _ _ _ h => h) hM (fun w hC => r_nilCheck hl rfl) rfl ?_
  clear hl a; intro a hl
  refine d_take (i := 2) hl rfl (by kernel_rfl) (by kernel_rfl) (by kernel_rfl) (by kernel_rfl) (by kernel_rfl) rfl trivial (fun _ _ _ h => h) hM (fun w hC => r_field hl rfl fld69_9) rfl ?_
  clear hl a; intro a hl
  refine d_take (i := 3) hl rfl (by kernel_rfl) (by kernel_rfl) (by kernel_rfl) (by kernel_rfl) (by kernel_rfl) rfl trivial (fun _ _ _ h => h) hM (fun w hC => r_loadC hl rfl one2 hC (by repeat (first | exact find_head | apply find_tail)) (by first | rfl)) rfl ?_
  clear hl a; intro a hl
  refine d_take (i := 4) hl rfl (by kernel_rfl) (by kernel_rfl) (by kernel_rfl) (by kernel_rfl) (by kernel_rfl) rfl trivial (fun _ _ _ h => h) hM (fun w hC => r_move hl rfl) rfl ?_
  clear hl a; intro a hl
  refine d_take (i := 5) hl rfl (by kernel_rfl) (by kernel_rfl) (by kernel_rfl) (by kernel_rfl) (by kernel_rfl) rfl trivial (fun _ _ _ h => h) hM (fun w hC => r_nilCheck hl rfl) rfl ?_
  clear hl a; intro a hl
  refine d_take (i := 6) hl rfl (by kernel_rfl) (by kernel_rfl) (by kernel_rfl) (by kernel_rfl) (by kernel_rfl) rfl trivial (fun _ _ _ h => h) hM (fun w hC => r_field hl rfl fld69_8) rfl ?_
  clear hl a; intro a hl
  refine d_take (i := 7) hl rfl (by kernel_rfl) (by kernel_rfl) (by kernel_rfl) (by kernel_rfl) (by kernel_rfl) rfl trivial (fun _ _ _ h => h) hM (fun w hC => r_loadC hl rfl one2 hC (by repeat (first | exact find_head | apply find_tail)) (by first | rfl)) rfl ?_
  clear hl a; intro a hl
  first | refine d_takeL (i := 8) hl rfl (by kernel_rfl) (by kernel_rfl) (by kernel_rfl) (by kernel_rfl) (by kernel_rfl) rfl trivial (fun _ _ _ h => h) (fun w => r_sub hl rfl rfl (by simp only [Fits]; omega)) rfl ?_ | refine d_takeL (i := 8) hl rfl (by kernel_rfl) (by kernel_rfl) (by kernel_rfl) (by kernel_rfl) (by kernel_rfl) rfl trivial (fun _ _ _ h => h) (fun w => r_subW hl rfl rfl) rfl ?_
  clear hl a; intro a hl
  refine d_takeL (i := 9) hl rfl (by kernel_rfl) (by kernel_rfl) (by kernel_rfl) (by kernel_rfl) (by kernel_rfl) rfl trivial (fun _ _ _ h => h) (fun w => r_assign hl rfl) rfl ?_
  clear hl a; intro a hl
  refine d_done (by kernel_rfl) ?_
  try clear hM
  have hl2 := hl.add (t := 0) (hl.add (t := 3) (hl.nil) rfl) rfl; clear hl; have hl := hl2; clear hl2
  refine then_normal ?_
  refine c_seq ?_
  refine c_seq ?_
  refine c_region ?_
  refine wl (wl_val hl rfl trivial (r_move hl rfl) ?_)
  clear hl a; intro a hl
  refine wl (wl_val hl rfl trivial (r_nilCheck hl rfl) ?_)
  clear hl a; intro a hl
  refine wl (wl_val hl rfl trivial (r_field hl rfl fld69_3) ?_)
  clear hl a; intro a hl
  first | refine wl (w_load hl hh rfl trivial one4 rfl (by repeat (first | exact find_head | apply find_tail)) (by first | rfl) ?_) | refine wl (w_loadR hl hh rfl trivial one4 rfl hpre (by simp) rfl ?_)
  clear hl a; intro a hl
  refine wl (wl_val hl rfl trivial (r_not hl rfl) ?_)
  clear hl a; intro a hl
  refine wl (wl_val hl rfl trivial (r_move hl rfl) ?_)
  clear hl a; intro a hl
  refine sl_split (t := 23) hl rfl ?_ ?_
  · intro hg1; clear hl; intro hl
    try simp only [decide_eq_true_eq, decide_eq_false_iff_not, Bool.not_eq_true', Bool.not_eq_false', Bool.not_eq_true, Bool.not_eq_false, Bool.and_eq_true, Bool.or_eq_true, Bool.and_eq_false_iff, Bool.or_eq_false_iff, Bool.not_not, ne_eq, Int.not_lt, Int.not_le, Decidable.not_not, beq_iff_eq, bne_iff_ne] at hg1
    refine wl (wl_val hl rfl ⟨_, _, rfl, rfl, rfl⟩ (r_move hl rfl) ?_)
    clear hl a; intro a hl
    refine wl (wl_val hl rfl ⟨_, _, rfl, rfl, rfl⟩ (r_nilCheck hl rfl) ?_)
    clear hl a; intro a hl
    refine wl (wl_val hl rfl ⟨_, _, rfl, rfl, rfl⟩ (r_field hl rfl fld69_10) ?_)
    clear hl a; intro a hl
    first | refine wl (w_load hl hh rfl ⟨_, _, rfl, rfl, rfl⟩ one59 rfl (by repeat (first | exact find_head | apply find_tail)) (by first | rfl) ?_) | refine wl (w_loadR hl hh rfl ⟨_, _, rfl, rfl, rfl⟩ one59 rfl hpre (by simp) rfl ?_)
    clear hl a; intro a hl
    refine wl (wl_val hl rfl ⟨_, _, rfl, rfl, rfl⟩ (r_eql hl rfl rfl) ?_)
    clear hl a; intro a hl
    refine wl (wl_val hl rfl trivial (r_pickT hl rfl rfl) ?_)
    clear hl a; intro a hl
    refine w_nil ?_
    have hl2 := hl.add (t := 0) (hl.add (t := 3) (hl.add (t := 29) (hl.nil) rfl) rfl) rfl; clear hl; have hl := hl2; clear hl2
    refine then_normal ?_
    refine c_cond hl rfl ?_ ?_
    · intro hc0
      try simp only [decide_eq_true_eq, decide_eq_false_iff_not, Bool.not_eq_true', Bool.not_eq_false', Bool.not_eq_true, Bool.not_eq_false, Bool.and_eq_true, Bool.or_eq_true, Bool.and_eq_false_iff, Bool.or_eq_false_iff, Bool.not_not, ne_eq, Int.not_lt, Int.not_le, Decidable.not_not, beq_iff_eq, bne_iff_ne] at hc0
      refine c_seq ?_
      refine c_region ?_
      refine wl (wl_val hl rfl trivial (r_move hl rfl) ?_)
      clear hl a; intro a hl
      refine wl (wl_val hl rfl trivial (r_assign hl rfl) ?_)
      clear hl a; intro a hl
      refine w_nil ?_
      have hl2 := hl.add (t := 2) (hl.nil) rfl; clear hl; have hl := hl2; clear hl2
      refine then_normal ?_
      refine wp_ret ?_
      refine then_ret ?_
      refine f_ret1 (F' := []) hl hh rfl rfl (by repeat (first | exact keeps_nil | apply keeps_cons (by repeat (first | exact find_head | apply find_tail)) (by first  | rfl) | exact keeps_self | apply keeps_mv)) ?_
      refine ⟨congrArg (Value.int .i64) ?_, rfl⟩; unfold pipeN; rw [if_pos (by assumption)]
    · intro hc0
      try simp only [decide_eq_true_eq, decide_eq_false_iff_not, Bool.not_eq_true', Bool.not_eq_false', Bool.not_eq_true, Bool.not_eq_false, Bool.and_eq_true, Bool.or_eq_true, Bool.and_eq_false_iff, Bool.or_eq_false_iff, Bool.not_not, ne_eq, Int.not_lt, Int.not_le, Decidable.not_not, beq_iff_eq, bne_iff_ne] at hc0
      skip
      refine wp_skip ?_
      refine then_normal ?_
      refine c_seq ?_
      refine c_seq ?_
      refine c_region ?_
      refine wl (wl_val hl rfl trivial (r_move hl rfl) ?_)
      clear hl a; intro a hl
      refine wl (wl_val hl rfl trivial (r_nilCheck hl rfl) ?_)
      clear hl a; intro a hl
      refine wl (wl_val hl rfl trivial (r_field hl rfl fld69_3) ?_)
      clear hl a; intro a hl
      first | refine wl (w_load hl hh rfl trivial one4 rfl (by repeat (first | exact find_head | apply find_tail)) (by first | rfl) ?_) | refine wl (w_loadR hl hh rfl trivial one4 rfl hpre (by simp) rfl ?_)
      clear hl a; intro a hl
      refine wl (wl_val hl rfl trivial (r_not hl rfl) ?_)
      clear hl a; intro a hl
      refine wl (wl_val hl rfl trivial (r_move hl rfl) ?_)
      clear hl a; intro a hl
      refine sl_split (t := 36) hl rfl ?_ ?_
      · intro hg2; clear hl; intro hl
        try simp only [decide_eq_true_eq, decide_eq_false_iff_not, Bool.not_eq_true', Bool.not_eq_false', Bool.not_eq_true, Bool.not_eq_false, Bool.and_eq_true, Bool.or_eq_true, Bool.and_eq_false_iff, Bool.or_eq_false_iff, Bool.not_not, ne_eq, Int.not_lt, Int.not_le, Decidable.not_not, beq_iff_eq, bne_iff_ne] at hg2
        refine wl (wl_val hl rfl ⟨_, _, rfl, rfl, rfl⟩ (r_move hl rfl) ?_)
        clear hl a; intro a hl
        refine wl (wl_val hl rfl ⟨_, _, rfl, rfl, rfl⟩ (r_nilCheck hl rfl) ?_)
        clear hl a; intro a hl
        refine wl (wl_val hl rfl ⟨_, _, rfl, rfl, rfl⟩ (r_field hl rfl fld69_10) ?_)
        clear hl a; intro a hl
        first | refine wl (w_load hl hh rfl ⟨_, _, rfl, rfl, rfl⟩ one59 rfl (by repeat (first | exact find_head | apply find_tail)) (by first | rfl) ?_) | refine wl (w_loadR hl hh rfl ⟨_, _, rfl, rfl, rfl⟩ one59 rfl hpre (by simp) rfl ?_)
        clear hl a; intro a hl
        refine wl (wl_val hl rfl ⟨_, _, rfl, rfl, rfl⟩ (r_eql hl rfl rfl) ?_)
        clear hl a; intro a hl
        refine wl (wl_val hl rfl trivial (r_pickT hl rfl rfl) ?_)
        clear hl a; intro a hl
        refine w_nil ?_
        have hl2 := hl.add (t := 0) (hl.add (t := 3) (hl.add (t := 42) (hl.nil) rfl) rfl) rfl; clear hl; have hl := hl2; clear hl2
        refine then_normal ?_
        refine c_cond hl rfl ?_ ?_
        · intro hc1
          try simp only [decide_eq_true_eq, decide_eq_false_iff_not, Bool.not_eq_true', Bool.not_eq_false', Bool.not_eq_true, Bool.not_eq_false, Bool.and_eq_true, Bool.or_eq_true, Bool.and_eq_false_iff, Bool.or_eq_false_iff, Bool.not_not, ne_eq, Int.not_lt, Int.not_le, Decidable.not_not, beq_iff_eq, bne_iff_ne] at hc1
          refine c_seq ?_
          refine c_draw [(mp, C (encM (s) st sk bp) 69)] [16, 17] mixed hh ?_
          clear hh w; intro w hh
          have hM : Mem [(mp, C (encM (s) st sk bp) 69)] w := (by (repeat (first | exact Mem.nil | refine Mem.consR hh (by assumption) (by simp) ?_ | refine Mem.cons hh.mem (by (repeat (first | exact find_head | apply find_tail)); done) ?_ | fail)); done)
          refine d_take (i := 0) hl rfl (by kernel_rfl) (by kernel_rfl) (by kernel_rfl) (by kernel_rfl) (by kernel_rfl) rfl trivial (fun _ _ _ h => h) hM (fun w hC => r_move hl rfl) rfl ?_
          clear hl a; intro a hl
          refine d_take (i := 1) hl rfl (by kernel_rfl) (by kernel_rfl) (by kernel_rfl) (by kernel_rfl) (by kernel_rfl) rfl trivial (fun _ _ _ h => h) hM (fun w hC => r_nilCheck hl rfl) rfl ?_
          clear hl a; intro a hl
          refine d_take (i := 2) hl rfl (by kernel_rfl) (by kernel_rfl) (by kernel_rfl) (by kernel_rfl) (by kernel_rfl) rfl trivial (fun _ _ _ h => h) hM (fun w hC => r_field hl rfl fld69_13) rfl ?_
          clear hl a; intro a hl
          refine d_take (i := 3) hl rfl (by kernel_rfl) (by kernel_rfl) (by kernel_rfl) (by kernel_rfl) (by kernel_rfl) rfl trivial (fun _ _ _ h => h) hM (fun w hC => r_loadC hl rfl one2 hC (by repeat (first | exact find_head | apply find_tail)) (by first | rfl)) rfl ?_
          clear hl a; intro a hl
          refine d_take (i := 4) hl rfl (by kernel_rfl) (by kernel_rfl) (by kernel_rfl) (by kernel_rfl) (by kernel_rfl) rfl trivial (fun _ _ _ h => h) hM (fun w hC => r_move hl rfl) rfl ?_
          clear hl a; intro a hl
          refine d_take (i := 5) hl rfl (by kernel_rfl) (by kernel_rfl) (by kernel_rfl) (by kernel_rfl) (by kernel_rfl) rfl trivial (fun _ _ _ h => h) hM (fun w hC => r_nilCheck hl rfl) rfl ?_
          clear hl a; intro a hl
          refine d_take (i := 6) hl rfl (by kernel_rfl) (by kernel_rfl) (by kernel_rfl) (by kernel_rfl) (by kernel_rfl) rfl trivial (fun _ _ _ h => h) hM (fun w hC => r_field hl rfl fld69_0) rfl ?_
          clear hl a; intro a hl
          refine d_take (i := 7) hl rfl (by kernel_rfl) (by kernel_rfl) (by kernel_rfl) (by kernel_rfl) (by kernel_rfl) rfl trivial (fun _ _ _ h => h) hM (fun w hC => r_field hl rfl fld31_5) rfl ?_
          clear hl a; intro a hl
          refine d_take (i := 8) hl rfl (by kernel_rfl) (by kernel_rfl) (by kernel_rfl) (by kernel_rfl) (by kernel_rfl) rfl trivial (fun _ _ _ h => h) hM (fun w hC => r_loadC hl rfl one29 hC (by repeat (first | exact find_head | apply find_tail)) (by first | rfl)) rfl ?_
          clear hl a; intro a hl
          first | refine d_take (i := 9) hl rfl (by kernel_rfl) (by kernel_rfl) (by kernel_rfl) (by kernel_rfl) (by kernel_rfl) rfl trivial (fun _ _ _ h => h) hM (fun w hC => r_conv hl rfl Tryz.underlying29 Tryz.underlying2 (by simp only [Fits]; omega)) rfl ?_ | refine d_take (i := 9) hl rfl (by kernel_rfl) (by kernel_rfl) (by kernel_rfl) (by kernel_rfl) (by kernel_rfl) rfl trivial (fun _ _ _ h => h) hM (fun w hC => r_convW hl rfl Tryz.underlying29 Tryz.underlying2) rfl ?_
          clear hl a; intro a hl
          first | refine d_take (i := 10) hl rfl (by kernel_rfl) (by kernel_rfl) (by kernel_rfl) (by kernel_rfl) (by kernel_rfl) rfl trivial (fun _ _ _ h => h) hM (fun w hC => r_sub hl rfl rfl (by simp only [Fits]; omega)) rfl ?_ | refine d_take (i := 10) hl rfl (by kernel_rfl) (by kernel_rfl) (by kernel_rfl) (by kernel_rfl) (by kernel_rfl) rfl trivial (fun _ _ _ h => h) hM (fun w hC => r_subW hl rfl rfl) rfl ?_
          clear hl a; intro a hl
          refine d_take (i := 11) hl rfl (by kernel_rfl) (by kernel_rfl) (by kernel_rfl) (by kernel_rfl) (by kernel_rfl) rfl trivial (fun _ _ _ h => h) hM (fun w hC => r_minI hl rfl rfl) rfl ?_
          clear hl a; intro a hl
          refine d_take (i := 12) hl rfl (by kernel_rfl) (by kernel_rfl) (by kernel_rfl) (by kernel_rfl) (by kernel_rfl) rfl trivial (fun _ _ _ h => h) hM (fun w hC => r_move hl rfl) rfl ?_
          clear hl a; intro a hl
          refine d_take (i := 13) hl rfl (by kernel_rfl) (by kernel_rfl) (by kernel_rfl) (by kernel_rfl) (by kernel_rfl) rfl trivial (fun _ _ _ h => h) hM (fun w hC => r_nilCheck hl rfl) rfl ?_
          clear hl a; intro a hl
          refine d_take (i := 14) hl rfl (by kernel_rfl) (by kernel_rfl) (by kernel_rfl) (by kernel_rfl) (by kernel_rfl) rfl trivial (fun _ _ _ h => h) hM (fun w hC => r_field hl rfl fld69_1) rfl ?_
          clear hl a; intro a hl
          refine d_take (i := 15) hl rfl (by kernel_rfl) (by kernel_rfl) (by kernel_rfl) (by kernel_rfl) (by kernel_rfl) rfl trivial (fun _ _ _ h => h) hM (fun w hC => r_loadC hl rfl one2 hC (by repeat (first | exact find_head | apply find_tail)) (by first | rfl)) rfl ?_
          clear hl a; intro a hl
          first | refine d_takeL (i := 16) hl rfl (by kernel_rfl) (by kernel_rfl) (by kernel_rfl) (by kernel_rfl) (by kernel_rfl) rfl trivial (fun _ _ _ h => h) (fun w => r_mul hl rfl rfl (by simp only [Fits]; omega)) rfl ?_ | refine d_takeL (i := 16) hl rfl (by kernel_rfl) (by kernel_rfl) (by kernel_rfl) (by kernel_rfl) (by kernel_rfl) rfl trivial (fun _ _ _ h => h) (fun w => r_mulW hl rfl rfl) rfl ?_
          clear hl a; intro a hl
          refine d_takeL (i := 17) hl rfl (by kernel_rfl) (by kernel_rfl) (by kernel_rfl) (by kernel_rfl) (by kernel_rfl) rfl trivial (fun _ _ _ h => h) (fun w => r_assign hl rfl) rfl ?_
          clear hl a; intro a hl
          refine d_done (by kernel_rfl) ?_
          try clear hM
          have hl2 := hl.add (t := 3) (hl.add (t := 4) (hl.nil) rfl) rfl; clear hl; have hl := hl2; clear hl2
          refine then_normal ?_
          refine c_seq ?_
          refine c_region ?_
          refine wl (wl_val hl rfl trivial (r_move hl rfl) ?_)
          clear hl a; intro a hl
          refine wl (wl_val hl rfl trivial (r_move hl rfl) ?_)
          clear hl a; intro a hl
          first | refine wl (wl_val hl rfl trivial (r_sub hl rfl rfl (by simp only [Fits]; omega)) ?_) | refine wl (wl_val hl rfl trivial (r_subW hl rfl rfl) ?_)
          clear hl a; intro a hl
          refine wl (wl_val hl rfl trivial (r_maxI hl rfl rfl) ?_)
          clear hl a; intro a hl
          refine wl (wl_val hl rfl trivial (r_assign hl rfl) ?_)
          clear hl a; intro a hl
          refine w_nil ?_
          have hl2 := hl.add (t := 2) (hl.nil) rfl; clear hl; have hl := hl2; clear hl2
          refine then_normal ?_
          refine wp_ret ?_
          refine then_ret ?_
          refine f_ret1 (F' := []) hl hh rfl rfl (by repeat (first | exact keeps_nil | apply keeps_cons (by repeat (first | exact find_head | apply find_tail)) (by first  | rfl) | exact keeps_self | apply keeps_mv)) ?_
          refine ⟨congrArg (Value.int .i64) ?_, rfl⟩; unfold pipeN; rw [if_neg (by omega)]
        · intro hc1
          try simp only [decide_eq_true_eq, decide_eq_false_iff_not, Bool.not_eq_true', Bool.not_eq_false', Bool.not_eq_true, Bool.not_eq_false, Bool.and_eq_true, Bool.or_eq_true, Bool.and_eq_false_iff, Bool.or_eq_false_iff, Bool.not_not, ne_eq, Int.not_lt, Int.not_le, Decidable.not_not, beq_iff_eq, bne_iff_ne] at hc1
          exfalso; first | contradiction | omega | (simp_all; done) | (simp_all; omega)
      · intro hg2; clear hl; intro hl
        try simp only [decide_eq_true_eq, decide_eq_false_iff_not, Bool.not_eq_true', Bool.not_eq_false', Bool.not_eq_true, Bool.not_eq_false, Bool.and_eq_true, Bool.or_eq_true, Bool.and_eq_false_iff, Bool.or_eq_false_iff, Bool.not_not, ne_eq, Int.not_lt, Int.not_le, Decidable.not_not, beq_iff_eq, bne_iff_ne] at hg2
        exfalso; first | contradiction | omega | (simp_all; done) | (simp_all; omega)
  · intro hg1; clear hl; intro hl
    try simp only [decide_eq_true_eq, decide_eq_false_iff_not, Bool.not_eq_true', Bool.not_eq_false', Bool.not_eq_true, Bool.not_eq_false, Bool.and_eq_true, Bool.or_eq_true, Bool.and_eq_false_iff, Bool.or_eq_false_iff, Bool.not_not, ne_eq, Int.not_lt, Int.not_le, Decidable.not_not, beq_iff_eq, bne_iff_ne] at hg1
    exfalso; first | contradiction | omega | (simp_all; done) | (simp_all; omega)

set_option maxHeartbeats 8000000 in
theorem pipe_w (mp : Nat) (s : CS) (st : Int) (sk : Bool) (bp : Nat) (hs : Mk s) (f : Nat) (hf : s.nxt - s.una = (f : Int)) (hf9 : f ≤ 262144) (os : List Bk) (hos : BInv f os) (hl16 : os.length ≤ 16) (bn : Int) (p : Option Addr) (c : Nat) (E : List (Nat × Obj)) (hR : Row (.slice p os.length c) os.length (fl (bkc (seqM st s.una)) os) 2 73 E) (hwk : sk = true ∨ s.phase = 2) : SpK Tryz.prog 37 #[.pointer (some ⟨mp, 0, none⟩)] (fun w => w.heap[mp]? = some (C (encM s st sk bp) 69) ∧ (sk = true → w.heap[bp]? = some (C (bdL (seqM st s.una) bn (.slice p os.length c)) 85)) ∧ Mem E w) [] (fun v F' => v = .int .i64 (pipeW s sk os f) ∧ F' = []) := by
  refine f_enter (args := [.pointer (some ⟨mp, 0, none⟩)]) Tryz.func37 rfl Tryz.ntmps37 rfl ?_
  intro w0 w a hpre hl hh
  have o1 := hs.init; have o2 := hs.maxc; have o3 := hs.bn; have o4 := hs.bd; have o5 := hs.abc; have o6 := hs.dupt; have o7 := hs.mss; have o8 := hs.cwnd; have o9 := hs.ssth; have o10 := hs.credit; have o11 := hs.una; have o12 := hs.nxt; have o13 := hs.phase; have o14 := hs.recov; have o15 := hs.high; have o16 := hs.dups; have o17 := hs.fl
  have hpm := hpre.1; have hpb := hpre.2.1; have hpE := hpre.2.2
  have hpc := pcn_le s (skG sk os) (lsG s f (skG sk os))
  simp only [slotsFrom, Nat.reduceAdd] at hl
  refine c_seq ?_
  refine c_region ?_
  refine wl (wl_val hl rfl trivial (r_assign hl rfl) ?_)
  clear hl a; intro a hl
  refine w_nil ?_
  have hl2 := hl.add (t := 0) (hl.nil) rfl; clear hl; have hl := hl2; clear hl2
  refine then_normal ?_
  refine c_seq ?_
  refine c_draw [(mp, C (encM (s) st sk bp) 69)] [8, 9] mixed hh ?_
  clear hh w; intro w hh
  have hM : Mem [(mp, C (encM (s) st sk bp) 69)] w := (by (repeat (first | exact Mem.nil | refine Mem.consR hh (by assumption) (by simp) ?_ | refine Mem.cons hh.mem (by (repeat (first | exact find_head | apply find_tail)); done) ?_ | fail)); done)
  refine d_take (i := 0) hl rfl (by kernel_rfl) (by kernel_rfl) (by kernel_rfl) (by kernel_rfl) (by kernel_rfl) rfl trivial (fun _ _ _ h => h) hM (fun w hC => r_move hl rfl) rfl ?_
  clear hl a; intro a hl
  refine d_take (i := 1) hl rfl (by kernel_rfl) (by kernel_rfl) (by kernel_rfl) (by kernel_rfl) (by kernel_rfl) rfl trivial (fun _ _ _ h => h) hM (fun w hC => r_nilCheck hl rfl) rfl ?_
  clear hl a; intro a hl
  refine d_take (i := 2) hl rfl (by kernel_rfl) (by kernel_rfl) (by kernel_rfl) (by kernel_rfl) (by kernel_rfl) rfl trivial (fun _ _ _ h => h) hM (fun w hC => r_field hl rfl fld69_9) rfl ?_
  clear hl a; intro a hl
  refine d_take (i := 3) hl rfl (by kernel_rfl) (by kernel_rfl) (by kernel_rfl) (by kernel_rfl) (by kernel_rfl) rfl trivial (fun _ _ _ h => h) hM (fun w hC => r_loadC hl rfl one2 hC (by repeat (first | exact find_head | apply find_tail)) (by first | rfl)) rfl ?_
  clear hl a; intro a hl
  refine d_take (i := 4) hl rfl (by kernel_rfl) (by kernel_rfl) (by kernel_rfl) (by kernel_rfl) (by kernel_rfl) rfl trivial (fun _ _ _ h => h) hM (fun w hC => r_move hl rfl) rfl ?_
  clear hl a; intro a hl
  refine d_take (i := 5) hl rfl (by kernel_rfl) (by kernel_rfl) (by kernel_rfl) (by kernel_rfl) (by kernel_rfl) rfl trivial (fun _ _ _ h => h) hM (fun w hC => r_nilCheck hl rfl) rfl ?_
  clear hl a; intro a hl
  refine d_take (i := 6) hl rfl (by kernel_rfl) (by kernel_rfl) (by kernel_rfl) (by kernel_rfl) (by kernel_rfl) rfl trivial (fun _ _ _ h => h) hM (fun w hC => r_field hl rfl fld69_8) rfl ?_
  clear hl a; intro a hl
  refine d_take (i := 7) hl rfl (by kernel_rfl) (by kernel_rfl) (by kernel_rfl) (by kernel_rfl) (by kernel_rfl) rfl trivial (fun _ _ _ h => h) hM (fun w hC => r_loadC hl rfl one2 hC (by repeat (first | exact find_head | apply find_tail)) (by first | rfl)) rfl ?_
  clear hl a; intro a hl
  first | refine d_takeL (i := 8) hl rfl (by kernel_rfl) (by kernel_rfl) (by kernel_rfl) (by kernel_rfl) (by kernel_rfl) rfl trivial (fun _ _ _ h => h) (fun w => r_sub hl rfl rfl (by simp only [Fits]; omega)) rfl ?_ | refine d_takeL (i := 8) hl rfl (by kernel_rfl) (by kernel_rfl) (by kernel_rfl) (by kernel_rfl) (by kernel_rfl) rfl trivial (fun _ _ _ h => h) (fun w => r_subW hl rfl rfl) rfl ?_
  clear hl a; intro a hl
  refine d_takeL (i := 9) hl rfl (by kernel_rfl) (by kernel_rfl) (by kernel_rfl) (by kernel_rfl) (by kernel_rfl) rfl trivial (fun _ _ _ h => h) (fun w => r_assign hl rfl) rfl ?_
  clear hl a; intro a hl
  refine d_done (by kernel_rfl) ?_
  try clear hM
  have hl2 := hl.add (t := 0) (hl.add (t := 3) (hl.nil) rfl) rfl; clear hl; have hl := hl2; clear hl2
  refine then_normal ?_
  refine c_seq ?_
  refine c_seq ?_
  refine c_region ?_
  refine wl (wl_val hl rfl trivial (r_move hl rfl) ?_)
  clear hl a; intro a hl
  refine wl (wl_val hl rfl trivial (r_nilCheck hl rfl) ?_)
  clear hl a; intro a hl
  refine wl (wl_val hl rfl trivial (r_field hl rfl fld69_3) ?_)
  clear hl a; intro a hl
  first | refine wl (w_load hl hh rfl trivial one4 rfl (by repeat (first | exact find_head | apply find_tail)) (by first | rfl) ?_) | refine wl (w_loadR hl hh rfl trivial one4 rfl hpm (by simp) rfl ?_)
  clear hl a; intro a hl
  refine wl (wl_val hl rfl trivial (r_not hl rfl) ?_)
  clear hl a; intro a hl
  refine wl (wl_val hl rfl trivial (r_move hl rfl) ?_)
  clear hl a; intro a hl
  refine sl_split (t := 23) hl rfl ?_ ?_
  · intro hg1; clear hl; intro hl
    try simp only [decide_eq_true_eq, decide_eq_false_iff_not, Bool.not_eq_true', Bool.not_eq_false', Bool.not_eq_true, Bool.not_eq_false, Bool.and_eq_true, Bool.or_eq_true, Bool.and_eq_false_iff, Bool.or_eq_false_iff, Bool.not_not, ne_eq, Int.not_lt, Int.not_le, Decidable.not_not, beq_iff_eq, bne_iff_ne] at hg1
    refine wl (wl_val hl rfl ⟨_, _, rfl, rfl, rfl⟩ (r_move hl rfl) ?_)
    clear hl a; intro a hl
    refine wl (wl_val hl rfl ⟨_, _, rfl, rfl, rfl⟩ (r_nilCheck hl rfl) ?_)
    clear hl a; intro a hl
    refine wl (wl_val hl rfl ⟨_, _, rfl, rfl, rfl⟩ (r_field hl rfl fld69_10) ?_)
    clear hl a; intro a hl
    first | refine wl (w_load hl hh rfl ⟨_, _, rfl, rfl, rfl⟩ one59 rfl (by repeat (first | exact find_head | apply find_tail)) (by first | rfl) ?_) | refine wl (w_loadR hl hh rfl ⟨_, _, rfl, rfl, rfl⟩ one59 rfl hpm (by simp) rfl ?_)
    clear hl a; intro a hl
    refine wl (wl_val hl rfl ⟨_, _, rfl, rfl, rfl⟩ (r_eql hl rfl rfl) ?_)
    clear hl a; intro a hl
    refine wl (wl_val hl rfl trivial (r_pickT hl rfl rfl) ?_)
    clear hl a; intro a hl
    refine w_nil ?_
    have hl2 := hl.add (t := 0) (hl.add (t := 3) (hl.add (t := 29) (hl.nil) rfl) rfl) rfl; clear hl; have hl := hl2; clear hl2
    refine then_normal ?_
    refine c_cond hl rfl ?_ ?_
    · intro hc0
      try simp only [decide_eq_true_eq, decide_eq_false_iff_not, Bool.not_eq_true', Bool.not_eq_false', Bool.not_eq_true, Bool.not_eq_false, Bool.and_eq_true, Bool.or_eq_true, Bool.and_eq_false_iff, Bool.or_eq_false_iff, Bool.not_not, ne_eq, Int.not_lt, Int.not_le, Decidable.not_not, beq_iff_eq, bne_iff_ne] at hc0
      exfalso; rcases hwk with h9 | h9 <;> first | contradiction | omega | (simp_all; done) | (simp_all; omega)
    · intro hc0
      try simp only [decide_eq_true_eq, decide_eq_false_iff_not, Bool.not_eq_true', Bool.not_eq_false', Bool.not_eq_true, Bool.not_eq_false, Bool.and_eq_true, Bool.or_eq_true, Bool.and_eq_false_iff, Bool.or_eq_false_iff, Bool.not_not, ne_eq, Int.not_lt, Int.not_le, Decidable.not_not, beq_iff_eq, bne_iff_ne] at hc0
      refine wp_skip ?_
      refine then_normal ?_
      refine c_seq ?_
      refine c_seq ?_
      refine c_region ?_
      refine wl (wl_val hl rfl trivial (r_move hl rfl) ?_)
      clear hl a; intro a hl
      refine wl (wl_val hl rfl trivial (r_nilCheck hl rfl) ?_)
      clear hl a; intro a hl
      refine wl (wl_val hl rfl trivial (r_field hl rfl fld69_3) ?_)
      clear hl a; intro a hl
      first | refine wl (w_load hl hh rfl trivial one4 rfl (by repeat (first | exact find_head | apply find_tail)) (by first | rfl) ?_) | refine wl (w_loadR hl hh rfl trivial one4 rfl hpm (by simp) rfl ?_)
      clear hl a; intro a hl
      refine wl (wl_val hl rfl trivial (r_not hl rfl) ?_)
      clear hl a; intro a hl
      refine wl (wl_val hl rfl trivial (r_move hl rfl) ?_)
      clear hl a; intro a hl
      refine sl_split (t := 36) hl rfl ?_ ?_
      · intro hg2; clear hl; intro hl
        try simp only [decide_eq_true_eq, decide_eq_false_iff_not, Bool.not_eq_true', Bool.not_eq_false', Bool.not_eq_true, Bool.not_eq_false, Bool.and_eq_true, Bool.or_eq_true, Bool.and_eq_false_iff, Bool.or_eq_false_iff, Bool.not_not, ne_eq, Int.not_lt, Int.not_le, Decidable.not_not, beq_iff_eq, bne_iff_ne] at hg2
        refine wl (wl_val hl rfl ⟨_, _, rfl, rfl, rfl⟩ (r_move hl rfl) ?_)
        clear hl a; intro a hl
        refine wl (wl_val hl rfl ⟨_, _, rfl, rfl, rfl⟩ (r_nilCheck hl rfl) ?_)
        clear hl a; intro a hl
        refine wl (wl_val hl rfl ⟨_, _, rfl, rfl, rfl⟩ (r_field hl rfl fld69_10) ?_)
        clear hl a; intro a hl
        first | refine wl (w_load hl hh rfl ⟨_, _, rfl, rfl, rfl⟩ one59 rfl (by repeat (first | exact find_head | apply find_tail)) (by first | rfl) ?_) | refine wl (w_loadR hl hh rfl ⟨_, _, rfl, rfl, rfl⟩ one59 rfl hpm (by simp) rfl ?_)
        clear hl a; intro a hl
        refine wl (wl_val hl rfl ⟨_, _, rfl, rfl, rfl⟩ (r_eql hl rfl rfl) ?_)
        clear hl a; intro a hl
        refine wl (wl_val hl rfl trivial (r_pickT hl rfl rfl) ?_)
        clear hl a; intro a hl
        refine w_nil ?_
        have hl2 := hl.add (t := 0) (hl.add (t := 3) (hl.add (t := 42) (hl.nil) rfl) rfl) rfl; clear hl; have hl := hl2; clear hl2
        refine then_normal ?_
        refine c_cond hl rfl ?_ ?_
        · intro hc1
          try simp only [decide_eq_true_eq, decide_eq_false_iff_not, Bool.not_eq_true', Bool.not_eq_false', Bool.not_eq_true, Bool.not_eq_false, Bool.and_eq_true, Bool.or_eq_true, Bool.and_eq_false_iff, Bool.or_eq_false_iff, Bool.not_not, ne_eq, Int.not_lt, Int.not_le, Decidable.not_not, beq_iff_eq, bne_iff_ne] at hc1
          exfalso; rcases hwk with h9 | h9 <;> first | contradiction | omega | (simp_all; done) | (simp_all; omega)
        · intro hc1
          try simp only [decide_eq_true_eq, decide_eq_false_iff_not, Bool.not_eq_true', Bool.not_eq_false', Bool.not_eq_true, Bool.not_eq_false, Bool.and_eq_true, Bool.or_eq_true, Bool.and_eq_false_iff, Bool.or_eq_false_iff, Bool.not_not, ne_eq, Int.not_lt, Int.not_le, Decidable.not_not, beq_iff_eq, bne_iff_ne] at hc1
          refine wp_skip ?_
          refine then_normal ?_
          refine c_seq ?_
          refine c_region ?_
          refine wl (wl_val hl rfl trivial (r_move hl rfl) ?_)
          clear hl a; intro a hl
          refine wl (w_call hl hh rfl trivial rfl cal46 rfl (sacked_m mp s st sk bp hs f hf hf9 os hos hl16 bn p c E hR) (by repeat (first | exact keeps_nil | apply keeps_cons (by repeat (first | exact find_head | apply find_tail)) (by first  | rfl) | exact keeps_self | apply keeps_mv)) ⟨heap_keep hh hpm, fun h9 => heap_keep hh (hpb h9), mem_keep hh hpE⟩ ?_)
          clear hl hh a w; intro vc Fc a w hR hl hh
          obtain ⟨fb, rfl, rfl⟩ := hR
          try simp only [List.cons_append, List.nil_append] at hh
          refine wl (w_alloc hl hh rfl trivial zero79 rfl ?_)
          clear hl hh a w; intro k5 a w hl hh
          refine wl (w_storeA hl hh trivial agg79 rfl rfl (by repeat (first | exact find_head | apply find_tail)) (by first | rfl | (simp; done)) (by first | (simp; done) | (simp; omega)) (by first | rfl | (simp; done)) (by first | (simp only [encM, setL, List.getElem?_cons_zero, List.getElem?_cons_succ, Value.cells, List.take_zero, List.take_succ_cons, List.take_nil, List.drop_zero, List.drop_succ_cons, List.drop_nil, List.length_cons, List.length_nil, List.cons_append, List.nil_append, List.append_nil, Nat.zero_add, Nat.add_zero, Nat.reduceAdd, Nat.reduceBEq, Nat.reduceEqDiff, Nat.ble, BEq.rfl, Bool.and_true, Bool.and_self, cond_true, beq_self_eq_true]; rfl) | (simp only [setL, List.getElem?_cons_zero, List.getElem?_cons_succ, Value.cells, List.take_zero, List.take_succ_cons, List.take_nil, List.drop_zero, List.drop_succ_cons, List.drop_nil, List.length_cons, List.length_nil, List.cons_append, List.nil_append, List.append_nil, Nat.zero_add, Nat.add_zero, Nat.reduceAdd, Nat.reduceBEq, Nat.reduceEqDiff, Nat.ble, BEq.rfl, Bool.and_true, Bool.and_self, cond_true, beq_self_eq_true]; rfl)) ?_)
          clear hh w; intro w hh
          refine w_nil ?_
          have hl2 := hl.add (t := 0) (hl.add (t := 5) (hl.nil) rfl) rfl; clear hl; have hl := hl2; clear hl2
          refine then_normal ?_
          refine c_seq ?_
          refine c_region ?_
          refine wl (wl_val hl rfl trivial (r_move hl rfl) ?_)
          clear hl a; intro a hl
          refine wl (w_loadA hl hh rfl trivial agg79 rfl (by repeat (first | exact find_head | apply find_tail)) (by first | (simp only [List.getElem?_cons_zero, List.getElem?_cons_succ, Value.cells, List.take_zero, List.take_succ_cons, List.take_nil, List.drop_zero, List.drop_succ_cons, List.drop_nil, List.length_cons, List.length_nil, List.cons_append, List.nil_append, List.append_nil, Nat.zero_add, Nat.add_zero, Nat.reduceAdd, Nat.reduceBEq, Nat.reduceEqDiff, Nat.ble, BEq.rfl, Bool.and_true, Bool.and_self, cond_true, beq_self_eq_true]; rfl)) (by first | rfl | (simp; done)) ?_)
          clear hl a; intro a hl
          refine wl (w_call hl hh rfl trivial rfl cal45 rfl (lost_m mp s st sk bp hs f hf hf9 fb (skG sk os)) (by repeat (first | exact keeps_nil | apply keeps_cons (by repeat (first | exact find_head | apply find_tail)) (by first  | rfl) | exact keeps_self | apply keeps_mv)) ⟨heap_keep hh hpm, (hh.mem _ _ (Find.mem (by repeat (first | exact find_head | apply find_tail))))⟩ ?_)
          clear hl hh a w; intro vc Fc a w hR hl hh
          obtain ⟨lb, rfl, rfl⟩ := hR
          try simp only [List.cons_append, List.nil_append] at hh
          refine wl (w_alloc hl hh rfl trivial zero79 rfl ?_)
          clear hl hh a w; intro k6 a w hl hh
          refine wl (w_storeA hl hh trivial agg79 rfl rfl (by repeat (first | exact find_head | apply find_tail)) (by first | rfl | (simp; done)) (by first | (simp; done) | (simp; omega)) (by first | rfl | (simp; done)) (by first | (simp only [encM, setL, List.getElem?_cons_zero, List.getElem?_cons_succ, Value.cells, List.take_zero, List.take_succ_cons, List.take_nil, List.drop_zero, List.drop_succ_cons, List.drop_nil, List.length_cons, List.length_nil, List.cons_append, List.nil_append, List.append_nil, Nat.zero_add, Nat.add_zero, Nat.reduceAdd, Nat.reduceBEq, Nat.reduceEqDiff, Nat.ble, BEq.rfl, Bool.and_true, Bool.and_self, cond_true, beq_self_eq_true]; rfl) | (simp only [setL, List.getElem?_cons_zero, List.getElem?_cons_succ, Value.cells, List.take_zero, List.take_succ_cons, List.take_nil, List.drop_zero, List.drop_succ_cons, List.drop_nil, List.length_cons, List.length_nil, List.cons_append, List.nil_append, List.append_nil, Nat.zero_add, Nat.add_zero, Nat.reduceAdd, Nat.reduceBEq, Nat.reduceEqDiff, Nat.ble, BEq.rfl, Bool.and_true, Bool.and_self, cond_true, beq_self_eq_true]; rfl)) ?_)
          clear hh w; intro w hh
          refine w_nil ?_
          have hl2 := hl.add (t := 0) (hl.add (t := 5) (hl.add (t := 6) (hl.nil) rfl) rfl) rfl; clear hl; have hl := hl2; clear hl2
          refine then_normal ?_
          refine c_seq ?_
          refine c_region ?_
          refine wl (wl_val hl rfl trivial (r_assign hl rfl) ?_)
          clear hl a; intro a hl
          refine w_nil ?_
          have hl2 := hl.add (t := 0) (hl.add (t := 5) (hl.add (t := 6) (hl.add (t := 7) (hl.nil) rfl) rfl) rfl) rfl; clear hl; have hl := hl2; clear hl2
          refine then_normal ?_
          refine c_seq ?_
          refine c_seq ?_
          refine c_region ?_
          refine wl (wl_val hl rfl trivial (r_move hl rfl) ?_)
          clear hl a; intro a hl
          refine wl (wl_val hl rfl trivial (r_nilCheck hl rfl) ?_)
          clear hl a; intro a hl
          refine wl (wl_val hl rfl trivial (r_field hl rfl fld69_8) ?_)
          clear hl a; intro a hl
          first | refine wl (w_load hl hh rfl trivial one2 rfl (by repeat (first | exact find_head | apply find_tail)) (by first | rfl) ?_) | refine wl (w_loadR hl hh rfl trivial one2 rfl hpm (by simp) rfl ?_)
          clear hl a; intro a hl
          refine wl (wl_val hl rfl trivial (r_assign hl rfl) ?_)
          clear hl a; intro a hl
          refine w_nil ?_
          have hl2 := hl.add (t := 0) (hl.add (t := 5) (hl.add (t := 6) (hl.add (t := 7) (hl.add (t := 8) (hl.nil) rfl) rfl) rfl) rfl) rfl; clear hl; have hl := hl2; clear hl2
          refine then_normal ?_
          refine wp_block ?_
          obtain ⟨KS0, hKS0, hk⟩ := (hl.add (t := 0) (hl.add (t := 5) (hl.add (t := 6) (hl.nil) rfl) rfl) rfl).name
          obtain ⟨HS0, hHS0, hh2⟩ := hh.name (keeps_nil)
          refine c_loop (α := Nat) (fun k => f - k) (fun k a w => (k ≤ f) ∧ Sl 99 ([(8, .int .i64 (s.una + (k : Int))), (7, .int .i64 (pcn s (skG sk os) (lsG s f (skG sk os)) k : Int))] ++ KS0) a ∧ Has _ w0 ([] ++ HS0) w) 0 ⟨(Nat.zero_le _), hl.addE (t := 8) (hl.addE (t := 7) (hk) rfl (by first | (exact congrArg (Value.int .i64) (show s.una = s.una + ((0 : Nat) : Int) by omega)) | rfl)) rfl (by first | (exact congrArg (Value.int .i64) (show s.una = s.una + ((0 : Nat) : Int) by omega)) | rfl), hh2⟩ ?_
          clear hk hh2 hl hh a w
          intro k a w hI
          obtain ⟨hk, hl, hh⟩ := hI
          subst hKS0; subst hHS0
          simp only [List.cons_append, List.nil_append, List.append_nil] at hl hh
          have hpk := hpc k
          refine c_seq ?_
          refine c_seq ?_
          refine c_region ?_
          refine wl (wl_val hl rfl trivial (r_move hl rfl) ?_)
          clear hl a; intro a hl
          refine wl (wl_val hl rfl trivial (r_move hl rfl) ?_)
          clear hl a; intro a hl
          refine wl (wl_val hl rfl trivial (r_nilCheck hl rfl) ?_)
          clear hl a; intro a hl
          refine wl (wl_val hl rfl trivial (r_field hl rfl fld69_9) ?_)
          clear hl a; intro a hl
          first | refine wl (w_load hl hh rfl trivial one2 rfl (by repeat (first | exact find_head | apply find_tail)) (by first | rfl) ?_) | refine wl (w_loadR hl hh rfl trivial one2 rfl hpm (by simp) rfl ?_)
          clear hl a; intro a hl
          refine wl (wl_val hl rfl trivial (r_lss hl rfl rfl) ?_)
          clear hl a; intro a hl
          refine w_nil ?_
          have hl2 := hl.add (t := 0) (hl.add (t := 5) (hl.add (t := 6) (hl.add (t := 7) (hl.add (t := 8) (hl.add (t := 78) (hl.nil) rfl) rfl) rfl) rfl) rfl) rfl; clear hl; have hl := hl2; clear hl2
          refine then_normal ?_
          refine c_cond hl rfl ?_ ?_
          · intro hc2
            try simp only [decide_eq_true_eq, decide_eq_false_iff_not, Bool.not_eq_true', Bool.not_eq_false', Bool.not_eq_true, Bool.not_eq_false, Bool.and_eq_true, Bool.or_eq_true, Bool.and_eq_false_iff, Bool.or_eq_false_iff, Bool.not_not, ne_eq, Int.not_lt, Int.not_le, Decidable.not_not, beq_iff_eq, bne_iff_ne] at hc2
            refine wp_skip ?_
            refine then_normal ?_
            refine c_seq ?_
            refine wp_block ?_
            refine c_seq ?_
            refine c_seq ?_
            refine c_region ?_
            refine wl (w_loadA hl hh rfl trivial agg79 rfl (by repeat (first | exact find_head | apply find_tail)) (by first | (simp only [List.getElem?_cons_zero, List.getElem?_cons_succ, Value.cells, List.take_zero, List.take_succ_cons, List.take_nil, List.drop_zero, List.drop_succ_cons, List.drop_nil, List.length_cons, List.length_nil, List.cons_append, List.nil_append, List.append_nil, Nat.zero_add, Nat.add_zero, Nat.reduceAdd, Nat.reduceBEq, Nat.reduceEqDiff, Nat.ble, BEq.rfl, Bool.and_true, Bool.and_self, cond_true, beq_self_eq_true]; rfl)) (by first | rfl | (simp; done)) ?_)
            clear hl a; intro a hl
            refine wl (wl_val hl rfl trivial (r_move hl rfl) ?_)
            clear hl a; intro a hl
            refine wl (w_call hl hh rfl trivial rfl cal47 rfl (at_m s.una f fb (skG sk os) _ (by omega) (by omega) (by omega)) (by repeat (first | exact keeps_nil | apply keeps_cons (by repeat (first | exact find_head | apply find_tail)) (by first  | rfl) | exact keeps_self | apply keeps_mv)) (hh.mem _ _ (Find.mem (by repeat (first | exact find_head | apply find_tail)))) ?_)
            clear hl hh a w; intro vc Fc a w hR hl hh
            obtain ⟨rfl, rfl⟩ := hR
            try simp only [List.cons_append, List.nil_append] at hh
            rw [at_q (by omega)] at hl
            refine w_nil ?_
            have hl2 := hl.add (t := 0) (hl.add (t := 5) (hl.add (t := 6) (hl.add (t := 7) (hl.add (t := 8) (hl.add (t := 83) (hl.nil) rfl) rfl) rfl) rfl) rfl) rfl; clear hl; have hl := hl2; clear hl2
            refine then_normal ?_
            refine c_cond hl rfl ?_ ?_
            · intro hc3
              try simp only [decide_eq_true_eq, decide_eq_false_iff_not, Bool.not_eq_true', Bool.not_eq_false', Bool.not_eq_true, Bool.not_eq_false, Bool.and_eq_true, Bool.or_eq_true, Bool.and_eq_false_iff, Bool.or_eq_false_iff, Bool.not_not, ne_eq, Int.not_lt, Int.not_le, Decidable.not_not, beq_iff_eq, bne_iff_ne] at hc3
              refine wp_exit ?_
              refine then_exit ?_
              refine blk_exit ?_
              refine then_normal ?_
              refine c_region ?_
              refine wl (wl_val hl rfl trivial (r_move hl rfl) ?_)
              clear hl a; intro a hl
              first | refine wl (wl_val hl rfl trivial (r_add hl rfl rfl (by simp only [Fits]; omega)) ?_) | refine wl (wl_val hl rfl trivial (r_addW hl rfl rfl) ?_)
              clear hl a; intro a hl
              refine wl (wl_val hl rfl trivial (r_assign hl rfl) ?_)
              clear hl a; intro a hl
              refine w_nil ?_
              have hl2 := hl.add (t := 0) (hl.add (t := 5) (hl.add (t := 6) (hl.add (t := 7) (hl.add (t := 8) (hl.nil) rfl) rfl) rfl) rfl) rfl; clear hl; have hl := hl2; clear hl2
              refine then_normal ?_
              refine ⟨k + 1, (by omega), (by omega), hl.addE (t := 8) (hl.addE (t := 7) (hl.addE (t := 0) (hl.addE (t := 5) (hl.addE (t := 6) (hl.nil) rfl (by first | rfl | (exact congrArg (Value.int .i64) (show s.una + (k : Int) + 1 = s.una + ((k + 1 : Nat) : Int) by omega)) | (exact congrArg (fun z : Nat => Value.int .i64 (z : Int)) (pcn_g (by assumption)).symm) | (exact congrArg (fun z : Nat => Value.int .i64 (z : Int)) (pcn_00 (by assumption) (by assumption) (by omega)).symm) | (exact congrArg (Value.int .i64) (pcn_01 (by assumption) (by assumption) (by omega)).symm) | (exact congrArg (Value.int .i64) (pcn_10 (by assumption) (by assumption) (by omega)).symm) | (exact congrArg (Value.int .i64) (pcn_11 (by assumption) (by assumption) (by omega)).symm))) rfl (by first | rfl | (exact congrArg (Value.int .i64) (show s.una + (k : Int) + 1 = s.una + ((k + 1 : Nat) : Int) by omega)) | (exact congrArg (fun z : Nat => Value.int .i64 (z : Int)) (pcn_g (by assumption)).symm) | (exact congrArg (fun z : Nat => Value.int .i64 (z : Int)) (pcn_00 (by assumption) (by assumption) (by omega)).symm) | (exact congrArg (Value.int .i64) (pcn_01 (by assumption) (by assumption) (by omega)).symm) | (exact congrArg (Value.int .i64) (pcn_10 (by assumption) (by assumption) (by omega)).symm) | (exact congrArg (Value.int .i64) (pcn_11 (by assumption) (by assumption) (by omega)).symm))) rfl (by first | rfl | (exact congrArg (Value.int .i64) (show s.una + (k : Int) + 1 = s.una + ((k + 1 : Nat) : Int) by omega)) | (exact congrArg (fun z : Nat => Value.int .i64 (z : Int)) (pcn_g (by assumption)).symm) | (exact congrArg (fun z : Nat => Value.int .i64 (z : Int)) (pcn_00 (by assumption) (by assumption) (by omega)).symm) | (exact congrArg (Value.int .i64) (pcn_01 (by assumption) (by assumption) (by omega)).symm) | (exact congrArg (Value.int .i64) (pcn_10 (by assumption) (by assumption) (by omega)).symm) | (exact congrArg (Value.int .i64) (pcn_11 (by assumption) (by assumption) (by omega)).symm))) rfl (by first | rfl | (exact congrArg (Value.int .i64) (show s.una + (k : Int) + 1 = s.una + ((k + 1 : Nat) : Int) by omega)) | (exact congrArg (fun z : Nat => Value.int .i64 (z : Int)) (pcn_g (by assumption)).symm) | (exact congrArg (fun z : Nat => Value.int .i64 (z : Int)) (pcn_00 (by assumption) (by assumption) (by omega)).symm) | (exact congrArg (Value.int .i64) (pcn_01 (by assumption) (by assumption) (by omega)).symm) | (exact congrArg (Value.int .i64) (pcn_10 (by assumption) (by assumption) (by omega)).symm) | (exact congrArg (Value.int .i64) (pcn_11 (by assumption) (by assumption) (by omega)).symm))) rfl (by first | rfl | (exact congrArg (Value.int .i64) (show s.una + (k : Int) + 1 = s.una + ((k + 1 : Nat) : Int) by omega)) | (exact congrArg (fun z : Nat => Value.int .i64 (z : Int)) (pcn_g (by assumption)).symm) | (exact congrArg (fun z : Nat => Value.int .i64 (z : Int)) (pcn_00 (by assumption) (by assumption) (by omega)).symm) | (exact congrArg (Value.int .i64) (pcn_01 (by assumption) (by assumption) (by omega)).symm) | (exact congrArg (Value.int .i64) (pcn_10 (by assumption) (by assumption) (by omega)).symm) | (exact congrArg (Value.int .i64) (pcn_11 (by assumption) (by assumption) (by omega)).symm)), hh.keep (by repeat (first | exact keeps_nil | apply keeps_cons (by repeat (first | exact find_head | apply find_tail)) (by first  | rfl) | exact keeps_self | apply keeps_mv))⟩
            · intro hc3
              try simp only [decide_eq_true_eq, decide_eq_false_iff_not, Bool.not_eq_true', Bool.not_eq_false', Bool.not_eq_true, Bool.not_eq_false, Bool.and_eq_true, Bool.or_eq_true, Bool.and_eq_false_iff, Bool.or_eq_false_iff, Bool.not_not, ne_eq, Int.not_lt, Int.not_le, Decidable.not_not, beq_iff_eq, bne_iff_ne] at hc3
              refine wp_skip ?_
              refine then_normal ?_
              refine c_seq ?_
              refine c_seq ?_
              refine c_region ?_
              refine wl (w_loadA hl hh rfl trivial agg79 rfl (by repeat (first | exact find_head | apply find_tail)) (by first | (simp only [List.getElem?_cons_zero, List.getElem?_cons_succ, Value.cells, List.take_zero, List.take_succ_cons, List.take_nil, List.drop_zero, List.drop_succ_cons, List.drop_nil, List.length_cons, List.length_nil, List.cons_append, List.nil_append, List.append_nil, Nat.zero_add, Nat.add_zero, Nat.reduceAdd, Nat.reduceBEq, Nat.reduceEqDiff, Nat.ble, BEq.rfl, Bool.and_true, Bool.and_self, cond_true, beq_self_eq_true]; rfl)) (by first | rfl | (simp; done)) ?_)
              clear hl a; intro a hl
              refine wl (wl_val hl rfl trivial (r_move hl rfl) ?_)
              clear hl a; intro a hl
              refine wl (w_call hl hh rfl trivial rfl cal47 rfl (at_m s.una f lb (lsG s f (skG sk os)) _ (by omega) (by omega) (by omega)) (by repeat (first | exact keeps_nil | apply keeps_cons (by repeat (first | exact find_head | apply find_tail)) (by first  | rfl) | exact keeps_self | apply keeps_mv)) (hh.mem _ _ (Find.mem (by repeat (first | exact find_head | apply find_tail)))) ?_)
              clear hl hh a w; intro vc Fc a w hR hl hh
              obtain ⟨rfl, rfl⟩ := hR
              try simp only [List.cons_append, List.nil_append] at hh
              rw [at_q (by omega)] at hl
              refine wl (wl_val hl rfl trivial (r_not hl rfl) ?_)
              clear hl a; intro a hl
              refine w_nil ?_
              have hl2 := hl.add (t := 0) (hl.add (t := 5) (hl.add (t := 6) (hl.add (t := 7) (hl.add (t := 8) (hl.add (t := 87) (hl.nil) rfl) rfl) rfl) rfl) rfl) rfl; clear hl; have hl := hl2; clear hl2
              refine then_normal ?_
              refine c_cond hl rfl ?_ ?_
              · intro hc4
                try simp only [decide_eq_true_eq, decide_eq_false_iff_not, Bool.not_eq_true', Bool.not_eq_false', Bool.not_eq_true, Bool.not_eq_false, Bool.and_eq_true, Bool.or_eq_true, Bool.and_eq_false_iff, Bool.or_eq_false_iff, Bool.not_not, ne_eq, Int.not_lt, Int.not_le, Decidable.not_not, beq_iff_eq, bne_iff_ne] at hc4
                refine c_region ?_
                refine wl (wl_val hl rfl trivial (r_move hl rfl) ?_)
                clear hl a; intro a hl
                first | refine wl (wl_val hl rfl trivial (r_add hl rfl rfl (by simp only [Fits]; omega)) ?_) | refine wl (wl_val hl rfl trivial (r_addW hl rfl rfl) ?_)
                clear hl a; intro a hl
                refine wl (wl_val hl rfl trivial (r_assign hl rfl) ?_)
                clear hl a; intro a hl
                refine w_nil ?_
                have hl2 := hl.add (t := 0) (hl.add (t := 5) (hl.add (t := 6) (hl.add (t := 7) (hl.add (t := 8) (hl.nil) rfl) rfl) rfl) rfl) rfl; clear hl; have hl := hl2; clear hl2
                refine then_normal ?_
                refine c_seq ?_
                refine c_region ?_
                refine wl (wl_val hl rfl trivial (r_move hl rfl) ?_)
                clear hl a; intro a hl
                refine wl (wl_val hl rfl trivial (r_move hl rfl) ?_)
                clear hl a; intro a hl
                refine wl (wl_val hl rfl trivial (r_nilCheck hl rfl) ?_)
                clear hl a; intro a hl
                refine wl (wl_val hl rfl trivial (r_field hl rfl fld69_12) ?_)
                clear hl a; intro a hl
                first | refine wl (w_load hl hh rfl trivial one2 rfl (by repeat (first | exact find_head | apply find_tail)) (by first | rfl) ?_) | refine wl (w_loadR hl hh rfl trivial one2 rfl hpm (by simp) rfl ?_)
                clear hl a; intro a hl
                refine wl (wl_val hl rfl trivial (r_lss hl rfl rfl) ?_)
                clear hl a; intro a hl
                refine w_nil ?_
                have hl2 := hl.add (t := 0) (hl.add (t := 5) (hl.add (t := 6) (hl.add (t := 7) (hl.add (t := 8) (hl.add (t := 95) (hl.nil) rfl) rfl) rfl) rfl) rfl) rfl; clear hl; have hl := hl2; clear hl2
                refine then_normal ?_
                refine c_cond hl rfl ?_ ?_
                · intro hc5
                  try simp only [decide_eq_true_eq, decide_eq_false_iff_not, Bool.not_eq_true', Bool.not_eq_false', Bool.not_eq_true, Bool.not_eq_false, Bool.and_eq_true, Bool.or_eq_true, Bool.and_eq_false_iff, Bool.or_eq_false_iff, Bool.not_not, ne_eq, Int.not_lt, Int.not_le, Decidable.not_not, beq_iff_eq, bne_iff_ne] at hc5
                  refine c_region ?_
                  refine wl (wl_val hl rfl trivial (r_move hl rfl) ?_)
                  clear hl a; intro a hl
                  first | refine wl (wl_val hl rfl trivial (r_add hl rfl rfl (by simp only [Fits]; omega)) ?_) | refine wl (wl_val hl rfl trivial (r_addW hl rfl rfl) ?_)
                  clear hl a; intro a hl
                  refine wl (wl_val hl rfl trivial (r_assign hl rfl) ?_)
                  clear hl a; intro a hl
                  refine w_nil ?_
                  have hl2 := hl.add (t := 0) (hl.add (t := 5) (hl.add (t := 6) (hl.add (t := 7) (hl.add (t := 8) (hl.nil) rfl) rfl) rfl) rfl) rfl; clear hl; have hl := hl2; clear hl2
                  refine blk_normal ?_
                  refine then_normal ?_
                  refine c_region ?_
                  refine wl (wl_val hl rfl trivial (r_move hl rfl) ?_)
                  clear hl a; intro a hl
                  first | refine wl (wl_val hl rfl trivial (r_add hl rfl rfl (by simp only [Fits]; omega)) ?_) | refine wl (wl_val hl rfl trivial (r_addW hl rfl rfl) ?_)
                  clear hl a; intro a hl
                  refine wl (wl_val hl rfl trivial (r_assign hl rfl) ?_)
                  clear hl a; intro a hl
                  refine w_nil ?_
                  have hl2 := hl.add (t := 0) (hl.add (t := 5) (hl.add (t := 6) (hl.add (t := 7) (hl.add (t := 8) (hl.nil) rfl) rfl) rfl) rfl) rfl; clear hl; have hl := hl2; clear hl2
                  refine then_normal ?_
                  refine ⟨k + 1, (by omega), (by omega), hl.addE (t := 8) (hl.addE (t := 7) (hl.addE (t := 0) (hl.addE (t := 5) (hl.addE (t := 6) (hl.nil) rfl (by first | rfl | (exact congrArg (Value.int .i64) (show s.una + (k : Int) + 1 = s.una + ((k + 1 : Nat) : Int) by omega)) | (exact congrArg (fun z : Nat => Value.int .i64 (z : Int)) (pcn_g (by assumption)).symm) | (exact congrArg (fun z : Nat => Value.int .i64 (z : Int)) (pcn_00 (by assumption) (by assumption) (by omega)).symm) | (exact congrArg (Value.int .i64) (pcn_01 (by assumption) (by assumption) (by omega)).symm) | (exact congrArg (Value.int .i64) (pcn_10 (by assumption) (by assumption) (by omega)).symm) | (exact congrArg (Value.int .i64) (pcn_11 (by assumption) (by assumption) (by omega)).symm))) rfl (by first | rfl | (exact congrArg (Value.int .i64) (show s.una + (k : Int) + 1 = s.una + ((k + 1 : Nat) : Int) by omega)) | (exact congrArg (fun z : Nat => Value.int .i64 (z : Int)) (pcn_g (by assumption)).symm) | (exact congrArg (fun z : Nat => Value.int .i64 (z : Int)) (pcn_00 (by assumption) (by assumption) (by omega)).symm) | (exact congrArg (Value.int .i64) (pcn_01 (by assumption) (by assumption) (by omega)).symm) | (exact congrArg (Value.int .i64) (pcn_10 (by assumption) (by assumption) (by omega)).symm) | (exact congrArg (Value.int .i64) (pcn_11 (by assumption) (by assumption) (by omega)).symm))) rfl (by first | rfl | (exact congrArg (Value.int .i64) (show s.una + (k : Int) + 1 = s.una + ((k + 1 : Nat) : Int) by omega)) | (exact congrArg (fun z : Nat => Value.int .i64 (z : Int)) (pcn_g (by assumption)).symm) | (exact congrArg (fun z : Nat => Value.int .i64 (z : Int)) (pcn_00 (by assumption) (by assumption) (by omega)).symm) | (exact congrArg (Value.int .i64) (pcn_01 (by assumption) (by assumption) (by omega)).symm) | (exact congrArg (Value.int .i64) (pcn_10 (by assumption) (by assumption) (by omega)).symm) | (exact congrArg (Value.int .i64) (pcn_11 (by assumption) (by assumption) (by omega)).symm))) rfl (by first | rfl | (exact congrArg (Value.int .i64) (show s.una + (k : Int) + 1 = s.una + ((k + 1 : Nat) : Int) by omega)) | (exact congrArg (fun z : Nat => Value.int .i64 (z : Int)) (pcn_g (by assumption)).symm) | (exact congrArg (fun z : Nat => Value.int .i64 (z : Int)) (pcn_00 (by assumption) (by assumption) (by omega)).symm) | (exact congrArg (Value.int .i64) (pcn_01 (by assumption) (by assumption) (by omega)).symm) | (exact congrArg (Value.int .i64) (pcn_10 (by assumption) (by assumption) (by omega)).symm) | (exact congrArg (Value.int .i64) (pcn_11 (by assumption) (by assumption) (by omega)).symm))) rfl (by first | rfl | (exact congrArg (Value.int .i64) (show s.una + (k : Int) + 1 = s.una + ((k + 1 : Nat) : Int) by omega)) | (exact congrArg (fun z : Nat => Value.int .i64 (z : Int)) (pcn_g (by assumption)).symm) | (exact congrArg (fun z : Nat => Value.int .i64 (z : Int)) (pcn_00 (by assumption) (by assumption) (by omega)).symm) | (exact congrArg (Value.int .i64) (pcn_01 (by assumption) (by assumption) (by omega)).symm) | (exact congrArg (Value.int .i64) (pcn_10 (by assumption) (by assumption) (by omega)).symm) | (exact congrArg (Value.int .i64) (pcn_11 (by assumption) (by assumption) (by omega)).symm)), hh.keep (by repeat (first | exact keeps_nil | apply keeps_cons (by repeat (first | exact find_head | apply find_tail)) (by first  | rfl) | exact keeps_self | apply keeps_mv))⟩
                · intro hc5
                  try simp only [decide_eq_true_eq, decide_eq_false_iff_not, Bool.not_eq_true', Bool.not_eq_false', Bool.not_eq_true, Bool.not_eq_false, Bool.and_eq_true, Bool.or_eq_true, Bool.and_eq_false_iff, Bool.or_eq_false_iff, Bool.not_not, ne_eq, Int.not_lt, Int.not_le, Decidable.not_not, beq_iff_eq, bne_iff_ne] at hc5
                  refine wp_skip ?_
                  refine blk_normal ?_
                  refine then_normal ?_
                  refine c_region ?_
                  refine wl (wl_val hl rfl trivial (r_move hl rfl) ?_)
                  clear hl a; intro a hl
                  first | refine wl (wl_val hl rfl trivial (r_add hl rfl rfl (by simp only [Fits]; omega)) ?_) | refine wl (wl_val hl rfl trivial (r_addW hl rfl rfl) ?_)
                  clear hl a; intro a hl
                  refine wl (wl_val hl rfl trivial (r_assign hl rfl) ?_)
                  clear hl a; intro a hl
                  refine w_nil ?_
                  have hl2 := hl.add (t := 0) (hl.add (t := 5) (hl.add (t := 6) (hl.add (t := 7) (hl.add (t := 8) (hl.nil) rfl) rfl) rfl) rfl) rfl; clear hl; have hl := hl2; clear hl2
                  refine then_normal ?_
                  refine ⟨k + 1, (by omega), (by omega), hl.addE (t := 8) (hl.addE (t := 7) (hl.addE (t := 0) (hl.addE (t := 5) (hl.addE (t := 6) (hl.nil) rfl (by first | rfl | (exact congrArg (Value.int .i64) (show s.una + (k : Int) + 1 = s.una + ((k + 1 : Nat) : Int) by omega)) | (exact congrArg (fun z : Nat => Value.int .i64 (z : Int)) (pcn_g (by assumption)).symm) | (exact congrArg (fun z : Nat => Value.int .i64 (z : Int)) (pcn_00 (by assumption) (by assumption) (by omega)).symm) | (exact congrArg (Value.int .i64) (pcn_01 (by assumption) (by assumption) (by omega)).symm) | (exact congrArg (Value.int .i64) (pcn_10 (by assumption) (by assumption) (by omega)).symm) | (exact congrArg (Value.int .i64) (pcn_11 (by assumption) (by assumption) (by omega)).symm))) rfl (by first | rfl | (exact congrArg (Value.int .i64) (show s.una + (k : Int) + 1 = s.una + ((k + 1 : Nat) : Int) by omega)) | (exact congrArg (fun z : Nat => Value.int .i64 (z : Int)) (pcn_g (by assumption)).symm) | (exact congrArg (fun z : Nat => Value.int .i64 (z : Int)) (pcn_00 (by assumption) (by assumption) (by omega)).symm) | (exact congrArg (Value.int .i64) (pcn_01 (by assumption) (by assumption) (by omega)).symm) | (exact congrArg (Value.int .i64) (pcn_10 (by assumption) (by assumption) (by omega)).symm) | (exact congrArg (Value.int .i64) (pcn_11 (by assumption) (by assumption) (by omega)).symm))) rfl (by first | rfl | (exact congrArg (Value.int .i64) (show s.una + (k : Int) + 1 = s.una + ((k + 1 : Nat) : Int) by omega)) | (exact congrArg (fun z : Nat => Value.int .i64 (z : Int)) (pcn_g (by assumption)).symm) | (exact congrArg (fun z : Nat => Value.int .i64 (z : Int)) (pcn_00 (by assumption) (by assumption) (by omega)).symm) | (exact congrArg (Value.int .i64) (pcn_01 (by assumption) (by assumption) (by omega)).symm) | (exact congrArg (Value.int .i64) (pcn_10 (by assumption) (by assumption) (by omega)).symm) | (exact congrArg (Value.int .i64) (pcn_11 (by assumption) (by assumption) (by omega)).symm))) rfl (by first | rfl | (exact congrArg (Value.int .i64) (show s.una + (k : Int) + 1 = s.una + ((k + 1 : Nat) : Int) by omega)) | (exact congrArg (fun z : Nat => Value.int .i64 (z : Int)) (pcn_g (by assumption)).symm) | (exact congrArg (fun z : Nat => Value.int .i64 (z : Int)) (pcn_00 (by assumption) (by assumption) (by omega)).symm) | (exact congrArg (Value.int .i64) (pcn_01 (by assumption) (by assumption) (by omega)).symm) | (exact congrArg (Value.int .i64) (pcn_10 (by assumption) (by assumption) (by omega)).symm) | (exact congrArg (Value.int .i64) (pcn_11 (by assumption) (by assumption) (by omega)).symm))) rfl (by first | rfl | (exact congrArg (Value.int .i64) (show s.una + (k : Int) + 1 = s.una + ((k + 1 : Nat) : Int) by omega)) | (exact congrArg (fun z : Nat => Value.int .i64 (z : Int)) (pcn_g (by assumption)).symm) | (exact congrArg (fun z : Nat => Value.int .i64 (z : Int)) (pcn_00 (by assumption) (by assumption) (by omega)).symm) | (exact congrArg (Value.int .i64) (pcn_01 (by assumption) (by assumption) (by omega)).symm) | (exact congrArg (Value.int .i64) (pcn_10 (by assumption) (by assumption) (by omega)).symm) | (exact congrArg (Value.int .i64) (pcn_11 (by assumption) (by assumption) (by omega)).symm)), hh.keep (by repeat (first | exact keeps_nil | apply keeps_cons (by repeat (first | exact find_head | apply find_tail)) (by first  | rfl) | exact keeps_self | apply keeps_mv))⟩
              · intro hc4
                try simp only [decide_eq_true_eq, decide_eq_false_iff_not, Bool.not_eq_true', Bool.not_eq_false', Bool.not_eq_true, Bool.not_eq_false, Bool.and_eq_true, Bool.or_eq_true, Bool.and_eq_false_iff, Bool.or_eq_false_iff, Bool.not_not, ne_eq, Int.not_lt, Int.not_le, Decidable.not_not, beq_iff_eq, bne_iff_ne] at hc4
                refine wp_skip ?_
                refine then_normal ?_
                refine c_seq ?_
                refine c_region ?_
                refine wl (wl_val hl rfl trivial (r_move hl rfl) ?_)
                clear hl a; intro a hl
                refine wl (wl_val hl rfl trivial (r_move hl rfl) ?_)
                clear hl a; intro a hl
                refine wl (wl_val hl rfl trivial (r_nilCheck hl rfl) ?_)
                clear hl a; intro a hl
                refine wl (wl_val hl rfl trivial (r_field hl rfl fld69_12) ?_)
                clear hl a; intro a hl
                first | refine wl (w_load hl hh rfl trivial one2 rfl (by repeat (first | exact find_head | apply find_tail)) (by first | rfl) ?_) | refine wl (w_loadR hl hh rfl trivial one2 rfl hpm (by simp) rfl ?_)
                clear hl a; intro a hl
                refine wl (wl_val hl rfl trivial (r_lss hl rfl rfl) ?_)
                clear hl a; intro a hl
                refine w_nil ?_
                have hl2 := hl.add (t := 0) (hl.add (t := 5) (hl.add (t := 6) (hl.add (t := 7) (hl.add (t := 8) (hl.add (t := 95) (hl.nil) rfl) rfl) rfl) rfl) rfl) rfl; clear hl; have hl := hl2; clear hl2
                refine then_normal ?_
                refine c_cond hl rfl ?_ ?_
                · intro hc5
                  try simp only [decide_eq_true_eq, decide_eq_false_iff_not, Bool.not_eq_true', Bool.not_eq_false', Bool.not_eq_true, Bool.not_eq_false, Bool.and_eq_true, Bool.or_eq_true, Bool.and_eq_false_iff, Bool.or_eq_false_iff, Bool.not_not, ne_eq, Int.not_lt, Int.not_le, Decidable.not_not, beq_iff_eq, bne_iff_ne] at hc5
                  refine c_region ?_
                  refine wl (wl_val hl rfl trivial (r_move hl rfl) ?_)
                  clear hl a; intro a hl
                  first | refine wl (wl_val hl rfl trivial (r_add hl rfl rfl (by simp only [Fits]; omega)) ?_) | refine wl (wl_val hl rfl trivial (r_addW hl rfl rfl) ?_)
                  clear hl a; intro a hl
                  refine wl (wl_val hl rfl trivial (r_assign hl rfl) ?_)
                  clear hl a; intro a hl
                  refine w_nil ?_
                  have hl2 := hl.add (t := 0) (hl.add (t := 5) (hl.add (t := 6) (hl.add (t := 7) (hl.add (t := 8) (hl.nil) rfl) rfl) rfl) rfl) rfl; clear hl; have hl := hl2; clear hl2
                  refine blk_normal ?_
                  refine then_normal ?_
                  refine c_region ?_
                  refine wl (wl_val hl rfl trivial (r_move hl rfl) ?_)
                  clear hl a; intro a hl
                  first | refine wl (wl_val hl rfl trivial (r_add hl rfl rfl (by simp only [Fits]; omega)) ?_) | refine wl (wl_val hl rfl trivial (r_addW hl rfl rfl) ?_)
                  clear hl a; intro a hl
                  refine wl (wl_val hl rfl trivial (r_assign hl rfl) ?_)
                  clear hl a; intro a hl
                  refine w_nil ?_
                  have hl2 := hl.add (t := 0) (hl.add (t := 5) (hl.add (t := 6) (hl.add (t := 7) (hl.add (t := 8) (hl.nil) rfl) rfl) rfl) rfl) rfl; clear hl; have hl := hl2; clear hl2
                  refine then_normal ?_
                  refine ⟨k + 1, (by omega), (by omega), hl.addE (t := 8) (hl.addE (t := 7) (hl.addE (t := 0) (hl.addE (t := 5) (hl.addE (t := 6) (hl.nil) rfl (by first | rfl | (exact congrArg (Value.int .i64) (show s.una + (k : Int) + 1 = s.una + ((k + 1 : Nat) : Int) by omega)) | (exact congrArg (fun z : Nat => Value.int .i64 (z : Int)) (pcn_g (by assumption)).symm) | (exact congrArg (fun z : Nat => Value.int .i64 (z : Int)) (pcn_00 (by assumption) (by assumption) (by omega)).symm) | (exact congrArg (Value.int .i64) (pcn_01 (by assumption) (by assumption) (by omega)).symm) | (exact congrArg (Value.int .i64) (pcn_10 (by assumption) (by assumption) (by omega)).symm) | (exact congrArg (Value.int .i64) (pcn_11 (by assumption) (by assumption) (by omega)).symm))) rfl (by first | rfl | (exact congrArg (Value.int .i64) (show s.una + (k : Int) + 1 = s.una + ((k + 1 : Nat) : Int) by omega)) | (exact congrArg (fun z : Nat => Value.int .i64 (z : Int)) (pcn_g (by assumption)).symm) | (exact congrArg (fun z : Nat => Value.int .i64 (z : Int)) (pcn_00 (by assumption) (by assumption) (by omega)).symm) | (exact congrArg (Value.int .i64) (pcn_01 (by assumption) (by assumption) (by omega)).symm) | (exact congrArg (Value.int .i64) (pcn_10 (by assumption) (by assumption) (by omega)).symm) | (exact congrArg (Value.int .i64) (pcn_11 (by assumption) (by assumption) (by omega)).symm))) rfl (by first | rfl | (exact congrArg (Value.int .i64) (show s.una + (k : Int) + 1 = s.una + ((k + 1 : Nat) : Int) by omega)) | (exact congrArg (fun z : Nat => Value.int .i64 (z : Int)) (pcn_g (by assumption)).symm) | (exact congrArg (fun z : Nat => Value.int .i64 (z : Int)) (pcn_00 (by assumption) (by assumption) (by omega)).symm) | (exact congrArg (Value.int .i64) (pcn_01 (by assumption) (by assumption) (by omega)).symm) | (exact congrArg (Value.int .i64) (pcn_10 (by assumption) (by assumption) (by omega)).symm) | (exact congrArg (Value.int .i64) (pcn_11 (by assumption) (by assumption) (by omega)).symm))) rfl (by first | rfl | (exact congrArg (Value.int .i64) (show s.una + (k : Int) + 1 = s.una + ((k + 1 : Nat) : Int) by omega)) | (exact congrArg (fun z : Nat => Value.int .i64 (z : Int)) (pcn_g (by assumption)).symm) | (exact congrArg (fun z : Nat => Value.int .i64 (z : Int)) (pcn_00 (by assumption) (by assumption) (by omega)).symm) | (exact congrArg (Value.int .i64) (pcn_01 (by assumption) (by assumption) (by omega)).symm) | (exact congrArg (Value.int .i64) (pcn_10 (by assumption) (by assumption) (by omega)).symm) | (exact congrArg (Value.int .i64) (pcn_11 (by assumption) (by assumption) (by omega)).symm))) rfl (by first | rfl | (exact congrArg (Value.int .i64) (show s.una + (k : Int) + 1 = s.una + ((k + 1 : Nat) : Int) by omega)) | (exact congrArg (fun z : Nat => Value.int .i64 (z : Int)) (pcn_g (by assumption)).symm) | (exact congrArg (fun z : Nat => Value.int .i64 (z : Int)) (pcn_00 (by assumption) (by assumption) (by omega)).symm) | (exact congrArg (Value.int .i64) (pcn_01 (by assumption) (by assumption) (by omega)).symm) | (exact congrArg (Value.int .i64) (pcn_10 (by assumption) (by assumption) (by omega)).symm) | (exact congrArg (Value.int .i64) (pcn_11 (by assumption) (by assumption) (by omega)).symm)), hh.keep (by repeat (first | exact keeps_nil | apply keeps_cons (by repeat (first | exact find_head | apply find_tail)) (by first  | rfl) | exact keeps_self | apply keeps_mv))⟩
                · intro hc5
                  try simp only [decide_eq_true_eq, decide_eq_false_iff_not, Bool.not_eq_true', Bool.not_eq_false', Bool.not_eq_true, Bool.not_eq_false, Bool.and_eq_true, Bool.or_eq_true, Bool.and_eq_false_iff, Bool.or_eq_false_iff, Bool.not_not, ne_eq, Int.not_lt, Int.not_le, Decidable.not_not, beq_iff_eq, bne_iff_ne] at hc5
                  refine wp_skip ?_
                  refine blk_normal ?_
                  refine then_normal ?_
                  refine c_region ?_
                  refine wl (wl_val hl rfl trivial (r_move hl rfl) ?_)
                  clear hl a; intro a hl
                  first | refine wl (wl_val hl rfl trivial (r_add hl rfl rfl (by simp only [Fits]; omega)) ?_) | refine wl (wl_val hl rfl trivial (r_addW hl rfl rfl) ?_)
                  clear hl a; intro a hl
                  refine wl (wl_val hl rfl trivial (r_assign hl rfl) ?_)
                  clear hl a; intro a hl
                  refine w_nil ?_
                  have hl2 := hl.add (t := 0) (hl.add (t := 5) (hl.add (t := 6) (hl.add (t := 7) (hl.add (t := 8) (hl.nil) rfl) rfl) rfl) rfl) rfl; clear hl; have hl := hl2; clear hl2
                  refine then_normal ?_
                  refine ⟨k + 1, (by omega), (by omega), hl.addE (t := 8) (hl.addE (t := 7) (hl.addE (t := 0) (hl.addE (t := 5) (hl.addE (t := 6) (hl.nil) rfl (by first | rfl | (exact congrArg (Value.int .i64) (show s.una + (k : Int) + 1 = s.una + ((k + 1 : Nat) : Int) by omega)) | (exact congrArg (fun z : Nat => Value.int .i64 (z : Int)) (pcn_g (by assumption)).symm) | (exact congrArg (fun z : Nat => Value.int .i64 (z : Int)) (pcn_00 (by assumption) (by assumption) (by omega)).symm) | (exact congrArg (Value.int .i64) (pcn_01 (by assumption) (by assumption) (by omega)).symm) | (exact congrArg (Value.int .i64) (pcn_10 (by assumption) (by assumption) (by omega)).symm) | (exact congrArg (Value.int .i64) (pcn_11 (by assumption) (by assumption) (by omega)).symm))) rfl (by first | rfl | (exact congrArg (Value.int .i64) (show s.una + (k : Int) + 1 = s.una + ((k + 1 : Nat) : Int) by omega)) | (exact congrArg (fun z : Nat => Value.int .i64 (z : Int)) (pcn_g (by assumption)).symm) | (exact congrArg (fun z : Nat => Value.int .i64 (z : Int)) (pcn_00 (by assumption) (by assumption) (by omega)).symm) | (exact congrArg (Value.int .i64) (pcn_01 (by assumption) (by assumption) (by omega)).symm) | (exact congrArg (Value.int .i64) (pcn_10 (by assumption) (by assumption) (by omega)).symm) | (exact congrArg (Value.int .i64) (pcn_11 (by assumption) (by assumption) (by omega)).symm))) rfl (by first | rfl | (exact congrArg (Value.int .i64) (show s.una + (k : Int) + 1 = s.una + ((k + 1 : Nat) : Int) by omega)) | (exact congrArg (fun z : Nat => Value.int .i64 (z : Int)) (pcn_g (by assumption)).symm) | (exact congrArg (fun z : Nat => Value.int .i64 (z : Int)) (pcn_00 (by assumption) (by assumption) (by omega)).symm) | (exact congrArg (Value.int .i64) (pcn_01 (by assumption) (by assumption) (by omega)).symm) | (exact congrArg (Value.int .i64) (pcn_10 (by assumption) (by assumption) (by omega)).symm) | (exact congrArg (Value.int .i64) (pcn_11 (by assumption) (by assumption) (by omega)).symm))) rfl (by first | rfl | (exact congrArg (Value.int .i64) (show s.una + (k : Int) + 1 = s.una + ((k + 1 : Nat) : Int) by omega)) | (exact congrArg (fun z : Nat => Value.int .i64 (z : Int)) (pcn_g (by assumption)).symm) | (exact congrArg (fun z : Nat => Value.int .i64 (z : Int)) (pcn_00 (by assumption) (by assumption) (by omega)).symm) | (exact congrArg (Value.int .i64) (pcn_01 (by assumption) (by assumption) (by omega)).symm) | (exact congrArg (Value.int .i64) (pcn_10 (by assumption) (by assumption) (by omega)).symm) | (exact congrArg (Value.int .i64) (pcn_11 (by assumption) (by assumption) (by omega)).symm))) rfl (by first | rfl | (exact congrArg (Value.int .i64) (show s.una + (k : Int) + 1 = s.una + ((k + 1 : Nat) : Int) by omega)) | (exact congrArg (fun z : Nat => Value.int .i64 (z : Int)) (pcn_g (by assumption)).symm) | (exact congrArg (fun z : Nat => Value.int .i64 (z : Int)) (pcn_00 (by assumption) (by assumption) (by omega)).symm) | (exact congrArg (Value.int .i64) (pcn_01 (by assumption) (by assumption) (by omega)).symm) | (exact congrArg (Value.int .i64) (pcn_10 (by assumption) (by assumption) (by omega)).symm) | (exact congrArg (Value.int .i64) (pcn_11 (by assumption) (by assumption) (by omega)).symm)), hh.keep (by repeat (first | exact keeps_nil | apply keeps_cons (by repeat (first | exact find_head | apply find_tail)) (by first  | rfl) | exact keeps_self | apply keeps_mv))⟩
          · intro hc2
            try simp only [decide_eq_true_eq, decide_eq_false_iff_not, Bool.not_eq_true', Bool.not_eq_false', Bool.not_eq_true, Bool.not_eq_false, Bool.and_eq_true, Bool.or_eq_true, Bool.and_eq_false_iff, Bool.or_eq_false_iff, Bool.not_not, ne_eq, Int.not_lt, Int.not_le, Decidable.not_not, beq_iff_eq, bne_iff_ne] at hc2
            obtain rfl : k = f := by omega
            refine wp_exit ?_
            refine then_exit ?_
            refine then_exit ?_
            refine blk_exit ?_
            refine then_normal ?_
            refine c_seq ?_
            refine c_region ?_
            refine wl (wl_val hl rfl trivial (r_move hl rfl) ?_)
            clear hl a; intro a hl
            refine wl (wl_val hl rfl trivial (r_assign hl rfl) ?_)
            clear hl a; intro a hl
            refine w_nil ?_
            have hl2 := hl.add (t := 2) (hl.nil) rfl; clear hl; have hl := hl2; clear hl2
            refine then_normal ?_
            refine wp_ret ?_
            refine f_ret1 (F' := []) hl hh rfl rfl (by repeat (first | exact keeps_nil | apply keeps_cons (by repeat (first | exact find_head | apply find_tail)) (by first  | rfl) | exact keeps_self | apply keeps_mv)) ?_
            exact ⟨rfl, rfl⟩
      · intro hg2; clear hl; intro hl
        try simp only [decide_eq_true_eq, decide_eq_false_iff_not, Bool.not_eq_true', Bool.not_eq_false', Bool.not_eq_true, Bool.not_eq_false, Bool.and_eq_true, Bool.or_eq_true, Bool.and_eq_false_iff, Bool.or_eq_false_iff, Bool.not_not, ne_eq, Int.not_lt, Int.not_le, Decidable.not_not, beq_iff_eq, bne_iff_ne] at hg2
        refine wl (wl_skip hl rfl ⟨_, _, rfl, rfl, rfl⟩ ?_)
        clear hl a; intro a hl
        refine wl (wl_skip hl rfl ⟨_, _, rfl, rfl, rfl⟩ ?_)
        clear hl a; intro a hl
        refine wl (wl_skip hl rfl ⟨_, _, rfl, rfl, rfl⟩ ?_)
        clear hl a; intro a hl
        refine wl (wl_skip hl rfl ⟨_, _, rfl, rfl, rfl⟩ ?_)
        clear hl a; intro a hl
        refine wl (wl_skip hl rfl ⟨_, _, rfl, rfl, rfl⟩ ?_)
        clear hl a; intro a hl
        refine wl (wl_val hl rfl trivial (r_pickF hl rfl rfl) ?_)
        clear hl a; intro a hl
        refine w_nil ?_
        have hl2 := hl.add (t := 0) (hl.add (t := 3) (hl.add (t := 42) (hl.nil) rfl) rfl) rfl; clear hl; have hl := hl2; clear hl2
        refine then_normal ?_
        refine c_condF hl rfl ?_
        refine wp_skip ?_
        refine then_normal ?_
        refine c_seq ?_
        refine c_region ?_
        refine wl (wl_val hl rfl trivial (r_move hl rfl) ?_)
        clear hl a; intro a hl
        refine wl (w_call hl hh rfl trivial rfl cal46 rfl (sacked_m mp s st sk bp hs f hf hf9 os hos hl16 bn p c E hR) (by repeat (first | exact keeps_nil | apply keeps_cons (by repeat (first | exact find_head | apply find_tail)) (by first  | rfl) | exact keeps_self | apply keeps_mv)) ⟨heap_keep hh hpm, fun h9 => heap_keep hh (hpb h9), mem_keep hh hpE⟩ ?_)
        clear hl hh a w; intro vc Fc a w hR hl hh
        obtain ⟨fb, rfl, rfl⟩ := hR
        try simp only [List.cons_append, List.nil_append] at hh
        refine wl (w_alloc hl hh rfl trivial zero79 rfl ?_)
        clear hl hh a w; intro k5 a w hl hh
        refine wl (w_storeA hl hh trivial agg79 rfl rfl (by repeat (first | exact find_head | apply find_tail)) (by first | rfl | (simp; done)) (by first | (simp; done) | (simp; omega)) (by first | rfl | (simp; done)) (by first | (simp only [encM, setL, List.getElem?_cons_zero, List.getElem?_cons_succ, Value.cells, List.take_zero, List.take_succ_cons, List.take_nil, List.drop_zero, List.drop_succ_cons, List.drop_nil, List.length_cons, List.length_nil, List.cons_append, List.nil_append, List.append_nil, Nat.zero_add, Nat.add_zero, Nat.reduceAdd, Nat.reduceBEq, Nat.reduceEqDiff, Nat.ble, BEq.rfl, Bool.and_true, Bool.and_self, cond_true, beq_self_eq_true]; rfl) | (simp only [setL, List.getElem?_cons_zero, List.getElem?_cons_succ, Value.cells, List.take_zero, List.take_succ_cons, List.take_nil, List.drop_zero, List.drop_succ_cons, List.drop_nil, List.length_cons, List.length_nil, List.cons_append, List.nil_append, List.append_nil, Nat.zero_add, Nat.add_zero, Nat.reduceAdd, Nat.reduceBEq, Nat.reduceEqDiff, Nat.ble, BEq.rfl, Bool.and_true, Bool.and_self, cond_true, beq_self_eq_true]; rfl)) ?_)
        clear hh w; intro w hh
        refine w_nil ?_
        have hl2 := hl.add (t := 0) (hl.add (t := 5) (hl.nil) rfl) rfl; clear hl; have hl := hl2; clear hl2
        refine then_normal ?_
        refine c_seq ?_
        refine c_region ?_
        refine wl (wl_val hl rfl trivial (r_move hl rfl) ?_)
        clear hl a; intro a hl
        refine wl (w_loadA hl hh rfl trivial agg79 rfl (by repeat (first | exact find_head | apply find_tail)) (by first | (simp only [List.getElem?_cons_zero, List.getElem?_cons_succ, Value.cells, List.take_zero, List.take_succ_cons, List.take_nil, List.drop_zero, List.drop_succ_cons, List.drop_nil, List.length_cons, List.length_nil, List.cons_append, List.nil_append, List.append_nil, Nat.zero_add, Nat.add_zero, Nat.reduceAdd, Nat.reduceBEq, Nat.reduceEqDiff, Nat.ble, BEq.rfl, Bool.and_true, Bool.and_self, cond_true, beq_self_eq_true]; rfl)) (by first | rfl | (simp; done)) ?_)
        clear hl a; intro a hl
        refine wl (w_call hl hh rfl trivial rfl cal45 rfl (lost_m mp s st sk bp hs f hf hf9 fb (skG sk os)) (by repeat (first | exact keeps_nil | apply keeps_cons (by repeat (first | exact find_head | apply find_tail)) (by first  | rfl) | exact keeps_self | apply keeps_mv)) ⟨heap_keep hh hpm, (hh.mem _ _ (Find.mem (by repeat (first | exact find_head | apply find_tail))))⟩ ?_)
        clear hl hh a w; intro vc Fc a w hR hl hh
        obtain ⟨lb, rfl, rfl⟩ := hR
        try simp only [List.cons_append, List.nil_append] at hh
        refine wl (w_alloc hl hh rfl trivial zero79 rfl ?_)
        clear hl hh a w; intro k6 a w hl hh
        refine wl (w_storeA hl hh trivial agg79 rfl rfl (by repeat (first | exact find_head | apply find_tail)) (by first | rfl | (simp; done)) (by first | (simp; done) | (simp; omega)) (by first | rfl | (simp; done)) (by first | (simp only [encM, setL, List.getElem?_cons_zero, List.getElem?_cons_succ, Value.cells, List.take_zero, List.take_succ_cons, List.take_nil, List.drop_zero, List.drop_succ_cons, List.drop_nil, List.length_cons, List.length_nil, List.cons_append, List.nil_append, List.append_nil, Nat.zero_add, Nat.add_zero, Nat.reduceAdd, Nat.reduceBEq, Nat.reduceEqDiff, Nat.ble, BEq.rfl, Bool.and_true, Bool.and_self, cond_true, beq_self_eq_true]; rfl) | (simp only [setL, List.getElem?_cons_zero, List.getElem?_cons_succ, Value.cells, List.take_zero, List.take_succ_cons, List.take_nil, List.drop_zero, List.drop_succ_cons, List.drop_nil, List.length_cons, List.length_nil, List.cons_append, List.nil_append, List.append_nil, Nat.zero_add, Nat.add_zero, Nat.reduceAdd, Nat.reduceBEq, Nat.reduceEqDiff, Nat.ble, BEq.rfl, Bool.and_true, Bool.and_self, cond_true, beq_self_eq_true]; rfl)) ?_)
        clear hh w; intro w hh
        refine w_nil ?_
        have hl2 := hl.add (t := 0) (hl.add (t := 5) (hl.add (t := 6) (hl.nil) rfl) rfl) rfl; clear hl; have hl := hl2; clear hl2
        refine then_normal ?_
        refine c_seq ?_
        refine c_region ?_
        refine wl (wl_val hl rfl trivial (r_assign hl rfl) ?_)
        clear hl a; intro a hl
        refine w_nil ?_
        have hl2 := hl.add (t := 0) (hl.add (t := 5) (hl.add (t := 6) (hl.add (t := 7) (hl.nil) rfl) rfl) rfl) rfl; clear hl; have hl := hl2; clear hl2
        refine then_normal ?_
        refine c_seq ?_
        refine c_seq ?_
        refine c_region ?_
        refine wl (wl_val hl rfl trivial (r_move hl rfl) ?_)
        clear hl a; intro a hl
        refine wl (wl_val hl rfl trivial (r_nilCheck hl rfl) ?_)
        clear hl a; intro a hl
        refine wl (wl_val hl rfl trivial (r_field hl rfl fld69_8) ?_)
        clear hl a; intro a hl
        first | refine wl (w_load hl hh rfl trivial one2 rfl (by repeat (first | exact find_head | apply find_tail)) (by first | rfl) ?_) | refine wl (w_loadR hl hh rfl trivial one2 rfl hpm (by simp) rfl ?_)
        clear hl a; intro a hl
        refine wl (wl_val hl rfl trivial (r_assign hl rfl) ?_)
        clear hl a; intro a hl
        refine w_nil ?_
        have hl2 := hl.add (t := 0) (hl.add (t := 5) (hl.add (t := 6) (hl.add (t := 7) (hl.add (t := 8) (hl.nil) rfl) rfl) rfl) rfl) rfl; clear hl; have hl := hl2; clear hl2
        refine then_normal ?_
        refine wp_block ?_
        obtain ⟨KS0, hKS0, hk⟩ := (hl.add (t := 0) (hl.add (t := 5) (hl.add (t := 6) (hl.nil) rfl) rfl) rfl).name
        obtain ⟨HS0, hHS0, hh2⟩ := hh.name (keeps_nil)
        refine c_loop (α := Nat) (fun k => f - k) (fun k a w => (k ≤ f) ∧ Sl 99 ([(8, .int .i64 (s.una + (k : Int))), (7, .int .i64 (pcn s (skG sk os) (lsG s f (skG sk os)) k : Int))] ++ KS0) a ∧ Has _ w0 ([] ++ HS0) w) 0 ⟨(Nat.zero_le _), hl.addE (t := 8) (hl.addE (t := 7) (hk) rfl (by first | (exact congrArg (Value.int .i64) (show s.una = s.una + ((0 : Nat) : Int) by omega)) | rfl)) rfl (by first | (exact congrArg (Value.int .i64) (show s.una = s.una + ((0 : Nat) : Int) by omega)) | rfl), hh2⟩ ?_
        clear hk hh2 hl hh a w
        intro k a w hI
        obtain ⟨hk, hl, hh⟩ := hI
        subst hKS0; subst hHS0
        simp only [List.cons_append, List.nil_append, List.append_nil] at hl hh
        have hpk := hpc k
        refine c_seq ?_
        refine c_seq ?_
        refine c_region ?_
        refine wl (wl_val hl rfl trivial (r_move hl rfl) ?_)
        clear hl a; intro a hl
        refine wl (wl_val hl rfl trivial (r_move hl rfl) ?_)
        clear hl a; intro a hl
        refine wl (wl_val hl rfl trivial (r_nilCheck hl rfl) ?_)
        clear hl a; intro a hl
        refine wl (wl_val hl rfl trivial (r_field hl rfl fld69_9) ?_)
        clear hl a; intro a hl
        first | refine wl (w_load hl hh rfl trivial one2 rfl (by repeat (first | exact find_head | apply find_tail)) (by first | rfl) ?_) | refine wl (w_loadR hl hh rfl trivial one2 rfl hpm (by simp) rfl ?_)
        clear hl a; intro a hl
        refine wl (wl_val hl rfl trivial (r_lss hl rfl rfl) ?_)
        clear hl a; intro a hl
        refine w_nil ?_
        have hl2 := hl.add (t := 0) (hl.add (t := 5) (hl.add (t := 6) (hl.add (t := 7) (hl.add (t := 8) (hl.add (t := 78) (hl.nil) rfl) rfl) rfl) rfl) rfl) rfl; clear hl; have hl := hl2; clear hl2
        refine then_normal ?_
        refine c_cond hl rfl ?_ ?_
        · intro hc2
          try simp only [decide_eq_true_eq, decide_eq_false_iff_not, Bool.not_eq_true', Bool.not_eq_false', Bool.not_eq_true, Bool.not_eq_false, Bool.and_eq_true, Bool.or_eq_true, Bool.and_eq_false_iff, Bool.or_eq_false_iff, Bool.not_not, ne_eq, Int.not_lt, Int.not_le, Decidable.not_not, beq_iff_eq, bne_iff_ne] at hc2
          refine wp_skip ?_
          refine then_normal ?_
          refine c_seq ?_
          refine wp_block ?_
          refine c_seq ?_
          refine c_seq ?_
          refine c_region ?_
          refine wl (w_loadA hl hh rfl trivial agg79 rfl (by repeat (first | exact find_head | apply find_tail)) (by first | (simp only [List.getElem?_cons_zero, List.getElem?_cons_succ, Value.cells, List.take_zero, List.take_succ_cons, List.take_nil, List.drop_zero, List.drop_succ_cons, List.drop_nil, List.length_cons, List.length_nil, List.cons_append, List.nil_append, List.append_nil, Nat.zero_add, Nat.add_zero, Nat.reduceAdd, Nat.reduceBEq, Nat.reduceEqDiff, Nat.ble, BEq.rfl, Bool.and_true, Bool.and_self, cond_true, beq_self_eq_true]; rfl)) (by first | rfl | (simp; done)) ?_)
          clear hl a; intro a hl
          refine wl (wl_val hl rfl trivial (r_move hl rfl) ?_)
          clear hl a; intro a hl
          refine wl (w_call hl hh rfl trivial rfl cal47 rfl (at_m s.una f fb (skG sk os) _ (by omega) (by omega) (by omega)) (by repeat (first | exact keeps_nil | apply keeps_cons (by repeat (first | exact find_head | apply find_tail)) (by first  | rfl) | exact keeps_self | apply keeps_mv)) (hh.mem _ _ (Find.mem (by repeat (first | exact find_head | apply find_tail)))) ?_)
          clear hl hh a w; intro vc Fc a w hR hl hh
          obtain ⟨rfl, rfl⟩ := hR
          try simp only [List.cons_append, List.nil_append] at hh
          rw [at_q (by omega)] at hl
          refine w_nil ?_
          have hl2 := hl.add (t := 0) (hl.add (t := 5) (hl.add (t := 6) (hl.add (t := 7) (hl.add (t := 8) (hl.add (t := 83) (hl.nil) rfl) rfl) rfl) rfl) rfl) rfl; clear hl; have hl := hl2; clear hl2
          refine then_normal ?_
          refine c_cond hl rfl ?_ ?_
          · intro hc3
            try simp only [decide_eq_true_eq, decide_eq_false_iff_not, Bool.not_eq_true', Bool.not_eq_false', Bool.not_eq_true, Bool.not_eq_false, Bool.and_eq_true, Bool.or_eq_true, Bool.and_eq_false_iff, Bool.or_eq_false_iff, Bool.not_not, ne_eq, Int.not_lt, Int.not_le, Decidable.not_not, beq_iff_eq, bne_iff_ne] at hc3
            refine wp_exit ?_
            refine then_exit ?_
            refine blk_exit ?_
            refine then_normal ?_
            refine c_region ?_
            refine wl (wl_val hl rfl trivial (r_move hl rfl) ?_)
            clear hl a; intro a hl
            first | refine wl (wl_val hl rfl trivial (r_add hl rfl rfl (by simp only [Fits]; omega)) ?_) | refine wl (wl_val hl rfl trivial (r_addW hl rfl rfl) ?_)
            clear hl a; intro a hl
            refine wl (wl_val hl rfl trivial (r_assign hl rfl) ?_)
            clear hl a; intro a hl
            refine w_nil ?_
            have hl2 := hl.add (t := 0) (hl.add (t := 5) (hl.add (t := 6) (hl.add (t := 7) (hl.add (t := 8) (hl.nil) rfl) rfl) rfl) rfl) rfl; clear hl; have hl := hl2; clear hl2
            refine then_normal ?_
            refine ⟨k + 1, (by omega), (by omega), hl.addE (t := 8) (hl.addE (t := 7) (hl.addE (t := 0) (hl.addE (t := 5) (hl.addE (t := 6) (hl.nil) rfl (by first | rfl | (exact congrArg (Value.int .i64) (show s.una + (k : Int) + 1 = s.una + ((k + 1 : Nat) : Int) by omega)) | (exact congrArg (fun z : Nat => Value.int .i64 (z : Int)) (pcn_g (by assumption)).symm) | (exact congrArg (fun z : Nat => Value.int .i64 (z : Int)) (pcn_00 (by assumption) (by assumption) (by omega)).symm) | (exact congrArg (Value.int .i64) (pcn_01 (by assumption) (by assumption) (by omega)).symm) | (exact congrArg (Value.int .i64) (pcn_10 (by assumption) (by assumption) (by omega)).symm) | (exact congrArg (Value.int .i64) (pcn_11 (by assumption) (by assumption) (by omega)).symm))) rfl (by first | rfl | (exact congrArg (Value.int .i64) (show s.una + (k : Int) + 1 = s.una + ((k + 1 : Nat) : Int) by omega)) | (exact congrArg (fun z : Nat => Value.int .i64 (z : Int)) (pcn_g (by assumption)).symm) | (exact congrArg (fun z : Nat => Value.int .i64 (z : Int)) (pcn_00 (by assumption) (by assumption) (by omega)).symm) | (exact congrArg (Value.int .i64) (pcn_01 (by assumption) (by assumption) (by omega)).symm) | (exact congrArg (Value.int .i64) (pcn_10 (by assumption) (by assumption) (by omega)).symm) | (exact congrArg (Value.int .i64) (pcn_11 (by assumption) (by assumption) (by omega)).symm))) rfl (by first | rfl | (exact congrArg (Value.int .i64) (show s.una + (k : Int) + 1 = s.una + ((k + 1 : Nat) : Int) by omega)) | (exact congrArg (fun z : Nat => Value.int .i64 (z : Int)) (pcn_g (by assumption)).symm) | (exact congrArg (fun z : Nat => Value.int .i64 (z : Int)) (pcn_00 (by assumption) (by assumption) (by omega)).symm) | (exact congrArg (Value.int .i64) (pcn_01 (by assumption) (by assumption) (by omega)).symm) | (exact congrArg (Value.int .i64) (pcn_10 (by assumption) (by assumption) (by omega)).symm) | (exact congrArg (Value.int .i64) (pcn_11 (by assumption) (by assumption) (by omega)).symm))) rfl (by first | rfl | (exact congrArg (Value.int .i64) (show s.una + (k : Int) + 1 = s.una + ((k + 1 : Nat) : Int) by omega)) | (exact congrArg (fun z : Nat => Value.int .i64 (z : Int)) (pcn_g (by assumption)).symm) | (exact congrArg (fun z : Nat => Value.int .i64 (z : Int)) (pcn_00 (by assumption) (by assumption) (by omega)).symm) | (exact congrArg (Value.int .i64) (pcn_01 (by assumption) (by assumption) (by omega)).symm) | (exact congrArg (Value.int .i64) (pcn_10 (by assumption) (by assumption) (by omega)).symm) | (exact congrArg (Value.int .i64) (pcn_11 (by assumption) (by assumption) (by omega)).symm))) rfl (by first | rfl | (exact congrArg (Value.int .i64) (show s.una + (k : Int) + 1 = s.una + ((k + 1 : Nat) : Int) by omega)) | (exact congrArg (fun z : Nat => Value.int .i64 (z : Int)) (pcn_g (by assumption)).symm) | (exact congrArg (fun z : Nat => Value.int .i64 (z : Int)) (pcn_00 (by assumption) (by assumption) (by omega)).symm) | (exact congrArg (Value.int .i64) (pcn_01 (by assumption) (by assumption) (by omega)).symm) | (exact congrArg (Value.int .i64) (pcn_10 (by assumption) (by assumption) (by omega)).symm) | (exact congrArg (Value.int .i64) (pcn_11 (by assumption) (by assumption) (by omega)).symm)), hh.keep (by repeat (first | exact keeps_nil | apply keeps_cons (by repeat (first | exact find_head | apply find_tail)) (by first  | rfl) | exact keeps_self | apply keeps_mv))⟩
          · intro hc3
            try simp only [decide_eq_true_eq, decide_eq_false_iff_not, Bool.not_eq_true', Bool.not_eq_false', Bool.not_eq_true, Bool.not_eq_false, Bool.and_eq_true, Bool.or_eq_true, Bool.and_eq_false_iff, Bool.or_eq_false_iff, Bool.not_not, ne_eq, Int.not_lt, Int.not_le, Decidable.not_not, beq_iff_eq, bne_iff_ne] at hc3
            refine wp_skip ?_
            refine then_normal ?_
            refine c_seq ?_
            refine c_seq ?_
            refine c_region ?_
            refine wl (w_loadA hl hh rfl trivial agg79 rfl (by repeat (first | exact find_head | apply find_tail)) (by first | (simp only [List.getElem?_cons_zero, List.getElem?_cons_succ, Value.cells, List.take_zero, List.take_succ_cons, List.take_nil, List.drop_zero, List.drop_succ_cons, List.drop_nil, List.length_cons, List.length_nil, List.cons_append, List.nil_append, List.append_nil, Nat.zero_add, Nat.add_zero, Nat.reduceAdd, Nat.reduceBEq, Nat.reduceEqDiff, Nat.ble, BEq.rfl, Bool.and_true, Bool.and_self, cond_true, beq_self_eq_true]; rfl)) (by first | rfl | (simp; done)) ?_)
            clear hl a; intro a hl
            refine wl (wl_val hl rfl trivial (r_move hl rfl) ?_)
            clear hl a; intro a hl
            refine wl (w_call hl hh rfl trivial rfl cal47 rfl (at_m s.una f lb (lsG s f (skG sk os)) _ (by omega) (by omega) (by omega)) (by repeat (first | exact keeps_nil | apply keeps_cons (by repeat (first | exact find_head | apply find_tail)) (by first  | rfl) | exact keeps_self | apply keeps_mv)) (hh.mem _ _ (Find.mem (by repeat (first | exact find_head | apply find_tail)))) ?_)
            clear hl hh a w; intro vc Fc a w hR hl hh
            obtain ⟨rfl, rfl⟩ := hR
            try simp only [List.cons_append, List.nil_append] at hh
            rw [at_q (by omega)] at hl
            refine wl (wl_val hl rfl trivial (r_not hl rfl) ?_)
            clear hl a; intro a hl
            refine w_nil ?_
            have hl2 := hl.add (t := 0) (hl.add (t := 5) (hl.add (t := 6) (hl.add (t := 7) (hl.add (t := 8) (hl.add (t := 87) (hl.nil) rfl) rfl) rfl) rfl) rfl) rfl; clear hl; have hl := hl2; clear hl2
            refine then_normal ?_
            refine c_cond hl rfl ?_ ?_
            · intro hc4
              try simp only [decide_eq_true_eq, decide_eq_false_iff_not, Bool.not_eq_true', Bool.not_eq_false', Bool.not_eq_true, Bool.not_eq_false, Bool.and_eq_true, Bool.or_eq_true, Bool.and_eq_false_iff, Bool.or_eq_false_iff, Bool.not_not, ne_eq, Int.not_lt, Int.not_le, Decidable.not_not, beq_iff_eq, bne_iff_ne] at hc4
              refine c_region ?_
              refine wl (wl_val hl rfl trivial (r_move hl rfl) ?_)
              clear hl a; intro a hl
              first | refine wl (wl_val hl rfl trivial (r_add hl rfl rfl (by simp only [Fits]; omega)) ?_) | refine wl (wl_val hl rfl trivial (r_addW hl rfl rfl) ?_)
              clear hl a; intro a hl
              refine wl (wl_val hl rfl trivial (r_assign hl rfl) ?_)
              clear hl a; intro a hl
              refine w_nil ?_
              have hl2 := hl.add (t := 0) (hl.add (t := 5) (hl.add (t := 6) (hl.add (t := 7) (hl.add (t := 8) (hl.nil) rfl) rfl) rfl) rfl) rfl; clear hl; have hl := hl2; clear hl2
              refine then_normal ?_
              refine c_seq ?_
              refine c_region ?_
              refine wl (wl_val hl rfl trivial (r_move hl rfl) ?_)
              clear hl a; intro a hl
              refine wl (wl_val hl rfl trivial (r_move hl rfl) ?_)
              clear hl a; intro a hl
              refine wl (wl_val hl rfl trivial (r_nilCheck hl rfl) ?_)
              clear hl a; intro a hl
              refine wl (wl_val hl rfl trivial (r_field hl rfl fld69_12) ?_)
              clear hl a; intro a hl
              first | refine wl (w_load hl hh rfl trivial one2 rfl (by repeat (first | exact find_head | apply find_tail)) (by first | rfl) ?_) | refine wl (w_loadR hl hh rfl trivial one2 rfl hpm (by simp) rfl ?_)
              clear hl a; intro a hl
              refine wl (wl_val hl rfl trivial (r_lss hl rfl rfl) ?_)
              clear hl a; intro a hl
              refine w_nil ?_
              have hl2 := hl.add (t := 0) (hl.add (t := 5) (hl.add (t := 6) (hl.add (t := 7) (hl.add (t := 8) (hl.add (t := 95) (hl.nil) rfl) rfl) rfl) rfl) rfl) rfl; clear hl; have hl := hl2; clear hl2
              refine then_normal ?_
              refine c_cond hl rfl ?_ ?_
              · intro hc5
                try simp only [decide_eq_true_eq, decide_eq_false_iff_not, Bool.not_eq_true', Bool.not_eq_false', Bool.not_eq_true, Bool.not_eq_false, Bool.and_eq_true, Bool.or_eq_true, Bool.and_eq_false_iff, Bool.or_eq_false_iff, Bool.not_not, ne_eq, Int.not_lt, Int.not_le, Decidable.not_not, beq_iff_eq, bne_iff_ne] at hc5
                refine c_region ?_
                refine wl (wl_val hl rfl trivial (r_move hl rfl) ?_)
                clear hl a; intro a hl
                first | refine wl (wl_val hl rfl trivial (r_add hl rfl rfl (by simp only [Fits]; omega)) ?_) | refine wl (wl_val hl rfl trivial (r_addW hl rfl rfl) ?_)
                clear hl a; intro a hl
                refine wl (wl_val hl rfl trivial (r_assign hl rfl) ?_)
                clear hl a; intro a hl
                refine w_nil ?_
                have hl2 := hl.add (t := 0) (hl.add (t := 5) (hl.add (t := 6) (hl.add (t := 7) (hl.add (t := 8) (hl.nil) rfl) rfl) rfl) rfl) rfl; clear hl; have hl := hl2; clear hl2
                refine blk_normal ?_
                refine then_normal ?_
                refine c_region ?_
                refine wl (wl_val hl rfl trivial (r_move hl rfl) ?_)
                clear hl a; intro a hl
                first | refine wl (wl_val hl rfl trivial (r_add hl rfl rfl (by simp only [Fits]; omega)) ?_) | refine wl (wl_val hl rfl trivial (r_addW hl rfl rfl) ?_)
                clear hl a; intro a hl
                refine wl (wl_val hl rfl trivial (r_assign hl rfl) ?_)
                clear hl a; intro a hl
                refine w_nil ?_
                have hl2 := hl.add (t := 0) (hl.add (t := 5) (hl.add (t := 6) (hl.add (t := 7) (hl.add (t := 8) (hl.nil) rfl) rfl) rfl) rfl) rfl; clear hl; have hl := hl2; clear hl2
                refine then_normal ?_
                refine ⟨k + 1, (by omega), (by omega), hl.addE (t := 8) (hl.addE (t := 7) (hl.addE (t := 0) (hl.addE (t := 5) (hl.addE (t := 6) (hl.nil) rfl (by first | rfl | (exact congrArg (Value.int .i64) (show s.una + (k : Int) + 1 = s.una + ((k + 1 : Nat) : Int) by omega)) | (exact congrArg (fun z : Nat => Value.int .i64 (z : Int)) (pcn_g (by assumption)).symm) | (exact congrArg (fun z : Nat => Value.int .i64 (z : Int)) (pcn_00 (by assumption) (by assumption) (by omega)).symm) | (exact congrArg (Value.int .i64) (pcn_01 (by assumption) (by assumption) (by omega)).symm) | (exact congrArg (Value.int .i64) (pcn_10 (by assumption) (by assumption) (by omega)).symm) | (exact congrArg (Value.int .i64) (pcn_11 (by assumption) (by assumption) (by omega)).symm))) rfl (by first | rfl | (exact congrArg (Value.int .i64) (show s.una + (k : Int) + 1 = s.una + ((k + 1 : Nat) : Int) by omega)) | (exact congrArg (fun z : Nat => Value.int .i64 (z : Int)) (pcn_g (by assumption)).symm) | (exact congrArg (fun z : Nat => Value.int .i64 (z : Int)) (pcn_00 (by assumption) (by assumption) (by omega)).symm) | (exact congrArg (Value.int .i64) (pcn_01 (by assumption) (by assumption) (by omega)).symm) | (exact congrArg (Value.int .i64) (pcn_10 (by assumption) (by assumption) (by omega)).symm) | (exact congrArg (Value.int .i64) (pcn_11 (by assumption) (by assumption) (by omega)).symm))) rfl (by first | rfl | (exact congrArg (Value.int .i64) (show s.una + (k : Int) + 1 = s.una + ((k + 1 : Nat) : Int) by omega)) | (exact congrArg (fun z : Nat => Value.int .i64 (z : Int)) (pcn_g (by assumption)).symm) | (exact congrArg (fun z : Nat => Value.int .i64 (z : Int)) (pcn_00 (by assumption) (by assumption) (by omega)).symm) | (exact congrArg (Value.int .i64) (pcn_01 (by assumption) (by assumption) (by omega)).symm) | (exact congrArg (Value.int .i64) (pcn_10 (by assumption) (by assumption) (by omega)).symm) | (exact congrArg (Value.int .i64) (pcn_11 (by assumption) (by assumption) (by omega)).symm))) rfl (by first | rfl | (exact congrArg (Value.int .i64) (show s.una + (k : Int) + 1 = s.una + ((k + 1 : Nat) : Int) by omega)) | (exact congrArg (fun z : Nat => Value.int .i64 (z : Int)) (pcn_g (by assumption)).symm) | (exact congrArg (fun z : Nat => Value.int .i64 (z : Int)) (pcn_00 (by assumption) (by assumption) (by omega)).symm) | (exact congrArg (Value.int .i64) (pcn_01 (by assumption) (by assumption) (by omega)).symm) | (exact congrArg (Value.int .i64) (pcn_10 (by assumption) (by assumption) (by omega)).symm) | (exact congrArg (Value.int .i64) (pcn_11 (by assumption) (by assumption) (by omega)).symm))) rfl (by first | rfl | (exact congrArg (Value.int .i64) (show s.una + (k : Int) + 1 = s.una + ((k + 1 : Nat) : Int) by omega)) | (exact congrArg (fun z : Nat => Value.int .i64 (z : Int)) (pcn_g (by assumption)).symm) | (exact congrArg (fun z : Nat => Value.int .i64 (z : Int)) (pcn_00 (by assumption) (by assumption) (by omega)).symm) | (exact congrArg (Value.int .i64) (pcn_01 (by assumption) (by assumption) (by omega)).symm) | (exact congrArg (Value.int .i64) (pcn_10 (by assumption) (by assumption) (by omega)).symm) | (exact congrArg (Value.int .i64) (pcn_11 (by assumption) (by assumption) (by omega)).symm)), hh.keep (by repeat (first | exact keeps_nil | apply keeps_cons (by repeat (first | exact find_head | apply find_tail)) (by first  | rfl) | exact keeps_self | apply keeps_mv))⟩
              · intro hc5
                try simp only [decide_eq_true_eq, decide_eq_false_iff_not, Bool.not_eq_true', Bool.not_eq_false', Bool.not_eq_true, Bool.not_eq_false, Bool.and_eq_true, Bool.or_eq_true, Bool.and_eq_false_iff, Bool.or_eq_false_iff, Bool.not_not, ne_eq, Int.not_lt, Int.not_le, Decidable.not_not, beq_iff_eq, bne_iff_ne] at hc5
                refine wp_skip ?_
                refine blk_normal ?_
                refine then_normal ?_
                refine c_region ?_
                refine wl (wl_val hl rfl trivial (r_move hl rfl) ?_)
                clear hl a; intro a hl
                first | refine wl (wl_val hl rfl trivial (r_add hl rfl rfl (by simp only [Fits]; omega)) ?_) | refine wl (wl_val hl rfl trivial (r_addW hl rfl rfl) ?_)
                clear hl a; intro a hl
                refine wl (wl_val hl rfl trivial (r_assign hl rfl) ?_)
                clear hl a; intro a hl
                refine w_nil ?_
                have hl2 := hl.add (t := 0) (hl.add (t := 5) (hl.add (t := 6) (hl.add (t := 7) (hl.add (t := 8) (hl.nil) rfl) rfl) rfl) rfl) rfl; clear hl; have hl := hl2; clear hl2
                refine then_normal ?_
                refine ⟨k + 1, (by omega), (by omega), hl.addE (t := 8) (hl.addE (t := 7) (hl.addE (t := 0) (hl.addE (t := 5) (hl.addE (t := 6) (hl.nil) rfl (by first | rfl | (exact congrArg (Value.int .i64) (show s.una + (k : Int) + 1 = s.una + ((k + 1 : Nat) : Int) by omega)) | (exact congrArg (fun z : Nat => Value.int .i64 (z : Int)) (pcn_g (by assumption)).symm) | (exact congrArg (fun z : Nat => Value.int .i64 (z : Int)) (pcn_00 (by assumption) (by assumption) (by omega)).symm) | (exact congrArg (Value.int .i64) (pcn_01 (by assumption) (by assumption) (by omega)).symm) | (exact congrArg (Value.int .i64) (pcn_10 (by assumption) (by assumption) (by omega)).symm) | (exact congrArg (Value.int .i64) (pcn_11 (by assumption) (by assumption) (by omega)).symm))) rfl (by first | rfl | (exact congrArg (Value.int .i64) (show s.una + (k : Int) + 1 = s.una + ((k + 1 : Nat) : Int) by omega)) | (exact congrArg (fun z : Nat => Value.int .i64 (z : Int)) (pcn_g (by assumption)).symm) | (exact congrArg (fun z : Nat => Value.int .i64 (z : Int)) (pcn_00 (by assumption) (by assumption) (by omega)).symm) | (exact congrArg (Value.int .i64) (pcn_01 (by assumption) (by assumption) (by omega)).symm) | (exact congrArg (Value.int .i64) (pcn_10 (by assumption) (by assumption) (by omega)).symm) | (exact congrArg (Value.int .i64) (pcn_11 (by assumption) (by assumption) (by omega)).symm))) rfl (by first | rfl | (exact congrArg (Value.int .i64) (show s.una + (k : Int) + 1 = s.una + ((k + 1 : Nat) : Int) by omega)) | (exact congrArg (fun z : Nat => Value.int .i64 (z : Int)) (pcn_g (by assumption)).symm) | (exact congrArg (fun z : Nat => Value.int .i64 (z : Int)) (pcn_00 (by assumption) (by assumption) (by omega)).symm) | (exact congrArg (Value.int .i64) (pcn_01 (by assumption) (by assumption) (by omega)).symm) | (exact congrArg (Value.int .i64) (pcn_10 (by assumption) (by assumption) (by omega)).symm) | (exact congrArg (Value.int .i64) (pcn_11 (by assumption) (by assumption) (by omega)).symm))) rfl (by first | rfl | (exact congrArg (Value.int .i64) (show s.una + (k : Int) + 1 = s.una + ((k + 1 : Nat) : Int) by omega)) | (exact congrArg (fun z : Nat => Value.int .i64 (z : Int)) (pcn_g (by assumption)).symm) | (exact congrArg (fun z : Nat => Value.int .i64 (z : Int)) (pcn_00 (by assumption) (by assumption) (by omega)).symm) | (exact congrArg (Value.int .i64) (pcn_01 (by assumption) (by assumption) (by omega)).symm) | (exact congrArg (Value.int .i64) (pcn_10 (by assumption) (by assumption) (by omega)).symm) | (exact congrArg (Value.int .i64) (pcn_11 (by assumption) (by assumption) (by omega)).symm))) rfl (by first | rfl | (exact congrArg (Value.int .i64) (show s.una + (k : Int) + 1 = s.una + ((k + 1 : Nat) : Int) by omega)) | (exact congrArg (fun z : Nat => Value.int .i64 (z : Int)) (pcn_g (by assumption)).symm) | (exact congrArg (fun z : Nat => Value.int .i64 (z : Int)) (pcn_00 (by assumption) (by assumption) (by omega)).symm) | (exact congrArg (Value.int .i64) (pcn_01 (by assumption) (by assumption) (by omega)).symm) | (exact congrArg (Value.int .i64) (pcn_10 (by assumption) (by assumption) (by omega)).symm) | (exact congrArg (Value.int .i64) (pcn_11 (by assumption) (by assumption) (by omega)).symm)), hh.keep (by repeat (first | exact keeps_nil | apply keeps_cons (by repeat (first | exact find_head | apply find_tail)) (by first  | rfl) | exact keeps_self | apply keeps_mv))⟩
            · intro hc4
              try simp only [decide_eq_true_eq, decide_eq_false_iff_not, Bool.not_eq_true', Bool.not_eq_false', Bool.not_eq_true, Bool.not_eq_false, Bool.and_eq_true, Bool.or_eq_true, Bool.and_eq_false_iff, Bool.or_eq_false_iff, Bool.not_not, ne_eq, Int.not_lt, Int.not_le, Decidable.not_not, beq_iff_eq, bne_iff_ne] at hc4
              refine wp_skip ?_
              refine then_normal ?_
              refine c_seq ?_
              refine c_region ?_
              refine wl (wl_val hl rfl trivial (r_move hl rfl) ?_)
              clear hl a; intro a hl
              refine wl (wl_val hl rfl trivial (r_move hl rfl) ?_)
              clear hl a; intro a hl
              refine wl (wl_val hl rfl trivial (r_nilCheck hl rfl) ?_)
              clear hl a; intro a hl
              refine wl (wl_val hl rfl trivial (r_field hl rfl fld69_12) ?_)
              clear hl a; intro a hl
              first | refine wl (w_load hl hh rfl trivial one2 rfl (by repeat (first | exact find_head | apply find_tail)) (by first | rfl) ?_) | refine wl (w_loadR hl hh rfl trivial one2 rfl hpm (by simp) rfl ?_)
              clear hl a; intro a hl
              refine wl (wl_val hl rfl trivial (r_lss hl rfl rfl) ?_)
              clear hl a; intro a hl
              refine w_nil ?_
              have hl2 := hl.add (t := 0) (hl.add (t := 5) (hl.add (t := 6) (hl.add (t := 7) (hl.add (t := 8) (hl.add (t := 95) (hl.nil) rfl) rfl) rfl) rfl) rfl) rfl; clear hl; have hl := hl2; clear hl2
              refine then_normal ?_
              refine c_cond hl rfl ?_ ?_
              · intro hc5
                try simp only [decide_eq_true_eq, decide_eq_false_iff_not, Bool.not_eq_true', Bool.not_eq_false', Bool.not_eq_true, Bool.not_eq_false, Bool.and_eq_true, Bool.or_eq_true, Bool.and_eq_false_iff, Bool.or_eq_false_iff, Bool.not_not, ne_eq, Int.not_lt, Int.not_le, Decidable.not_not, beq_iff_eq, bne_iff_ne] at hc5
                refine c_region ?_
                refine wl (wl_val hl rfl trivial (r_move hl rfl) ?_)
                clear hl a; intro a hl
                first | refine wl (wl_val hl rfl trivial (r_add hl rfl rfl (by simp only [Fits]; omega)) ?_) | refine wl (wl_val hl rfl trivial (r_addW hl rfl rfl) ?_)
                clear hl a; intro a hl
                refine wl (wl_val hl rfl trivial (r_assign hl rfl) ?_)
                clear hl a; intro a hl
                refine w_nil ?_
                have hl2 := hl.add (t := 0) (hl.add (t := 5) (hl.add (t := 6) (hl.add (t := 7) (hl.add (t := 8) (hl.nil) rfl) rfl) rfl) rfl) rfl; clear hl; have hl := hl2; clear hl2
                refine blk_normal ?_
                refine then_normal ?_
                refine c_region ?_
                refine wl (wl_val hl rfl trivial (r_move hl rfl) ?_)
                clear hl a; intro a hl
                first | refine wl (wl_val hl rfl trivial (r_add hl rfl rfl (by simp only [Fits]; omega)) ?_) | refine wl (wl_val hl rfl trivial (r_addW hl rfl rfl) ?_)
                clear hl a; intro a hl
                refine wl (wl_val hl rfl trivial (r_assign hl rfl) ?_)
                clear hl a; intro a hl
                refine w_nil ?_
                have hl2 := hl.add (t := 0) (hl.add (t := 5) (hl.add (t := 6) (hl.add (t := 7) (hl.add (t := 8) (hl.nil) rfl) rfl) rfl) rfl) rfl; clear hl; have hl := hl2; clear hl2
                refine then_normal ?_
                refine ⟨k + 1, (by omega), (by omega), hl.addE (t := 8) (hl.addE (t := 7) (hl.addE (t := 0) (hl.addE (t := 5) (hl.addE (t := 6) (hl.nil) rfl (by first | rfl | (exact congrArg (Value.int .i64) (show s.una + (k : Int) + 1 = s.una + ((k + 1 : Nat) : Int) by omega)) | (exact congrArg (fun z : Nat => Value.int .i64 (z : Int)) (pcn_g (by assumption)).symm) | (exact congrArg (fun z : Nat => Value.int .i64 (z : Int)) (pcn_00 (by assumption) (by assumption) (by omega)).symm) | (exact congrArg (Value.int .i64) (pcn_01 (by assumption) (by assumption) (by omega)).symm) | (exact congrArg (Value.int .i64) (pcn_10 (by assumption) (by assumption) (by omega)).symm) | (exact congrArg (Value.int .i64) (pcn_11 (by assumption) (by assumption) (by omega)).symm))) rfl (by first | rfl | (exact congrArg (Value.int .i64) (show s.una + (k : Int) + 1 = s.una + ((k + 1 : Nat) : Int) by omega)) | (exact congrArg (fun z : Nat => Value.int .i64 (z : Int)) (pcn_g (by assumption)).symm) | (exact congrArg (fun z : Nat => Value.int .i64 (z : Int)) (pcn_00 (by assumption) (by assumption) (by omega)).symm) | (exact congrArg (Value.int .i64) (pcn_01 (by assumption) (by assumption) (by omega)).symm) | (exact congrArg (Value.int .i64) (pcn_10 (by assumption) (by assumption) (by omega)).symm) | (exact congrArg (Value.int .i64) (pcn_11 (by assumption) (by assumption) (by omega)).symm))) rfl (by first | rfl | (exact congrArg (Value.int .i64) (show s.una + (k : Int) + 1 = s.una + ((k + 1 : Nat) : Int) by omega)) | (exact congrArg (fun z : Nat => Value.int .i64 (z : Int)) (pcn_g (by assumption)).symm) | (exact congrArg (fun z : Nat => Value.int .i64 (z : Int)) (pcn_00 (by assumption) (by assumption) (by omega)).symm) | (exact congrArg (Value.int .i64) (pcn_01 (by assumption) (by assumption) (by omega)).symm) | (exact congrArg (Value.int .i64) (pcn_10 (by assumption) (by assumption) (by omega)).symm) | (exact congrArg (Value.int .i64) (pcn_11 (by assumption) (by assumption) (by omega)).symm))) rfl (by first | rfl | (exact congrArg (Value.int .i64) (show s.una + (k : Int) + 1 = s.una + ((k + 1 : Nat) : Int) by omega)) | (exact congrArg (fun z : Nat => Value.int .i64 (z : Int)) (pcn_g (by assumption)).symm) | (exact congrArg (fun z : Nat => Value.int .i64 (z : Int)) (pcn_00 (by assumption) (by assumption) (by omega)).symm) | (exact congrArg (Value.int .i64) (pcn_01 (by assumption) (by assumption) (by omega)).symm) | (exact congrArg (Value.int .i64) (pcn_10 (by assumption) (by assumption) (by omega)).symm) | (exact congrArg (Value.int .i64) (pcn_11 (by assumption) (by assumption) (by omega)).symm))) rfl (by first | rfl | (exact congrArg (Value.int .i64) (show s.una + (k : Int) + 1 = s.una + ((k + 1 : Nat) : Int) by omega)) | (exact congrArg (fun z : Nat => Value.int .i64 (z : Int)) (pcn_g (by assumption)).symm) | (exact congrArg (fun z : Nat => Value.int .i64 (z : Int)) (pcn_00 (by assumption) (by assumption) (by omega)).symm) | (exact congrArg (Value.int .i64) (pcn_01 (by assumption) (by assumption) (by omega)).symm) | (exact congrArg (Value.int .i64) (pcn_10 (by assumption) (by assumption) (by omega)).symm) | (exact congrArg (Value.int .i64) (pcn_11 (by assumption) (by assumption) (by omega)).symm)), hh.keep (by repeat (first | exact keeps_nil | apply keeps_cons (by repeat (first | exact find_head | apply find_tail)) (by first  | rfl) | exact keeps_self | apply keeps_mv))⟩
              · intro hc5
                try simp only [decide_eq_true_eq, decide_eq_false_iff_not, Bool.not_eq_true', Bool.not_eq_false', Bool.not_eq_true, Bool.not_eq_false, Bool.and_eq_true, Bool.or_eq_true, Bool.and_eq_false_iff, Bool.or_eq_false_iff, Bool.not_not, ne_eq, Int.not_lt, Int.not_le, Decidable.not_not, beq_iff_eq, bne_iff_ne] at hc5
                refine wp_skip ?_
                refine blk_normal ?_
                refine then_normal ?_
                refine c_region ?_
                refine wl (wl_val hl rfl trivial (r_move hl rfl) ?_)
                clear hl a; intro a hl
                first | refine wl (wl_val hl rfl trivial (r_add hl rfl rfl (by simp only [Fits]; omega)) ?_) | refine wl (wl_val hl rfl trivial (r_addW hl rfl rfl) ?_)
                clear hl a; intro a hl
                refine wl (wl_val hl rfl trivial (r_assign hl rfl) ?_)
                clear hl a; intro a hl
                refine w_nil ?_
                have hl2 := hl.add (t := 0) (hl.add (t := 5) (hl.add (t := 6) (hl.add (t := 7) (hl.add (t := 8) (hl.nil) rfl) rfl) rfl) rfl) rfl; clear hl; have hl := hl2; clear hl2
                refine then_normal ?_
                refine ⟨k + 1, (by omega), (by omega), hl.addE (t := 8) (hl.addE (t := 7) (hl.addE (t := 0) (hl.addE (t := 5) (hl.addE (t := 6) (hl.nil) rfl (by first | rfl | (exact congrArg (Value.int .i64) (show s.una + (k : Int) + 1 = s.una + ((k + 1 : Nat) : Int) by omega)) | (exact congrArg (fun z : Nat => Value.int .i64 (z : Int)) (pcn_g (by assumption)).symm) | (exact congrArg (fun z : Nat => Value.int .i64 (z : Int)) (pcn_00 (by assumption) (by assumption) (by omega)).symm) | (exact congrArg (Value.int .i64) (pcn_01 (by assumption) (by assumption) (by omega)).symm) | (exact congrArg (Value.int .i64) (pcn_10 (by assumption) (by assumption) (by omega)).symm) | (exact congrArg (Value.int .i64) (pcn_11 (by assumption) (by assumption) (by omega)).symm))) rfl (by first | rfl | (exact congrArg (Value.int .i64) (show s.una + (k : Int) + 1 = s.una + ((k + 1 : Nat) : Int) by omega)) | (exact congrArg (fun z : Nat => Value.int .i64 (z : Int)) (pcn_g (by assumption)).symm) | (exact congrArg (fun z : Nat => Value.int .i64 (z : Int)) (pcn_00 (by assumption) (by assumption) (by omega)).symm) | (exact congrArg (Value.int .i64) (pcn_01 (by assumption) (by assumption) (by omega)).symm) | (exact congrArg (Value.int .i64) (pcn_10 (by assumption) (by assumption) (by omega)).symm) | (exact congrArg (Value.int .i64) (pcn_11 (by assumption) (by assumption) (by omega)).symm))) rfl (by first | rfl | (exact congrArg (Value.int .i64) (show s.una + (k : Int) + 1 = s.una + ((k + 1 : Nat) : Int) by omega)) | (exact congrArg (fun z : Nat => Value.int .i64 (z : Int)) (pcn_g (by assumption)).symm) | (exact congrArg (fun z : Nat => Value.int .i64 (z : Int)) (pcn_00 (by assumption) (by assumption) (by omega)).symm) | (exact congrArg (Value.int .i64) (pcn_01 (by assumption) (by assumption) (by omega)).symm) | (exact congrArg (Value.int .i64) (pcn_10 (by assumption) (by assumption) (by omega)).symm) | (exact congrArg (Value.int .i64) (pcn_11 (by assumption) (by assumption) (by omega)).symm))) rfl (by first | rfl | (exact congrArg (Value.int .i64) (show s.una + (k : Int) + 1 = s.una + ((k + 1 : Nat) : Int) by omega)) | (exact congrArg (fun z : Nat => Value.int .i64 (z : Int)) (pcn_g (by assumption)).symm) | (exact congrArg (fun z : Nat => Value.int .i64 (z : Int)) (pcn_00 (by assumption) (by assumption) (by omega)).symm) | (exact congrArg (Value.int .i64) (pcn_01 (by assumption) (by assumption) (by omega)).symm) | (exact congrArg (Value.int .i64) (pcn_10 (by assumption) (by assumption) (by omega)).symm) | (exact congrArg (Value.int .i64) (pcn_11 (by assumption) (by assumption) (by omega)).symm))) rfl (by first | rfl | (exact congrArg (Value.int .i64) (show s.una + (k : Int) + 1 = s.una + ((k + 1 : Nat) : Int) by omega)) | (exact congrArg (fun z : Nat => Value.int .i64 (z : Int)) (pcn_g (by assumption)).symm) | (exact congrArg (fun z : Nat => Value.int .i64 (z : Int)) (pcn_00 (by assumption) (by assumption) (by omega)).symm) | (exact congrArg (Value.int .i64) (pcn_01 (by assumption) (by assumption) (by omega)).symm) | (exact congrArg (Value.int .i64) (pcn_10 (by assumption) (by assumption) (by omega)).symm) | (exact congrArg (Value.int .i64) (pcn_11 (by assumption) (by assumption) (by omega)).symm)), hh.keep (by repeat (first | exact keeps_nil | apply keeps_cons (by repeat (first | exact find_head | apply find_tail)) (by first  | rfl) | exact keeps_self | apply keeps_mv))⟩
        · intro hc2
          try simp only [decide_eq_true_eq, decide_eq_false_iff_not, Bool.not_eq_true', Bool.not_eq_false', Bool.not_eq_true, Bool.not_eq_false, Bool.and_eq_true, Bool.or_eq_true, Bool.and_eq_false_iff, Bool.or_eq_false_iff, Bool.not_not, ne_eq, Int.not_lt, Int.not_le, Decidable.not_not, beq_iff_eq, bne_iff_ne] at hc2
          obtain rfl : k = f := by omega
          refine wp_exit ?_
          refine then_exit ?_
          refine then_exit ?_
          refine blk_exit ?_
          refine then_normal ?_
          refine c_seq ?_
          refine c_region ?_
          refine wl (wl_val hl rfl trivial (r_move hl rfl) ?_)
          clear hl a; intro a hl
          refine wl (wl_val hl rfl trivial (r_assign hl rfl) ?_)
          clear hl a; intro a hl
          refine w_nil ?_
          have hl2 := hl.add (t := 2) (hl.nil) rfl; clear hl; have hl := hl2; clear hl2
          refine then_normal ?_
          refine wp_ret ?_
          refine f_ret1 (F' := []) hl hh rfl rfl (by repeat (first | exact keeps_nil | apply keeps_cons (by repeat (first | exact find_head | apply find_tail)) (by first  | rfl) | exact keeps_self | apply keeps_mv)) ?_
          exact ⟨rfl, rfl⟩
  · intro hg1; clear hl; intro hl
    try simp only [decide_eq_true_eq, decide_eq_false_iff_not, Bool.not_eq_true', Bool.not_eq_false', Bool.not_eq_true, Bool.not_eq_false, Bool.and_eq_true, Bool.or_eq_true, Bool.and_eq_false_iff, Bool.or_eq_false_iff, Bool.not_not, ne_eq, Int.not_lt, Int.not_le, Decidable.not_not, beq_iff_eq, bne_iff_ne] at hg1
    refine wl (wl_skip hl rfl ⟨_, _, rfl, rfl, rfl⟩ ?_)
    clear hl a; intro a hl
    refine wl (wl_skip hl rfl ⟨_, _, rfl, rfl, rfl⟩ ?_)
    clear hl a; intro a hl
    refine wl (wl_skip hl rfl ⟨_, _, rfl, rfl, rfl⟩ ?_)
    clear hl a; intro a hl
    refine wl (wl_skip hl rfl ⟨_, _, rfl, rfl, rfl⟩ ?_)
    clear hl a; intro a hl
    refine wl (wl_skip hl rfl ⟨_, _, rfl, rfl, rfl⟩ ?_)
    clear hl a; intro a hl
    refine wl (wl_val hl rfl trivial (r_pickF hl rfl rfl) ?_)
    clear hl a; intro a hl
    refine w_nil ?_
    have hl2 := hl.add (t := 0) (hl.add (t := 3) (hl.add (t := 29) (hl.nil) rfl) rfl) rfl; clear hl; have hl := hl2; clear hl2
    refine then_normal ?_
    refine c_condF hl rfl ?_
    refine wp_skip ?_
    refine then_normal ?_
    refine c_seq ?_
    refine c_seq ?_
    refine c_region ?_
    refine wl (wl_val hl rfl trivial (r_move hl rfl) ?_)
    clear hl a; intro a hl
    refine wl (wl_val hl rfl trivial (r_nilCheck hl rfl) ?_)
    clear hl a; intro a hl
    refine wl (wl_val hl rfl trivial (r_field hl rfl fld69_3) ?_)
    clear hl a; intro a hl
    first | refine wl (w_load hl hh rfl trivial one4 rfl (by repeat (first | exact find_head | apply find_tail)) (by first | rfl) ?_) | refine wl (w_loadR hl hh rfl trivial one4 rfl hpm (by simp) rfl ?_)
    clear hl a; intro a hl
    refine wl (wl_val hl rfl trivial (r_not hl rfl) ?_)
    clear hl a; intro a hl
    refine wl (wl_val hl rfl trivial (r_move hl rfl) ?_)
    clear hl a; intro a hl
    refine sl_split (t := 36) hl rfl ?_ ?_
    · intro hg3; clear hl; intro hl
      try simp only [decide_eq_true_eq, decide_eq_false_iff_not, Bool.not_eq_true', Bool.not_eq_false', Bool.not_eq_true, Bool.not_eq_false, Bool.and_eq_true, Bool.or_eq_true, Bool.and_eq_false_iff, Bool.or_eq_false_iff, Bool.not_not, ne_eq, Int.not_lt, Int.not_le, Decidable.not_not, beq_iff_eq, bne_iff_ne] at hg3
      refine wl (wl_val hl rfl ⟨_, _, rfl, rfl, rfl⟩ (r_move hl rfl) ?_)
      clear hl a; intro a hl
      refine wl (wl_val hl rfl ⟨_, _, rfl, rfl, rfl⟩ (r_nilCheck hl rfl) ?_)
      clear hl a; intro a hl
      refine wl (wl_val hl rfl ⟨_, _, rfl, rfl, rfl⟩ (r_field hl rfl fld69_10) ?_)
      clear hl a; intro a hl
      first | refine wl (w_load hl hh rfl ⟨_, _, rfl, rfl, rfl⟩ one59 rfl (by repeat (first | exact find_head | apply find_tail)) (by first | rfl) ?_) | refine wl (w_loadR hl hh rfl ⟨_, _, rfl, rfl, rfl⟩ one59 rfl hpm (by simp) rfl ?_)
      clear hl a; intro a hl
      refine wl (wl_val hl rfl ⟨_, _, rfl, rfl, rfl⟩ (r_eql hl rfl rfl) ?_)
      clear hl a; intro a hl
      refine wl (wl_val hl rfl trivial (r_pickT hl rfl rfl) ?_)
      clear hl a; intro a hl
      refine w_nil ?_
      have hl2 := hl.add (t := 0) (hl.add (t := 3) (hl.add (t := 42) (hl.nil) rfl) rfl) rfl; clear hl; have hl := hl2; clear hl2
      refine then_normal ?_
      refine c_cond hl rfl ?_ ?_
      · intro hc1
        try simp only [decide_eq_true_eq, decide_eq_false_iff_not, Bool.not_eq_true', Bool.not_eq_false', Bool.not_eq_true, Bool.not_eq_false, Bool.and_eq_true, Bool.or_eq_true, Bool.and_eq_false_iff, Bool.or_eq_false_iff, Bool.not_not, ne_eq, Int.not_lt, Int.not_le, Decidable.not_not, beq_iff_eq, bne_iff_ne] at hc1
        exfalso; rcases hwk with h9 | h9 <;> first | contradiction | omega | (simp_all; done) | (simp_all; omega)
      · intro hc1
        try simp only [decide_eq_true_eq, decide_eq_false_iff_not, Bool.not_eq_true', Bool.not_eq_false', Bool.not_eq_true, Bool.not_eq_false, Bool.and_eq_true, Bool.or_eq_true, Bool.and_eq_false_iff, Bool.or_eq_false_iff, Bool.not_not, ne_eq, Int.not_lt, Int.not_le, Decidable.not_not, beq_iff_eq, bne_iff_ne] at hc1
        refine wp_skip ?_
        refine then_normal ?_
        refine c_seq ?_
        refine c_region ?_
        refine wl (wl_val hl rfl trivial (r_move hl rfl) ?_)
        clear hl a; intro a hl
        refine wl (w_call hl hh rfl trivial rfl cal46 rfl (sacked_m mp s st sk bp hs f hf hf9 os hos hl16 bn p c E hR) (by repeat (first | exact keeps_nil | apply keeps_cons (by repeat (first | exact find_head | apply find_tail)) (by first  | rfl) | exact keeps_self | apply keeps_mv)) ⟨heap_keep hh hpm, fun h9 => heap_keep hh (hpb h9), mem_keep hh hpE⟩ ?_)
        clear hl hh a w; intro vc Fc a w hR hl hh
        obtain ⟨fb, rfl, rfl⟩ := hR
        try simp only [List.cons_append, List.nil_append] at hh
        refine wl (w_alloc hl hh rfl trivial zero79 rfl ?_)
        clear hl hh a w; intro k5 a w hl hh
        refine wl (w_storeA hl hh trivial agg79 rfl rfl (by repeat (first | exact find_head | apply find_tail)) (by first | rfl | (simp; done)) (by first | (simp; done) | (simp; omega)) (by first | rfl | (simp; done)) (by first | (simp only [encM, setL, List.getElem?_cons_zero, List.getElem?_cons_succ, Value.cells, List.take_zero, List.take_succ_cons, List.take_nil, List.drop_zero, List.drop_succ_cons, List.drop_nil, List.length_cons, List.length_nil, List.cons_append, List.nil_append, List.append_nil, Nat.zero_add, Nat.add_zero, Nat.reduceAdd, Nat.reduceBEq, Nat.reduceEqDiff, Nat.ble, BEq.rfl, Bool.and_true, Bool.and_self, cond_true, beq_self_eq_true]; rfl) | (simp only [setL, List.getElem?_cons_zero, List.getElem?_cons_succ, Value.cells, List.take_zero, List.take_succ_cons, List.take_nil, List.drop_zero, List.drop_succ_cons, List.drop_nil, List.length_cons, List.length_nil, List.cons_append, List.nil_append, List.append_nil, Nat.zero_add, Nat.add_zero, Nat.reduceAdd, Nat.reduceBEq, Nat.reduceEqDiff, Nat.ble, BEq.rfl, Bool.and_true, Bool.and_self, cond_true, beq_self_eq_true]; rfl)) ?_)
        clear hh w; intro w hh
        refine w_nil ?_
        have hl2 := hl.add (t := 0) (hl.add (t := 5) (hl.nil) rfl) rfl; clear hl; have hl := hl2; clear hl2
        refine then_normal ?_
        refine c_seq ?_
        refine c_region ?_
        refine wl (wl_val hl rfl trivial (r_move hl rfl) ?_)
        clear hl a; intro a hl
        refine wl (w_loadA hl hh rfl trivial agg79 rfl (by repeat (first | exact find_head | apply find_tail)) (by first | (simp only [List.getElem?_cons_zero, List.getElem?_cons_succ, Value.cells, List.take_zero, List.take_succ_cons, List.take_nil, List.drop_zero, List.drop_succ_cons, List.drop_nil, List.length_cons, List.length_nil, List.cons_append, List.nil_append, List.append_nil, Nat.zero_add, Nat.add_zero, Nat.reduceAdd, Nat.reduceBEq, Nat.reduceEqDiff, Nat.ble, BEq.rfl, Bool.and_true, Bool.and_self, cond_true, beq_self_eq_true]; rfl)) (by first | rfl | (simp; done)) ?_)
        clear hl a; intro a hl
        refine wl (w_call hl hh rfl trivial rfl cal45 rfl (lost_m mp s st sk bp hs f hf hf9 fb (skG sk os)) (by repeat (first | exact keeps_nil | apply keeps_cons (by repeat (first | exact find_head | apply find_tail)) (by first  | rfl) | exact keeps_self | apply keeps_mv)) ⟨heap_keep hh hpm, (hh.mem _ _ (Find.mem (by repeat (first | exact find_head | apply find_tail))))⟩ ?_)
        clear hl hh a w; intro vc Fc a w hR hl hh
        obtain ⟨lb, rfl, rfl⟩ := hR
        try simp only [List.cons_append, List.nil_append] at hh
        refine wl (w_alloc hl hh rfl trivial zero79 rfl ?_)
        clear hl hh a w; intro k6 a w hl hh
        refine wl (w_storeA hl hh trivial agg79 rfl rfl (by repeat (first | exact find_head | apply find_tail)) (by first | rfl | (simp; done)) (by first | (simp; done) | (simp; omega)) (by first | rfl | (simp; done)) (by first | (simp only [encM, setL, List.getElem?_cons_zero, List.getElem?_cons_succ, Value.cells, List.take_zero, List.take_succ_cons, List.take_nil, List.drop_zero, List.drop_succ_cons, List.drop_nil, List.length_cons, List.length_nil, List.cons_append, List.nil_append, List.append_nil, Nat.zero_add, Nat.add_zero, Nat.reduceAdd, Nat.reduceBEq, Nat.reduceEqDiff, Nat.ble, BEq.rfl, Bool.and_true, Bool.and_self, cond_true, beq_self_eq_true]; rfl) | (simp only [setL, List.getElem?_cons_zero, List.getElem?_cons_succ, Value.cells, List.take_zero, List.take_succ_cons, List.take_nil, List.drop_zero, List.drop_succ_cons, List.drop_nil, List.length_cons, List.length_nil, List.cons_append, List.nil_append, List.append_nil, Nat.zero_add, Nat.add_zero, Nat.reduceAdd, Nat.reduceBEq, Nat.reduceEqDiff, Nat.ble, BEq.rfl, Bool.and_true, Bool.and_self, cond_true, beq_self_eq_true]; rfl)) ?_)
        clear hh w; intro w hh
        refine w_nil ?_
        have hl2 := hl.add (t := 0) (hl.add (t := 5) (hl.add (t := 6) (hl.nil) rfl) rfl) rfl; clear hl; have hl := hl2; clear hl2
        refine then_normal ?_
        refine c_seq ?_
        refine c_region ?_
        refine wl (wl_val hl rfl trivial (r_assign hl rfl) ?_)
        clear hl a; intro a hl
        refine w_nil ?_
        have hl2 := hl.add (t := 0) (hl.add (t := 5) (hl.add (t := 6) (hl.add (t := 7) (hl.nil) rfl) rfl) rfl) rfl; clear hl; have hl := hl2; clear hl2
        refine then_normal ?_
        refine c_seq ?_
        refine c_seq ?_
        refine c_region ?_
        refine wl (wl_val hl rfl trivial (r_move hl rfl) ?_)
        clear hl a; intro a hl
        refine wl (wl_val hl rfl trivial (r_nilCheck hl rfl) ?_)
        clear hl a; intro a hl
        refine wl (wl_val hl rfl trivial (r_field hl rfl fld69_8) ?_)
        clear hl a; intro a hl
        first | refine wl (w_load hl hh rfl trivial one2 rfl (by repeat (first | exact find_head | apply find_tail)) (by first | rfl) ?_) | refine wl (w_loadR hl hh rfl trivial one2 rfl hpm (by simp) rfl ?_)
        clear hl a; intro a hl
        refine wl (wl_val hl rfl trivial (r_assign hl rfl) ?_)
        clear hl a; intro a hl
        refine w_nil ?_
        have hl2 := hl.add (t := 0) (hl.add (t := 5) (hl.add (t := 6) (hl.add (t := 7) (hl.add (t := 8) (hl.nil) rfl) rfl) rfl) rfl) rfl; clear hl; have hl := hl2; clear hl2
        refine then_normal ?_
        refine wp_block ?_
        obtain ⟨KS0, hKS0, hk⟩ := (hl.add (t := 0) (hl.add (t := 5) (hl.add (t := 6) (hl.nil) rfl) rfl) rfl).name
        obtain ⟨HS0, hHS0, hh2⟩ := hh.name (keeps_nil)
        refine c_loop (α := Nat) (fun k => f - k) (fun k a w => (k ≤ f) ∧ Sl 99 ([(8, .int .i64 (s.una + (k : Int))), (7, .int .i64 (pcn s (skG sk os) (lsG s f (skG sk os)) k : Int))] ++ KS0) a ∧ Has _ w0 ([] ++ HS0) w) 0 ⟨(Nat.zero_le _), hl.addE (t := 8) (hl.addE (t := 7) (hk) rfl (by first | (exact congrArg (Value.int .i64) (show s.una = s.una + ((0 : Nat) : Int) by omega)) | rfl)) rfl (by first | (exact congrArg (Value.int .i64) (show s.una = s.una + ((0 : Nat) : Int) by omega)) | rfl), hh2⟩ ?_
        clear hk hh2 hl hh a w
        intro k a w hI
        obtain ⟨hk, hl, hh⟩ := hI
        subst hKS0; subst hHS0
        simp only [List.cons_append, List.nil_append, List.append_nil] at hl hh
        have hpk := hpc k
        refine c_seq ?_
        refine c_seq ?_
        refine c_region ?_
        refine wl (wl_val hl rfl trivial (r_move hl rfl) ?_)
        clear hl a; intro a hl
        refine wl (wl_val hl rfl trivial (r_move hl rfl) ?_)
        clear hl a; intro a hl
        refine wl (wl_val hl rfl trivial (r_nilCheck hl rfl) ?_)
        clear hl a; intro a hl
        refine wl (wl_val hl rfl trivial (r_field hl rfl fld69_9) ?_)
        clear hl a; intro a hl
        first | refine wl (w_load hl hh rfl trivial one2 rfl (by repeat (first | exact find_head | apply find_tail)) (by first | rfl) ?_) | refine wl (w_loadR hl hh rfl trivial one2 rfl hpm (by simp) rfl ?_)
        clear hl a; intro a hl
        refine wl (wl_val hl rfl trivial (r_lss hl rfl rfl) ?_)
        clear hl a; intro a hl
        refine w_nil ?_
        have hl2 := hl.add (t := 0) (hl.add (t := 5) (hl.add (t := 6) (hl.add (t := 7) (hl.add (t := 8) (hl.add (t := 78) (hl.nil) rfl) rfl) rfl) rfl) rfl) rfl; clear hl; have hl := hl2; clear hl2
        refine then_normal ?_
        refine c_cond hl rfl ?_ ?_
        · intro hc2
          try simp only [decide_eq_true_eq, decide_eq_false_iff_not, Bool.not_eq_true', Bool.not_eq_false', Bool.not_eq_true, Bool.not_eq_false, Bool.and_eq_true, Bool.or_eq_true, Bool.and_eq_false_iff, Bool.or_eq_false_iff, Bool.not_not, ne_eq, Int.not_lt, Int.not_le, Decidable.not_not, beq_iff_eq, bne_iff_ne] at hc2
          refine wp_skip ?_
          refine then_normal ?_
          refine c_seq ?_
          refine wp_block ?_
          refine c_seq ?_
          refine c_seq ?_
          refine c_region ?_
          refine wl (w_loadA hl hh rfl trivial agg79 rfl (by repeat (first | exact find_head | apply find_tail)) (by first | (simp only [List.getElem?_cons_zero, List.getElem?_cons_succ, Value.cells, List.take_zero, List.take_succ_cons, List.take_nil, List.drop_zero, List.drop_succ_cons, List.drop_nil, List.length_cons, List.length_nil, List.cons_append, List.nil_append, List.append_nil, Nat.zero_add, Nat.add_zero, Nat.reduceAdd, Nat.reduceBEq, Nat.reduceEqDiff, Nat.ble, BEq.rfl, Bool.and_true, Bool.and_self, cond_true, beq_self_eq_true]; rfl)) (by first | rfl | (simp; done)) ?_)
          clear hl a; intro a hl
          refine wl (wl_val hl rfl trivial (r_move hl rfl) ?_)
          clear hl a; intro a hl
          refine wl (w_call hl hh rfl trivial rfl cal47 rfl (at_m s.una f fb (skG sk os) _ (by omega) (by omega) (by omega)) (by repeat (first | exact keeps_nil | apply keeps_cons (by repeat (first | exact find_head | apply find_tail)) (by first  | rfl) | exact keeps_self | apply keeps_mv)) (hh.mem _ _ (Find.mem (by repeat (first | exact find_head | apply find_tail)))) ?_)
          clear hl hh a w; intro vc Fc a w hR hl hh
          obtain ⟨rfl, rfl⟩ := hR
          try simp only [List.cons_append, List.nil_append] at hh
          rw [at_q (by omega)] at hl
          refine w_nil ?_
          have hl2 := hl.add (t := 0) (hl.add (t := 5) (hl.add (t := 6) (hl.add (t := 7) (hl.add (t := 8) (hl.add (t := 83) (hl.nil) rfl) rfl) rfl) rfl) rfl) rfl; clear hl; have hl := hl2; clear hl2
          refine then_normal ?_
          refine c_cond hl rfl ?_ ?_
          · intro hc3
            try simp only [decide_eq_true_eq, decide_eq_false_iff_not, Bool.not_eq_true', Bool.not_eq_false', Bool.not_eq_true, Bool.not_eq_false, Bool.and_eq_true, Bool.or_eq_true, Bool.and_eq_false_iff, Bool.or_eq_false_iff, Bool.not_not, ne_eq, Int.not_lt, Int.not_le, Decidable.not_not, beq_iff_eq, bne_iff_ne] at hc3
            refine wp_exit ?_
            refine then_exit ?_
            refine blk_exit ?_
            refine then_normal ?_
            refine c_region ?_
            refine wl (wl_val hl rfl trivial (r_move hl rfl) ?_)
            clear hl a; intro a hl
            first | refine wl (wl_val hl rfl trivial (r_add hl rfl rfl (by simp only [Fits]; omega)) ?_) | refine wl (wl_val hl rfl trivial (r_addW hl rfl rfl) ?_)
            clear hl a; intro a hl
            refine wl (wl_val hl rfl trivial (r_assign hl rfl) ?_)
            clear hl a; intro a hl
            refine w_nil ?_
            have hl2 := hl.add (t := 0) (hl.add (t := 5) (hl.add (t := 6) (hl.add (t := 7) (hl.add (t := 8) (hl.nil) rfl) rfl) rfl) rfl) rfl; clear hl; have hl := hl2; clear hl2
            refine then_normal ?_
            refine ⟨k + 1, (by omega), (by omega), hl.addE (t := 8) (hl.addE (t := 7) (hl.addE (t := 0) (hl.addE (t := 5) (hl.addE (t := 6) (hl.nil) rfl (by first | rfl | (exact congrArg (Value.int .i64) (show s.una + (k : Int) + 1 = s.una + ((k + 1 : Nat) : Int) by omega)) | (exact congrArg (fun z : Nat => Value.int .i64 (z : Int)) (pcn_g (by assumption)).symm) | (exact congrArg (fun z : Nat => Value.int .i64 (z : Int)) (pcn_00 (by assumption) (by assumption) (by omega)).symm) | (exact congrArg (Value.int .i64) (pcn_01 (by assumption) (by assumption) (by omega)).symm) | (exact congrArg (Value.int .i64) (pcn_10 (by assumption) (by assumption) (by omega)).symm) | (exact congrArg (Value.int .i64) (pcn_11 (by assumption) (by assumption) (by omega)).symm))) rfl (by first | rfl | (exact congrArg (Value.int .i64) (show s.una + (k : Int) + 1 = s.una + ((k + 1 : Nat) : Int) by omega)) | (exact congrArg (fun z : Nat => Value.int .i64 (z : Int)) (pcn_g (by assumption)).symm) | (exact congrArg (fun z : Nat => Value.int .i64 (z : Int)) (pcn_00 (by assumption) (by assumption) (by omega)).symm) | (exact congrArg (Value.int .i64) (pcn_01 (by assumption) (by assumption) (by omega)).symm) | (exact congrArg (Value.int .i64) (pcn_10 (by assumption) (by assumption) (by omega)).symm) | (exact congrArg (Value.int .i64) (pcn_11 (by assumption) (by assumption) (by omega)).symm))) rfl (by first | rfl | (exact congrArg (Value.int .i64) (show s.una + (k : Int) + 1 = s.una + ((k + 1 : Nat) : Int) by omega)) | (exact congrArg (fun z : Nat => Value.int .i64 (z : Int)) (pcn_g (by assumption)).symm) | (exact congrArg (fun z : Nat => Value.int .i64 (z : Int)) (pcn_00 (by assumption) (by assumption) (by omega)).symm) | (exact congrArg (Value.int .i64) (pcn_01 (by assumption) (by assumption) (by omega)).symm) | (exact congrArg (Value.int .i64) (pcn_10 (by assumption) (by assumption) (by omega)).symm) | (exact congrArg (Value.int .i64) (pcn_11 (by assumption) (by assumption) (by omega)).symm))) rfl (by first | rfl | (exact congrArg (Value.int .i64) (show s.una + (k : Int) + 1 = s.una + ((k + 1 : Nat) : Int) by omega)) | (exact congrArg (fun z : Nat => Value.int .i64 (z : Int)) (pcn_g (by assumption)).symm) | (exact congrArg (fun z : Nat => Value.int .i64 (z : Int)) (pcn_00 (by assumption) (by assumption) (by omega)).symm) | (exact congrArg (Value.int .i64) (pcn_01 (by assumption) (by assumption) (by omega)).symm) | (exact congrArg (Value.int .i64) (pcn_10 (by assumption) (by assumption) (by omega)).symm) | (exact congrArg (Value.int .i64) (pcn_11 (by assumption) (by assumption) (by omega)).symm))) rfl (by first | rfl | (exact congrArg (Value.int .i64) (show s.una + (k : Int) + 1 = s.una + ((k + 1 : Nat) : Int) by omega)) | (exact congrArg (fun z : Nat => Value.int .i64 (z : Int)) (pcn_g (by assumption)).symm) | (exact congrArg (fun z : Nat => Value.int .i64 (z : Int)) (pcn_00 (by assumption) (by assumption) (by omega)).symm) | (exact congrArg (Value.int .i64) (pcn_01 (by assumption) (by assumption) (by omega)).symm) | (exact congrArg (Value.int .i64) (pcn_10 (by assumption) (by assumption) (by omega)).symm) | (exact congrArg (Value.int .i64) (pcn_11 (by assumption) (by assumption) (by omega)).symm)), hh.keep (by repeat (first | exact keeps_nil | apply keeps_cons (by repeat (first | exact find_head | apply find_tail)) (by first  | rfl) | exact keeps_self | apply keeps_mv))⟩
          · intro hc3
            try simp only [decide_eq_true_eq, decide_eq_false_iff_not, Bool.not_eq_true', Bool.not_eq_false', Bool.not_eq_true, Bool.not_eq_false, Bool.and_eq_true, Bool.or_eq_true, Bool.and_eq_false_iff, Bool.or_eq_false_iff, Bool.not_not, ne_eq, Int.not_lt, Int.not_le, Decidable.not_not, beq_iff_eq, bne_iff_ne] at hc3
            refine wp_skip ?_
            refine then_normal ?_
            refine c_seq ?_
            refine c_seq ?_
            refine c_region ?_
            refine wl (w_loadA hl hh rfl trivial agg79 rfl (by repeat (first | exact find_head | apply find_tail)) (by first | (simp only [List.getElem?_cons_zero, List.getElem?_cons_succ, Value.cells, List.take_zero, List.take_succ_cons, List.take_nil, List.drop_zero, List.drop_succ_cons, List.drop_nil, List.length_cons, List.length_nil, List.cons_append, List.nil_append, List.append_nil, Nat.zero_add, Nat.add_zero, Nat.reduceAdd, Nat.reduceBEq, Nat.reduceEqDiff, Nat.ble, BEq.rfl, Bool.and_true, Bool.and_self, cond_true, beq_self_eq_true]; rfl)) (by first | rfl | (simp; done)) ?_)
            clear hl a; intro a hl
            refine wl (wl_val hl rfl trivial (r_move hl rfl) ?_)
            clear hl a; intro a hl
            refine wl (w_call hl hh rfl trivial rfl cal47 rfl (at_m s.una f lb (lsG s f (skG sk os)) _ (by omega) (by omega) (by omega)) (by repeat (first | exact keeps_nil | apply keeps_cons (by repeat (first | exact find_head | apply find_tail)) (by first  | rfl) | exact keeps_self | apply keeps_mv)) (hh.mem _ _ (Find.mem (by repeat (first | exact find_head | apply find_tail)))) ?_)
            clear hl hh a w; intro vc Fc a w hR hl hh
            obtain ⟨rfl, rfl⟩ := hR
            try simp only [List.cons_append, List.nil_append] at hh
            rw [at_q (by omega)] at hl
            refine wl (wl_val hl rfl trivial (r_not hl rfl) ?_)
            clear hl a; intro a hl
            refine w_nil ?_
            have hl2 := hl.add (t := 0) (hl.add (t := 5) (hl.add (t := 6) (hl.add (t := 7) (hl.add (t := 8) (hl.add (t := 87) (hl.nil) rfl) rfl) rfl) rfl) rfl) rfl; clear hl; have hl := hl2; clear hl2
            refine then_normal ?_
            refine c_cond hl rfl ?_ ?_
            · intro hc4
              try simp only [decide_eq_true_eq, decide_eq_false_iff_not, Bool.not_eq_true', Bool.not_eq_false', Bool.not_eq_true, Bool.not_eq_false, Bool.and_eq_true, Bool.or_eq_true, Bool.and_eq_false_iff, Bool.or_eq_false_iff, Bool.not_not, ne_eq, Int.not_lt, Int.not_le, Decidable.not_not, beq_iff_eq, bne_iff_ne] at hc4
              refine c_region ?_
              refine wl (wl_val hl rfl trivial (r_move hl rfl) ?_)
              clear hl a; intro a hl
              first | refine wl (wl_val hl rfl trivial (r_add hl rfl rfl (by simp only [Fits]; omega)) ?_) | refine wl (wl_val hl rfl trivial (r_addW hl rfl rfl) ?_)
              clear hl a; intro a hl
              refine wl (wl_val hl rfl trivial (r_assign hl rfl) ?_)
              clear hl a; intro a hl
              refine w_nil ?_
              have hl2 := hl.add (t := 0) (hl.add (t := 5) (hl.add (t := 6) (hl.add (t := 7) (hl.add (t := 8) (hl.nil) rfl) rfl) rfl) rfl) rfl; clear hl; have hl := hl2; clear hl2
              refine then_normal ?_
              refine c_seq ?_
              refine c_region ?_
              refine wl (wl_val hl rfl trivial (r_move hl rfl) ?_)
              clear hl a; intro a hl
              refine wl (wl_val hl rfl trivial (r_move hl rfl) ?_)
              clear hl a; intro a hl
              refine wl (wl_val hl rfl trivial (r_nilCheck hl rfl) ?_)
              clear hl a; intro a hl
              refine wl (wl_val hl rfl trivial (r_field hl rfl fld69_12) ?_)
              clear hl a; intro a hl
              first | refine wl (w_load hl hh rfl trivial one2 rfl (by repeat (first | exact find_head | apply find_tail)) (by first | rfl) ?_) | refine wl (w_loadR hl hh rfl trivial one2 rfl hpm (by simp) rfl ?_)
              clear hl a; intro a hl
              refine wl (wl_val hl rfl trivial (r_lss hl rfl rfl) ?_)
              clear hl a; intro a hl
              refine w_nil ?_
              have hl2 := hl.add (t := 0) (hl.add (t := 5) (hl.add (t := 6) (hl.add (t := 7) (hl.add (t := 8) (hl.add (t := 95) (hl.nil) rfl) rfl) rfl) rfl) rfl) rfl; clear hl; have hl := hl2; clear hl2
              refine then_normal ?_
              refine c_cond hl rfl ?_ ?_
              · intro hc5
                try simp only [decide_eq_true_eq, decide_eq_false_iff_not, Bool.not_eq_true', Bool.not_eq_false', Bool.not_eq_true, Bool.not_eq_false, Bool.and_eq_true, Bool.or_eq_true, Bool.and_eq_false_iff, Bool.or_eq_false_iff, Bool.not_not, ne_eq, Int.not_lt, Int.not_le, Decidable.not_not, beq_iff_eq, bne_iff_ne] at hc5
                refine c_region ?_
                refine wl (wl_val hl rfl trivial (r_move hl rfl) ?_)
                clear hl a; intro a hl
                first | refine wl (wl_val hl rfl trivial (r_add hl rfl rfl (by simp only [Fits]; omega)) ?_) | refine wl (wl_val hl rfl trivial (r_addW hl rfl rfl) ?_)
                clear hl a; intro a hl
                refine wl (wl_val hl rfl trivial (r_assign hl rfl) ?_)
                clear hl a; intro a hl
                refine w_nil ?_
                have hl2 := hl.add (t := 0) (hl.add (t := 5) (hl.add (t := 6) (hl.add (t := 7) (hl.add (t := 8) (hl.nil) rfl) rfl) rfl) rfl) rfl; clear hl; have hl := hl2; clear hl2
                refine blk_normal ?_
                refine then_normal ?_
                refine c_region ?_
                refine wl (wl_val hl rfl trivial (r_move hl rfl) ?_)
                clear hl a; intro a hl
                first | refine wl (wl_val hl rfl trivial (r_add hl rfl rfl (by simp only [Fits]; omega)) ?_) | refine wl (wl_val hl rfl trivial (r_addW hl rfl rfl) ?_)
                clear hl a; intro a hl
                refine wl (wl_val hl rfl trivial (r_assign hl rfl) ?_)
                clear hl a; intro a hl
                refine w_nil ?_
                have hl2 := hl.add (t := 0) (hl.add (t := 5) (hl.add (t := 6) (hl.add (t := 7) (hl.add (t := 8) (hl.nil) rfl) rfl) rfl) rfl) rfl; clear hl; have hl := hl2; clear hl2
                refine then_normal ?_
                refine ⟨k + 1, (by omega), (by omega), hl.addE (t := 8) (hl.addE (t := 7) (hl.addE (t := 0) (hl.addE (t := 5) (hl.addE (t := 6) (hl.nil) rfl (by first | rfl | (exact congrArg (Value.int .i64) (show s.una + (k : Int) + 1 = s.una + ((k + 1 : Nat) : Int) by omega)) | (exact congrArg (fun z : Nat => Value.int .i64 (z : Int)) (pcn_g (by assumption)).symm) | (exact congrArg (fun z : Nat => Value.int .i64 (z : Int)) (pcn_00 (by assumption) (by assumption) (by omega)).symm) | (exact congrArg (Value.int .i64) (pcn_01 (by assumption) (by assumption) (by omega)).symm) | (exact congrArg (Value.int .i64) (pcn_10 (by assumption) (by assumption) (by omega)).symm) | (exact congrArg (Value.int .i64) (pcn_11 (by assumption) (by assumption) (by omega)).symm))) rfl (by first | rfl | (exact congrArg (Value.int .i64) (show s.una + (k : Int) + 1 = s.una + ((k + 1 : Nat) : Int) by omega)) | (exact congrArg (fun z : Nat => Value.int .i64 (z : Int)) (pcn_g (by assumption)).symm) | (exact congrArg (fun z : Nat => Value.int .i64 (z : Int)) (pcn_00 (by assumption) (by assumption) (by omega)).symm) | (exact congrArg (Value.int .i64) (pcn_01 (by assumption) (by assumption) (by omega)).symm) | (exact congrArg (Value.int .i64) (pcn_10 (by assumption) (by assumption) (by omega)).symm) | (exact congrArg (Value.int .i64) (pcn_11 (by assumption) (by assumption) (by omega)).symm))) rfl (by first | rfl | (exact congrArg (Value.int .i64) (show s.una + (k : Int) + 1 = s.una + ((k + 1 : Nat) : Int) by omega)) | (exact congrArg (fun z : Nat => Value.int .i64 (z : Int)) (pcn_g (by assumption)).symm) | (exact congrArg (fun z : Nat => Value.int .i64 (z : Int)) (pcn_00 (by assumption) (by assumption) (by omega)).symm) | (exact congrArg (Value.int .i64) (pcn_01 (by assumption) (by assumption) (by omega)).symm) | (exact congrArg (Value.int .i64) (pcn_10 (by assumption) (by assumption) (by omega)).symm) | (exact congrArg (Value.int .i64) (pcn_11 (by assumption) (by assumption) (by omega)).symm))) rfl (by first | rfl | (exact congrArg (Value.int .i64) (show s.una + (k : Int) + 1 = s.una + ((k + 1 : Nat) : Int) by omega)) | (exact congrArg (fun z : Nat => Value.int .i64 (z : Int)) (pcn_g (by assumption)).symm) | (exact congrArg (fun z : Nat => Value.int .i64 (z : Int)) (pcn_00 (by assumption) (by assumption) (by omega)).symm) | (exact congrArg (Value.int .i64) (pcn_01 (by assumption) (by assumption) (by omega)).symm) | (exact congrArg (Value.int .i64) (pcn_10 (by assumption) (by assumption) (by omega)).symm) | (exact congrArg (Value.int .i64) (pcn_11 (by assumption) (by assumption) (by omega)).symm))) rfl (by first | rfl | (exact congrArg (Value.int .i64) (show s.una + (k : Int) + 1 = s.una + ((k + 1 : Nat) : Int) by omega)) | (exact congrArg (fun z : Nat => Value.int .i64 (z : Int)) (pcn_g (by assumption)).symm) | (exact congrArg (fun z : Nat => Value.int .i64 (z : Int)) (pcn_00 (by assumption) (by assumption) (by omega)).symm) | (exact congrArg (Value.int .i64) (pcn_01 (by assumption) (by assumption) (by omega)).symm) | (exact congrArg (Value.int .i64) (pcn_10 (by assumption) (by assumption) (by omega)).symm) | (exact congrArg (Value.int .i64) (pcn_11 (by assumption) (by assumption) (by omega)).symm)), hh.keep (by repeat (first | exact keeps_nil | apply keeps_cons (by repeat (first | exact find_head | apply find_tail)) (by first  | rfl) | exact keeps_self | apply keeps_mv))⟩
              · intro hc5
                try simp only [decide_eq_true_eq, decide_eq_false_iff_not, Bool.not_eq_true', Bool.not_eq_false', Bool.not_eq_true, Bool.not_eq_false, Bool.and_eq_true, Bool.or_eq_true, Bool.and_eq_false_iff, Bool.or_eq_false_iff, Bool.not_not, ne_eq, Int.not_lt, Int.not_le, Decidable.not_not, beq_iff_eq, bne_iff_ne] at hc5
                refine wp_skip ?_
                refine blk_normal ?_
                refine then_normal ?_
                refine c_region ?_
                refine wl (wl_val hl rfl trivial (r_move hl rfl) ?_)
                clear hl a; intro a hl
                first | refine wl (wl_val hl rfl trivial (r_add hl rfl rfl (by simp only [Fits]; omega)) ?_) | refine wl (wl_val hl rfl trivial (r_addW hl rfl rfl) ?_)
                clear hl a; intro a hl
                refine wl (wl_val hl rfl trivial (r_assign hl rfl) ?_)
                clear hl a; intro a hl
                refine w_nil ?_
                have hl2 := hl.add (t := 0) (hl.add (t := 5) (hl.add (t := 6) (hl.add (t := 7) (hl.add (t := 8) (hl.nil) rfl) rfl) rfl) rfl) rfl; clear hl; have hl := hl2; clear hl2
                refine then_normal ?_
                refine ⟨k + 1, (by omega), (by omega), hl.addE (t := 8) (hl.addE (t := 7) (hl.addE (t := 0) (hl.addE (t := 5) (hl.addE (t := 6) (hl.nil) rfl (by first | rfl | (exact congrArg (Value.int .i64) (show s.una + (k : Int) + 1 = s.una + ((k + 1 : Nat) : Int) by omega)) | (exact congrArg (fun z : Nat => Value.int .i64 (z : Int)) (pcn_g (by assumption)).symm) | (exact congrArg (fun z : Nat => Value.int .i64 (z : Int)) (pcn_00 (by assumption) (by assumption) (by omega)).symm) | (exact congrArg (Value.int .i64) (pcn_01 (by assumption) (by assumption) (by omega)).symm) | (exact congrArg (Value.int .i64) (pcn_10 (by assumption) (by assumption) (by omega)).symm) | (exact congrArg (Value.int .i64) (pcn_11 (by assumption) (by assumption) (by omega)).symm))) rfl (by first | rfl | (exact congrArg (Value.int .i64) (show s.una + (k : Int) + 1 = s.una + ((k + 1 : Nat) : Int) by omega)) | (exact congrArg (fun z : Nat => Value.int .i64 (z : Int)) (pcn_g (by assumption)).symm) | (exact congrArg (fun z : Nat => Value.int .i64 (z : Int)) (pcn_00 (by assumption) (by assumption) (by omega)).symm) | (exact congrArg (Value.int .i64) (pcn_01 (by assumption) (by assumption) (by omega)).symm) | (exact congrArg (Value.int .i64) (pcn_10 (by assumption) (by assumption) (by omega)).symm) | (exact congrArg (Value.int .i64) (pcn_11 (by assumption) (by assumption) (by omega)).symm))) rfl (by first | rfl | (exact congrArg (Value.int .i64) (show s.una + (k : Int) + 1 = s.una + ((k + 1 : Nat) : Int) by omega)) | (exact congrArg (fun z : Nat => Value.int .i64 (z : Int)) (pcn_g (by assumption)).symm) | (exact congrArg (fun z : Nat => Value.int .i64 (z : Int)) (pcn_00 (by assumption) (by assumption) (by omega)).symm) | (exact congrArg (Value.int .i64) (pcn_01 (by assumption) (by assumption) (by omega)).symm) | (exact congrArg (Value.int .i64) (pcn_10 (by assumption) (by assumption) (by omega)).symm) | (exact congrArg (Value.int .i64) (pcn_11 (by assumption) (by assumption) (by omega)).symm))) rfl (by first | rfl | (exact congrArg (Value.int .i64) (show s.una + (k : Int) + 1 = s.una + ((k + 1 : Nat) : Int) by omega)) | (exact congrArg (fun z : Nat => Value.int .i64 (z : Int)) (pcn_g (by assumption)).symm) | (exact congrArg (fun z : Nat => Value.int .i64 (z : Int)) (pcn_00 (by assumption) (by assumption) (by omega)).symm) | (exact congrArg (Value.int .i64) (pcn_01 (by assumption) (by assumption) (by omega)).symm) | (exact congrArg (Value.int .i64) (pcn_10 (by assumption) (by assumption) (by omega)).symm) | (exact congrArg (Value.int .i64) (pcn_11 (by assumption) (by assumption) (by omega)).symm))) rfl (by first | rfl | (exact congrArg (Value.int .i64) (show s.una + (k : Int) + 1 = s.una + ((k + 1 : Nat) : Int) by omega)) | (exact congrArg (fun z : Nat => Value.int .i64 (z : Int)) (pcn_g (by assumption)).symm) | (exact congrArg (fun z : Nat => Value.int .i64 (z : Int)) (pcn_00 (by assumption) (by assumption) (by omega)).symm) | (exact congrArg (Value.int .i64) (pcn_01 (by assumption) (by assumption) (by omega)).symm) | (exact congrArg (Value.int .i64) (pcn_10 (by assumption) (by assumption) (by omega)).symm) | (exact congrArg (Value.int .i64) (pcn_11 (by assumption) (by assumption) (by omega)).symm)), hh.keep (by repeat (first | exact keeps_nil | apply keeps_cons (by repeat (first | exact find_head | apply find_tail)) (by first  | rfl) | exact keeps_self | apply keeps_mv))⟩
            · intro hc4
              try simp only [decide_eq_true_eq, decide_eq_false_iff_not, Bool.not_eq_true', Bool.not_eq_false', Bool.not_eq_true, Bool.not_eq_false, Bool.and_eq_true, Bool.or_eq_true, Bool.and_eq_false_iff, Bool.or_eq_false_iff, Bool.not_not, ne_eq, Int.not_lt, Int.not_le, Decidable.not_not, beq_iff_eq, bne_iff_ne] at hc4
              refine wp_skip ?_
              refine then_normal ?_
              refine c_seq ?_
              refine c_region ?_
              refine wl (wl_val hl rfl trivial (r_move hl rfl) ?_)
              clear hl a; intro a hl
              refine wl (wl_val hl rfl trivial (r_move hl rfl) ?_)
              clear hl a; intro a hl
              refine wl (wl_val hl rfl trivial (r_nilCheck hl rfl) ?_)
              clear hl a; intro a hl
              refine wl (wl_val hl rfl trivial (r_field hl rfl fld69_12) ?_)
              clear hl a; intro a hl
              first | refine wl (w_load hl hh rfl trivial one2 rfl (by repeat (first | exact find_head | apply find_tail)) (by first | rfl) ?_) | refine wl (w_loadR hl hh rfl trivial one2 rfl hpm (by simp) rfl ?_)
              clear hl a; intro a hl
              refine wl (wl_val hl rfl trivial (r_lss hl rfl rfl) ?_)
              clear hl a; intro a hl
              refine w_nil ?_
              have hl2 := hl.add (t := 0) (hl.add (t := 5) (hl.add (t := 6) (hl.add (t := 7) (hl.add (t := 8) (hl.add (t := 95) (hl.nil) rfl) rfl) rfl) rfl) rfl) rfl; clear hl; have hl := hl2; clear hl2
              refine then_normal ?_
              refine c_cond hl rfl ?_ ?_
              · intro hc5
                try simp only [decide_eq_true_eq, decide_eq_false_iff_not, Bool.not_eq_true', Bool.not_eq_false', Bool.not_eq_true, Bool.not_eq_false, Bool.and_eq_true, Bool.or_eq_true, Bool.and_eq_false_iff, Bool.or_eq_false_iff, Bool.not_not, ne_eq, Int.not_lt, Int.not_le, Decidable.not_not, beq_iff_eq, bne_iff_ne] at hc5
                refine c_region ?_
                refine wl (wl_val hl rfl trivial (r_move hl rfl) ?_)
                clear hl a; intro a hl
                first | refine wl (wl_val hl rfl trivial (r_add hl rfl rfl (by simp only [Fits]; omega)) ?_) | refine wl (wl_val hl rfl trivial (r_addW hl rfl rfl) ?_)
                clear hl a; intro a hl
                refine wl (wl_val hl rfl trivial (r_assign hl rfl) ?_)
                clear hl a; intro a hl
                refine w_nil ?_
                have hl2 := hl.add (t := 0) (hl.add (t := 5) (hl.add (t := 6) (hl.add (t := 7) (hl.add (t := 8) (hl.nil) rfl) rfl) rfl) rfl) rfl; clear hl; have hl := hl2; clear hl2
                refine blk_normal ?_
                refine then_normal ?_
                refine c_region ?_
                refine wl (wl_val hl rfl trivial (r_move hl rfl) ?_)
                clear hl a; intro a hl
                first | refine wl (wl_val hl rfl trivial (r_add hl rfl rfl (by simp only [Fits]; omega)) ?_) | refine wl (wl_val hl rfl trivial (r_addW hl rfl rfl) ?_)
                clear hl a; intro a hl
                refine wl (wl_val hl rfl trivial (r_assign hl rfl) ?_)
                clear hl a; intro a hl
                refine w_nil ?_
                have hl2 := hl.add (t := 0) (hl.add (t := 5) (hl.add (t := 6) (hl.add (t := 7) (hl.add (t := 8) (hl.nil) rfl) rfl) rfl) rfl) rfl; clear hl; have hl := hl2; clear hl2
                refine then_normal ?_
                refine ⟨k + 1, (by omega), (by omega), hl.addE (t := 8) (hl.addE (t := 7) (hl.addE (t := 0) (hl.addE (t := 5) (hl.addE (t := 6) (hl.nil) rfl (by first | rfl | (exact congrArg (Value.int .i64) (show s.una + (k : Int) + 1 = s.una + ((k + 1 : Nat) : Int) by omega)) | (exact congrArg (fun z : Nat => Value.int .i64 (z : Int)) (pcn_g (by assumption)).symm) | (exact congrArg (fun z : Nat => Value.int .i64 (z : Int)) (pcn_00 (by assumption) (by assumption) (by omega)).symm) | (exact congrArg (Value.int .i64) (pcn_01 (by assumption) (by assumption) (by omega)).symm) | (exact congrArg (Value.int .i64) (pcn_10 (by assumption) (by assumption) (by omega)).symm) | (exact congrArg (Value.int .i64) (pcn_11 (by assumption) (by assumption) (by omega)).symm))) rfl (by first | rfl | (exact congrArg (Value.int .i64) (show s.una + (k : Int) + 1 = s.una + ((k + 1 : Nat) : Int) by omega)) | (exact congrArg (fun z : Nat => Value.int .i64 (z : Int)) (pcn_g (by assumption)).symm) | (exact congrArg (fun z : Nat => Value.int .i64 (z : Int)) (pcn_00 (by assumption) (by assumption) (by omega)).symm) | (exact congrArg (Value.int .i64) (pcn_01 (by assumption) (by assumption) (by omega)).symm) | (exact congrArg (Value.int .i64) (pcn_10 (by assumption) (by assumption) (by omega)).symm) | (exact congrArg (Value.int .i64) (pcn_11 (by assumption) (by assumption) (by omega)).symm))) rfl (by first | rfl | (exact congrArg (Value.int .i64) (show s.una + (k : Int) + 1 = s.una + ((k + 1 : Nat) : Int) by omega)) | (exact congrArg (fun z : Nat => Value.int .i64 (z : Int)) (pcn_g (by assumption)).symm) | (exact congrArg (fun z : Nat => Value.int .i64 (z : Int)) (pcn_00 (by assumption) (by assumption) (by omega)).symm) | (exact congrArg (Value.int .i64) (pcn_01 (by assumption) (by assumption) (by omega)).symm) | (exact congrArg (Value.int .i64) (pcn_10 (by assumption) (by assumption) (by omega)).symm) | (exact congrArg (Value.int .i64) (pcn_11 (by assumption) (by assumption) (by omega)).symm))) rfl (by first | rfl | (exact congrArg (Value.int .i64) (show s.una + (k : Int) + 1 = s.una + ((k + 1 : Nat) : Int) by omega)) | (exact congrArg (fun z : Nat => Value.int .i64 (z : Int)) (pcn_g (by assumption)).symm) | (exact congrArg (fun z : Nat => Value.int .i64 (z : Int)) (pcn_00 (by assumption) (by assumption) (by omega)).symm) | (exact congrArg (Value.int .i64) (pcn_01 (by assumption) (by assumption) (by omega)).symm) | (exact congrArg (Value.int .i64) (pcn_10 (by assumption) (by assumption) (by omega)).symm) | (exact congrArg (Value.int .i64) (pcn_11 (by assumption) (by assumption) (by omega)).symm))) rfl (by first | rfl | (exact congrArg (Value.int .i64) (show s.una + (k : Int) + 1 = s.una + ((k + 1 : Nat) : Int) by omega)) | (exact congrArg (fun z : Nat => Value.int .i64 (z : Int)) (pcn_g (by assumption)).symm) | (exact congrArg (fun z : Nat => Value.int .i64 (z : Int)) (pcn_00 (by assumption) (by assumption) (by omega)).symm) | (exact congrArg (Value.int .i64) (pcn_01 (by assumption) (by assumption) (by omega)).symm) | (exact congrArg (Value.int .i64) (pcn_10 (by assumption) (by assumption) (by omega)).symm) | (exact congrArg (Value.int .i64) (pcn_11 (by assumption) (by assumption) (by omega)).symm)), hh.keep (by repeat (first | exact keeps_nil | apply keeps_cons (by repeat (first | exact find_head | apply find_tail)) (by first  | rfl) | exact keeps_self | apply keeps_mv))⟩
              · intro hc5
                try simp only [decide_eq_true_eq, decide_eq_false_iff_not, Bool.not_eq_true', Bool.not_eq_false', Bool.not_eq_true, Bool.not_eq_false, Bool.and_eq_true, Bool.or_eq_true, Bool.and_eq_false_iff, Bool.or_eq_false_iff, Bool.not_not, ne_eq, Int.not_lt, Int.not_le, Decidable.not_not, beq_iff_eq, bne_iff_ne] at hc5
                refine wp_skip ?_
                refine blk_normal ?_
                refine then_normal ?_
                refine c_region ?_
                refine wl (wl_val hl rfl trivial (r_move hl rfl) ?_)
                clear hl a; intro a hl
                first | refine wl (wl_val hl rfl trivial (r_add hl rfl rfl (by simp only [Fits]; omega)) ?_) | refine wl (wl_val hl rfl trivial (r_addW hl rfl rfl) ?_)
                clear hl a; intro a hl
                refine wl (wl_val hl rfl trivial (r_assign hl rfl) ?_)
                clear hl a; intro a hl
                refine w_nil ?_
                have hl2 := hl.add (t := 0) (hl.add (t := 5) (hl.add (t := 6) (hl.add (t := 7) (hl.add (t := 8) (hl.nil) rfl) rfl) rfl) rfl) rfl; clear hl; have hl := hl2; clear hl2
                refine then_normal ?_
                refine ⟨k + 1, (by omega), (by omega), hl.addE (t := 8) (hl.addE (t := 7) (hl.addE (t := 0) (hl.addE (t := 5) (hl.addE (t := 6) (hl.nil) rfl (by first | rfl | (exact congrArg (Value.int .i64) (show s.una + (k : Int) + 1 = s.una + ((k + 1 : Nat) : Int) by omega)) | (exact congrArg (fun z : Nat => Value.int .i64 (z : Int)) (pcn_g (by assumption)).symm) | (exact congrArg (fun z : Nat => Value.int .i64 (z : Int)) (pcn_00 (by assumption) (by assumption) (by omega)).symm) | (exact congrArg (Value.int .i64) (pcn_01 (by assumption) (by assumption) (by omega)).symm) | (exact congrArg (Value.int .i64) (pcn_10 (by assumption) (by assumption) (by omega)).symm) | (exact congrArg (Value.int .i64) (pcn_11 (by assumption) (by assumption) (by omega)).symm))) rfl (by first | rfl | (exact congrArg (Value.int .i64) (show s.una + (k : Int) + 1 = s.una + ((k + 1 : Nat) : Int) by omega)) | (exact congrArg (fun z : Nat => Value.int .i64 (z : Int)) (pcn_g (by assumption)).symm) | (exact congrArg (fun z : Nat => Value.int .i64 (z : Int)) (pcn_00 (by assumption) (by assumption) (by omega)).symm) | (exact congrArg (Value.int .i64) (pcn_01 (by assumption) (by assumption) (by omega)).symm) | (exact congrArg (Value.int .i64) (pcn_10 (by assumption) (by assumption) (by omega)).symm) | (exact congrArg (Value.int .i64) (pcn_11 (by assumption) (by assumption) (by omega)).symm))) rfl (by first | rfl | (exact congrArg (Value.int .i64) (show s.una + (k : Int) + 1 = s.una + ((k + 1 : Nat) : Int) by omega)) | (exact congrArg (fun z : Nat => Value.int .i64 (z : Int)) (pcn_g (by assumption)).symm) | (exact congrArg (fun z : Nat => Value.int .i64 (z : Int)) (pcn_00 (by assumption) (by assumption) (by omega)).symm) | (exact congrArg (Value.int .i64) (pcn_01 (by assumption) (by assumption) (by omega)).symm) | (exact congrArg (Value.int .i64) (pcn_10 (by assumption) (by assumption) (by omega)).symm) | (exact congrArg (Value.int .i64) (pcn_11 (by assumption) (by assumption) (by omega)).symm))) rfl (by first | rfl | (exact congrArg (Value.int .i64) (show s.una + (k : Int) + 1 = s.una + ((k + 1 : Nat) : Int) by omega)) | (exact congrArg (fun z : Nat => Value.int .i64 (z : Int)) (pcn_g (by assumption)).symm) | (exact congrArg (fun z : Nat => Value.int .i64 (z : Int)) (pcn_00 (by assumption) (by assumption) (by omega)).symm) | (exact congrArg (Value.int .i64) (pcn_01 (by assumption) (by assumption) (by omega)).symm) | (exact congrArg (Value.int .i64) (pcn_10 (by assumption) (by assumption) (by omega)).symm) | (exact congrArg (Value.int .i64) (pcn_11 (by assumption) (by assumption) (by omega)).symm))) rfl (by first | rfl | (exact congrArg (Value.int .i64) (show s.una + (k : Int) + 1 = s.una + ((k + 1 : Nat) : Int) by omega)) | (exact congrArg (fun z : Nat => Value.int .i64 (z : Int)) (pcn_g (by assumption)).symm) | (exact congrArg (fun z : Nat => Value.int .i64 (z : Int)) (pcn_00 (by assumption) (by assumption) (by omega)).symm) | (exact congrArg (Value.int .i64) (pcn_01 (by assumption) (by assumption) (by omega)).symm) | (exact congrArg (Value.int .i64) (pcn_10 (by assumption) (by assumption) (by omega)).symm) | (exact congrArg (Value.int .i64) (pcn_11 (by assumption) (by assumption) (by omega)).symm)), hh.keep (by repeat (first | exact keeps_nil | apply keeps_cons (by repeat (first | exact find_head | apply find_tail)) (by first  | rfl) | exact keeps_self | apply keeps_mv))⟩
        · intro hc2
          try simp only [decide_eq_true_eq, decide_eq_false_iff_not, Bool.not_eq_true', Bool.not_eq_false', Bool.not_eq_true, Bool.not_eq_false, Bool.and_eq_true, Bool.or_eq_true, Bool.and_eq_false_iff, Bool.or_eq_false_iff, Bool.not_not, ne_eq, Int.not_lt, Int.not_le, Decidable.not_not, beq_iff_eq, bne_iff_ne] at hc2
          obtain rfl : k = f := by omega
          refine wp_exit ?_
          refine then_exit ?_
          refine then_exit ?_
          refine blk_exit ?_
          refine then_normal ?_
          refine c_seq ?_
          refine c_region ?_
          refine wl (wl_val hl rfl trivial (r_move hl rfl) ?_)
          clear hl a; intro a hl
          refine wl (wl_val hl rfl trivial (r_assign hl rfl) ?_)
          clear hl a; intro a hl
          refine w_nil ?_
          have hl2 := hl.add (t := 2) (hl.nil) rfl; clear hl; have hl := hl2; clear hl2
          refine then_normal ?_
          refine wp_ret ?_
          refine f_ret1 (F' := []) hl hh rfl rfl (by repeat (first | exact keeps_nil | apply keeps_cons (by repeat (first | exact find_head | apply find_tail)) (by first  | rfl) | exact keeps_self | apply keeps_mv)) ?_
          exact ⟨rfl, rfl⟩
    · intro hg3; clear hl; intro hl
      try simp only [decide_eq_true_eq, decide_eq_false_iff_not, Bool.not_eq_true', Bool.not_eq_false', Bool.not_eq_true, Bool.not_eq_false, Bool.and_eq_true, Bool.or_eq_true, Bool.and_eq_false_iff, Bool.or_eq_false_iff, Bool.not_not, ne_eq, Int.not_lt, Int.not_le, Decidable.not_not, beq_iff_eq, bne_iff_ne] at hg3
      refine wl (wl_skip hl rfl ⟨_, _, rfl, rfl, rfl⟩ ?_)
      clear hl a; intro a hl
      refine wl (wl_skip hl rfl ⟨_, _, rfl, rfl, rfl⟩ ?_)
      clear hl a; intro a hl
      refine wl (wl_skip hl rfl ⟨_, _, rfl, rfl, rfl⟩ ?_)
      clear hl a; intro a hl
      refine wl (wl_skip hl rfl ⟨_, _, rfl, rfl, rfl⟩ ?_)
      clear hl a; intro a hl
      refine wl (wl_skip hl rfl ⟨_, _, rfl, rfl, rfl⟩ ?_)
      clear hl a; intro a hl
      refine wl (wl_val hl rfl trivial (r_pickF hl rfl rfl) ?_)
      clear hl a; intro a hl
      refine w_nil ?_
      have hl2 := hl.add (t := 0) (hl.add (t := 3) (hl.add (t := 42) (hl.nil) rfl) rfl) rfl; clear hl; have hl := hl2; clear hl2
      refine then_normal ?_
      refine c_condF hl rfl ?_
      refine wp_skip ?_
      refine then_normal ?_
      refine c_seq ?_
      refine c_region ?_
      refine wl (wl_val hl rfl trivial (r_move hl rfl) ?_)
      clear hl a; intro a hl
      refine wl (w_call hl hh rfl trivial rfl cal46 rfl (sacked_m mp s st sk bp hs f hf hf9 os hos hl16 bn p c E hR) (by repeat (first | exact keeps_nil | apply keeps_cons (by repeat (first | exact find_head | apply find_tail)) (by first  | rfl) | exact keeps_self | apply keeps_mv)) ⟨heap_keep hh hpm, fun h9 => heap_keep hh (hpb h9), mem_keep hh hpE⟩ ?_)
      clear hl hh a w; intro vc Fc a w hR hl hh
      obtain ⟨fb, rfl, rfl⟩ := hR
      try simp only [List.cons_append, List.nil_append] at hh
      refine wl (w_alloc hl hh rfl trivial zero79 rfl ?_)
      clear hl hh a w; intro k5 a w hl hh
      refine wl (w_storeA hl hh trivial agg79 rfl rfl (by repeat (first | exact find_head | apply find_tail)) (by first | rfl | (simp; done)) (by first | (simp; done) | (simp; omega)) (by first | rfl | (simp; done)) (by first | (simp only [encM, setL, List.getElem?_cons_zero, List.getElem?_cons_succ, Value.cells, List.take_zero, List.take_succ_cons, List.take_nil, List.drop_zero, List.drop_succ_cons, List.drop_nil, List.length_cons, List.length_nil, List.cons_append, List.nil_append, List.append_nil, Nat.zero_add, Nat.add_zero, Nat.reduceAdd, Nat.reduceBEq, Nat.reduceEqDiff, Nat.ble, BEq.rfl, Bool.and_true, Bool.and_self, cond_true, beq_self_eq_true]; rfl) | (simp only [setL, List.getElem?_cons_zero, List.getElem?_cons_succ, Value.cells, List.take_zero, List.take_succ_cons, List.take_nil, List.drop_zero, List.drop_succ_cons, List.drop_nil, List.length_cons, List.length_nil, List.cons_append, List.nil_append, List.append_nil, Nat.zero_add, Nat.add_zero, Nat.reduceAdd, Nat.reduceBEq, Nat.reduceEqDiff, Nat.ble, BEq.rfl, Bool.and_true, Bool.and_self, cond_true, beq_self_eq_true]; rfl)) ?_)
      clear hh w; intro w hh
      refine w_nil ?_
      have hl2 := hl.add (t := 0) (hl.add (t := 5) (hl.nil) rfl) rfl; clear hl; have hl := hl2; clear hl2
      refine then_normal ?_
      refine c_seq ?_
      refine c_region ?_
      refine wl (wl_val hl rfl trivial (r_move hl rfl) ?_)
      clear hl a; intro a hl
      refine wl (w_loadA hl hh rfl trivial agg79 rfl (by repeat (first | exact find_head | apply find_tail)) (by first | (simp only [List.getElem?_cons_zero, List.getElem?_cons_succ, Value.cells, List.take_zero, List.take_succ_cons, List.take_nil, List.drop_zero, List.drop_succ_cons, List.drop_nil, List.length_cons, List.length_nil, List.cons_append, List.nil_append, List.append_nil, Nat.zero_add, Nat.add_zero, Nat.reduceAdd, Nat.reduceBEq, Nat.reduceEqDiff, Nat.ble, BEq.rfl, Bool.and_true, Bool.and_self, cond_true, beq_self_eq_true]; rfl)) (by first | rfl | (simp; done)) ?_)
      clear hl a; intro a hl
      refine wl (w_call hl hh rfl trivial rfl cal45 rfl (lost_m mp s st sk bp hs f hf hf9 fb (skG sk os)) (by repeat (first | exact keeps_nil | apply keeps_cons (by repeat (first | exact find_head | apply find_tail)) (by first  | rfl) | exact keeps_self | apply keeps_mv)) ⟨heap_keep hh hpm, (hh.mem _ _ (Find.mem (by repeat (first | exact find_head | apply find_tail))))⟩ ?_)
      clear hl hh a w; intro vc Fc a w hR hl hh
      obtain ⟨lb, rfl, rfl⟩ := hR
      try simp only [List.cons_append, List.nil_append] at hh
      refine wl (w_alloc hl hh rfl trivial zero79 rfl ?_)
      clear hl hh a w; intro k6 a w hl hh
      refine wl (w_storeA hl hh trivial agg79 rfl rfl (by repeat (first | exact find_head | apply find_tail)) (by first | rfl | (simp; done)) (by first | (simp; done) | (simp; omega)) (by first | rfl | (simp; done)) (by first | (simp only [encM, setL, List.getElem?_cons_zero, List.getElem?_cons_succ, Value.cells, List.take_zero, List.take_succ_cons, List.take_nil, List.drop_zero, List.drop_succ_cons, List.drop_nil, List.length_cons, List.length_nil, List.cons_append, List.nil_append, List.append_nil, Nat.zero_add, Nat.add_zero, Nat.reduceAdd, Nat.reduceBEq, Nat.reduceEqDiff, Nat.ble, BEq.rfl, Bool.and_true, Bool.and_self, cond_true, beq_self_eq_true]; rfl) | (simp only [setL, List.getElem?_cons_zero, List.getElem?_cons_succ, Value.cells, List.take_zero, List.take_succ_cons, List.take_nil, List.drop_zero, List.drop_succ_cons, List.drop_nil, List.length_cons, List.length_nil, List.cons_append, List.nil_append, List.append_nil, Nat.zero_add, Nat.add_zero, Nat.reduceAdd, Nat.reduceBEq, Nat.reduceEqDiff, Nat.ble, BEq.rfl, Bool.and_true, Bool.and_self, cond_true, beq_self_eq_true]; rfl)) ?_)
      clear hh w; intro w hh
      refine w_nil ?_
      have hl2 := hl.add (t := 0) (hl.add (t := 5) (hl.add (t := 6) (hl.nil) rfl) rfl) rfl; clear hl; have hl := hl2; clear hl2
      refine then_normal ?_
      refine c_seq ?_
      refine c_region ?_
      refine wl (wl_val hl rfl trivial (r_assign hl rfl) ?_)
      clear hl a; intro a hl
      refine w_nil ?_
      have hl2 := hl.add (t := 0) (hl.add (t := 5) (hl.add (t := 6) (hl.add (t := 7) (hl.nil) rfl) rfl) rfl) rfl; clear hl; have hl := hl2; clear hl2
      refine then_normal ?_
      refine c_seq ?_
      refine c_seq ?_
      refine c_region ?_
      refine wl (wl_val hl rfl trivial (r_move hl rfl) ?_)
      clear hl a; intro a hl
      refine wl (wl_val hl rfl trivial (r_nilCheck hl rfl) ?_)
      clear hl a; intro a hl
      refine wl (wl_val hl rfl trivial (r_field hl rfl fld69_8) ?_)
      clear hl a; intro a hl
      first | refine wl (w_load hl hh rfl trivial one2 rfl (by repeat (first | exact find_head | apply find_tail)) (by first | rfl) ?_) | refine wl (w_loadR hl hh rfl trivial one2 rfl hpm (by simp) rfl ?_)
      clear hl a; intro a hl
      refine wl (wl_val hl rfl trivial (r_assign hl rfl) ?_)
      clear hl a; intro a hl
      refine w_nil ?_
      have hl2 := hl.add (t := 0) (hl.add (t := 5) (hl.add (t := 6) (hl.add (t := 7) (hl.add (t := 8) (hl.nil) rfl) rfl) rfl) rfl) rfl; clear hl; have hl := hl2; clear hl2
      refine then_normal ?_
      refine wp_block ?_
      obtain ⟨KS0, hKS0, hk⟩ := (hl.add (t := 0) (hl.add (t := 5) (hl.add (t := 6) (hl.nil) rfl) rfl) rfl).name
      obtain ⟨HS0, hHS0, hh2⟩ := hh.name (keeps_nil)
      refine c_loop (α := Nat) (fun k => f - k) (fun k a w => (k ≤ f) ∧ Sl 99 ([(8, .int .i64 (s.una + (k : Int))), (7, .int .i64 (pcn s (skG sk os) (lsG s f (skG sk os)) k : Int))] ++ KS0) a ∧ Has _ w0 ([] ++ HS0) w) 0 ⟨(Nat.zero_le _), hl.addE (t := 8) (hl.addE (t := 7) (hk) rfl (by first | (exact congrArg (Value.int .i64) (show s.una = s.una + ((0 : Nat) : Int) by omega)) | rfl)) rfl (by first | (exact congrArg (Value.int .i64) (show s.una = s.una + ((0 : Nat) : Int) by omega)) | rfl), hh2⟩ ?_
      clear hk hh2 hl hh a w
      intro k a w hI
      obtain ⟨hk, hl, hh⟩ := hI
      subst hKS0; subst hHS0
      simp only [List.cons_append, List.nil_append, List.append_nil] at hl hh
      have hpk := hpc k
      refine c_seq ?_
      refine c_seq ?_
      refine c_region ?_
      refine wl (wl_val hl rfl trivial (r_move hl rfl) ?_)
      clear hl a; intro a hl
      refine wl (wl_val hl rfl trivial (r_move hl rfl) ?_)
      clear hl a; intro a hl
      refine wl (wl_val hl rfl trivial (r_nilCheck hl rfl) ?_)
      clear hl a; intro a hl
      refine wl (wl_val hl rfl trivial (r_field hl rfl fld69_9) ?_)
      clear hl a; intro a hl
      first | refine wl (w_load hl hh rfl trivial one2 rfl (by repeat (first | exact find_head | apply find_tail)) (by first | rfl) ?_) | refine wl (w_loadR hl hh rfl trivial one2 rfl hpm (by simp) rfl ?_)
      clear hl a; intro a hl
      refine wl (wl_val hl rfl trivial (r_lss hl rfl rfl) ?_)
      clear hl a; intro a hl
      refine w_nil ?_
      have hl2 := hl.add (t := 0) (hl.add (t := 5) (hl.add (t := 6) (hl.add (t := 7) (hl.add (t := 8) (hl.add (t := 78) (hl.nil) rfl) rfl) rfl) rfl) rfl) rfl; clear hl; have hl := hl2; clear hl2
      refine then_normal ?_
      refine c_cond hl rfl ?_ ?_
      · intro hc2
        try simp only [decide_eq_true_eq, decide_eq_false_iff_not, Bool.not_eq_true', Bool.not_eq_false', Bool.not_eq_true, Bool.not_eq_false, Bool.and_eq_true, Bool.or_eq_true, Bool.and_eq_false_iff, Bool.or_eq_false_iff, Bool.not_not, ne_eq, Int.not_lt, Int.not_le, Decidable.not_not, beq_iff_eq, bne_iff_ne] at hc2
        refine wp_skip ?_
        refine then_normal ?_
        refine c_seq ?_
        refine wp_block ?_
        refine c_seq ?_
        refine c_seq ?_
        refine c_region ?_
        refine wl (w_loadA hl hh rfl trivial agg79 rfl (by repeat (first | exact find_head | apply find_tail)) (by first | (simp only [List.getElem?_cons_zero, List.getElem?_cons_succ, Value.cells, List.take_zero, List.take_succ_cons, List.take_nil, List.drop_zero, List.drop_succ_cons, List.drop_nil, List.length_cons, List.length_nil, List.cons_append, List.nil_append, List.append_nil, Nat.zero_add, Nat.add_zero, Nat.reduceAdd, Nat.reduceBEq, Nat.reduceEqDiff, Nat.ble, BEq.rfl, Bool.and_true, Bool.and_self, cond_true, beq_self_eq_true]; rfl)) (by first | rfl | (simp; done)) ?_)
        clear hl a; intro a hl
        refine wl (wl_val hl rfl trivial (r_move hl rfl) ?_)
        clear hl a; intro a hl
        refine wl (w_call hl hh rfl trivial rfl cal47 rfl (at_m s.una f fb (skG sk os) _ (by omega) (by omega) (by omega)) (by repeat (first | exact keeps_nil | apply keeps_cons (by repeat (first | exact find_head | apply find_tail)) (by first  | rfl) | exact keeps_self | apply keeps_mv)) (hh.mem _ _ (Find.mem (by repeat (first | exact find_head | apply find_tail)))) ?_)
        clear hl hh a w; intro vc Fc a w hR hl hh
        obtain ⟨rfl, rfl⟩ := hR
        try simp only [List.cons_append, List.nil_append] at hh
        rw [at_q (by omega)] at hl
        refine w_nil ?_
        have hl2 := hl.add (t := 0) (hl.add (t := 5) (hl.add (t := 6) (hl.add (t := 7) (hl.add (t := 8) (hl.add (t := 83) (hl.nil) rfl) rfl) rfl) rfl) rfl) rfl; clear hl; have hl := hl2; clear hl2
        refine then_normal ?_
        refine c_cond hl rfl ?_ ?_
        · intro hc3
          try simp only [decide_eq_true_eq, decide_eq_false_iff_not, Bool.not_eq_true', Bool.not_eq_false', Bool.not_eq_true, Bool.not_eq_false, Bool.and_eq_true, Bool.or_eq_true, Bool.and_eq_false_iff, Bool.or_eq_false_iff, Bool.not_not, ne_eq, Int.not_lt, Int.not_le, Decidable.not_not, beq_iff_eq, bne_iff_ne] at hc3
          refine wp_exit ?_
          refine then_exit ?_
          refine blk_exit ?_
          refine then_normal ?_
          refine c_region ?_
          refine wl (wl_val hl rfl trivial (r_move hl rfl) ?_)
          clear hl a; intro a hl
          first | refine wl (wl_val hl rfl trivial (r_add hl rfl rfl (by simp only [Fits]; omega)) ?_) | refine wl (wl_val hl rfl trivial (r_addW hl rfl rfl) ?_)
          clear hl a; intro a hl
          refine wl (wl_val hl rfl trivial (r_assign hl rfl) ?_)
          clear hl a; intro a hl
          refine w_nil ?_
          have hl2 := hl.add (t := 0) (hl.add (t := 5) (hl.add (t := 6) (hl.add (t := 7) (hl.add (t := 8) (hl.nil) rfl) rfl) rfl) rfl) rfl; clear hl; have hl := hl2; clear hl2
          refine then_normal ?_
          refine ⟨k + 1, (by omega), (by omega), hl.addE (t := 8) (hl.addE (t := 7) (hl.addE (t := 0) (hl.addE (t := 5) (hl.addE (t := 6) (hl.nil) rfl (by first | rfl | (exact congrArg (Value.int .i64) (show s.una + (k : Int) + 1 = s.una + ((k + 1 : Nat) : Int) by omega)) | (exact congrArg (fun z : Nat => Value.int .i64 (z : Int)) (pcn_g (by assumption)).symm) | (exact congrArg (fun z : Nat => Value.int .i64 (z : Int)) (pcn_00 (by assumption) (by assumption) (by omega)).symm) | (exact congrArg (Value.int .i64) (pcn_01 (by assumption) (by assumption) (by omega)).symm) | (exact congrArg (Value.int .i64) (pcn_10 (by assumption) (by assumption) (by omega)).symm) | (exact congrArg (Value.int .i64) (pcn_11 (by assumption) (by assumption) (by omega)).symm))) rfl (by first | rfl | (exact congrArg (Value.int .i64) (show s.una + (k : Int) + 1 = s.una + ((k + 1 : Nat) : Int) by omega)) | (exact congrArg (fun z : Nat => Value.int .i64 (z : Int)) (pcn_g (by assumption)).symm) | (exact congrArg (fun z : Nat => Value.int .i64 (z : Int)) (pcn_00 (by assumption) (by assumption) (by omega)).symm) | (exact congrArg (Value.int .i64) (pcn_01 (by assumption) (by assumption) (by omega)).symm) | (exact congrArg (Value.int .i64) (pcn_10 (by assumption) (by assumption) (by omega)).symm) | (exact congrArg (Value.int .i64) (pcn_11 (by assumption) (by assumption) (by omega)).symm))) rfl (by first | rfl | (exact congrArg (Value.int .i64) (show s.una + (k : Int) + 1 = s.una + ((k + 1 : Nat) : Int) by omega)) | (exact congrArg (fun z : Nat => Value.int .i64 (z : Int)) (pcn_g (by assumption)).symm) | (exact congrArg (fun z : Nat => Value.int .i64 (z : Int)) (pcn_00 (by assumption) (by assumption) (by omega)).symm) | (exact congrArg (Value.int .i64) (pcn_01 (by assumption) (by assumption) (by omega)).symm) | (exact congrArg (Value.int .i64) (pcn_10 (by assumption) (by assumption) (by omega)).symm) | (exact congrArg (Value.int .i64) (pcn_11 (by assumption) (by assumption) (by omega)).symm))) rfl (by first | rfl | (exact congrArg (Value.int .i64) (show s.una + (k : Int) + 1 = s.una + ((k + 1 : Nat) : Int) by omega)) | (exact congrArg (fun z : Nat => Value.int .i64 (z : Int)) (pcn_g (by assumption)).symm) | (exact congrArg (fun z : Nat => Value.int .i64 (z : Int)) (pcn_00 (by assumption) (by assumption) (by omega)).symm) | (exact congrArg (Value.int .i64) (pcn_01 (by assumption) (by assumption) (by omega)).symm) | (exact congrArg (Value.int .i64) (pcn_10 (by assumption) (by assumption) (by omega)).symm) | (exact congrArg (Value.int .i64) (pcn_11 (by assumption) (by assumption) (by omega)).symm))) rfl (by first | rfl | (exact congrArg (Value.int .i64) (show s.una + (k : Int) + 1 = s.una + ((k + 1 : Nat) : Int) by omega)) | (exact congrArg (fun z : Nat => Value.int .i64 (z : Int)) (pcn_g (by assumption)).symm) | (exact congrArg (fun z : Nat => Value.int .i64 (z : Int)) (pcn_00 (by assumption) (by assumption) (by omega)).symm) | (exact congrArg (Value.int .i64) (pcn_01 (by assumption) (by assumption) (by omega)).symm) | (exact congrArg (Value.int .i64) (pcn_10 (by assumption) (by assumption) (by omega)).symm) | (exact congrArg (Value.int .i64) (pcn_11 (by assumption) (by assumption) (by omega)).symm)), hh.keep (by repeat (first | exact keeps_nil | apply keeps_cons (by repeat (first | exact find_head | apply find_tail)) (by first  | rfl) | exact keeps_self | apply keeps_mv))⟩
        · intro hc3
          try simp only [decide_eq_true_eq, decide_eq_false_iff_not, Bool.not_eq_true', Bool.not_eq_false', Bool.not_eq_true, Bool.not_eq_false, Bool.and_eq_true, Bool.or_eq_true, Bool.and_eq_false_iff, Bool.or_eq_false_iff, Bool.not_not, ne_eq, Int.not_lt, Int.not_le, Decidable.not_not, beq_iff_eq, bne_iff_ne] at hc3
          refine wp_skip ?_
          refine then_normal ?_
          refine c_seq ?_
          refine c_seq ?_
          refine c_region ?_
          refine wl (w_loadA hl hh rfl trivial agg79 rfl (by repeat (first | exact find_head | apply find_tail)) (by first | (simp only [List.getElem?_cons_zero, List.getElem?_cons_succ, Value.cells, List.take_zero, List.take_succ_cons, List.take_nil, List.drop_zero, List.drop_succ_cons, List.drop_nil, List.length_cons, List.length_nil, List.cons_append, List.nil_append, List.append_nil, Nat.zero_add, Nat.add_zero, Nat.reduceAdd, Nat.reduceBEq, Nat.reduceEqDiff, Nat.ble, BEq.rfl, Bool.and_true, Bool.and_self, cond_true, beq_self_eq_true]; rfl)) (by first | rfl | (simp; done)) ?_)
          clear hl a; intro a hl
          refine wl (wl_val hl rfl trivial (r_move hl rfl) ?_)
          clear hl a; intro a hl
          refine wl (w_call hl hh rfl trivial rfl cal47 rfl (at_m s.una f lb (lsG s f (skG sk os)) _ (by omega) (by omega) (by omega)) (by repeat (first | exact keeps_nil | apply keeps_cons (by repeat (first | exact find_head | apply find_tail)) (by first  | rfl) | exact keeps_self | apply keeps_mv)) (hh.mem _ _ (Find.mem (by repeat (first | exact find_head | apply find_tail)))) ?_)
          clear hl hh a w; intro vc Fc a w hR hl hh
          obtain ⟨rfl, rfl⟩ := hR
          try simp only [List.cons_append, List.nil_append] at hh
          rw [at_q (by omega)] at hl
          refine wl (wl_val hl rfl trivial (r_not hl rfl) ?_)
          clear hl a; intro a hl
          refine w_nil ?_
          have hl2 := hl.add (t := 0) (hl.add (t := 5) (hl.add (t := 6) (hl.add (t := 7) (hl.add (t := 8) (hl.add (t := 87) (hl.nil) rfl) rfl) rfl) rfl) rfl) rfl; clear hl; have hl := hl2; clear hl2
          refine then_normal ?_
          refine c_cond hl rfl ?_ ?_
          · intro hc4
            try simp only [decide_eq_true_eq, decide_eq_false_iff_not, Bool.not_eq_true', Bool.not_eq_false', Bool.not_eq_true, Bool.not_eq_false, Bool.and_eq_true, Bool.or_eq_true, Bool.and_eq_false_iff, Bool.or_eq_false_iff, Bool.not_not, ne_eq, Int.not_lt, Int.not_le, Decidable.not_not, beq_iff_eq, bne_iff_ne] at hc4
            refine c_region ?_
            refine wl (wl_val hl rfl trivial (r_move hl rfl) ?_)
            clear hl a; intro a hl
            first | refine wl (wl_val hl rfl trivial (r_add hl rfl rfl (by simp only [Fits]; omega)) ?_) | refine wl (wl_val hl rfl trivial (r_addW hl rfl rfl) ?_)
            clear hl a; intro a hl
            refine wl (wl_val hl rfl trivial (r_assign hl rfl) ?_)
            clear hl a; intro a hl
            refine w_nil ?_
            have hl2 := hl.add (t := 0) (hl.add (t := 5) (hl.add (t := 6) (hl.add (t := 7) (hl.add (t := 8) (hl.nil) rfl) rfl) rfl) rfl) rfl; clear hl; have hl := hl2; clear hl2
            refine then_normal ?_
            refine c_seq ?_
            refine c_region ?_
            refine wl (wl_val hl rfl trivial (r_move hl rfl) ?_)
            clear hl a; intro a hl
            refine wl (wl_val hl rfl trivial (r_move hl rfl) ?_)
            clear hl a; intro a hl
            refine wl (wl_val hl rfl trivial (r_nilCheck hl rfl) ?_)
            clear hl a; intro a hl
            refine wl (wl_val hl rfl trivial (r_field hl rfl fld69_12) ?_)
            clear hl a; intro a hl
            first | refine wl (w_load hl hh rfl trivial one2 rfl (by repeat (first | exact find_head | apply find_tail)) (by first | rfl) ?_) | refine wl (w_loadR hl hh rfl trivial one2 rfl hpm (by simp) rfl ?_)
            clear hl a; intro a hl
            refine wl (wl_val hl rfl trivial (r_lss hl rfl rfl) ?_)
            clear hl a; intro a hl
            refine w_nil ?_
            have hl2 := hl.add (t := 0) (hl.add (t := 5) (hl.add (t := 6) (hl.add (t := 7) (hl.add (t := 8) (hl.add (t := 95) (hl.nil) rfl) rfl) rfl) rfl) rfl) rfl; clear hl; have hl := hl2; clear hl2
            refine then_normal ?_
            refine c_cond hl rfl ?_ ?_
            · intro hc5
              try simp only [decide_eq_true_eq, decide_eq_false_iff_not, Bool.not_eq_true', Bool.not_eq_false', Bool.not_eq_true, Bool.not_eq_false, Bool.and_eq_true, Bool.or_eq_true, Bool.and_eq_false_iff, Bool.or_eq_false_iff, Bool.not_not, ne_eq, Int.not_lt, Int.not_le, Decidable.not_not, beq_iff_eq, bne_iff_ne] at hc5
              refine c_region ?_
              refine wl (wl_val hl rfl trivial (r_move hl rfl) ?_)
              clear hl a; intro a hl
              first | refine wl (wl_val hl rfl trivial (r_add hl rfl rfl (by simp only [Fits]; omega)) ?_) | refine wl (wl_val hl rfl trivial (r_addW hl rfl rfl) ?_)
              clear hl a; intro a hl
              refine wl (wl_val hl rfl trivial (r_assign hl rfl) ?_)
              clear hl a; intro a hl
              refine w_nil ?_
              have hl2 := hl.add (t := 0) (hl.add (t := 5) (hl.add (t := 6) (hl.add (t := 7) (hl.add (t := 8) (hl.nil) rfl) rfl) rfl) rfl) rfl; clear hl; have hl := hl2; clear hl2
              refine blk_normal ?_
              refine then_normal ?_
              refine c_region ?_
              refine wl (wl_val hl rfl trivial (r_move hl rfl) ?_)
              clear hl a; intro a hl
              first | refine wl (wl_val hl rfl trivial (r_add hl rfl rfl (by simp only [Fits]; omega)) ?_) | refine wl (wl_val hl rfl trivial (r_addW hl rfl rfl) ?_)
              clear hl a; intro a hl
              refine wl (wl_val hl rfl trivial (r_assign hl rfl) ?_)
              clear hl a; intro a hl
              refine w_nil ?_
              have hl2 := hl.add (t := 0) (hl.add (t := 5) (hl.add (t := 6) (hl.add (t := 7) (hl.add (t := 8) (hl.nil) rfl) rfl) rfl) rfl) rfl; clear hl; have hl := hl2; clear hl2
              refine then_normal ?_
              refine ⟨k + 1, (by omega), (by omega), hl.addE (t := 8) (hl.addE (t := 7) (hl.addE (t := 0) (hl.addE (t := 5) (hl.addE (t := 6) (hl.nil) rfl (by first | rfl | (exact congrArg (Value.int .i64) (show s.una + (k : Int) + 1 = s.una + ((k + 1 : Nat) : Int) by omega)) | (exact congrArg (fun z : Nat => Value.int .i64 (z : Int)) (pcn_g (by assumption)).symm) | (exact congrArg (fun z : Nat => Value.int .i64 (z : Int)) (pcn_00 (by assumption) (by assumption) (by omega)).symm) | (exact congrArg (Value.int .i64) (pcn_01 (by assumption) (by assumption) (by omega)).symm) | (exact congrArg (Value.int .i64) (pcn_10 (by assumption) (by assumption) (by omega)).symm) | (exact congrArg (Value.int .i64) (pcn_11 (by assumption) (by assumption) (by omega)).symm))) rfl (by first | rfl | (exact congrArg (Value.int .i64) (show s.una + (k : Int) + 1 = s.una + ((k + 1 : Nat) : Int) by omega)) | (exact congrArg (fun z : Nat => Value.int .i64 (z : Int)) (pcn_g (by assumption)).symm) | (exact congrArg (fun z : Nat => Value.int .i64 (z : Int)) (pcn_00 (by assumption) (by assumption) (by omega)).symm) | (exact congrArg (Value.int .i64) (pcn_01 (by assumption) (by assumption) (by omega)).symm) | (exact congrArg (Value.int .i64) (pcn_10 (by assumption) (by assumption) (by omega)).symm) | (exact congrArg (Value.int .i64) (pcn_11 (by assumption) (by assumption) (by omega)).symm))) rfl (by first | rfl | (exact congrArg (Value.int .i64) (show s.una + (k : Int) + 1 = s.una + ((k + 1 : Nat) : Int) by omega)) | (exact congrArg (fun z : Nat => Value.int .i64 (z : Int)) (pcn_g (by assumption)).symm) | (exact congrArg (fun z : Nat => Value.int .i64 (z : Int)) (pcn_00 (by assumption) (by assumption) (by omega)).symm) | (exact congrArg (Value.int .i64) (pcn_01 (by assumption) (by assumption) (by omega)).symm) | (exact congrArg (Value.int .i64) (pcn_10 (by assumption) (by assumption) (by omega)).symm) | (exact congrArg (Value.int .i64) (pcn_11 (by assumption) (by assumption) (by omega)).symm))) rfl (by first | rfl | (exact congrArg (Value.int .i64) (show s.una + (k : Int) + 1 = s.una + ((k + 1 : Nat) : Int) by omega)) | (exact congrArg (fun z : Nat => Value.int .i64 (z : Int)) (pcn_g (by assumption)).symm) | (exact congrArg (fun z : Nat => Value.int .i64 (z : Int)) (pcn_00 (by assumption) (by assumption) (by omega)).symm) | (exact congrArg (Value.int .i64) (pcn_01 (by assumption) (by assumption) (by omega)).symm) | (exact congrArg (Value.int .i64) (pcn_10 (by assumption) (by assumption) (by omega)).symm) | (exact congrArg (Value.int .i64) (pcn_11 (by assumption) (by assumption) (by omega)).symm))) rfl (by first | rfl | (exact congrArg (Value.int .i64) (show s.una + (k : Int) + 1 = s.una + ((k + 1 : Nat) : Int) by omega)) | (exact congrArg (fun z : Nat => Value.int .i64 (z : Int)) (pcn_g (by assumption)).symm) | (exact congrArg (fun z : Nat => Value.int .i64 (z : Int)) (pcn_00 (by assumption) (by assumption) (by omega)).symm) | (exact congrArg (Value.int .i64) (pcn_01 (by assumption) (by assumption) (by omega)).symm) | (exact congrArg (Value.int .i64) (pcn_10 (by assumption) (by assumption) (by omega)).symm) | (exact congrArg (Value.int .i64) (pcn_11 (by assumption) (by assumption) (by omega)).symm)), hh.keep (by repeat (first | exact keeps_nil | apply keeps_cons (by repeat (first | exact find_head | apply find_tail)) (by first  | rfl) | exact keeps_self | apply keeps_mv))⟩
            · intro hc5
              try simp only [decide_eq_true_eq, decide_eq_false_iff_not, Bool.not_eq_true', Bool.not_eq_false', Bool.not_eq_true, Bool.not_eq_false, Bool.and_eq_true, Bool.or_eq_true, Bool.and_eq_false_iff, Bool.or_eq_false_iff, Bool.not_not, ne_eq, Int.not_lt, Int.not_le, Decidable.not_not, beq_iff_eq, bne_iff_ne] at hc5
              refine wp_skip ?_
              refine blk_normal ?_
              refine then_normal ?_
              refine c_region ?_
              refine wl (wl_val hl rfl trivial (r_move hl rfl) ?_)
              clear hl a; intro a hl
              first | refine wl (wl_val hl rfl trivial (r_add hl rfl rfl (by simp only [Fits]; omega)) ?_) | refine wl (wl_val hl rfl trivial (r_addW hl rfl rfl) ?_)
              clear hl a; intro a hl
              refine wl (wl_val hl rfl trivial (r_assign hl rfl) ?_)
              clear hl a; intro a hl
              refine w_nil ?_
              have hl2 := hl.add (t := 0) (hl.add (t := 5) (hl.add (t := 6) (hl.add (t := 7) (hl.add (t := 8) (hl.nil) rfl) rfl) rfl) rfl) rfl; clear hl; have hl := hl2; clear hl2
              refine then_normal ?_
              refine ⟨k + 1, (by omega), (by omega), hl.addE (t := 8) (hl.addE (t := 7) (hl.addE (t := 0) (hl.addE (t := 5) (hl.addE (t := 6) (hl.nil) rfl (by first | rfl | (exact congrArg (Value.int .i64) (show s.una + (k : Int) + 1 = s.una + ((k + 1 : Nat) : Int) by omega)) | (exact congrArg (fun z : Nat => Value.int .i64 (z : Int)) (pcn_g (by assumption)).symm) | (exact congrArg (fun z : Nat => Value.int .i64 (z : Int)) (pcn_00 (by assumption) (by assumption) (by omega)).symm) | (exact congrArg (Value.int .i64) (pcn_01 (by assumption) (by assumption) (by omega)).symm) | (exact congrArg (Value.int .i64) (pcn_10 (by assumption) (by assumption) (by omega)).symm) | (exact congrArg (Value.int .i64) (pcn_11 (by assumption) (by assumption) (by omega)).symm))) rfl (by first | rfl | (exact congrArg (Value.int .i64) (show s.una + (k : Int) + 1 = s.una + ((k + 1 : Nat) : Int) by omega)) | (exact congrArg (fun z : Nat => Value.int .i64 (z : Int)) (pcn_g (by assumption)).symm) | (exact congrArg (fun z : Nat => Value.int .i64 (z : Int)) (pcn_00 (by assumption) (by assumption) (by omega)).symm) | (exact congrArg (Value.int .i64) (pcn_01 (by assumption) (by assumption) (by omega)).symm) | (exact congrArg (Value.int .i64) (pcn_10 (by assumption) (by assumption) (by omega)).symm) | (exact congrArg (Value.int .i64) (pcn_11 (by assumption) (by assumption) (by omega)).symm))) rfl (by first | rfl | (exact congrArg (Value.int .i64) (show s.una + (k : Int) + 1 = s.una + ((k + 1 : Nat) : Int) by omega)) | (exact congrArg (fun z : Nat => Value.int .i64 (z : Int)) (pcn_g (by assumption)).symm) | (exact congrArg (fun z : Nat => Value.int .i64 (z : Int)) (pcn_00 (by assumption) (by assumption) (by omega)).symm) | (exact congrArg (Value.int .i64) (pcn_01 (by assumption) (by assumption) (by omega)).symm) | (exact congrArg (Value.int .i64) (pcn_10 (by assumption) (by assumption) (by omega)).symm) | (exact congrArg (Value.int .i64) (pcn_11 (by assumption) (by assumption) (by omega)).symm))) rfl (by first | rfl | (exact congrArg (Value.int .i64) (show s.una + (k : Int) + 1 = s.una + ((k + 1 : Nat) : Int) by omega)) | (exact congrArg (fun z : Nat => Value.int .i64 (z : Int)) (pcn_g (by assumption)).symm) | (exact congrArg (fun z : Nat => Value.int .i64 (z : Int)) (pcn_00 (by assumption) (by assumption) (by omega)).symm) | (exact congrArg (Value.int .i64) (pcn_01 (by assumption) (by assumption) (by omega)).symm) | (exact congrArg (Value.int .i64) (pcn_10 (by assumption) (by assumption) (by omega)).symm) | (exact congrArg (Value.int .i64) (pcn_11 (by assumption) (by assumption) (by omega)).symm))) rfl (by first | rfl | (exact congrArg (Value.int .i64) (show s.una + (k : Int) + 1 = s.una + ((k + 1 : Nat) : Int) by omega)) | (exact congrArg (fun z : Nat => Value.int .i64 (z : Int)) (pcn_g (by assumption)).symm) | (exact congrArg (fun z : Nat => Value.int .i64 (z : Int)) (pcn_00 (by assumption) (by assumption) (by omega)).symm) | (exact congrArg (Value.int .i64) (pcn_01 (by assumption) (by assumption) (by omega)).symm) | (exact congrArg (Value.int .i64) (pcn_10 (by assumption) (by assumption) (by omega)).symm) | (exact congrArg (Value.int .i64) (pcn_11 (by assumption) (by assumption) (by omega)).symm)), hh.keep (by repeat (first | exact keeps_nil | apply keeps_cons (by repeat (first | exact find_head | apply find_tail)) (by first  | rfl) | exact keeps_self | apply keeps_mv))⟩
          · intro hc4
            try simp only [decide_eq_true_eq, decide_eq_false_iff_not, Bool.not_eq_true', Bool.not_eq_false', Bool.not_eq_true, Bool.not_eq_false, Bool.and_eq_true, Bool.or_eq_true, Bool.and_eq_false_iff, Bool.or_eq_false_iff, Bool.not_not, ne_eq, Int.not_lt, Int.not_le, Decidable.not_not, beq_iff_eq, bne_iff_ne] at hc4
            refine wp_skip ?_
            refine then_normal ?_
            refine c_seq ?_
            refine c_region ?_
            refine wl (wl_val hl rfl trivial (r_move hl rfl) ?_)
            clear hl a; intro a hl
            refine wl (wl_val hl rfl trivial (r_move hl rfl) ?_)
            clear hl a; intro a hl
            refine wl (wl_val hl rfl trivial (r_nilCheck hl rfl) ?_)
            clear hl a; intro a hl
            refine wl (wl_val hl rfl trivial (r_field hl rfl fld69_12) ?_)
            clear hl a; intro a hl
            first | refine wl (w_load hl hh rfl trivial one2 rfl (by repeat (first | exact find_head | apply find_tail)) (by first | rfl) ?_) | refine wl (w_loadR hl hh rfl trivial one2 rfl hpm (by simp) rfl ?_)
            clear hl a; intro a hl
            refine wl (wl_val hl rfl trivial (r_lss hl rfl rfl) ?_)
            clear hl a; intro a hl
            refine w_nil ?_
            have hl2 := hl.add (t := 0) (hl.add (t := 5) (hl.add (t := 6) (hl.add (t := 7) (hl.add (t := 8) (hl.add (t := 95) (hl.nil) rfl) rfl) rfl) rfl) rfl) rfl; clear hl; have hl := hl2; clear hl2
            refine then_normal ?_
            refine c_cond hl rfl ?_ ?_
            · intro hc5
              try simp only [decide_eq_true_eq, decide_eq_false_iff_not, Bool.not_eq_true', Bool.not_eq_false', Bool.not_eq_true, Bool.not_eq_false, Bool.and_eq_true, Bool.or_eq_true, Bool.and_eq_false_iff, Bool.or_eq_false_iff, Bool.not_not, ne_eq, Int.not_lt, Int.not_le, Decidable.not_not, beq_iff_eq, bne_iff_ne] at hc5
              refine c_region ?_
              refine wl (wl_val hl rfl trivial (r_move hl rfl) ?_)
              clear hl a; intro a hl
              first | refine wl (wl_val hl rfl trivial (r_add hl rfl rfl (by simp only [Fits]; omega)) ?_) | refine wl (wl_val hl rfl trivial (r_addW hl rfl rfl) ?_)
              clear hl a; intro a hl
              refine wl (wl_val hl rfl trivial (r_assign hl rfl) ?_)
              clear hl a; intro a hl
              refine w_nil ?_
              have hl2 := hl.add (t := 0) (hl.add (t := 5) (hl.add (t := 6) (hl.add (t := 7) (hl.add (t := 8) (hl.nil) rfl) rfl) rfl) rfl) rfl; clear hl; have hl := hl2; clear hl2
              refine blk_normal ?_
              refine then_normal ?_
              refine c_region ?_
              refine wl (wl_val hl rfl trivial (r_move hl rfl) ?_)
              clear hl a; intro a hl
              first | refine wl (wl_val hl rfl trivial (r_add hl rfl rfl (by simp only [Fits]; omega)) ?_) | refine wl (wl_val hl rfl trivial (r_addW hl rfl rfl) ?_)
              clear hl a; intro a hl
              refine wl (wl_val hl rfl trivial (r_assign hl rfl) ?_)
              clear hl a; intro a hl
              refine w_nil ?_
              have hl2 := hl.add (t := 0) (hl.add (t := 5) (hl.add (t := 6) (hl.add (t := 7) (hl.add (t := 8) (hl.nil) rfl) rfl) rfl) rfl) rfl; clear hl; have hl := hl2; clear hl2
              refine then_normal ?_
              refine ⟨k + 1, (by omega), (by omega), hl.addE (t := 8) (hl.addE (t := 7) (hl.addE (t := 0) (hl.addE (t := 5) (hl.addE (t := 6) (hl.nil) rfl (by first | rfl | (exact congrArg (Value.int .i64) (show s.una + (k : Int) + 1 = s.una + ((k + 1 : Nat) : Int) by omega)) | (exact congrArg (fun z : Nat => Value.int .i64 (z : Int)) (pcn_g (by assumption)).symm) | (exact congrArg (fun z : Nat => Value.int .i64 (z : Int)) (pcn_00 (by assumption) (by assumption) (by omega)).symm) | (exact congrArg (Value.int .i64) (pcn_01 (by assumption) (by assumption) (by omega)).symm) | (exact congrArg (Value.int .i64) (pcn_10 (by assumption) (by assumption) (by omega)).symm) | (exact congrArg (Value.int .i64) (pcn_11 (by assumption) (by assumption) (by omega)).symm))) rfl (by first | rfl | (exact congrArg (Value.int .i64) (show s.una + (k : Int) + 1 = s.una + ((k + 1 : Nat) : Int) by omega)) | (exact congrArg (fun z : Nat => Value.int .i64 (z : Int)) (pcn_g (by assumption)).symm) | (exact congrArg (fun z : Nat => Value.int .i64 (z : Int)) (pcn_00 (by assumption) (by assumption) (by omega)).symm) | (exact congrArg (Value.int .i64) (pcn_01 (by assumption) (by assumption) (by omega)).symm) | (exact congrArg (Value.int .i64) (pcn_10 (by assumption) (by assumption) (by omega)).symm) | (exact congrArg (Value.int .i64) (pcn_11 (by assumption) (by assumption) (by omega)).symm))) rfl (by first | rfl | (exact congrArg (Value.int .i64) (show s.una + (k : Int) + 1 = s.una + ((k + 1 : Nat) : Int) by omega)) | (exact congrArg (fun z : Nat => Value.int .i64 (z : Int)) (pcn_g (by assumption)).symm) | (exact congrArg (fun z : Nat => Value.int .i64 (z : Int)) (pcn_00 (by assumption) (by assumption) (by omega)).symm) | (exact congrArg (Value.int .i64) (pcn_01 (by assumption) (by assumption) (by omega)).symm) | (exact congrArg (Value.int .i64) (pcn_10 (by assumption) (by assumption) (by omega)).symm) | (exact congrArg (Value.int .i64) (pcn_11 (by assumption) (by assumption) (by omega)).symm))) rfl (by first | rfl | (exact congrArg (Value.int .i64) (show s.una + (k : Int) + 1 = s.una + ((k + 1 : Nat) : Int) by omega)) | (exact congrArg (fun z : Nat => Value.int .i64 (z : Int)) (pcn_g (by assumption)).symm) | (exact congrArg (fun z : Nat => Value.int .i64 (z : Int)) (pcn_00 (by assumption) (by assumption) (by omega)).symm) | (exact congrArg (Value.int .i64) (pcn_01 (by assumption) (by assumption) (by omega)).symm) | (exact congrArg (Value.int .i64) (pcn_10 (by assumption) (by assumption) (by omega)).symm) | (exact congrArg (Value.int .i64) (pcn_11 (by assumption) (by assumption) (by omega)).symm))) rfl (by first | rfl | (exact congrArg (Value.int .i64) (show s.una + (k : Int) + 1 = s.una + ((k + 1 : Nat) : Int) by omega)) | (exact congrArg (fun z : Nat => Value.int .i64 (z : Int)) (pcn_g (by assumption)).symm) | (exact congrArg (fun z : Nat => Value.int .i64 (z : Int)) (pcn_00 (by assumption) (by assumption) (by omega)).symm) | (exact congrArg (Value.int .i64) (pcn_01 (by assumption) (by assumption) (by omega)).symm) | (exact congrArg (Value.int .i64) (pcn_10 (by assumption) (by assumption) (by omega)).symm) | (exact congrArg (Value.int .i64) (pcn_11 (by assumption) (by assumption) (by omega)).symm)), hh.keep (by repeat (first | exact keeps_nil | apply keeps_cons (by repeat (first | exact find_head | apply find_tail)) (by first  | rfl) | exact keeps_self | apply keeps_mv))⟩
            · intro hc5
              try simp only [decide_eq_true_eq, decide_eq_false_iff_not, Bool.not_eq_true', Bool.not_eq_false', Bool.not_eq_true, Bool.not_eq_false, Bool.and_eq_true, Bool.or_eq_true, Bool.and_eq_false_iff, Bool.or_eq_false_iff, Bool.not_not, ne_eq, Int.not_lt, Int.not_le, Decidable.not_not, beq_iff_eq, bne_iff_ne] at hc5
              refine wp_skip ?_
              refine blk_normal ?_
              refine then_normal ?_
              refine c_region ?_
              refine wl (wl_val hl rfl trivial (r_move hl rfl) ?_)
              clear hl a; intro a hl
              first | refine wl (wl_val hl rfl trivial (r_add hl rfl rfl (by simp only [Fits]; omega)) ?_) | refine wl (wl_val hl rfl trivial (r_addW hl rfl rfl) ?_)
              clear hl a; intro a hl
              refine wl (wl_val hl rfl trivial (r_assign hl rfl) ?_)
              clear hl a; intro a hl
              refine w_nil ?_
              have hl2 := hl.add (t := 0) (hl.add (t := 5) (hl.add (t := 6) (hl.add (t := 7) (hl.add (t := 8) (hl.nil) rfl) rfl) rfl) rfl) rfl; clear hl; have hl := hl2; clear hl2
              refine then_normal ?_
              refine ⟨k + 1, (by omega), (by omega), hl.addE (t := 8) (hl.addE (t := 7) (hl.addE (t := 0) (hl.addE (t := 5) (hl.addE (t := 6) (hl.nil) rfl (by first | rfl | (exact congrArg (Value.int .i64) (show s.una + (k : Int) + 1 = s.una + ((k + 1 : Nat) : Int) by omega)) | (exact congrArg (fun z : Nat => Value.int .i64 (z : Int)) (pcn_g (by assumption)).symm) | (exact congrArg (fun z : Nat => Value.int .i64 (z : Int)) (pcn_00 (by assumption) (by assumption) (by omega)).symm) | (exact congrArg (Value.int .i64) (pcn_01 (by assumption) (by assumption) (by omega)).symm) | (exact congrArg (Value.int .i64) (pcn_10 (by assumption) (by assumption) (by omega)).symm) | (exact congrArg (Value.int .i64) (pcn_11 (by assumption) (by assumption) (by omega)).symm))) rfl (by first | rfl | (exact congrArg (Value.int .i64) (show s.una + (k : Int) + 1 = s.una + ((k + 1 : Nat) : Int) by omega)) | (exact congrArg (fun z : Nat => Value.int .i64 (z : Int)) (pcn_g (by assumption)).symm) | (exact congrArg (fun z : Nat => Value.int .i64 (z : Int)) (pcn_00 (by assumption) (by assumption) (by omega)).symm) | (exact congrArg (Value.int .i64) (pcn_01 (by assumption) (by assumption) (by omega)).symm) | (exact congrArg (Value.int .i64) (pcn_10 (by assumption) (by assumption) (by omega)).symm) | (exact congrArg (Value.int .i64) (pcn_11 (by assumption) (by assumption) (by omega)).symm))) rfl (by first | rfl | (exact congrArg (Value.int .i64) (show s.una + (k : Int) + 1 = s.una + ((k + 1 : Nat) : Int) by omega)) | (exact congrArg (fun z : Nat => Value.int .i64 (z : Int)) (pcn_g (by assumption)).symm) | (exact congrArg (fun z : Nat => Value.int .i64 (z : Int)) (pcn_00 (by assumption) (by assumption) (by omega)).symm) | (exact congrArg (Value.int .i64) (pcn_01 (by assumption) (by assumption) (by omega)).symm) | (exact congrArg (Value.int .i64) (pcn_10 (by assumption) (by assumption) (by omega)).symm) | (exact congrArg (Value.int .i64) (pcn_11 (by assumption) (by assumption) (by omega)).symm))) rfl (by first | rfl | (exact congrArg (Value.int .i64) (show s.una + (k : Int) + 1 = s.una + ((k + 1 : Nat) : Int) by omega)) | (exact congrArg (fun z : Nat => Value.int .i64 (z : Int)) (pcn_g (by assumption)).symm) | (exact congrArg (fun z : Nat => Value.int .i64 (z : Int)) (pcn_00 (by assumption) (by assumption) (by omega)).symm) | (exact congrArg (Value.int .i64) (pcn_01 (by assumption) (by assumption) (by omega)).symm) | (exact congrArg (Value.int .i64) (pcn_10 (by assumption) (by assumption) (by omega)).symm) | (exact congrArg (Value.int .i64) (pcn_11 (by assumption) (by assumption) (by omega)).symm))) rfl (by first | rfl | (exact congrArg (Value.int .i64) (show s.una + (k : Int) + 1 = s.una + ((k + 1 : Nat) : Int) by omega)) | (exact congrArg (fun z : Nat => Value.int .i64 (z : Int)) (pcn_g (by assumption)).symm) | (exact congrArg (fun z : Nat => Value.int .i64 (z : Int)) (pcn_00 (by assumption) (by assumption) (by omega)).symm) | (exact congrArg (Value.int .i64) (pcn_01 (by assumption) (by assumption) (by omega)).symm) | (exact congrArg (Value.int .i64) (pcn_10 (by assumption) (by assumption) (by omega)).symm) | (exact congrArg (Value.int .i64) (pcn_11 (by assumption) (by assumption) (by omega)).symm)), hh.keep (by repeat (first | exact keeps_nil | apply keeps_cons (by repeat (first | exact find_head | apply find_tail)) (by first  | rfl) | exact keeps_self | apply keeps_mv))⟩
      · intro hc2
        try simp only [decide_eq_true_eq, decide_eq_false_iff_not, Bool.not_eq_true', Bool.not_eq_false', Bool.not_eq_true, Bool.not_eq_false, Bool.and_eq_true, Bool.or_eq_true, Bool.and_eq_false_iff, Bool.or_eq_false_iff, Bool.not_not, ne_eq, Int.not_lt, Int.not_le, Decidable.not_not, beq_iff_eq, bne_iff_ne] at hc2
        obtain rfl : k = f := by omega
        refine wp_exit ?_
        refine then_exit ?_
        refine then_exit ?_
        refine blk_exit ?_
        refine then_normal ?_
        refine c_seq ?_
        refine c_region ?_
        refine wl (wl_val hl rfl trivial (r_move hl rfl) ?_)
        clear hl a; intro a hl
        refine wl (wl_val hl rfl trivial (r_assign hl rfl) ?_)
        clear hl a; intro a hl
        refine w_nil ?_
        have hl2 := hl.add (t := 2) (hl.nil) rfl; clear hl; have hl := hl2; clear hl2
        refine then_normal ?_
        refine wp_ret ?_
        refine f_ret1 (F' := []) hl hh rfl rfl (by repeat (first | exact keeps_nil | apply keeps_cons (by repeat (first | exact find_head | apply find_tail)) (by first  | rfl) | exact keeps_self | apply keeps_mv)) ?_
        exact ⟨rfl, rfl⟩
end Go.Proofs.Qxb6500912aGreatDoor

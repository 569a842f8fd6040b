import Derived.Test.Qxb6500912aGreatDoorZ2
namespace Go.Proofs.Qxb6500912aGreatDoor
open Go.Eng
set_option linter.unusedVariables false
set_option linter.unusedSimpArgs false
theorem fld42_2 : fieldOk Tryz.prog 42 2 2 = true := by kernel_rfl
theorem fld42_1 : fieldOk Tryz.prog 42 1 1 = true := by kernel_rfl
theorem fld42_0 : fieldOk Tryz.prog 42 0 0 = true := by kernel_rfl
theorem fld69_4 : fieldOk Tryz.prog 69 4 10 = true := by kernel_rfl
theorem cal14 : callable Tryz.prog 14 = true := by kernel_rfl
theorem fld69_16 : fieldOk Tryz.prog 69 16 22 = true := by kernel_rfl
def inF (s : CS) (off n : Int) : Prop := 0 < n ∧ s.una ≤ off ∧ off + n ≤ s.nxt
instance (s : CS) (off n : Int) : Decidable (inF s off n) := by unfold inF; infer_instance
def sentM (s : CS) (k off n : Int) : CS :=
  if k = 1 ∧ off = s.nxt ∧ s.nxt - s.una + n ≤ 2147483647 then { s with nxt := s.nxt + n }
  else if k = 3 ∧ inF s off n then { s with resc := true }
  else if k = 2 ∧ inF s off n then { s with forced := if off = s.una then false else s.forced, high := max s.high (off + n) }
  else s
def sentN (s : CS) (st bn k off n : Int) : Int := if k = 1 ∧ off = s.nxt ∧ s.nxt - s.una + n ≤ 2147483647 then seqM st (s.nxt + n) else bn
section
variable {s : CS} {st bn k off n : Int}
theorem sent_1 (h : k = 1 ∧ off = s.nxt ∧ s.nxt - s.una + n ≤ 2147483647) : sentM s k off n = { s with nxt := s.nxt + n } ∧ sentN s st bn k off n = seqM st (s.nxt + n) := ⟨if_pos h, if_pos h⟩
theorem sent_2 (h : k = 3) (h2 : inF s off n) : sentM s k off n = { s with resc := true } ∧ sentN s st bn k off n = bn := by
  have h0 : ¬ (k = 1 ∧ off = s.nxt ∧ s.nxt - s.una + n ≤ 2147483647) := by omega
  exact ⟨(if_neg h0).trans (if_pos ⟨h, h2⟩), if_neg h0⟩
theorem sent_3 (h : k = 2) (h2 : inF s off n) : sentM s k off n = { s with forced := if off = s.una then false else s.forced, high := max s.high (off + n) } ∧ sentN s st bn k off n = bn := by
  have h0 : ¬ (k = 1 ∧ off = s.nxt ∧ s.nxt - s.una + n ≤ 2147483647) := by omega
  exact ⟨(if_neg h0).trans ((if_neg (by omega)).trans (if_pos ⟨h, h2⟩)), if_neg h0⟩
theorem sent_3a {f : Bool} (h : k = 2) (h2 : inF s off n) (h3 : off = s.una) (hf : f = false) : sentM s k off n = { s with forced := f, high := max s.high (off + n) } ∧ sentN s st bn k off n = bn := by
  have := sent_3 (s := s) (st := st) (bn := bn) h h2
  rw [if_pos h3] at this; rw [hf]; exact this
theorem sent_3b {f : Bool} (h : k = 2) (h2 : inF s off n) (h3 : ¬ off = s.una) (hf : f = s.forced) : sentM s k off n = { s with forced := f, high := max s.high (off + n) } ∧ sentN s st bn k off n = bn := by
  have := sent_3 (s := s) (st := st) (bn := bn) h h2
  rw [if_neg h3] at this; rw [hf]; exact this
theorem not_inF (h : n ≤ 0 ∨ off < s.una ∨ s.nxt < off + n) : ¬ inF s off n := by unfold inF; omega
theorem sent_4 (h0 : ¬ (k = 1 ∧ off = s.nxt ∧ s.nxt - s.una + n ≤ 2147483647)) (h1 : ¬ (k = 3 ∧ inF s off n)) (h2 : ¬ (k = 2 ∧ inF s off n)) : sentM s k off n = s ∧ sentN s st bn k off n = bn :=
  ⟨(if_neg h0).trans ((if_neg h1).trans (if_neg h2)), if_neg h0⟩
theorem nxt_mk (hs : Mk s) (h1 : 0 ≤ n) (h2 : s.nxt - s.una + n ≤ 2147483647) (h3 : s.nxt + 4294967296 ≤ 1152921504606846976) : Mk { s with nxt := s.nxt + n } := by
  have := hs.una; have := hs.recov; have := hs.high
  exact ⟨⟨hs.init, hs.maxc, hs.bn, hs.bd, hs.abc, hs.dupt, hs.mss⟩, hs.cwnd, hs.ssth, hs.credit, ⟨hs.una.1, by show s.una ≤ s.nxt + n; omega⟩, by show s.nxt + n ≤ _; omega, by show s.nxt + n - s.una ≤ _; omega, hs.phase, ⟨hs.recov.1, by show s.recov ≤ s.nxt + n; omega⟩, ⟨hs.high.1, by show s.high ≤ s.nxt + n; omega⟩, hs.dups⟩
end
theorem has_two {D : List Nat} {w0 w : World} {F G : List (Nat × Obj)} {mp bp : Nat} {s s' : CS} {st : Int} {sk : Bool} {bu bn bn' : Int} {bv : Value} (h : Has D w0 F w) (hk : Keeps F [(mp, C (encM s' st sk bp) 69), (bp, C (bdL bu bn' bv) 85)] G) {k off n : Int} (he : sentM s k off n = s' ∧ sentN s st bn k off n = bn') :
    Has D w0 [(mp, C (encM (sentM s k off n) st sk bp) 69), (bp, C (bdL bu (sentN s st bn k off n) bv) 85)] w := by
  rw [he.1, he.2]; exact h.keep hk


set_option maxHeartbeats 8000000 in
theorem sent_m (mp : Nat) (s : CS) (st : Int) (sk : Bool) (bp : Nat) (hs : Mk s) (bu bn : Int) (bv : Value) (k off n : Int) (hof : -1152921504606846976 ≤ off ∧ off ≤ 2305843009213693952) (hn : 0 ≤ n ∧ n ≤ 4294967295) (hnx : s.nxt + 4294967296 ≤ 1152921504606846976) : Sp Tryz.prog 17 #[.pointer (some ⟨mp, 0, none⟩), .agg ⟨[.int .u8 k, .int .i64 off, .int .i64 n]⟩] [(mp, C (encM (s) st sk bp) 69), (bp, C (bdL bu bn bv) 85)] (fun v F' => v = .tuple #[] ∧ F' = [(mp, C (encM (sentM s k off n) st sk bp) 69), (bp, C (bdL bu (sentN s st bn k off n) bv) 85)]) := by
  refine f_enter (args := [.pointer (some ⟨mp, 0, none⟩), .agg ⟨[.int .u8 k, .int .i64 off, .int .i64 n]⟩]) Tryz.func17 rfl Tryz.ntmps17 rfl ?_
  intro w0 w a hpre hl hh
  have o1 := hs.init; have o2 := hs.maxc; have o3 := hs.bn; have o4 := hs.bd; have o5 := hs.abc; have o6 := hs.dupt; have o7 := hs.mss; have o8 := hs.cwnd; have o9 := hs.ssth; have o10 := hs.credit; have o11 := hs.una; have o12 := hs.nxt; have o13 := hs.phase; have o14 := hs.recov; have o15 := hs.high; have o16 := hs.dups; have o17 := hs.fl
  simp only [slotsFrom, Nat.reduceAdd] at hl
  refine c_seq ?_
  refine c_region ?_
  refine wl (w_box hl hh rfl trivial rfl rfl ?_)
  clear hl hh a w; intro k3 a w hl hh
  refine w_nil ?_
  have hl2 := hl.add (t := 0) (hl.add (t := 3) (hl.nil) rfl) rfl; clear hl; have hl := hl2; clear hl2
  refine then_normal ?_
  refine c_seq ?_
  refine c_draw [(mp, C (encM (s) st sk bp) 69), (k3, C [.int .u8 k, .int .i64 off, .int .i64 n] 42)] [22, 23, 24] mixed hh ?_
  clear hh w; intro w hh
  have hM : Mem [(mp, C (encM (s) st sk bp) 69), (k3, C [.int .u8 k, .int .i64 off, .int .i64 n] 42)] w := (by (repeat (first | exact Mem.nil | refine Mem.cons hh.mem (by (repeat (first | exact find_head | apply find_tail)); done) ?_ | refine Mem.consR hh (by assumption) (by simp) ?_ | fail)); done)
  refine d_take (i := 0) hl rfl (by kernel_rfl) (by kernel_rfl) (by kernel_rfl) (by kernel_rfl) (by kernel_rfl) rfl trivial (fun _ _ _ h => h) hM (fun w hC => r_field hl rfl fld42_2) rfl ?_
  clear hl a; intro a hl
  refine d_take (i := 1) hl rfl (by kernel_rfl) (by kernel_rfl) (by kernel_rfl) (by kernel_rfl) (by kernel_rfl) rfl trivial (fun _ _ _ h => h) hM (fun w hC => r_loadC hl rfl one2 hC (by repeat (first | exact find_head | apply find_tail)) (by first | rfl)) rfl ?_
  clear hl a; intro a hl
  refine d_take (i := 2) hl rfl (by kernel_rfl) (by kernel_rfl) (by kernel_rfl) (by kernel_rfl) (by kernel_rfl) rfl trivial (fun _ _ _ h => h) hM (fun w hC => r_gtr hl rfl rfl) rfl ?_
  clear hl a; intro a hl
  refine d_take (i := 3) hl rfl (by kernel_rfl) (by kernel_rfl) (by kernel_rfl) (by kernel_rfl) (by kernel_rfl) rfl trivial (fun _ _ _ h => h) hM (fun w hC => r_move hl rfl) rfl ?_
  clear hl a; intro a hl
  refine sl_split (t := 8) hl rfl ?_ ?_
  · intro hg1; clear hl; intro hl
    try simp only [decide_eq_true_eq, decide_eq_false_iff_not, Bool.not_eq_true', Bool.not_eq_false', Bool.not_eq_true, Bool.not_eq_false, Bool.and_eq_true, Bool.or_eq_true, Bool.and_eq_false_iff, Bool.or_eq_false_iff, Bool.not_not, ne_eq, Int.not_lt, Int.not_le, Decidable.not_not, beq_iff_eq, bne_iff_ne] at hg1
    refine d_take (i := 4) hl rfl (by kernel_rfl) (by kernel_rfl) (by kernel_rfl) (by kernel_rfl) (by kernel_rfl) rfl ⟨_, _, rfl, rfl, rfl⟩ (fun _ _ _ h => h) hM (fun w hC => r_field hl rfl fld42_1) rfl ?_
    clear hl a; intro a hl
    refine d_take (i := 5) hl rfl (by kernel_rfl) (by kernel_rfl) (by kernel_rfl) (by kernel_rfl) (by kernel_rfl) rfl ⟨_, _, rfl, rfl, rfl⟩ (fun _ _ _ h => h) hM (fun w hC => r_loadC hl rfl one2 hC (by repeat (first | exact find_head | apply find_tail)) (by first | rfl)) rfl ?_
    clear hl a; intro a hl
    refine d_take (i := 6) hl rfl (by kernel_rfl) (by kernel_rfl) (by kernel_rfl) (by kernel_rfl) (by kernel_rfl) rfl ⟨_, _, rfl, rfl, rfl⟩ (fun _ _ _ h => h) hM (fun w hC => r_move hl rfl) rfl ?_
    clear hl a; intro a hl
    refine d_take (i := 7) hl rfl (by kernel_rfl) (by kernel_rfl) (by kernel_rfl) (by kernel_rfl) (by kernel_rfl) rfl ⟨_, _, rfl, rfl, rfl⟩ (fun _ _ _ h => h) hM (fun w hC => r_nilCheck hl rfl) rfl ?_
    clear hl a; intro a hl
    refine d_take (i := 8) hl rfl (by kernel_rfl) (by kernel_rfl) (by kernel_rfl) (by kernel_rfl) (by kernel_rfl) rfl ⟨_, _, rfl, rfl, rfl⟩ (fun _ _ _ h => h) hM (fun w hC => r_field hl rfl fld69_8) rfl ?_
    clear hl a; intro a hl
    refine d_take (i := 9) hl rfl (by kernel_rfl) (by kernel_rfl) (by kernel_rfl) (by kernel_rfl) (by kernel_rfl) rfl ⟨_, _, rfl, rfl, rfl⟩ (fun _ _ _ h => h) hM (fun w hC => r_loadC hl rfl one2 hC (by repeat (first | exact find_head | apply find_tail)) (by first | rfl)) rfl ?_
    clear hl a; intro a hl
    refine d_take (i := 10) hl rfl (by kernel_rfl) (by kernel_rfl) (by kernel_rfl) (by kernel_rfl) (by kernel_rfl) rfl ⟨_, _, rfl, rfl, rfl⟩ (fun _ _ _ h => h) hM (fun w hC => r_geq hl rfl rfl) rfl ?_
    clear hl a; intro a hl
    refine d_take (i := 11) hl rfl (by kernel_rfl) (by kernel_rfl) (by kernel_rfl) (by kernel_rfl) (by kernel_rfl) rfl trivial (fun _ _ _ h => h) hM (fun w hC => r_pickT hl rfl rfl) rfl ?_
    clear hl a; intro a hl
    refine d_take (i := 12) hl rfl (by kernel_rfl) (by kernel_rfl) (by kernel_rfl) (by kernel_rfl) (by kernel_rfl) rfl trivial (fun _ _ _ h => h) hM (fun w hC => r_move hl rfl) rfl ?_
    clear hl a; intro a hl
    refine sl_split (t := 17) hl rfl ?_ ?_
    · intro hg2; clear hl; intro hl
      try simp only [decide_eq_true_eq, decide_eq_false_iff_not, Bool.not_eq_true', Bool.not_eq_false', Bool.not_eq_true, Bool.not_eq_false, Bool.and_eq_true, Bool.or_eq_true, Bool.and_eq_false_iff, Bool.or_eq_false_iff, Bool.not_not, ne_eq, Int.not_lt, Int.not_le, Decidable.not_not, beq_iff_eq, bne_iff_ne] at hg2
      refine d_take (i := 13) hl rfl (by kernel_rfl) (by kernel_rfl) (by kernel_rfl) (by kernel_rfl) (by kernel_rfl) rfl ⟨_, _, rfl, rfl, rfl⟩ (fun _ _ _ h => h) hM (fun w hC => r_field hl rfl fld42_1) rfl ?_
      clear hl a; intro a hl
      refine d_take (i := 14) hl rfl (by kernel_rfl) (by kernel_rfl) (by kernel_rfl) (by kernel_rfl) (by kernel_rfl) rfl ⟨_, _, rfl, rfl, rfl⟩ (fun _ _ _ h => h) hM (fun w hC => r_loadC hl rfl one2 hC (by repeat (first | exact find_head | apply find_tail)) (by first | rfl)) rfl ?_
      clear hl a; intro a hl
      refine d_take (i := 15) hl rfl (by kernel_rfl) (by kernel_rfl) (by kernel_rfl) (by kernel_rfl) (by kernel_rfl) rfl ⟨_, _, rfl, rfl, rfl⟩ (fun _ _ _ h => h) hM (fun w hC => r_field hl rfl fld42_2) rfl ?_
      clear hl a; intro a hl
      refine d_take (i := 16) hl rfl (by kernel_rfl) (by kernel_rfl) (by kernel_rfl) (by kernel_rfl) (by kernel_rfl) rfl ⟨_, _, rfl, rfl, rfl⟩ (fun _ _ _ h => h) hM (fun w hC => r_loadC hl rfl one2 hC (by repeat (first | exact find_head | apply find_tail)) (by first | rfl)) rfl ?_
      clear hl a; intro a hl
      first | refine d_take (i := 17) hl rfl (by kernel_rfl) (by kernel_rfl) (by kernel_rfl) (by kernel_rfl) (by kernel_rfl) rfl ⟨_, _, rfl, rfl, rfl⟩ (fun _ _ _ h => h) hM (fun w hC => r_add hl rfl rfl (by simp only [Fits]; omega)) rfl ?_ | refine d_take (i := 17) hl rfl (by kernel_rfl) (by kernel_rfl) (by kernel_rfl) (by kernel_rfl) (by kernel_rfl) rfl ⟨_, _, rfl, rfl, rfl⟩ (fun _ _ _ h => h) hM (fun w hC => r_addW hl rfl rfl) rfl ?_
      clear hl a; intro a hl
      refine d_take (i := 18) hl rfl (by kernel_rfl) (by kernel_rfl) (by kernel_rfl) (by kernel_rfl) (by kernel_rfl) rfl ⟨_, _, rfl, rfl, rfl⟩ (fun _ _ _ h => h) hM (fun w hC => r_move hl rfl) rfl ?_
      clear hl a; intro a hl
      refine d_take (i := 19) hl rfl (by kernel_rfl) (by kernel_rfl) (by kernel_rfl) (by kernel_rfl) (by kernel_rfl) rfl ⟨_, _, rfl, rfl, rfl⟩ (fun _ _ _ h => h) hM (fun w hC => r_nilCheck hl rfl) rfl ?_
      clear hl a; intro a hl
      refine d_take (i := 20) hl rfl (by kernel_rfl) (by kernel_rfl) (by kernel_rfl) (by kernel_rfl) (by kernel_rfl) rfl ⟨_, _, rfl, rfl, rfl⟩ (fun _ _ _ h => h) hM (fun w hC => r_field hl rfl fld69_9) rfl ?_
      clear hl a; intro a hl
      refine d_take (i := 21) hl rfl (by kernel_rfl) (by kernel_rfl) (by kernel_rfl) (by kernel_rfl) (by kernel_rfl) rfl ⟨_, _, rfl, rfl, rfl⟩ (fun _ _ _ h => h) hM (fun w hC => r_loadC hl rfl one2 hC (by repeat (first | exact find_head | apply find_tail)) (by first | rfl)) rfl ?_
      clear hl a; intro a hl
      refine d_takeL (i := 22) hl rfl (by kernel_rfl) (by kernel_rfl) (by kernel_rfl) (by kernel_rfl) (by kernel_rfl) rfl ⟨_, _, rfl, rfl, rfl⟩ (fun _ _ _ h => h) (fun w => r_leq hl rfl rfl) rfl ?_
      clear hl a; intro a hl
      refine d_takeL (i := 23) hl rfl (by kernel_rfl) (by kernel_rfl) (by kernel_rfl) (by kernel_rfl) (by kernel_rfl) rfl trivial (fun _ _ _ h => h) (fun w => r_pickT hl rfl rfl) rfl ?_
      clear hl a; intro a hl
      refine d_takeL (i := 24) hl rfl (by kernel_rfl) (by kernel_rfl) (by kernel_rfl) (by kernel_rfl) (by kernel_rfl) rfl trivial (fun _ _ _ h => h) (fun w => r_assign hl rfl) rfl ?_
      clear hl a; intro a hl
      refine d_done (by kernel_rfl) ?_
      try clear hM
      have hl2 := hl.add (t := 0) (hl.add (t := 3) (hl.add (t := 4) (hl.nil) rfl) rfl) rfl; clear hl; have hl := hl2; clear hl2
      refine then_normal ?_
      refine wp_block ?_
      refine c_seq ?_
      refine c_draw [(mp, C (encM (s) st sk bp) 69), (k3, C [.int .u8 k, .int .i64 off, .int .i64 n] 42)] [24, 25, 26, 27] mixed hh ?_
      clear hh w; intro w hh
      have hM : Mem [(mp, C (encM (s) st sk bp) 69), (k3, C [.int .u8 k, .int .i64 off, .int .i64 n] 42)] w := (by (repeat (first | exact Mem.nil | refine Mem.cons hh.mem (by (repeat (first | exact find_head | apply find_tail)); done) ?_ | refine Mem.consR hh (by assumption) (by simp) ?_ | fail)); done)
      refine d_take (i := 0) hl rfl (by kernel_rfl) (by kernel_rfl) (by kernel_rfl) (by kernel_rfl) (by kernel_rfl) rfl trivial (fun _ _ _ h => h) hM (fun w hC => r_field hl rfl fld42_0) rfl ?_
      clear hl a; intro a hl
      refine d_take (i := 1) hl rfl (by kernel_rfl) (by kernel_rfl) (by kernel_rfl) (by kernel_rfl) (by kernel_rfl) rfl trivial (fun _ _ _ h => h) hM (fun w hC => r_loadC hl rfl one38 hC (by repeat (first | exact find_head | apply find_tail)) (by first | rfl)) rfl ?_
      clear hl a; intro a hl
      refine d_take (i := 2) hl rfl (by kernel_rfl) (by kernel_rfl) (by kernel_rfl) (by kernel_rfl) (by kernel_rfl) rfl trivial (fun _ _ _ h => h) hM (fun w hC => r_eql hl rfl rfl) rfl ?_
      clear hl a; intro a hl
      refine d_take (i := 3) hl rfl (by kernel_rfl) (by kernel_rfl) (by kernel_rfl) (by kernel_rfl) (by kernel_rfl) rfl trivial (fun _ _ _ h => h) hM (fun w hC => r_move hl rfl) rfl ?_
      clear hl a; intro a hl
      refine sl_split (t := 33) hl rfl ?_ ?_
      · intro hg3; clear hl; intro hl
        try simp only [decide_eq_true_eq, decide_eq_false_iff_not, Bool.not_eq_true', Bool.not_eq_false', Bool.not_eq_true, Bool.not_eq_false, Bool.and_eq_true, Bool.or_eq_true, Bool.and_eq_false_iff, Bool.or_eq_false_iff, Bool.not_not, ne_eq, Int.not_lt, Int.not_le, Decidable.not_not, beq_iff_eq, bne_iff_ne] at hg3
        refine d_take (i := 4) hl rfl (by kernel_rfl) (by kernel_rfl) (by kernel_rfl) (by kernel_rfl) (by kernel_rfl) rfl ⟨_, _, rfl, rfl, rfl⟩ (fun _ _ _ h => h) hM (fun w hC => r_field hl rfl fld42_1) rfl ?_
        clear hl a; intro a hl
        refine d_take (i := 5) hl rfl (by kernel_rfl) (by kernel_rfl) (by kernel_rfl) (by kernel_rfl) (by kernel_rfl) rfl ⟨_, _, rfl, rfl, rfl⟩ (fun _ _ _ h => h) hM (fun w hC => r_loadC hl rfl one2 hC (by repeat (first | exact find_head | apply find_tail)) (by first | rfl)) rfl ?_
        clear hl a; intro a hl
        refine d_take (i := 6) hl rfl (by kernel_rfl) (by kernel_rfl) (by kernel_rfl) (by kernel_rfl) (by kernel_rfl) rfl ⟨_, _, rfl, rfl, rfl⟩ (fun _ _ _ h => h) hM (fun w hC => r_move hl rfl) rfl ?_
        clear hl a; intro a hl
        refine d_take (i := 7) hl rfl (by kernel_rfl) (by kernel_rfl) (by kernel_rfl) (by kernel_rfl) (by kernel_rfl) rfl ⟨_, _, rfl, rfl, rfl⟩ (fun _ _ _ h => h) hM (fun w hC => r_nilCheck hl rfl) rfl ?_
        clear hl a; intro a hl
        refine d_take (i := 8) hl rfl (by kernel_rfl) (by kernel_rfl) (by kernel_rfl) (by kernel_rfl) (by kernel_rfl) rfl ⟨_, _, rfl, rfl, rfl⟩ (fun _ _ _ h => h) hM (fun w hC => r_field hl rfl fld69_9) rfl ?_
        clear hl a; intro a hl
        refine d_take (i := 9) hl rfl (by kernel_rfl) (by kernel_rfl) (by kernel_rfl) (by kernel_rfl) (by kernel_rfl) rfl ⟨_, _, rfl, rfl, rfl⟩ (fun _ _ _ h => h) hM (fun w hC => r_loadC hl rfl one2 hC (by repeat (first | exact find_head | apply find_tail)) (by first | rfl)) rfl ?_
        clear hl a; intro a hl
        refine d_take (i := 10) hl rfl (by kernel_rfl) (by kernel_rfl) (by kernel_rfl) (by kernel_rfl) (by kernel_rfl) rfl ⟨_, _, rfl, rfl, rfl⟩ (fun _ _ _ h => h) hM (fun w hC => r_eql hl rfl rfl) rfl ?_
        clear hl a; intro a hl
        refine d_take (i := 11) hl rfl (by kernel_rfl) (by kernel_rfl) (by kernel_rfl) (by kernel_rfl) (by kernel_rfl) rfl trivial (fun _ _ _ h => h) hM (fun w hC => r_pickT hl rfl rfl) rfl ?_
        clear hl a; intro a hl
        refine d_take (i := 12) hl rfl (by kernel_rfl) (by kernel_rfl) (by kernel_rfl) (by kernel_rfl) (by kernel_rfl) rfl trivial (fun _ _ _ h => h) hM (fun w hC => r_move hl rfl) rfl ?_
        clear hl a; intro a hl
        refine sl_split (t := 42) hl rfl ?_ ?_
        · intro hg4; clear hl; intro hl
          try simp only [decide_eq_true_eq, decide_eq_false_iff_not, Bool.not_eq_true', Bool.not_eq_false', Bool.not_eq_true, Bool.not_eq_false, Bool.and_eq_true, Bool.or_eq_true, Bool.and_eq_false_iff, Bool.or_eq_false_iff, Bool.not_not, ne_eq, Int.not_lt, Int.not_le, Decidable.not_not, beq_iff_eq, bne_iff_ne] at hg4
          refine d_take (i := 13) hl rfl (by kernel_rfl) (by kernel_rfl) (by kernel_rfl) (by kernel_rfl) (by kernel_rfl) rfl ⟨_, _, rfl, rfl, rfl⟩ (fun _ _ _ h => h) hM (fun w hC => r_move hl rfl) rfl ?_
          clear hl a; intro a hl
          refine d_take (i := 14) hl rfl (by kernel_rfl) (by kernel_rfl) (by kernel_rfl) (by kernel_rfl) (by kernel_rfl) rfl ⟨_, _, rfl, rfl, rfl⟩ (fun _ _ _ h => h) hM (fun w hC => r_nilCheck hl rfl) rfl ?_
          clear hl a; intro a hl
          refine d_take (i := 15) hl rfl (by kernel_rfl) (by kernel_rfl) (by kernel_rfl) (by kernel_rfl) (by kernel_rfl) rfl ⟨_, _, rfl, rfl, rfl⟩ (fun _ _ _ h => h) hM (fun w hC => r_field hl rfl fld69_9) rfl ?_
          clear hl a; intro a hl
          refine d_take (i := 16) hl rfl (by kernel_rfl) (by kernel_rfl) (by kernel_rfl) (by kernel_rfl) (by kernel_rfl) rfl ⟨_, _, rfl, rfl, rfl⟩ (fun _ _ _ h => h) hM (fun w hC => r_loadC hl rfl one2 hC (by repeat (first | exact find_head | apply find_tail)) (by first | rfl)) rfl ?_
          clear hl a; intro a hl
          refine d_take (i := 17) hl rfl (by kernel_rfl) (by kernel_rfl) (by kernel_rfl) (by kernel_rfl) (by kernel_rfl) rfl ⟨_, _, rfl, rfl, rfl⟩ (fun _ _ _ h => h) hM (fun w hC => r_move hl rfl) rfl ?_
          clear hl a; intro a hl
          refine d_take (i := 18) hl rfl (by kernel_rfl) (by kernel_rfl) (by kernel_rfl) (by kernel_rfl) (by kernel_rfl) rfl ⟨_, _, rfl, rfl, rfl⟩ (fun _ _ _ h => h) hM (fun w hC => r_nilCheck hl rfl) rfl ?_
          clear hl a; intro a hl
          refine d_take (i := 19) hl rfl (by kernel_rfl) (by kernel_rfl) (by kernel_rfl) (by kernel_rfl) (by kernel_rfl) rfl ⟨_, _, rfl, rfl, rfl⟩ (fun _ _ _ h => h) hM (fun w hC => r_field hl rfl fld69_8) rfl ?_
          clear hl a; intro a hl
          refine d_take (i := 20) hl rfl (by kernel_rfl) (by kernel_rfl) (by kernel_rfl) (by kernel_rfl) (by kernel_rfl) rfl ⟨_, _, rfl, rfl, rfl⟩ (fun _ _ _ h => h) hM (fun w hC => r_loadC hl rfl one2 hC (by repeat (first | exact find_head | apply find_tail)) (by first | rfl)) rfl ?_
          clear hl a; intro a hl
          first | refine d_take (i := 21) hl rfl (by kernel_rfl) (by kernel_rfl) (by kernel_rfl) (by kernel_rfl) (by kernel_rfl) rfl ⟨_, _, rfl, rfl, rfl⟩ (fun _ _ _ h => h) hM (fun w hC => r_sub hl rfl rfl (by simp only [Fits]; omega)) rfl ?_ | refine d_take (i := 21) hl rfl (by kernel_rfl) (by kernel_rfl) (by kernel_rfl) (by kernel_rfl) (by kernel_rfl) rfl ⟨_, _, rfl, rfl, rfl⟩ (fun _ _ _ h => h) hM (fun w hC => r_subW hl rfl rfl) rfl ?_
          clear hl a; intro a hl
          refine d_take (i := 22) hl rfl (by kernel_rfl) (by kernel_rfl) (by kernel_rfl) (by kernel_rfl) (by kernel_rfl) rfl ⟨_, _, rfl, rfl, rfl⟩ (fun _ _ _ h => h) hM (fun w hC => r_field hl rfl fld42_2) rfl ?_
          clear hl a; intro a hl
          refine d_take (i := 23) hl rfl (by kernel_rfl) (by kernel_rfl) (by kernel_rfl) (by kernel_rfl) (by kernel_rfl) rfl ⟨_, _, rfl, rfl, rfl⟩ (fun _ _ _ h => h) hM (fun w hC => r_loadC hl rfl one2 hC (by repeat (first | exact find_head | apply find_tail)) (by first | rfl)) rfl ?_
          clear hl a; intro a hl
          first | refine d_takeL (i := 24) hl rfl (by kernel_rfl) (by kernel_rfl) (by kernel_rfl) (by kernel_rfl) (by kernel_rfl) rfl ⟨_, _, rfl, rfl, rfl⟩ (fun _ _ _ h => h) (fun w => r_add hl rfl rfl (by simp only [Fits]; omega)) rfl ?_ | refine d_takeL (i := 24) hl rfl (by kernel_rfl) (by kernel_rfl) (by kernel_rfl) (by kernel_rfl) (by kernel_rfl) rfl ⟨_, _, rfl, rfl, rfl⟩ (fun _ _ _ h => h) (fun w => r_addW hl rfl rfl) rfl ?_
          clear hl a; intro a hl
          refine d_takeL (i := 25) hl rfl (by kernel_rfl) (by kernel_rfl) (by kernel_rfl) (by kernel_rfl) (by kernel_rfl) rfl ⟨_, _, rfl, rfl, rfl⟩ (fun _ _ _ h => h) (fun w => r_leq hl rfl rfl) rfl ?_
          clear hl a; intro a hl
          refine d_takeL (i := 26) hl rfl (by kernel_rfl) (by kernel_rfl) (by kernel_rfl) (by kernel_rfl) (by kernel_rfl) rfl trivial (fun _ _ _ h => h) (fun w => r_pickT hl rfl rfl) rfl ?_
          clear hl a; intro a hl
          refine d_takeL (i := 27) hl rfl (by kernel_rfl) (by kernel_rfl) (by kernel_rfl) (by kernel_rfl) (by kernel_rfl) rfl trivial (fun _ _ _ h => h) (fun w => r_assign hl rfl) rfl ?_
          clear hl a; intro a hl
          refine d_done (by kernel_rfl) ?_
          try clear hM
          have hl2 := hl.add (t := 0) (hl.add (t := 3) (hl.add (t := 4) (hl.add (t := 29) (hl.nil) rfl) rfl) rfl) rfl; clear hl; have hl := hl2; clear hl2
          refine then_normal ?_
          refine c_cond hl rfl ?_ ?_
          · intro hc0
            try simp only [decide_eq_true_eq, decide_eq_false_iff_not, Bool.not_eq_true', Bool.not_eq_false', Bool.not_eq_true, Bool.not_eq_false, Bool.and_eq_true, Bool.or_eq_true, Bool.and_eq_false_iff, Bool.or_eq_false_iff, Bool.not_not, ne_eq, Int.not_lt, Int.not_le, Decidable.not_not, beq_iff_eq, bne_iff_ne] at hc0
            refine c_seq ?_
            refine c_draw [(mp, C (encM (s) st sk bp) 69), (k3, C [.int .u8 k, .int .i64 off, .int .i64 n] 42)] [6, 7, 8, 9] mixed hh ?_
            clear hh w; intro w hh
            have hM : Mem [(mp, C (encM (s) st sk bp) 69), (k3, C [.int .u8 k, .int .i64 off, .int .i64 n] 42)] w := (by (repeat (first | exact Mem.nil | refine Mem.cons hh.mem (by (repeat (first | exact find_head | apply find_tail)); done) ?_ | refine Mem.consR hh (by assumption) (by simp) ?_ | fail)); done)
            refine d_take (i := 0) hl rfl (by kernel_rfl) (by kernel_rfl) (by kernel_rfl) (by kernel_rfl) (by kernel_rfl) rfl trivial (fun _ _ _ h => h) hM (fun w hC => r_move hl rfl) rfl ?_
            clear hl a; intro a hl
            refine d_take (i := 1) hl rfl (by kernel_rfl) (by kernel_rfl) (by kernel_rfl) (by kernel_rfl) (by kernel_rfl) rfl trivial (fun _ _ _ h => h) hM (fun w hC => r_nilCheck hl rfl) rfl ?_
            clear hl a; intro a hl
            refine d_take (i := 2) hl rfl (by kernel_rfl) (by kernel_rfl) (by kernel_rfl) (by kernel_rfl) (by kernel_rfl) rfl trivial (fun _ _ _ h => h) hM (fun w hC => r_field hl rfl fld69_9) rfl ?_
            clear hl a; intro a hl
            refine d_take (i := 3) hl rfl (by kernel_rfl) (by kernel_rfl) (by kernel_rfl) (by kernel_rfl) (by kernel_rfl) rfl trivial (fun _ _ _ h => h) hM (fun w hC => r_loadC hl rfl one2 hC (by repeat (first | exact find_head | apply find_tail)) (by first | rfl)) rfl ?_
            clear hl a; intro a hl
            refine d_take (i := 4) hl rfl (by kernel_rfl) (by kernel_rfl) (by kernel_rfl) (by kernel_rfl) (by kernel_rfl) rfl trivial (fun _ _ _ h => h) hM (fun w hC => r_field hl rfl fld42_2) rfl ?_
            clear hl a; intro a hl
            refine d_take (i := 5) hl rfl (by kernel_rfl) (by kernel_rfl) (by kernel_rfl) (by kernel_rfl) (by kernel_rfl) rfl trivial (fun _ _ _ h => h) hM (fun w hC => r_loadC hl rfl one2 hC (by repeat (first | exact find_head | apply find_tail)) (by first | rfl)) rfl ?_
            clear hl a; intro a hl
            first | refine d_takeL (i := 6) hl rfl (by kernel_rfl) (by kernel_rfl) (by kernel_rfl) (by kernel_rfl) (by kernel_rfl) rfl trivial (fun _ _ _ h => h) (fun w => r_add hl rfl rfl (by simp only [Fits]; omega)) rfl ?_ | refine d_takeL (i := 6) hl rfl (by kernel_rfl) (by kernel_rfl) (by kernel_rfl) (by kernel_rfl) (by kernel_rfl) rfl trivial (fun _ _ _ h => h) (fun w => r_addW hl rfl rfl) rfl ?_
            clear hl a; intro a hl
            refine d_takeL (i := 7) hl rfl (by kernel_rfl) (by kernel_rfl) (by kernel_rfl) (by kernel_rfl) (by kernel_rfl) rfl trivial (fun _ _ _ h => h) (fun w => r_nilCheck hl rfl) rfl ?_
            clear hl a; intro a hl
            refine d_takeL (i := 8) hl rfl (by kernel_rfl) (by kernel_rfl) (by kernel_rfl) (by kernel_rfl) (by kernel_rfl) rfl trivial (fun _ _ _ h => h) (fun w => r_field hl rfl fld69_9) rfl ?_
            clear hl a; intro a hl
            refine d_one (i := 9) (by kernel_rfl) rfl ?_
            try clear hM
            refine id (w_store hl hh trivial one2 rfl rfl (by repeat (first | exact find_head | apply find_tail)) (by first | (simp; done) | (simp; omega)) (by first | rfl | assumption | (apply Row.one; assumption)) (by first | (simp only [encM, setL, List.getElem?_cons_zero, List.getElem?_cons_succ, Value.cells, List.take_zero, List.take_succ_cons, List.take_nil, List.drop_zero, List.drop_succ_cons, List.drop_nil, List.length_cons, List.length_nil, List.cons_append, List.nil_append, List.append_nil, Nat.zero_add, Nat.add_zero, Nat.reduceAdd, Nat.reduceBEq, Nat.reduceEqDiff, Nat.ble, BEq.rfl, Bool.and_true, Bool.and_self, cond_true, beq_self_eq_true]; rfl) | (simp only [setL, List.getElem?_cons_zero, List.getElem?_cons_succ, Value.cells, List.take_zero, List.take_succ_cons, List.take_nil, List.drop_zero, List.drop_succ_cons, List.drop_nil, List.length_cons, List.length_nil, List.cons_append, List.nil_append, List.append_nil, Nat.zero_add, Nat.add_zero, Nat.reduceAdd, Nat.reduceBEq, Nat.reduceEqDiff, Nat.ble, BEq.rfl, Bool.and_true, Bool.and_self, cond_true, beq_self_eq_true]; rfl)) ?_)
            clear hh w; intro w hh
            refine d_step (fun h => absurd h (by decide)) ?_
            refine d_done (by kernel_rfl) ?_
            try clear hM
            have hl2 := hl.add (t := 0) (hl.nil) rfl; clear hl; have hl := hl2; clear hl2
            refine then_normal ?_
            refine c_draw [(mp, C (encM ({ s with nxt := s.nxt + n }) st sk bp) 69)] [10] mixed hh ?_
            clear hh w; intro w hh
            have hM : Mem [(mp, C (encM ({ s with nxt := s.nxt + n }) st sk bp) 69)] w := (by (repeat (first | exact Mem.nil | refine Mem.cons hh.mem (by (repeat (first | exact find_head | apply find_tail)); done) ?_ | refine Mem.consR hh (by assumption) (by simp) ?_ | fail)); done)
            refine d_take (i := 0) hl rfl (by kernel_rfl) (by kernel_rfl) (by kernel_rfl) (by kernel_rfl) (by kernel_rfl) rfl trivial (fun _ _ _ h => h) hM (fun w hC => r_move hl rfl) rfl ?_
            clear hl a; intro a hl
            refine d_take (i := 1) hl rfl (by kernel_rfl) (by kernel_rfl) (by kernel_rfl) (by kernel_rfl) (by kernel_rfl) rfl trivial (fun _ _ _ h => h) hM (fun w hC => r_nilCheck hl rfl) rfl ?_
            clear hl a; intro a hl
            refine d_take (i := 2) hl rfl (by kernel_rfl) (by kernel_rfl) (by kernel_rfl) (by kernel_rfl) (by kernel_rfl) rfl trivial (fun _ _ _ h => h) hM (fun w hC => r_field hl rfl fld69_4) rfl ?_
            clear hl a; intro a hl
            refine d_take (i := 3) hl rfl (by kernel_rfl) (by kernel_rfl) (by kernel_rfl) (by kernel_rfl) (by kernel_rfl) rfl trivial (fun _ _ _ h => h) hM (fun w hC => r_loadC hl rfl one64 hC (by repeat (first | exact find_head | apply find_tail)) (by first | rfl)) rfl ?_
            clear hl a; intro a hl
            refine d_take (i := 4) hl rfl (by kernel_rfl) (by kernel_rfl) (by kernel_rfl) (by kernel_rfl) (by kernel_rfl) rfl trivial (fun _ _ _ h => h) hM (fun w hC => r_move hl rfl) rfl ?_
            clear hl a; intro a hl
            refine d_take (i := 5) hl rfl (by kernel_rfl) (by kernel_rfl) (by kernel_rfl) (by kernel_rfl) (by kernel_rfl) rfl trivial (fun _ _ _ h => h) hM (fun w hC => r_move hl rfl) rfl ?_
            clear hl a; intro a hl
            refine d_take (i := 6) hl rfl (by kernel_rfl) (by kernel_rfl) (by kernel_rfl) (by kernel_rfl) (by kernel_rfl) rfl trivial (fun _ _ _ h => h) hM (fun w hC => r_nilCheck hl rfl) rfl ?_
            clear hl a; intro a hl
            refine d_take (i := 7) hl rfl (by kernel_rfl) (by kernel_rfl) (by kernel_rfl) (by kernel_rfl) (by kernel_rfl) rfl trivial (fun _ _ _ h => h) hM (fun w hC => r_field hl rfl fld69_9) rfl ?_
            clear hl a; intro a hl
            refine d_take (i := 8) hl rfl (by kernel_rfl) (by kernel_rfl) (by kernel_rfl) (by kernel_rfl) (by kernel_rfl) rfl trivial (fun _ _ _ h => h) hM (fun w hC => r_loadC hl rfl one2 hC (by repeat (first | exact find_head | apply find_tail)) (by first | rfl)) rfl ?_
            clear hl a; intro a hl
            refine d_one (i := 9) (by kernel_rfl) rfl ?_
            try clear hM
            refine id (w_call hl hh rfl trivial rfl cal14 rfl (seq_m mp ({ s with nxt := s.nxt + n }) st sk bp (nxt_mk hs (by omega) (by omega) hnx) _) (by repeat (first | exact keeps_nil | apply keeps_cons (by repeat (first | exact find_head | apply find_tail)) (by first  | rfl) | exact keeps_self | apply keeps_mv)) (hh.mem _ _ (Find.mem (by repeat (first | exact find_head | apply find_tail)))) ?_)
            clear hl hh a w; intro vc Fc a w hR hl hh
            obtain ⟨rfl, rfl⟩ := hR
            try simp only [List.cons_append, List.nil_append] at hh
            have hM : Mem [(mp, C (encM ({ s with nxt := s.nxt + n }) st sk bp) 69)] w := (by (repeat (first | exact Mem.nil | refine Mem.cons hh.mem (by (repeat (first | exact find_head | apply find_tail)); done) ?_ | refine Mem.consR hh (by assumption) (by simp) ?_ | fail)); done)
            refine d_step (fun _ => hM) ?_
            refine d_one (i := 10) (by kernel_rfl) rfl ?_
            try clear hM
            refine id (w_call hl hh rfl trivial rfl cal38 rfl (sent_spec bp bu bn bv _) (by repeat (first | exact keeps_nil | apply keeps_cons (by repeat (first | exact find_head | apply find_tail)) (by first  | rfl) | exact keeps_self | apply keeps_mv)) trivial ?_)
            clear hl hh a w; intro vc Fc a w hR hl hh
            obtain ⟨rfl, rfl⟩ := hR
            try simp only [List.cons_append, List.nil_append] at hh
            refine d_step (fun h => absurd h (by decide)) ?_
            refine d_done (by kernel_rfl) ?_
            try clear hM
            have hl2 := hl.nil; clear hl; have hl := hl2; clear hl2
            refine blk_normal ?_
            first | (exfalso; omega) | (have he9 := sent_1 (s := s) (st := st) (bn := bn) (k := k) (off := off) (n := n) ⟨by omega, by omega, by omega⟩; refine f_end0 (F' := [(mp, C (encM (sentM s k off n) st sk bp) 69), (bp, C (bdL bu (sentN s st bn k off n) bv) 85)]) hl (has_two (bn := bn) hh (keeps_cons (b := mp) (by repeat (first | exact find_head | apply find_tail)) rfl (keeps_cons (b := bp) (by repeat (first | exact find_head | apply find_tail)) rfl keeps_nil)) he9) rfl keeps_self ⟨rfl, rfl⟩) | (have he9 := sent_2 (s := s) (st := st) (bn := bn) (k := k) (off := off) (n := n) (by omega) ⟨by omega, by omega, by omega⟩; refine f_end0 (F' := [(mp, C (encM (sentM s k off n) st sk bp) 69), (bp, C (bdL bu (sentN s st bn k off n) bv) 85)]) hl (has_two (bn := bn) hh (keeps_cons (b := mp) (by repeat (first | exact find_head | apply find_tail)) rfl (keeps_cons (b := bp) (by repeat (first | exact find_head | apply find_tail)) rfl keeps_nil)) he9) rfl keeps_self ⟨rfl, rfl⟩) | (have he9 := sent_3a (s := s) (st := st) (bn := bn) (k := k) (off := off) (n := n) (f := f9) (by omega) ⟨by omega, by omega, by omega⟩ (by omega) (by assumption); refine f_end0 (F' := [(mp, C (encM (sentM s k off n) st sk bp) 69), (bp, C (bdL bu (sentN s st bn k off n) bv) 85)]) hl (has_two (bn := bn) hh (keeps_cons (b := mp) (by repeat (first | exact find_head | apply find_tail)) rfl (keeps_cons (b := bp) (by repeat (first | exact find_head | apply find_tail)) rfl keeps_nil)) he9) rfl keeps_self ⟨rfl, rfl⟩) | (have he9 := sent_3b (s := s) (st := st) (bn := bn) (k := k) (off := off) (n := n) (f := f9) (by omega) ⟨by omega, by omega, by omega⟩ (by omega) (by assumption); refine f_end0 (F' := [(mp, C (encM (sentM s k off n) st sk bp) 69), (bp, C (bdL bu (sentN s st bn k off n) bv) 85)]) hl (has_two (bn := bn) hh (keeps_cons (b := mp) (by repeat (first | exact find_head | apply find_tail)) rfl (keeps_cons (b := bp) (by repeat (first | exact find_head | apply find_tail)) rfl keeps_nil)) he9) rfl keeps_self ⟨rfl, rfl⟩) | (have he9 := sent_4 (s := s) (st := st) (bn := bn) (k := k) (off := off) (n := n) (by omega) (by omega) (by omega); refine f_end0 (F' := [(mp, C (encM (sentM s k off n) st sk bp) 69), (bp, C (bdL bu (sentN s st bn k off n) bv) 85)]) hl (has_two (bn := bn) hh (keeps_cons (b := mp) (by repeat (first | exact find_head | apply find_tail)) rfl (keeps_cons (b := bp) (by repeat (first | exact find_head | apply find_tail)) rfl keeps_nil)) he9) rfl keeps_self ⟨rfl, rfl⟩) | (have he9 := sent_4 (s := s) (st := st) (bn := bn) (k := k) (off := off) (n := n) (by omega) (fun h9 => not_inF (by omega) h9.2) (fun h9 => not_inF (by omega) h9.2); refine f_end0 (F' := [(mp, C (encM (sentM s k off n) st sk bp) 69), (bp, C (bdL bu (sentN s st bn k off n) bv) 85)]) hl (has_two (bn := bn) hh (keeps_cons (b := mp) (by repeat (first | exact find_head | apply find_tail)) rfl (keeps_cons (b := bp) (by repeat (first | exact find_head | apply find_tail)) rfl keeps_nil)) he9) rfl keeps_self ⟨rfl, rfl⟩)
          · intro hc0
            try simp only [decide_eq_true_eq, decide_eq_false_iff_not, Bool.not_eq_true', Bool.not_eq_false', Bool.not_eq_true, Bool.not_eq_false, Bool.and_eq_true, Bool.or_eq_true, Bool.and_eq_false_iff, Bool.or_eq_false_iff, Bool.not_not, ne_eq, Int.not_lt, Int.not_le, Decidable.not_not, beq_iff_eq, bne_iff_ne] at hc0
            refine c_seq ?_
            refine c_region ?_
            refine wl (wl_val hl rfl trivial (r_field hl rfl fld42_0) ?_)
            clear hl a; intro a hl
            refine wl (w_load hl hh rfl trivial one38 rfl (by repeat (first | exact find_head | apply find_tail)) (by first | rfl) ?_)
            clear hl a; intro a hl
            refine wl (wl_val hl rfl trivial (r_eql hl rfl rfl) ?_)
            clear hl a; intro a hl
            refine wl (wl_val hl rfl trivial (r_move hl rfl) ?_)
            clear hl a; intro a hl
            refine sl_split (t := 81) hl rfl ?_ ?_
            · intro hg5; clear hl; intro hl
              try simp only [decide_eq_true_eq, decide_eq_false_iff_not, Bool.not_eq_true', Bool.not_eq_false', Bool.not_eq_true, Bool.not_eq_false, Bool.and_eq_true, Bool.or_eq_true, Bool.and_eq_false_iff, Bool.or_eq_false_iff, Bool.not_not, ne_eq, Int.not_lt, Int.not_le, Decidable.not_not, beq_iff_eq, bne_iff_ne] at hg5
              refine wl (wl_val hl rfl ⟨_, _, rfl, rfl, rfl⟩ (r_move hl rfl) ?_)
              clear hl a; intro a hl
              refine wl (wl_val hl rfl trivial (r_pickT hl rfl rfl) ?_)
              clear hl a; intro a hl
              refine wl (wl_val hl rfl trivial (r_assign hl rfl) ?_)
              clear hl a; intro a hl
              refine w_nil ?_
              have hl2 := hl.add (t := 0) (hl.add (t := 3) (hl.add (t := 4) (hl.add (t := 77) (hl.nil) rfl) rfl) rfl) rfl; clear hl; have hl := hl2; clear hl2
              refine then_normal ?_
              refine c_cond hl rfl ?_ ?_
              · intro hc1
                try simp only [decide_eq_true_eq, decide_eq_false_iff_not, Bool.not_eq_true', Bool.not_eq_false', Bool.not_eq_true, Bool.not_eq_false, Bool.and_eq_true, Bool.or_eq_true, Bool.and_eq_false_iff, Bool.or_eq_false_iff, Bool.not_not, ne_eq, Int.not_lt, Int.not_le, Decidable.not_not, beq_iff_eq, bne_iff_ne] at hc1
                refine c_region ?_
                refine wl (wl_val hl rfl trivial (r_move hl rfl) ?_)
                clear hl a; intro a hl
                refine wl (wl_val hl rfl trivial (r_nilCheck hl rfl) ?_)
                clear hl a; intro a hl
                refine wl (wl_val hl rfl trivial (r_field hl rfl fld69_16) ?_)
                clear hl a; intro a hl
                refine wl (w_store hl hh trivial one4 rfl rfl (by repeat (first | exact find_head | apply find_tail)) (by first | (simp; done) | (simp; omega)) (by first | rfl | assumption | (apply Row.one; assumption)) (by first | (simp only [encM, setL, List.getElem?_cons_zero, List.getElem?_cons_succ, Value.cells, List.take_zero, List.take_succ_cons, List.take_nil, List.drop_zero, List.drop_succ_cons, List.drop_nil, List.length_cons, List.length_nil, List.cons_append, List.nil_append, List.append_nil, Nat.zero_add, Nat.add_zero, Nat.reduceAdd, Nat.reduceBEq, Nat.reduceEqDiff, Nat.ble, BEq.rfl, Bool.and_true, Bool.and_self, cond_true, beq_self_eq_true]; rfl) | (simp only [setL, List.getElem?_cons_zero, List.getElem?_cons_succ, Value.cells, List.take_zero, List.take_succ_cons, List.take_nil, List.drop_zero, List.drop_succ_cons, List.drop_nil, List.length_cons, List.length_nil, List.cons_append, List.nil_append, List.append_nil, Nat.zero_add, Nat.add_zero, Nat.reduceAdd, Nat.reduceBEq, Nat.reduceEqDiff, Nat.ble, BEq.rfl, Bool.and_true, Bool.and_self, cond_true, beq_self_eq_true]; rfl)) ?_)
                clear hh w; intro w hh
                refine w_nil ?_
                have hl2 := hl.nil; clear hl; have hl := hl2; clear hl2
                refine blk_normal ?_
                first | (exfalso; omega) | (have he9 := sent_1 (s := s) (st := st) (bn := bn) (k := k) (off := off) (n := n) ⟨by omega, by omega, by omega⟩; refine f_end0 (F' := [(mp, C (encM (sentM s k off n) st sk bp) 69), (bp, C (bdL bu (sentN s st bn k off n) bv) 85)]) hl (has_two (bn := bn) hh (keeps_cons (b := mp) (by repeat (first | exact find_head | apply find_tail)) rfl (keeps_cons (b := bp) (by repeat (first | exact find_head | apply find_tail)) rfl keeps_nil)) he9) rfl keeps_self ⟨rfl, rfl⟩) | (have he9 := sent_2 (s := s) (st := st) (bn := bn) (k := k) (off := off) (n := n) (by omega) ⟨by omega, by omega, by omega⟩; refine f_end0 (F' := [(mp, C (encM (sentM s k off n) st sk bp) 69), (bp, C (bdL bu (sentN s st bn k off n) bv) 85)]) hl (has_two (bn := bn) hh (keeps_cons (b := mp) (by repeat (first | exact find_head | apply find_tail)) rfl (keeps_cons (b := bp) (by repeat (first | exact find_head | apply find_tail)) rfl keeps_nil)) he9) rfl keeps_self ⟨rfl, rfl⟩) | (have he9 := sent_3a (s := s) (st := st) (bn := bn) (k := k) (off := off) (n := n) (f := f9) (by omega) ⟨by omega, by omega, by omega⟩ (by omega) (by assumption); refine f_end0 (F' := [(mp, C (encM (sentM s k off n) st sk bp) 69), (bp, C (bdL bu (sentN s st bn k off n) bv) 85)]) hl (has_two (bn := bn) hh (keeps_cons (b := mp) (by repeat (first | exact find_head | apply find_tail)) rfl (keeps_cons (b := bp) (by repeat (first | exact find_head | apply find_tail)) rfl keeps_nil)) he9) rfl keeps_self ⟨rfl, rfl⟩) | (have he9 := sent_3b (s := s) (st := st) (bn := bn) (k := k) (off := off) (n := n) (f := f9) (by omega) ⟨by omega, by omega, by omega⟩ (by omega) (by assumption); refine f_end0 (F' := [(mp, C (encM (sentM s k off n) st sk bp) 69), (bp, C (bdL bu (sentN s st bn k off n) bv) 85)]) hl (has_two (bn := bn) hh (keeps_cons (b := mp) (by repeat (first | exact find_head | apply find_tail)) rfl (keeps_cons (b := bp) (by repeat (first | exact find_head | apply find_tail)) rfl keeps_nil)) he9) rfl keeps_self ⟨rfl, rfl⟩) | (have he9 := sent_4 (s := s) (st := st) (bn := bn) (k := k) (off := off) (n := n) (by omega) (by omega) (by omega); refine f_end0 (F' := [(mp, C (encM (sentM s k off n) st sk bp) 69), (bp, C (bdL bu (sentN s st bn k off n) bv) 85)]) hl (has_two (bn := bn) hh (keeps_cons (b := mp) (by repeat (first | exact find_head | apply find_tail)) rfl (keeps_cons (b := bp) (by repeat (first | exact find_head | apply find_tail)) rfl keeps_nil)) he9) rfl keeps_self ⟨rfl, rfl⟩) | (have he9 := sent_4 (s := s) (st := st) (bn := bn) (k := k) (off := off) (n := n) (by omega) (fun h9 => not_inF (by omega) h9.2) (fun h9 => not_inF (by omega) h9.2); refine f_end0 (F' := [(mp, C (encM (sentM s k off n) st sk bp) 69), (bp, C (bdL bu (sentN s st bn k off n) bv) 85)]) hl (has_two (bn := bn) hh (keeps_cons (b := mp) (by repeat (first | exact find_head | apply find_tail)) rfl (keeps_cons (b := bp) (by repeat (first | exact find_head | apply find_tail)) rfl keeps_nil)) he9) rfl keeps_self ⟨rfl, rfl⟩)
              · intro hc1
                try simp only [decide_eq_true_eq, decide_eq_false_iff_not, Bool.not_eq_true', Bool.not_eq_false', Bool.not_eq_true, Bool.not_eq_false, Bool.and_eq_true, Bool.or_eq_true, Bool.and_eq_false_iff, Bool.or_eq_false_iff, Bool.not_not, ne_eq, Int.not_lt, Int.not_le, Decidable.not_not, beq_iff_eq, bne_iff_ne] at hc1
                refine c_seq ?_
                refine c_region ?_
                refine wl (wl_val hl rfl trivial (r_field hl rfl fld42_0) ?_)
                clear hl a; intro a hl
                refine wl (w_load hl hh rfl trivial one38 rfl (by repeat (first | exact find_head | apply find_tail)) (by first | rfl) ?_)
                clear hl a; intro a hl
                refine wl (wl_val hl rfl trivial (r_eql hl rfl rfl) ?_)
                clear hl a; intro a hl
                refine wl (wl_val hl rfl trivial (r_move hl rfl) ?_)
                clear hl a; intro a hl
                refine sl_split (t := 91) hl rfl ?_ ?_
                · intro hg6; clear hl; intro hl
                  try simp only [decide_eq_true_eq, decide_eq_false_iff_not, Bool.not_eq_true', Bool.not_eq_false', Bool.not_eq_true, Bool.not_eq_false, Bool.and_eq_true, Bool.or_eq_true, Bool.and_eq_false_iff, Bool.or_eq_false_iff, Bool.not_not, ne_eq, Int.not_lt, Int.not_le, Decidable.not_not, beq_iff_eq, bne_iff_ne] at hg6
                  refine wl (wl_val hl rfl ⟨_, _, rfl, rfl, rfl⟩ (r_move hl rfl) ?_)
                  clear hl a; intro a hl
                  refine wl (wl_val hl rfl trivial (r_pickT hl rfl rfl) ?_)
                  clear hl a; intro a hl
                  refine wl (wl_val hl rfl trivial (r_assign hl rfl) ?_)
                  clear hl a; intro a hl
                  refine w_nil ?_
                  have hl2 := hl.add (t := 0) (hl.add (t := 3) (hl.add (t := 87) (hl.nil) rfl) rfl) rfl; clear hl; have hl := hl2; clear hl2
                  refine then_normal ?_
                  refine c_cond hl rfl ?_ ?_
                  · intro hc2
                    try simp only [decide_eq_true_eq, decide_eq_false_iff_not, Bool.not_eq_true', Bool.not_eq_false', Bool.not_eq_true, Bool.not_eq_false, Bool.and_eq_true, Bool.or_eq_true, Bool.and_eq_false_iff, Bool.or_eq_false_iff, Bool.not_not, ne_eq, Int.not_lt, Int.not_le, Decidable.not_not, beq_iff_eq, bne_iff_ne] at hc2
                    refine c_seq ?_
                    refine c_seq ?_
                    refine c_draw [(mp, C (encM (s) st sk bp) 69), (k3, C [.int .u8 k, .int .i64 off, .int .i64 n] 42)] [6] mixed hh ?_
                    clear hh w; intro w hh
                    have hM : Mem [(mp, C (encM (s) st sk bp) 69), (k3, C [.int .u8 k, .int .i64 off, .int .i64 n] 42)] w := (by (repeat (first | exact Mem.nil | refine Mem.cons hh.mem (by (repeat (first | exact find_head | apply find_tail)); done) ?_ | refine Mem.consR hh (by assumption) (by simp) ?_ | fail)); done)
                    refine d_take (i := 0) hl rfl (by kernel_rfl) (by kernel_rfl) (by kernel_rfl) (by kernel_rfl) (by kernel_rfl) rfl trivial (fun _ _ _ h => h) hM (fun w hC => r_field hl rfl fld42_1) rfl ?_
                    clear hl a; intro a hl
                    refine d_take (i := 1) hl rfl (by kernel_rfl) (by kernel_rfl) (by kernel_rfl) (by kernel_rfl) (by kernel_rfl) rfl trivial (fun _ _ _ h => h) hM (fun w hC => r_loadC hl rfl one2 hC (by repeat (first | exact find_head | apply find_tail)) (by first | rfl)) rfl ?_
                    clear hl a; intro a hl
                    refine d_take (i := 2) hl rfl (by kernel_rfl) (by kernel_rfl) (by kernel_rfl) (by kernel_rfl) (by kernel_rfl) rfl trivial (fun _ _ _ h => h) hM (fun w hC => r_move hl rfl) rfl ?_
                    clear hl a; intro a hl
                    refine d_take (i := 3) hl rfl (by kernel_rfl) (by kernel_rfl) (by kernel_rfl) (by kernel_rfl) (by kernel_rfl) rfl trivial (fun _ _ _ h => h) hM (fun w hC => r_nilCheck hl rfl) rfl ?_
                    clear hl a; intro a hl
                    refine d_take (i := 4) hl rfl (by kernel_rfl) (by kernel_rfl) (by kernel_rfl) (by kernel_rfl) (by kernel_rfl) rfl trivial (fun _ _ _ h => h) hM (fun w hC => r_field hl rfl fld69_8) rfl ?_
                    clear hl a; intro a hl
                    refine d_take (i := 5) hl rfl (by kernel_rfl) (by kernel_rfl) (by kernel_rfl) (by kernel_rfl) (by kernel_rfl) rfl trivial (fun _ _ _ h => h) hM (fun w hC => r_loadC hl rfl one2 hC (by repeat (first | exact find_head | apply find_tail)) (by first | rfl)) rfl ?_
                    clear hl a; intro a hl
                    refine d_takeL (i := 6) hl rfl (by kernel_rfl) (by kernel_rfl) (by kernel_rfl) (by kernel_rfl) (by kernel_rfl) rfl trivial (fun _ _ _ h => h) (fun w => r_eql hl rfl rfl) rfl ?_
                    clear hl a; intro a hl
                    refine d_done (by kernel_rfl) ?_
                    try clear hM
                    have hl2 := hl.add (t := 0) (hl.add (t := 3) (hl.add (t := 100) (hl.nil) rfl) rfl) rfl; clear hl; have hl := hl2; clear hl2
                    refine then_normal ?_
                    refine c_cond hl rfl ?_ ?_
                    · intro hc3
                      try simp only [decide_eq_true_eq, decide_eq_false_iff_not, Bool.not_eq_true', Bool.not_eq_false', Bool.not_eq_true, Bool.not_eq_false, Bool.and_eq_true, Bool.or_eq_true, Bool.and_eq_false_iff, Bool.or_eq_false_iff, Bool.not_not, ne_eq, Int.not_lt, Int.not_le, Decidable.not_not, beq_iff_eq, bne_iff_ne] at hc3
                      obtain ⟨f9, hf9⟩ : ∃ z, z = false := ⟨_, rfl⟩
                      refine c_region ?_
                      refine wl (wl_val hl rfl trivial (r_move hl rfl) ?_)
                      clear hl a; intro a hl
                      refine wl (wl_val hl rfl trivial (r_nilCheck hl rfl) ?_)
                      clear hl a; intro a hl
                      refine wl (wl_val hl rfl trivial (r_field hl rfl fld69_14) ?_)
                      clear hl a; intro a hl
                      refine wl (w_store hl hh trivial one4 rfl rfl (by repeat (first | exact find_head | apply find_tail)) (by first | (simp; done) | (simp; omega)) (by first | rfl | assumption | (apply Row.one; assumption)) (by first | (simp only [encM, setL, List.getElem?_cons_zero, List.getElem?_cons_succ, Value.cells, List.take_zero, List.take_succ_cons, List.take_nil, List.drop_zero, List.drop_succ_cons, List.drop_nil, List.length_cons, List.length_nil, List.cons_append, List.nil_append, List.append_nil, Nat.zero_add, Nat.add_zero, Nat.reduceAdd, Nat.reduceBEq, Nat.reduceEqDiff, Nat.ble, BEq.rfl, Bool.and_true, Bool.and_self, cond_true, beq_self_eq_true]; rfl) | (simp only [setL, List.getElem?_cons_zero, List.getElem?_cons_succ, Value.cells, List.take_zero, List.take_succ_cons, List.take_nil, List.drop_zero, List.drop_succ_cons, List.drop_nil, List.length_cons, List.length_nil, List.cons_append, List.nil_append, List.append_nil, Nat.zero_add, Nat.add_zero, Nat.reduceAdd, Nat.reduceBEq, Nat.reduceEqDiff, Nat.ble, BEq.rfl, Bool.and_true, Bool.and_self, cond_true, beq_self_eq_true]; rfl)) ?_)
                      clear hh w; intro w hh
                      refine w_nil ?_
                      have hl2 := hl.add (t := 0) (hl.add (t := 3) (hl.nil) rfl) rfl; clear hl; have hl := hl2; clear hl2
                      replace hh : Has _ w0 [(mp, C (encM ({ s with forced := f9 }) st sk bp) 69), (k3, C [.int .u8 k, .int .i64 off, .int .i64 n] 42), (bp, C (bdL bu bn bv) 85)] w := hh.keep (keeps_cons (b := mp) (by repeat (first | exact find_head | apply find_tail)) (by rw [hf9]; rfl) (keeps_cons (b := k3) (by repeat (first | exact find_head | apply find_tail)) rfl (keeps_cons (b := bp) (by repeat (first | exact find_head | apply find_tail)) rfl keeps_nil)))
                      refine then_normal ?_
                      refine c_draw [(mp, C (encM ({ s with forced := f9 }) st sk bp) 69), (k3, C [.int .u8 k, .int .i64 off, .int .i64 n] 42)] [11, 12, 13] mixed hh ?_
                      clear hh w; intro w hh
                      have hM : Mem [(mp, C (encM ({ s with forced := f9 }) st sk bp) 69), (k3, C [.int .u8 k, .int .i64 off, .int .i64 n] 42)] w := (by (repeat (first | exact Mem.nil | refine Mem.cons hh.mem (by (repeat (first | exact find_head | apply find_tail)); done) ?_ | refine Mem.consR hh (by assumption) (by simp) ?_ | fail)); done)
                      refine d_take (i := 0) hl rfl (by kernel_rfl) (by kernel_rfl) (by kernel_rfl) (by kernel_rfl) (by kernel_rfl) rfl trivial (fun _ _ _ h => h) hM (fun w hC => r_move hl rfl) rfl ?_
                      clear hl a; intro a hl
                      refine d_take (i := 1) hl rfl (by kernel_rfl) (by kernel_rfl) (by kernel_rfl) (by kernel_rfl) (by kernel_rfl) rfl trivial (fun _ _ _ h => h) hM (fun w hC => r_move hl rfl) rfl ?_
                      clear hl a; intro a hl
                      refine d_take (i := 2) hl rfl (by kernel_rfl) (by kernel_rfl) (by kernel_rfl) (by kernel_rfl) (by kernel_rfl) rfl trivial (fun _ _ _ h => h) hM (fun w hC => r_nilCheck hl rfl) rfl ?_
                      clear hl a; intro a hl
                      refine d_take (i := 3) hl rfl (by kernel_rfl) (by kernel_rfl) (by kernel_rfl) (by kernel_rfl) (by kernel_rfl) rfl trivial (fun _ _ _ h => h) hM (fun w hC => r_field hl rfl fld69_12) rfl ?_
                      clear hl a; intro a hl
                      refine d_take (i := 4) hl rfl (by kernel_rfl) (by kernel_rfl) (by kernel_rfl) (by kernel_rfl) (by kernel_rfl) rfl trivial (fun _ _ _ h => h) hM (fun w hC => r_loadC hl rfl one2 hC (by repeat (first | exact find_head | apply find_tail)) (by first | rfl)) rfl ?_
                      clear hl a; intro a hl
                      refine d_take (i := 5) hl rfl (by kernel_rfl) (by kernel_rfl) (by kernel_rfl) (by kernel_rfl) (by kernel_rfl) rfl trivial (fun _ _ _ h => h) hM (fun w hC => r_field hl rfl fld42_1) rfl ?_
                      clear hl a; intro a hl
                      refine d_take (i := 6) hl rfl (by kernel_rfl) (by kernel_rfl) (by kernel_rfl) (by kernel_rfl) (by kernel_rfl) rfl trivial (fun _ _ _ h => h) hM (fun w hC => r_loadC hl rfl one2 hC (by repeat (first | exact find_head | apply find_tail)) (by first | rfl)) rfl ?_
                      clear hl a; intro a hl
                      refine d_take (i := 7) hl rfl (by kernel_rfl) (by kernel_rfl) (by kernel_rfl) (by kernel_rfl) (by kernel_rfl) rfl trivial (fun _ _ _ h => h) hM (fun w hC => r_field hl rfl fld42_2) rfl ?_
                      clear hl a; intro a hl
                      refine d_take (i := 8) hl rfl (by kernel_rfl) (by kernel_rfl) (by kernel_rfl) (by kernel_rfl) (by kernel_rfl) rfl trivial (fun _ _ _ h => h) hM (fun w hC => r_loadC hl rfl one2 hC (by repeat (first | exact find_head | apply find_tail)) (by first | rfl)) rfl ?_
                      clear hl a; intro a hl
                      first | refine d_take (i := 9) hl rfl (by kernel_rfl) (by kernel_rfl) (by kernel_rfl) (by kernel_rfl) (by kernel_rfl) rfl trivial (fun _ _ _ h => h) hM (fun w hC => r_add hl rfl rfl (by simp only [Fits]; omega)) rfl ?_ | refine d_take (i := 9) hl rfl (by kernel_rfl) (by kernel_rfl) (by kernel_rfl) (by kernel_rfl) (by kernel_rfl) rfl trivial (fun _ _ _ h => h) hM (fun w hC => r_addW hl rfl rfl) rfl ?_
                      clear hl a; intro a hl
                      refine d_take (i := 10) hl rfl (by kernel_rfl) (by kernel_rfl) (by kernel_rfl) (by kernel_rfl) (by kernel_rfl) rfl trivial (fun _ _ _ h => h) hM (fun w hC => r_maxI hl rfl rfl) rfl ?_
                      clear hl a; intro a hl
                      refine d_takeL (i := 11) hl rfl (by kernel_rfl) (by kernel_rfl) (by kernel_rfl) (by kernel_rfl) (by kernel_rfl) rfl trivial (fun _ _ _ h => h) (fun w => r_nilCheck hl rfl) rfl ?_
                      clear hl a; intro a hl
                      refine d_takeL (i := 12) hl rfl (by kernel_rfl) (by kernel_rfl) (by kernel_rfl) (by kernel_rfl) (by kernel_rfl) rfl trivial (fun _ _ _ h => h) (fun w => r_field hl rfl fld69_12) rfl ?_
                      clear hl a; intro a hl
                      refine d_one (i := 13) (by kernel_rfl) rfl ?_
                      try clear hM
                      refine id (w_store hl hh trivial one2 rfl rfl (by repeat (first | exact find_head | apply find_tail)) (by first | (simp; done) | (simp; omega)) (by first | rfl | assumption | (apply Row.one; assumption)) (by first | (simp only [encM, setL, List.getElem?_cons_zero, List.getElem?_cons_succ, Value.cells, List.take_zero, List.take_succ_cons, List.take_nil, List.drop_zero, List.drop_succ_cons, List.drop_nil, List.length_cons, List.length_nil, List.cons_append, List.nil_append, List.append_nil, Nat.zero_add, Nat.add_zero, Nat.reduceAdd, Nat.reduceBEq, Nat.reduceEqDiff, Nat.ble, BEq.rfl, Bool.and_true, Bool.and_self, cond_true, beq_self_eq_true]; rfl) | (simp only [setL, List.getElem?_cons_zero, List.getElem?_cons_succ, Value.cells, List.take_zero, List.take_succ_cons, List.take_nil, List.drop_zero, List.drop_succ_cons, List.drop_nil, List.length_cons, List.length_nil, List.cons_append, List.nil_append, List.append_nil, Nat.zero_add, Nat.add_zero, Nat.reduceAdd, Nat.reduceBEq, Nat.reduceEqDiff, Nat.ble, BEq.rfl, Bool.and_true, Bool.and_self, cond_true, beq_self_eq_true]; rfl)) ?_)
                      clear hh w; intro w hh
                      refine d_step (fun h => absurd h (by decide)) ?_
                      refine d_done (by kernel_rfl) ?_
                      try clear hM
                      have hl2 := hl.nil; clear hl; have hl := hl2; clear hl2
                      refine blk_normal ?_
                      first | (exfalso; omega) | (have he9 := sent_1 (s := s) (st := st) (bn := bn) (k := k) (off := off) (n := n) ⟨by omega, by omega, by omega⟩; refine f_end0 (F' := [(mp, C (encM (sentM s k off n) st sk bp) 69), (bp, C (bdL bu (sentN s st bn k off n) bv) 85)]) hl (has_two (bn := bn) hh (keeps_cons (b := mp) (by repeat (first | exact find_head | apply find_tail)) rfl (keeps_cons (b := bp) (by repeat (first | exact find_head | apply find_tail)) rfl keeps_nil)) he9) rfl keeps_self ⟨rfl, rfl⟩) | (have he9 := sent_2 (s := s) (st := st) (bn := bn) (k := k) (off := off) (n := n) (by omega) ⟨by omega, by omega, by omega⟩; refine f_end0 (F' := [(mp, C (encM (sentM s k off n) st sk bp) 69), (bp, C (bdL bu (sentN s st bn k off n) bv) 85)]) hl (has_two (bn := bn) hh (keeps_cons (b := mp) (by repeat (first | exact find_head | apply find_tail)) rfl (keeps_cons (b := bp) (by repeat (first | exact find_head | apply find_tail)) rfl keeps_nil)) he9) rfl keeps_self ⟨rfl, rfl⟩) | (have he9 := sent_3a (s := s) (st := st) (bn := bn) (k := k) (off := off) (n := n) (f := f9) (by omega) ⟨by omega, by omega, by omega⟩ (by omega) (by assumption); refine f_end0 (F' := [(mp, C (encM (sentM s k off n) st sk bp) 69), (bp, C (bdL bu (sentN s st bn k off n) bv) 85)]) hl (has_two (bn := bn) hh (keeps_cons (b := mp) (by repeat (first | exact find_head | apply find_tail)) rfl (keeps_cons (b := bp) (by repeat (first | exact find_head | apply find_tail)) rfl keeps_nil)) he9) rfl keeps_self ⟨rfl, rfl⟩) | (have he9 := sent_3b (s := s) (st := st) (bn := bn) (k := k) (off := off) (n := n) (f := f9) (by omega) ⟨by omega, by omega, by omega⟩ (by omega) (by assumption); refine f_end0 (F' := [(mp, C (encM (sentM s k off n) st sk bp) 69), (bp, C (bdL bu (sentN s st bn k off n) bv) 85)]) hl (has_two (bn := bn) hh (keeps_cons (b := mp) (by repeat (first | exact find_head | apply find_tail)) rfl (keeps_cons (b := bp) (by repeat (first | exact find_head | apply find_tail)) rfl keeps_nil)) he9) rfl keeps_self ⟨rfl, rfl⟩) | (have he9 := sent_4 (s := s) (st := st) (bn := bn) (k := k) (off := off) (n := n) (by omega) (by omega) (by omega); refine f_end0 (F' := [(mp, C (encM (sentM s k off n) st sk bp) 69), (bp, C (bdL bu (sentN s st bn k off n) bv) 85)]) hl (has_two (bn := bn) hh (keeps_cons (b := mp) (by repeat (first | exact find_head | apply find_tail)) rfl (keeps_cons (b := bp) (by repeat (first | exact find_head | apply find_tail)) rfl keeps_nil)) he9) rfl keeps_self ⟨rfl, rfl⟩) | (have he9 := sent_4 (s := s) (st := st) (bn := bn) (k := k) (off := off) (n := n) (by omega) (fun h9 => not_inF (by omega) h9.2) (fun h9 => not_inF (by omega) h9.2); refine f_end0 (F' := [(mp, C (encM (sentM s k off n) st sk bp) 69), (bp, C (bdL bu (sentN s st bn k off n) bv) 85)]) hl (has_two (bn := bn) hh (keeps_cons (b := mp) (by repeat (first | exact find_head | apply find_tail)) rfl (keeps_cons (b := bp) (by repeat (first | exact find_head | apply find_tail)) rfl keeps_nil)) he9) rfl keeps_self ⟨rfl, rfl⟩)
                    · intro hc3
                      try simp only [decide_eq_true_eq, decide_eq_false_iff_not, Bool.not_eq_true', Bool.not_eq_false', Bool.not_eq_true, Bool.not_eq_false, Bool.and_eq_true, Bool.or_eq_true, Bool.and_eq_false_iff, Bool.or_eq_false_iff, Bool.not_not, ne_eq, Int.not_lt, Int.not_le, Decidable.not_not, beq_iff_eq, bne_iff_ne] at hc3
                      obtain ⟨f9, hf9⟩ : ∃ z, z = s.forced := ⟨_, rfl⟩
                      replace hh : Has _ w0 [(mp, C (encM ({ s with forced := f9 }) st sk bp) 69), (k3, C [.int .u8 k, .int .i64 off, .int .i64 n] 42), (bp, C (bdL bu bn bv) 85)] w := hh.keep (keeps_cons (b := mp) (by repeat (first | exact find_head | apply find_tail)) (by rw [hf9]) (keeps_cons (b := k3) (by repeat (first | exact find_head | apply find_tail)) rfl (keeps_cons (b := bp) (by repeat (first | exact find_head | apply find_tail)) rfl keeps_nil)))
                      refine wp_skip ?_
                      refine then_normal ?_
                      refine c_draw [(mp, C (encM ({ s with forced := f9 }) st sk bp) 69), (k3, C [.int .u8 k, .int .i64 off, .int .i64 n] 42)] [11, 12, 13] mixed hh ?_
                      clear hh w; intro w hh
                      have hM : Mem [(mp, C (encM ({ s with forced := f9 }) st sk bp) 69), (k3, C [.int .u8 k, .int .i64 off, .int .i64 n] 42)] w := (by (repeat (first | exact Mem.nil | refine Mem.cons hh.mem (by (repeat (first | exact find_head | apply find_tail)); done) ?_ | refine Mem.consR hh (by assumption) (by simp) ?_ | fail)); done)
                      refine d_take (i := 0) hl rfl (by kernel_rfl) (by kernel_rfl) (by kernel_rfl) (by kernel_rfl) (by kernel_rfl) rfl trivial (fun _ _ _ h => h) hM (fun w hC => r_move hl rfl) rfl ?_
                      clear hl a; intro a hl
                      refine d_take (i := 1) hl rfl (by kernel_rfl) (by kernel_rfl) (by kernel_rfl) (by kernel_rfl) (by kernel_rfl) rfl trivial (fun _ _ _ h => h) hM (fun w hC => r_move hl rfl) rfl ?_
                      clear hl a; intro a hl
                      refine d_take (i := 2) hl rfl (by kernel_rfl) (by kernel_rfl) (by kernel_rfl) (by kernel_rfl) (by kernel_rfl) rfl trivial (fun _ _ _ h => h) hM (fun w hC => r_nilCheck hl rfl) rfl ?_
                      clear hl a; intro a hl
                      refine d_take (i := 3) hl rfl (by kernel_rfl) (by kernel_rfl) (by kernel_rfl) (by kernel_rfl) (by kernel_rfl) rfl trivial (fun _ _ _ h => h) hM (fun w hC => r_field hl rfl fld69_12) rfl ?_
                      clear hl a; intro a hl
                      refine d_take (i := 4) hl rfl (by kernel_rfl) (by kernel_rfl) (by kernel_rfl) (by kernel_rfl) (by kernel_rfl) rfl trivial (fun _ _ _ h => h) hM (fun w hC => r_loadC hl rfl one2 hC (by repeat (first | exact find_head | apply find_tail)) (by first | rfl)) rfl ?_
                      clear hl a; intro a hl
                      refine d_take (i := 5) hl rfl (by kernel_rfl) (by kernel_rfl) (by kernel_rfl) (by kernel_rfl) (by kernel_rfl) rfl trivial (fun _ _ _ h => h) hM (fun w hC => r_field hl rfl fld42_1) rfl ?_
                      clear hl a; intro a hl
                      refine d_take (i := 6) hl rfl (by kernel_rfl) (by kernel_rfl) (by kernel_rfl) (by kernel_rfl) (by kernel_rfl) rfl trivial (fun _ _ _ h => h) hM (fun w hC => r_loadC hl rfl one2 hC (by repeat (first | exact find_head | apply find_tail)) (by first | rfl)) rfl ?_
                      clear hl a; intro a hl
                      refine d_take (i := 7) hl rfl (by kernel_rfl) (by kernel_rfl) (by kernel_rfl) (by kernel_rfl) (by kernel_rfl) rfl trivial (fun _ _ _ h => h) hM (fun w hC => r_field hl rfl fld42_2) rfl ?_
                      clear hl a; intro a hl
                      refine d_take (i := 8) hl rfl (by kernel_rfl) (by kernel_rfl) (by kernel_rfl) (by kernel_rfl) (by kernel_rfl) rfl trivial (fun _ _ _ h => h) hM (fun w hC => r_loadC hl rfl one2 hC (by repeat (first | exact find_head | apply find_tail)) (by first | rfl)) rfl ?_
                      clear hl a; intro a hl
                      first | refine d_take (i := 9) hl rfl (by kernel_rfl) (by kernel_rfl) (by kernel_rfl) (by kernel_rfl) (by kernel_rfl) rfl trivial (fun _ _ _ h => h) hM (fun w hC => r_add hl rfl rfl (by simp only [Fits]; omega)) rfl ?_ | refine d_take (i := 9) hl rfl (by kernel_rfl) (by kernel_rfl) (by kernel_rfl) (by kernel_rfl) (by kernel_rfl) rfl trivial (fun _ _ _ h => h) hM (fun w hC => r_addW hl rfl rfl) rfl ?_
                      clear hl a; intro a hl
                      refine d_take (i := 10) hl rfl (by kernel_rfl) (by kernel_rfl) (by kernel_rfl) (by kernel_rfl) (by kernel_rfl) rfl trivial (fun _ _ _ h => h) hM (fun w hC => r_maxI hl rfl rfl) rfl ?_
                      clear hl a; intro a hl
                      refine d_takeL (i := 11) hl rfl (by kernel_rfl) (by kernel_rfl) (by kernel_rfl) (by kernel_rfl) (by kernel_rfl) rfl trivial (fun _ _ _ h => h) (fun w => r_nilCheck hl rfl) rfl ?_
                      clear hl a; intro a hl
                      refine d_takeL (i := 12) hl rfl (by kernel_rfl) (by kernel_rfl) (by kernel_rfl) (by kernel_rfl) (by kernel_rfl) rfl trivial (fun _ _ _ h => h) (fun w => r_field hl rfl fld69_12) rfl ?_
                      clear hl a; intro a hl
                      refine d_one (i := 13) (by kernel_rfl) rfl ?_
                      try clear hM
                      refine id (w_store hl hh trivial one2 rfl rfl (by repeat (first | exact find_head | apply find_tail)) (by first | (simp; done) | (simp; omega)) (by first | rfl | assumption | (apply Row.one; assumption)) (by first | (simp only [encM, setL, List.getElem?_cons_zero, List.getElem?_cons_succ, Value.cells, List.take_zero, List.take_succ_cons, List.take_nil, List.drop_zero, List.drop_succ_cons, List.drop_nil, List.length_cons, List.length_nil, List.cons_append, List.nil_append, List.append_nil, Nat.zero_add, Nat.add_zero, Nat.reduceAdd, Nat.reduceBEq, Nat.reduceEqDiff, Nat.ble, BEq.rfl, Bool.and_true, Bool.and_self, cond_true, beq_self_eq_true]; rfl) | (simp only [setL, List.getElem?_cons_zero, List.getElem?_cons_succ, Value.cells, List.take_zero, List.take_succ_cons, List.take_nil, List.drop_zero, List.drop_succ_cons, List.drop_nil, List.length_cons, List.length_nil, List.cons_append, List.nil_append, List.append_nil, Nat.zero_add, Nat.add_zero, Nat.reduceAdd, Nat.reduceBEq, Nat.reduceEqDiff, Nat.ble, BEq.rfl, Bool.and_true, Bool.and_self, cond_true, beq_self_eq_true]; rfl)) ?_)
                      clear hh w; intro w hh
                      refine d_step (fun h => absurd h (by decide)) ?_
                      refine d_done (by kernel_rfl) ?_
                      try clear hM
                      have hl2 := hl.nil; clear hl; have hl := hl2; clear hl2
                      refine blk_normal ?_
                      first | (exfalso; omega) | (have he9 := sent_1 (s := s) (st := st) (bn := bn) (k := k) (off := off) (n := n) ⟨by omega, by omega, by omega⟩; refine f_end0 (F' := [(mp, C (encM (sentM s k off n) st sk bp) 69), (bp, C (bdL bu (sentN s st bn k off n) bv) 85)]) hl (has_two (bn := bn) hh (keeps_cons (b := mp) (by repeat (first | exact find_head | apply find_tail)) rfl (keeps_cons (b := bp) (by repeat (first | exact find_head | apply find_tail)) rfl keeps_nil)) he9) rfl keeps_self ⟨rfl, rfl⟩) | (have he9 := sent_2 (s := s) (st := st) (bn := bn) (k := k) (off := off) (n := n) (by omega) ⟨by omega, by omega, by omega⟩; refine f_end0 (F' := [(mp, C (encM (sentM s k off n) st sk bp) 69), (bp, C (bdL bu (sentN s st bn k off n) bv) 85)]) hl (has_two (bn := bn) hh (keeps_cons (b := mp) (by repeat (first | exact find_head | apply find_tail)) rfl (keeps_cons (b := bp) (by repeat (first | exact find_head | apply find_tail)) rfl keeps_nil)) he9) rfl keeps_self ⟨rfl, rfl⟩) | (have he9 := sent_3a (s := s) (st := st) (bn := bn) (k := k) (off := off) (n := n) (f := f9) (by omega) ⟨by omega, by omega, by omega⟩ (by omega) (by assumption); refine f_end0 (F' := [(mp, C (encM (sentM s k off n) st sk bp) 69), (bp, C (bdL bu (sentN s st bn k off n) bv) 85)]) hl (has_two (bn := bn) hh (keeps_cons (b := mp) (by repeat (first | exact find_head | apply find_tail)) rfl (keeps_cons (b := bp) (by repeat (first | exact find_head | apply find_tail)) rfl keeps_nil)) he9) rfl keeps_self ⟨rfl, rfl⟩) | (have he9 := sent_3b (s := s) (st := st) (bn := bn) (k := k) (off := off) (n := n) (f := f9) (by omega) ⟨by omega, by omega, by omega⟩ (by omega) (by assumption); refine f_end0 (F' := [(mp, C (encM (sentM s k off n) st sk bp) 69), (bp, C (bdL bu (sentN s st bn k off n) bv) 85)]) hl (has_two (bn := bn) hh (keeps_cons (b := mp) (by repeat (first | exact find_head | apply find_tail)) rfl (keeps_cons (b := bp) (by repeat (first | exact find_head | apply find_tail)) rfl keeps_nil)) he9) rfl keeps_self ⟨rfl, rfl⟩) | (have he9 := sent_4 (s := s) (st := st) (bn := bn) (k := k) (off := off) (n := n) (by omega) (by omega) (by omega); refine f_end0 (F' := [(mp, C (encM (sentM s k off n) st sk bp) 69), (bp, C (bdL bu (sentN s st bn k off n) bv) 85)]) hl (has_two (bn := bn) hh (keeps_cons (b := mp) (by repeat (first | exact find_head | apply find_tail)) rfl (keeps_cons (b := bp) (by repeat (first | exact find_head | apply find_tail)) rfl keeps_nil)) he9) rfl keeps_self ⟨rfl, rfl⟩) | (have he9 := sent_4 (s := s) (st := st) (bn := bn) (k := k) (off := off) (n := n) (by omega) (fun h9 => not_inF (by omega) h9.2) (fun h9 => not_inF (by omega) h9.2); refine f_end0 (F' := [(mp, C (encM (sentM s k off n) st sk bp) 69), (bp, C (bdL bu (sentN s st bn k off n) bv) 85)]) hl (has_two (bn := bn) hh (keeps_cons (b := mp) (by repeat (first | exact find_head | apply find_tail)) rfl (keeps_cons (b := bp) (by repeat (first | exact find_head | apply find_tail)) rfl keeps_nil)) he9) rfl keeps_self ⟨rfl, rfl⟩)
                  · intro hc2
                    try simp only [decide_eq_true_eq, decide_eq_false_iff_not, Bool.not_eq_true', Bool.not_eq_false', Bool.not_eq_true, Bool.not_eq_false, Bool.and_eq_true, Bool.or_eq_true, Bool.and_eq_false_iff, Bool.or_eq_false_iff, Bool.not_not, ne_eq, Int.not_lt, Int.not_le, Decidable.not_not, beq_iff_eq, bne_iff_ne] at hc2
                    refine wp_skip ?_
                    refine blk_normal ?_
                    first | (exfalso; omega) | (have he9 := sent_1 (s := s) (st := st) (bn := bn) (k := k) (off := off) (n := n) ⟨by omega, by omega, by omega⟩; refine f_end0 (F' := [(mp, C (encM (sentM s k off n) st sk bp) 69), (bp, C (bdL bu (sentN s st bn k off n) bv) 85)]) hl (has_two (bn := bn) hh (keeps_cons (b := mp) (by repeat (first | exact find_head | apply find_tail)) rfl (keeps_cons (b := bp) (by repeat (first | exact find_head | apply find_tail)) rfl keeps_nil)) he9) rfl keeps_self ⟨rfl, rfl⟩) | (have he9 := sent_2 (s := s) (st := st) (bn := bn) (k := k) (off := off) (n := n) (by omega) ⟨by omega, by omega, by omega⟩; refine f_end0 (F' := [(mp, C (encM (sentM s k off n) st sk bp) 69), (bp, C (bdL bu (sentN s st bn k off n) bv) 85)]) hl (has_two (bn := bn) hh (keeps_cons (b := mp) (by repeat (first | exact find_head | apply find_tail)) rfl (keeps_cons (b := bp) (by repeat (first | exact find_head | apply find_tail)) rfl keeps_nil)) he9) rfl keeps_self ⟨rfl, rfl⟩) | (have he9 := sent_3a (s := s) (st := st) (bn := bn) (k := k) (off := off) (n := n) (f := f9) (by omega) ⟨by omega, by omega, by omega⟩ (by omega) (by assumption); refine f_end0 (F' := [(mp, C (encM (sentM s k off n) st sk bp) 69), (bp, C (bdL bu (sentN s st bn k off n) bv) 85)]) hl (has_two (bn := bn) hh (keeps_cons (b := mp) (by repeat (first | exact find_head | apply find_tail)) rfl (keeps_cons (b := bp) (by repeat (first | exact find_head | apply find_tail)) rfl keeps_nil)) he9) rfl keeps_self ⟨rfl, rfl⟩) | (have he9 := sent_3b (s := s) (st := st) (bn := bn) (k := k) (off := off) (n := n) (f := f9) (by omega) ⟨by omega, by omega, by omega⟩ (by omega) (by assumption); refine f_end0 (F' := [(mp, C (encM (sentM s k off n) st sk bp) 69), (bp, C (bdL bu (sentN s st bn k off n) bv) 85)]) hl (has_two (bn := bn) hh (keeps_cons (b := mp) (by repeat (first | exact find_head | apply find_tail)) rfl (keeps_cons (b := bp) (by repeat (first | exact find_head | apply find_tail)) rfl keeps_nil)) he9) rfl keeps_self ⟨rfl, rfl⟩) | (have he9 := sent_4 (s := s) (st := st) (bn := bn) (k := k) (off := off) (n := n) (by omega) (by omega) (by omega); refine f_end0 (F' := [(mp, C (encM (sentM s k off n) st sk bp) 69), (bp, C (bdL bu (sentN s st bn k off n) bv) 85)]) hl (has_two (bn := bn) hh (keeps_cons (b := mp) (by repeat (first | exact find_head | apply find_tail)) rfl (keeps_cons (b := bp) (by repeat (first | exact find_head | apply find_tail)) rfl keeps_nil)) he9) rfl keeps_self ⟨rfl, rfl⟩) | (have he9 := sent_4 (s := s) (st := st) (bn := bn) (k := k) (off := off) (n := n) (by omega) (fun h9 => not_inF (by omega) h9.2) (fun h9 => not_inF (by omega) h9.2); refine f_end0 (F' := [(mp, C (encM (sentM s k off n) st sk bp) 69), (bp, C (bdL bu (sentN s st bn k off n) bv) 85)]) hl (has_two (bn := bn) hh (keeps_cons (b := mp) (by repeat (first | exact find_head | apply find_tail)) rfl (keeps_cons (b := bp) (by repeat (first | exact find_head | apply find_tail)) rfl keeps_nil)) he9) rfl keeps_self ⟨rfl, rfl⟩)
                · intro hg6; clear hl; intro hl
                  try simp only [decide_eq_true_eq, decide_eq_false_iff_not, Bool.not_eq_true', Bool.not_eq_false', Bool.not_eq_true, Bool.not_eq_false, Bool.and_eq_true, Bool.or_eq_true, Bool.and_eq_false_iff, Bool.or_eq_false_iff, Bool.not_not, ne_eq, Int.not_lt, Int.not_le, Decidable.not_not, beq_iff_eq, bne_iff_ne] at hg6
                  refine wl (wl_skip hl rfl ⟨_, _, rfl, rfl, rfl⟩ ?_)
                  clear hl a; intro a hl
                  refine wl (wl_val hl rfl trivial (r_pickF hl rfl rfl) ?_)
                  clear hl a; intro a hl
                  refine wl (wl_val hl rfl trivial (r_assign hl rfl) ?_)
                  clear hl a; intro a hl
                  refine w_nil ?_
                  have hl2 := hl.add (t := 0) (hl.add (t := 3) (hl.add (t := 87) (hl.nil) rfl) rfl) rfl; clear hl; have hl := hl2; clear hl2
                  refine then_normal ?_
                  refine c_condF hl rfl ?_
                  refine wp_skip ?_
                  refine blk_normal ?_
                  first | (exfalso; omega) | (have he9 := sent_1 (s := s) (st := st) (bn := bn) (k := k) (off := off) (n := n) ⟨by omega, by omega, by omega⟩; refine f_end0 (F' := [(mp, C (encM (sentM s k off n) st sk bp) 69), (bp, C (bdL bu (sentN s st bn k off n) bv) 85)]) hl (has_two (bn := bn) hh (keeps_cons (b := mp) (by repeat (first | exact find_head | apply find_tail)) rfl (keeps_cons (b := bp) (by repeat (first | exact find_head | apply find_tail)) rfl keeps_nil)) he9) rfl keeps_self ⟨rfl, rfl⟩) | (have he9 := sent_2 (s := s) (st := st) (bn := bn) (k := k) (off := off) (n := n) (by omega) ⟨by omega, by omega, by omega⟩; refine f_end0 (F' := [(mp, C (encM (sentM s k off n) st sk bp) 69), (bp, C (bdL bu (sentN s st bn k off n) bv) 85)]) hl (has_two (bn := bn) hh (keeps_cons (b := mp) (by repeat (first | exact find_head | apply find_tail)) rfl (keeps_cons (b := bp) (by repeat (first | exact find_head | apply find_tail)) rfl keeps_nil)) he9) rfl keeps_self ⟨rfl, rfl⟩) | (have he9 := sent_3a (s := s) (st := st) (bn := bn) (k := k) (off := off) (n := n) (f := f9) (by omega) ⟨by omega, by omega, by omega⟩ (by omega) (by assumption); refine f_end0 (F' := [(mp, C (encM (sentM s k off n) st sk bp) 69), (bp, C (bdL bu (sentN s st bn k off n) bv) 85)]) hl (has_two (bn := bn) hh (keeps_cons (b := mp) (by repeat (first | exact find_head | apply find_tail)) rfl (keeps_cons (b := bp) (by repeat (first | exact find_head | apply find_tail)) rfl keeps_nil)) he9) rfl keeps_self ⟨rfl, rfl⟩) | (have he9 := sent_3b (s := s) (st := st) (bn := bn) (k := k) (off := off) (n := n) (f := f9) (by omega) ⟨by omega, by omega, by omega⟩ (by omega) (by assumption); refine f_end0 (F' := [(mp, C (encM (sentM s k off n) st sk bp) 69), (bp, C (bdL bu (sentN s st bn k off n) bv) 85)]) hl (has_two (bn := bn) hh (keeps_cons (b := mp) (by repeat (first | exact find_head | apply find_tail)) rfl (keeps_cons (b := bp) (by repeat (first | exact find_head | apply find_tail)) rfl keeps_nil)) he9) rfl keeps_self ⟨rfl, rfl⟩) | (have he9 := sent_4 (s := s) (st := st) (bn := bn) (k := k) (off := off) (n := n) (by omega) (by omega) (by omega); refine f_end0 (F' := [(mp, C (encM (sentM s k off n) st sk bp) 69), (bp, C (bdL bu (sentN s st bn k off n) bv) 85)]) hl (has_two (bn := bn) hh (keeps_cons (b := mp) (by repeat (first | exact find_head | apply find_tail)) rfl (keeps_cons (b := bp) (by repeat (first | exact find_head | apply find_tail)) rfl keeps_nil)) he9) rfl keeps_self ⟨rfl, rfl⟩) | (have he9 := sent_4 (s := s) (st := st) (bn := bn) (k := k) (off := off) (n := n) (by omega) (fun h9 => not_inF (by omega) h9.2) (fun h9 => not_inF (by omega) h9.2); refine f_end0 (F' := [(mp, C (encM (sentM s k off n) st sk bp) 69), (bp, C (bdL bu (sentN s st bn k off n) bv) 85)]) hl (has_two (bn := bn) hh (keeps_cons (b := mp) (by repeat (first | exact find_head | apply find_tail)) rfl (keeps_cons (b := bp) (by repeat (first | exact find_head | apply find_tail)) rfl keeps_nil)) he9) rfl keeps_self ⟨rfl, rfl⟩)
            · intro hg5; clear hl; intro hl
              try simp only [decide_eq_true_eq, decide_eq_false_iff_not, Bool.not_eq_true', Bool.not_eq_false', Bool.not_eq_true, Bool.not_eq_false, Bool.and_eq_true, Bool.or_eq_true, Bool.and_eq_false_iff, Bool.or_eq_false_iff, Bool.not_not, ne_eq, Int.not_lt, Int.not_le, Decidable.not_not, beq_iff_eq, bne_iff_ne] at hg5
              refine wl (wl_skip hl rfl ⟨_, _, rfl, rfl, rfl⟩ ?_)
              clear hl a; intro a hl
              refine wl (wl_val hl rfl trivial (r_pickF hl rfl rfl) ?_)
              clear hl a; intro a hl
              refine wl (wl_val hl rfl trivial (r_assign hl rfl) ?_)
              clear hl a; intro a hl
              refine w_nil ?_
              have hl2 := hl.add (t := 0) (hl.add (t := 3) (hl.add (t := 4) (hl.add (t := 77) (hl.nil) rfl) rfl) rfl) rfl; clear hl; have hl := hl2; clear hl2
              refine then_normal ?_
              refine c_condF hl rfl ?_
              refine c_seq ?_
              refine c_region ?_
              refine wl (wl_val hl rfl trivial (r_field hl rfl fld42_0) ?_)
              clear hl a; intro a hl
              refine wl (w_load hl hh rfl trivial one38 rfl (by repeat (first | exact find_head | apply find_tail)) (by first | rfl) ?_)
              clear hl a; intro a hl
              refine wl (wl_val hl rfl trivial (r_eql hl rfl rfl) ?_)
              clear hl a; intro a hl
              refine wl (wl_val hl rfl trivial (r_move hl rfl) ?_)
              clear hl a; intro a hl
              refine sl_split (t := 91) hl rfl ?_ ?_
              · intro hg7; clear hl; intro hl
                try simp only [decide_eq_true_eq, decide_eq_false_iff_not, Bool.not_eq_true', Bool.not_eq_false', Bool.not_eq_true, Bool.not_eq_false, Bool.and_eq_true, Bool.or_eq_true, Bool.and_eq_false_iff, Bool.or_eq_false_iff, Bool.not_not, ne_eq, Int.not_lt, Int.not_le, Decidable.not_not, beq_iff_eq, bne_iff_ne] at hg7
                refine wl (wl_val hl rfl ⟨_, _, rfl, rfl, rfl⟩ (r_move hl rfl) ?_)
                clear hl a; intro a hl
                refine wl (wl_val hl rfl trivial (r_pickT hl rfl rfl) ?_)
                clear hl a; intro a hl
                refine wl (wl_val hl rfl trivial (r_assign hl rfl) ?_)
                clear hl a; intro a hl
                refine w_nil ?_
                have hl2 := hl.add (t := 0) (hl.add (t := 3) (hl.add (t := 87) (hl.nil) rfl) rfl) rfl; clear hl; have hl := hl2; clear hl2
                refine then_normal ?_
                refine c_cond hl rfl ?_ ?_
                · intro hc2
                  try simp only [decide_eq_true_eq, decide_eq_false_iff_not, Bool.not_eq_true', Bool.not_eq_false', Bool.not_eq_true, Bool.not_eq_false, Bool.and_eq_true, Bool.or_eq_true, Bool.and_eq_false_iff, Bool.or_eq_false_iff, Bool.not_not, ne_eq, Int.not_lt, Int.not_le, Decidable.not_not, beq_iff_eq, bne_iff_ne] at hc2
                  refine c_seq ?_
                  refine c_seq ?_
                  refine c_draw [(mp, C (encM (s) st sk bp) 69), (k3, C [.int .u8 k, .int .i64 off, .int .i64 n] 42)] [6] mixed hh ?_
                  clear hh w; intro w hh
                  have hM : Mem [(mp, C (encM (s) st sk bp) 69), (k3, C [.int .u8 k, .int .i64 off, .int .i64 n] 42)] w := (by (repeat (first | exact Mem.nil | refine Mem.cons hh.mem (by (repeat (first | exact find_head | apply find_tail)); done) ?_ | refine Mem.consR hh (by assumption) (by simp) ?_ | fail)); done)
                  refine d_take (i := 0) hl rfl (by kernel_rfl) (by kernel_rfl) (by kernel_rfl) (by kernel_rfl) (by kernel_rfl) rfl trivial (fun _ _ _ h => h) hM (fun w hC => r_field hl rfl fld42_1) rfl ?_
                  clear hl a; intro a hl
                  refine d_take (i := 1) hl rfl (by kernel_rfl) (by kernel_rfl) (by kernel_rfl) (by kernel_rfl) (by kernel_rfl) rfl trivial (fun _ _ _ h => h) hM (fun w hC => r_loadC hl rfl one2 hC (by repeat (first | exact find_head | apply find_tail)) (by first | rfl)) rfl ?_
                  clear hl a; intro a hl
                  refine d_take (i := 2) hl rfl (by kernel_rfl) (by kernel_rfl) (by kernel_rfl) (by kernel_rfl) (by kernel_rfl) rfl trivial (fun _ _ _ h => h) hM (fun w hC => r_move hl rfl) rfl ?_
                  clear hl a; intro a hl
                  refine d_take (i := 3) hl rfl (by kernel_rfl) (by kernel_rfl) (by kernel_rfl) (by kernel_rfl) (by kernel_rfl) rfl trivial (fun _ _ _ h => h) hM (fun w hC => r_nilCheck hl rfl) rfl ?_
                  clear hl a; intro a hl
                  refine d_take (i := 4) hl rfl (by kernel_rfl) (by kernel_rfl) (by kernel_rfl) (by kernel_rfl) (by kernel_rfl) rfl trivial (fun _ _ _ h => h) hM (fun w hC => r_field hl rfl fld69_8) rfl ?_
                  clear hl a; intro a hl
                  refine d_take (i := 5) hl rfl (by kernel_rfl) (by kernel_rfl) (by kernel_rfl) (by kernel_rfl) (by kernel_rfl) rfl trivial (fun _ _ _ h => h) hM (fun w hC => r_loadC hl rfl one2 hC (by repeat (first | exact find_head | apply find_tail)) (by first | rfl)) rfl ?_
                  clear hl a; intro a hl
                  refine d_takeL (i := 6) hl rfl (by kernel_rfl) (by kernel_rfl) (by kernel_rfl) (by kernel_rfl) (by kernel_rfl) rfl trivial (fun _ _ _ h => h) (fun w => r_eql hl rfl rfl) rfl ?_
                  clear hl a; intro a hl
                  refine d_done (by kernel_rfl) ?_
                  try clear hM
                  have hl2 := hl.add (t := 0) (hl.add (t := 3) (hl.add (t := 100) (hl.nil) rfl) rfl) rfl; clear hl; have hl := hl2; clear hl2
                  refine then_normal ?_
                  refine c_cond hl rfl ?_ ?_
                  · intro hc3
                    try simp only [decide_eq_true_eq, decide_eq_false_iff_not, Bool.not_eq_true', Bool.not_eq_false', Bool.not_eq_true, Bool.not_eq_false, Bool.and_eq_true, Bool.or_eq_true, Bool.and_eq_false_iff, Bool.or_eq_false_iff, Bool.not_not, ne_eq, Int.not_lt, Int.not_le, Decidable.not_not, beq_iff_eq, bne_iff_ne] at hc3
                    obtain ⟨f9, hf9⟩ : ∃ z, z = false := ⟨_, rfl⟩
                    refine c_region ?_
                    refine wl (wl_val hl rfl trivial (r_move hl rfl) ?_)
                    clear hl a; intro a hl
                    refine wl (wl_val hl rfl trivial (r_nilCheck hl rfl) ?_)
                    clear hl a; intro a hl
                    refine wl (wl_val hl rfl trivial (r_field hl rfl fld69_14) ?_)
                    clear hl a; intro a hl
                    refine wl (w_store hl hh trivial one4 rfl rfl (by repeat (first | exact find_head | apply find_tail)) (by first | (simp; done) | (simp; omega)) (by first | rfl | assumption | (apply Row.one; assumption)) (by first | (simp only [encM, setL, List.getElem?_cons_zero, List.getElem?_cons_succ, Value.cells, List.take_zero, List.take_succ_cons, List.take_nil, List.drop_zero, List.drop_succ_cons, List.drop_nil, List.length_cons, List.length_nil, List.cons_append, List.nil_append, List.append_nil, Nat.zero_add, Nat.add_zero, Nat.reduceAdd, Nat.reduceBEq, Nat.reduceEqDiff, Nat.ble, BEq.rfl, Bool.and_true, Bool.and_self, cond_true, beq_self_eq_true]; rfl) | (simp only [setL, List.getElem?_cons_zero, List.getElem?_cons_succ, Value.cells, List.take_zero, List.take_succ_cons, List.take_nil, List.drop_zero, List.drop_succ_cons, List.drop_nil, List.length_cons, List.length_nil, List.cons_append, List.nil_append, List.append_nil, Nat.zero_add, Nat.add_zero, Nat.reduceAdd, Nat.reduceBEq, Nat.reduceEqDiff, Nat.ble, BEq.rfl, Bool.and_true, Bool.and_self, cond_true, beq_self_eq_true]; rfl)) ?_)
                    clear hh w; intro w hh
                    refine w_nil ?_
                    have hl2 := hl.add (t := 0) (hl.add (t := 3) (hl.nil) rfl) rfl; clear hl; have hl := hl2; clear hl2
                    replace hh : Has _ w0 [(mp, C (encM ({ s with forced := f9 }) st sk bp) 69), (k3, C [.int .u8 k, .int .i64 off, .int .i64 n] 42), (bp, C (bdL bu bn bv) 85)] w := hh.keep (keeps_cons (b := mp) (by repeat (first | exact find_head | apply find_tail)) (by rw [hf9]; rfl) (keeps_cons (b := k3) (by repeat (first | exact find_head | apply find_tail)) rfl (keeps_cons (b := bp) (by repeat (first | exact find_head | apply find_tail)) rfl keeps_nil)))
                    refine then_normal ?_
                    refine c_draw [(mp, C (encM ({ s with forced := f9 }) st sk bp) 69), (k3, C [.int .u8 k, .int .i64 off, .int .i64 n] 42)] [11, 12, 13] mixed hh ?_
                    clear hh w; intro w hh
                    have hM : Mem [(mp, C (encM ({ s with forced := f9 }) st sk bp) 69), (k3, C [.int .u8 k, .int .i64 off, .int .i64 n] 42)] w := (by (repeat (first | exact Mem.nil | refine Mem.cons hh.mem (by (repeat (first | exact find_head | apply find_tail)); done) ?_ | refine Mem.consR hh (by assumption) (by simp) ?_ | fail)); done)
                    refine d_take (i := 0) hl rfl (by kernel_rfl) (by kernel_rfl) (by kernel_rfl) (by kernel_rfl) (by kernel_rfl) rfl trivial (fun _ _ _ h => h) hM (fun w hC => r_move hl rfl) rfl ?_
                    clear hl a; intro a hl
                    refine d_take (i := 1) hl rfl (by kernel_rfl) (by kernel_rfl) (by kernel_rfl) (by kernel_rfl) (by kernel_rfl) rfl trivial (fun _ _ _ h => h) hM (fun w hC => r_move hl rfl) rfl ?_
                    clear hl a; intro a hl
                    refine d_take (i := 2) hl rfl (by kernel_rfl) (by kernel_rfl) (by kernel_rfl) (by kernel_rfl) (by kernel_rfl) rfl trivial (fun _ _ _ h => h) hM (fun w hC => r_nilCheck hl rfl) rfl ?_
                    clear hl a; intro a hl
                    refine d_take (i := 3) hl rfl (by kernel_rfl) (by kernel_rfl) (by kernel_rfl) (by kernel_rfl) (by kernel_rfl) rfl trivial (fun _ _ _ h => h) hM (fun w hC => r_field hl rfl fld69_12) rfl ?_
                    clear hl a; intro a hl
                    refine d_take (i := 4) hl rfl (by kernel_rfl) (by kernel_rfl) (by kernel_rfl) (by kernel_rfl) (by kernel_rfl) rfl trivial (fun _ _ _ h => h) hM (fun w hC => r_loadC hl rfl one2 hC (by repeat (first | exact find_head | apply find_tail)) (by first | rfl)) rfl ?_
                    clear hl a; intro a hl
                    refine d_take (i := 5) hl rfl (by kernel_rfl) (by kernel_rfl) (by kernel_rfl) (by kernel_rfl) (by kernel_rfl) rfl trivial (fun _ _ _ h => h) hM (fun w hC => r_field hl rfl fld42_1) rfl ?_
                    clear hl a; intro a hl
                    refine d_take (i := 6) hl rfl (by kernel_rfl) (by kernel_rfl) (by kernel_rfl) (by kernel_rfl) (by kernel_rfl) rfl trivial (fun _ _ _ h => h) hM (fun w hC => r_loadC hl rfl one2 hC (by repeat (first | exact find_head | apply find_tail)) (by first | rfl)) rfl ?_
                    clear hl a; intro a hl
                    refine d_take (i := 7) hl rfl (by kernel_rfl) (by kernel_rfl) (by kernel_rfl) (by kernel_rfl) (by kernel_rfl) rfl trivial (fun _ _ _ h => h) hM (fun w hC => r_field hl rfl fld42_2) rfl ?_
                    clear hl a; intro a hl
                    refine d_take (i := 8) hl rfl (by kernel_rfl) (by kernel_rfl) (by kernel_rfl) (by kernel_rfl) (by kernel_rfl) rfl trivial (fun _ _ _ h => h) hM (fun w hC => r_loadC hl rfl one2 hC (by repeat (first | exact find_head | apply find_tail)) (by first | rfl)) rfl ?_
                    clear hl a; intro a hl
                    first | refine d_take (i := 9) hl rfl (by kernel_rfl) (by kernel_rfl) (by kernel_rfl) (by kernel_rfl) (by kernel_rfl) rfl trivial (fun _ _ _ h => h) hM (fun w hC => r_add hl rfl rfl (by simp only [Fits]; omega)) rfl ?_ | refine d_take (i := 9) hl rfl (by kernel_rfl) (by kernel_rfl) (by kernel_rfl) (by kernel_rfl) (by kernel_rfl) rfl trivial (fun _ _ _ h => h) hM (fun w hC => r_addW hl rfl rfl) rfl ?_
                    clear hl a; intro a hl
                    refine d_take (i := 10) hl rfl (by kernel_rfl) (by kernel_rfl) (by kernel_rfl) (by kernel_rfl) (by kernel_rfl) rfl trivial (fun _ _ _ h => h) hM (fun w hC => r_maxI hl rfl rfl) rfl ?_
                    clear hl a; intro a hl
                    refine d_takeL (i := 11) hl rfl (by kernel_rfl) (by kernel_rfl) (by kernel_rfl) (by kernel_rfl) (by kernel_rfl) rfl trivial (fun _ _ _ h => h) (fun w => r_nilCheck hl rfl) rfl ?_
                    clear hl a; intro a hl
                    refine d_takeL (i := 12) hl rfl (by kernel_rfl) (by kernel_rfl) (by kernel_rfl) (by kernel_rfl) (by kernel_rfl) rfl trivial (fun _ _ _ h => h) (fun w => r_field hl rfl fld69_12) rfl ?_
                    clear hl a; intro a hl
                    refine d_one (i := 13) (by kernel_rfl) rfl ?_
                    try clear hM
                    refine id (w_store hl hh trivial one2 rfl rfl (by repeat (first | exact find_head | apply find_tail)) (by first | (simp; done) | (simp; omega)) (by first | rfl | assumption | (apply Row.one; assumption)) (by first | (simp only [encM, setL, List.getElem?_cons_zero, List.getElem?_cons_succ, Value.cells, List.take_zero, List.take_succ_cons, List.take_nil, List.drop_zero, List.drop_succ_cons, List.drop_nil, List.length_cons, List.length_nil, List.cons_append, List.nil_append, List.append_nil, Nat.zero_add, Nat.add_zero, Nat.reduceAdd, Nat.reduceBEq, Nat.reduceEqDiff, Nat.ble, BEq.rfl, Bool.and_true, Bool.and_self, cond_true, beq_self_eq_true]; rfl) | (simp only [setL, List.getElem?_cons_zero, List.getElem?_cons_succ, Value.cells, List.take_zero, List.take_succ_cons, List.take_nil, List.drop_zero, List.drop_succ_cons, List.drop_nil, List.length_cons, List.length_nil, List.cons_append, List.nil_append, List.append_nil, Nat.zero_add, Nat.add_zero, Nat.reduceAdd, Nat.reduceBEq, Nat.reduceEqDiff, Nat.ble, BEq.rfl, Bool.and_true, Bool.and_self, cond_true, beq_self_eq_true]; rfl)) ?_)
                    clear hh w; intro w hh
                    refine d_step (fun h => absurd h (by decide)) ?_
                    refine d_done (by kernel_rfl) ?_
                    try clear hM
                    have hl2 := hl.nil; clear hl; have hl := hl2; clear hl2
                    refine blk_normal ?_
                    first | (exfalso; omega) | (have he9 := sent_1 (s := s) (st := st) (bn := bn) (k := k) (off := off) (n := n) ⟨by omega, by omega, by omega⟩; refine f_end0 (F' := [(mp, C (encM (sentM s k off n) st sk bp) 69), (bp, C (bdL bu (sentN s st bn k off n) bv) 85)]) hl (has_two (bn := bn) hh (keeps_cons (b := mp) (by repeat (first | exact find_head | apply find_tail)) rfl (keeps_cons (b := bp) (by repeat (first | exact find_head | apply find_tail)) rfl keeps_nil)) he9) rfl keeps_self ⟨rfl, rfl⟩) | (have he9 := sent_2 (s := s) (st := st) (bn := bn) (k := k) (off := off) (n := n) (by omega) ⟨by omega, by omega, by omega⟩; refine f_end0 (F' := [(mp, C (encM (sentM s k off n) st sk bp) 69), (bp, C (bdL bu (sentN s st bn k off n) bv) 85)]) hl (has_two (bn := bn) hh (keeps_cons (b := mp) (by repeat (first | exact find_head | apply find_tail)) rfl (keeps_cons (b := bp) (by repeat (first | exact find_head | apply find_tail)) rfl keeps_nil)) he9) rfl keeps_self ⟨rfl, rfl⟩) | (have he9 := sent_3a (s := s) (st := st) (bn := bn) (k := k) (off := off) (n := n) (f := f9) (by omega) ⟨by omega, by omega, by omega⟩ (by omega) (by assumption); refine f_end0 (F' := [(mp, C (encM (sentM s k off n) st sk bp) 69), (bp, C (bdL bu (sentN s st bn k off n) bv) 85)]) hl (has_two (bn := bn) hh (keeps_cons (b := mp) (by repeat (first | exact find_head | apply find_tail)) rfl (keeps_cons (b := bp) (by repeat (first | exact find_head | apply find_tail)) rfl keeps_nil)) he9) rfl keeps_self ⟨rfl, rfl⟩) | (have he9 := sent_3b (s := s) (st := st) (bn := bn) (k := k) (off := off) (n := n) (f := f9) (by omega) ⟨by omega, by omega, by omega⟩ (by omega) (by assumption); refine f_end0 (F' := [(mp, C (encM (sentM s k off n) st sk bp) 69), (bp, C (bdL bu (sentN s st bn k off n) bv) 85)]) hl (has_two (bn := bn) hh (keeps_cons (b := mp) (by repeat (first | exact find_head | apply find_tail)) rfl (keeps_cons (b := bp) (by repeat (first | exact find_head | apply find_tail)) rfl keeps_nil)) he9) rfl keeps_self ⟨rfl, rfl⟩) | (have he9 := sent_4 (s := s) (st := st) (bn := bn) (k := k) (off := off) (n := n) (by omega) (by omega) (by omega); refine f_end0 (F' := [(mp, C (encM (sentM s k off n) st sk bp) 69), (bp, C (bdL bu (sentN s st bn k off n) bv) 85)]) hl (has_two (bn := bn) hh (keeps_cons (b := mp) (by repeat (first | exact find_head | apply find_tail)) rfl (keeps_cons (b := bp) (by repeat (first | exact find_head | apply find_tail)) rfl keeps_nil)) he9) rfl keeps_self ⟨rfl, rfl⟩) | (have he9 := sent_4 (s := s) (st := st) (bn := bn) (k := k) (off := off) (n := n) (by omega) (fun h9 => not_inF (by omega) h9.2) (fun h9 => not_inF (by omega) h9.2); refine f_end0 (F' := [(mp, C (encM (sentM s k off n) st sk bp) 69), (bp, C (bdL bu (sentN s st bn k off n) bv) 85)]) hl (has_two (bn := bn) hh (keeps_cons (b := mp) (by repeat (first | exact find_head | apply find_tail)) rfl (keeps_cons (b := bp) (by repeat (first | exact find_head | apply find_tail)) rfl keeps_nil)) he9) rfl keeps_self ⟨rfl, rfl⟩)
                  · intro hc3
                    try simp only [decide_eq_true_eq, decide_eq_false_iff_not, Bool.not_eq_true', Bool.not_eq_false', Bool.not_eq_true, Bool.not_eq_false, Bool.and_eq_true, Bool.or_eq_true, Bool.and_eq_false_iff, Bool.or_eq_false_iff, Bool.not_not, ne_eq, Int.not_lt, Int.not_le, Decidable.not_not, beq_iff_eq, bne_iff_ne] at hc3
                    obtain ⟨f9, hf9⟩ : ∃ z, z = s.forced := ⟨_, rfl⟩
                    replace hh : Has _ w0 [(mp, C (encM ({ s with forced := f9 }) st sk bp) 69), (k3, C [.int .u8 k, .int .i64 off, .int .i64 n] 42), (bp, C (bdL bu bn bv) 85)] w := hh.keep (keeps_cons (b := mp) (by repeat (first | exact find_head | apply find_tail)) (by rw [hf9]) (keeps_cons (b := k3) (by repeat (first | exact find_head | apply find_tail)) rfl (keeps_cons (b := bp) (by repeat (first | exact find_head | apply find_tail)) rfl keeps_nil)))
                    refine wp_skip ?_
                    refine then_normal ?_
                    refine c_draw [(mp, C (encM ({ s with forced := f9 }) st sk bp) 69), (k3, C [.int .u8 k, .int .i64 off, .int .i64 n] 42)] [11, 12, 13] mixed hh ?_
                    clear hh w; intro w hh
                    have hM : Mem [(mp, C (encM ({ s with forced := f9 }) st sk bp) 69), (k3, C [.int .u8 k, .int .i64 off, .int .i64 n] 42)] w := (by (repeat (first | exact Mem.nil | refine Mem.cons hh.mem (by (repeat (first | exact find_head | apply find_tail)); done) ?_ | refine Mem.consR hh (by assumption) (by simp) ?_ | fail)); done)
                    refine d_take (i := 0) hl rfl (by kernel_rfl) (by kernel_rfl) (by kernel_rfl) (by kernel_rfl) (by kernel_rfl) rfl trivial (fun _ _ _ h => h) hM (fun w hC => r_move hl rfl) rfl ?_
                    clear hl a; intro a hl
                    refine d_take (i := 1) hl rfl (by kernel_rfl) (by kernel_rfl) (by kernel_rfl) (by kernel_rfl) (by kernel_rfl) rfl trivial (fun _ _ _ h => h) hM (fun w hC => r_move hl rfl) rfl ?_
                    clear hl a; intro a hl
                    refine d_take (i := 2) hl rfl (by kernel_rfl) (by kernel_rfl) (by kernel_rfl) (by kernel_rfl) (by kernel_rfl) rfl trivial (fun _ _ _ h => h) hM (fun w hC => r_nilCheck hl rfl) rfl ?_
                    clear hl a; intro a hl
                    refine d_take (i := 3) hl rfl (by kernel_rfl) (by kernel_rfl) (by kernel_rfl) (by kernel_rfl) (by kernel_rfl) rfl trivial (fun _ _ _ h => h) hM (fun w hC => r_field hl rfl fld69_12) rfl ?_
                    clear hl a; intro a hl
                    refine d_take (i := 4) hl rfl (by kernel_rfl) (by kernel_rfl) (by kernel_rfl) (by kernel_rfl) (by kernel_rfl) rfl trivial (fun _ _ _ h => h) hM (fun w hC => r_loadC hl rfl one2 hC (by repeat (first | exact find_head | apply find_tail)) (by first | rfl)) rfl ?_
                    clear hl a; intro a hl
                    refine d_take (i := 5) hl rfl (by kernel_rfl) (by kernel_rfl) (by kernel_rfl) (by kernel_rfl) (by kernel_rfl) rfl trivial (fun _ _ _ h => h) hM (fun w hC => r_field hl rfl fld42_1) rfl ?_
                    clear hl a; intro a hl
                    refine d_take (i := 6) hl rfl (by kernel_rfl) (by kernel_rfl) (by kernel_rfl) (by kernel_rfl) (by kernel_rfl) rfl trivial (fun _ _ _ h => h) hM (fun w hC => r_loadC hl rfl one2 hC (by repeat (first | exact find_head | apply find_tail)) (by first | rfl)) rfl ?_
                    clear hl a; intro a hl
                    refine d_take (i := 7) hl rfl (by kernel_rfl) (by kernel_rfl) (by kernel_rfl) (by kernel_rfl) (by kernel_rfl) rfl trivial (fun _ _ _ h => h) hM (fun w hC => r_field hl rfl fld42_2) rfl ?_
                    clear hl a; intro a hl
                    refine d_take (i := 8) hl rfl (by kernel_rfl) (by kernel_rfl) (by kernel_rfl) (by kernel_rfl) (by kernel_rfl) rfl trivial (fun _ _ _ h => h) hM (fun w hC => r_loadC hl rfl one2 hC (by repeat (first | exact find_head | apply find_tail)) (by first | rfl)) rfl ?_
                    clear hl a; intro a hl
                    first | refine d_take (i := 9) hl rfl (by kernel_rfl) (by kernel_rfl) (by kernel_rfl) (by kernel_rfl) (by kernel_rfl) rfl trivial (fun _ _ _ h => h) hM (fun w hC => r_add hl rfl rfl (by simp only [Fits]; omega)) rfl ?_ | refine d_take (i := 9) hl rfl (by kernel_rfl) (by kernel_rfl) (by kernel_rfl) (by kernel_rfl) (by kernel_rfl) rfl trivial (fun _ _ _ h => h) hM (fun w hC => r_addW hl rfl rfl) rfl ?_
                    clear hl a; intro a hl
                    refine d_take (i := 10) hl rfl (by kernel_rfl) (by kernel_rfl) (by kernel_rfl) (by kernel_rfl) (by kernel_rfl) rfl trivial (fun _ _ _ h => h) hM (fun w hC => r_maxI hl rfl rfl) rfl ?_
                    clear hl a; intro a hl
                    refine d_takeL (i := 11) hl rfl (by kernel_rfl) (by kernel_rfl) (by kernel_rfl) (by kernel_rfl) (by kernel_rfl) rfl trivial (fun _ _ _ h => h) (fun w => r_nilCheck hl rfl) rfl ?_
                    clear hl a; intro a hl
                    refine d_takeL (i := 12) hl rfl (by kernel_rfl) (by kernel_rfl) (by kernel_rfl) (by kernel_rfl) (by kernel_rfl) rfl trivial (fun _ _ _ h => h) (fun w => r_field hl rfl fld69_12) rfl ?_
                    clear hl a; intro a hl
                    refine d_one (i := 13) (by kernel_rfl) rfl ?_
                    try clear hM
                    refine id (w_store hl hh trivial one2 rfl rfl (by repeat (first | exact find_head | apply find_tail)) (by first | (simp; done) | (simp; omega)) (by first | rfl | assumption | (apply Row.one; assumption)) (by first | (simp only [encM, setL, List.getElem?_cons_zero, List.getElem?_cons_succ, Value.cells, List.take_zero, List.take_succ_cons, List.take_nil, List.drop_zero, List.drop_succ_cons, List.drop_nil, List.length_cons, List.length_nil, List.cons_append, List.nil_append, List.append_nil, Nat.zero_add, Nat.add_zero, Nat.reduceAdd, Nat.reduceBEq, Nat.reduceEqDiff, Nat.ble, BEq.rfl, Bool.and_true, Bool.and_self, cond_true, beq_self_eq_true]; rfl) | (simp only [setL, List.getElem?_cons_zero, List.getElem?_cons_succ, Value.cells, List.take_zero, List.take_succ_cons, List.take_nil, List.drop_zero, List.drop_succ_cons, List.drop_nil, List.length_cons, List.length_nil, List.cons_append, List.nil_append, List.append_nil, Nat.zero_add, Nat.add_zero, Nat.reduceAdd, Nat.reduceBEq, Nat.reduceEqDiff, Nat.ble, BEq.rfl, Bool.and_true, Bool.and_self, cond_true, beq_self_eq_true]; rfl)) ?_)
                    clear hh w; intro w hh
                    refine d_step (fun h => absurd h (by decide)) ?_
                    refine d_done (by kernel_rfl) ?_
                    try clear hM
                    have hl2 := hl.nil; clear hl; have hl := hl2; clear hl2
                    refine blk_normal ?_
                    first | (exfalso; omega) | (have he9 := sent_1 (s := s) (st := st) (bn := bn) (k := k) (off := off) (n := n) ⟨by omega, by omega, by omega⟩; refine f_end0 (F' := [(mp, C (encM (sentM s k off n) st sk bp) 69), (bp, C (bdL bu (sentN s st bn k off n) bv) 85)]) hl (has_two (bn := bn) hh (keeps_cons (b := mp) (by repeat (first | exact find_head | apply find_tail)) rfl (keeps_cons (b := bp) (by repeat (first | exact find_head | apply find_tail)) rfl keeps_nil)) he9) rfl keeps_self ⟨rfl, rfl⟩) | (have he9 := sent_2 (s := s) (st := st) (bn := bn) (k := k) (off := off) (n := n) (by omega) ⟨by omega, by omega, by omega⟩; refine f_end0 (F' := [(mp, C (encM (sentM s k off n) st sk bp) 69), (bp, C (bdL bu (sentN s st bn k off n) bv) 85)]) hl (has_two (bn := bn) hh (keeps_cons (b := mp) (by repeat (first | exact find_head | apply find_tail)) rfl (keeps_cons (b := bp) (by repeat (first | exact find_head | apply find_tail)) rfl keeps_nil)) he9) rfl keeps_self ⟨rfl, rfl⟩) | (have he9 := sent_3a (s := s) (st := st) (bn := bn) (k := k) (off := off) (n := n) (f := f9) (by omega) ⟨by omega, by omega, by omega⟩ (by omega) (by assumption); refine f_end0 (F' := [(mp, C (encM (sentM s k off n) st sk bp) 69), (bp, C (bdL bu (sentN s st bn k off n) bv) 85)]) hl (has_two (bn := bn) hh (keeps_cons (b := mp) (by repeat (first | exact find_head | apply find_tail)) rfl (keeps_cons (b := bp) (by repeat (first | exact find_head | apply find_tail)) rfl keeps_nil)) he9) rfl keeps_self ⟨rfl, rfl⟩) | (have he9 := sent_3b (s := s) (st := st) (bn := bn) (k := k) (off := off) (n := n) (f := f9) (by omega) ⟨by omega, by omega, by omega⟩ (by omega) (by assumption); refine f_end0 (F' := [(mp, C (encM (sentM s k off n) st sk bp) 69), (bp, C (bdL bu (sentN s st bn k off n) bv) 85)]) hl (has_two (bn := bn) hh (keeps_cons (b := mp) (by repeat (first | exact find_head | apply find_tail)) rfl (keeps_cons (b := bp) (by repeat (first | exact find_head | apply find_tail)) rfl keeps_nil)) he9) rfl keeps_self ⟨rfl, rfl⟩) | (have he9 := sent_4 (s := s) (st := st) (bn := bn) (k := k) (off := off) (n := n) (by omega) (by omega) (by omega); refine f_end0 (F' := [(mp, C (encM (sentM s k off n) st sk bp) 69), (bp, C (bdL bu (sentN s st bn k off n) bv) 85)]) hl (has_two (bn := bn) hh (keeps_cons (b := mp) (by repeat (first | exact find_head | apply find_tail)) rfl (keeps_cons (b := bp) (by repeat (first | exact find_head | apply find_tail)) rfl keeps_nil)) he9) rfl keeps_self ⟨rfl, rfl⟩) | (have he9 := sent_4 (s := s) (st := st) (bn := bn) (k := k) (off := off) (n := n) (by omega) (fun h9 => not_inF (by omega) h9.2) (fun h9 => not_inF (by omega) h9.2); refine f_end0 (F' := [(mp, C (encM (sentM s k off n) st sk bp) 69), (bp, C (bdL bu (sentN s st bn k off n) bv) 85)]) hl (has_two (bn := bn) hh (keeps_cons (b := mp) (by repeat (first | exact find_head | apply find_tail)) rfl (keeps_cons (b := bp) (by repeat (first | exact find_head | apply find_tail)) rfl keeps_nil)) he9) rfl keeps_self ⟨rfl, rfl⟩)
                · intro hc2
                  try simp only [decide_eq_true_eq, decide_eq_false_iff_not, Bool.not_eq_true', Bool.not_eq_false', Bool.not_eq_true, Bool.not_eq_false, Bool.and_eq_true, Bool.or_eq_true, Bool.and_eq_false_iff, Bool.or_eq_false_iff, Bool.not_not, ne_eq, Int.not_lt, Int.not_le, Decidable.not_not, beq_iff_eq, bne_iff_ne] at hc2
                  refine wp_skip ?_
                  refine blk_normal ?_
                  first | (exfalso; omega) | (have he9 := sent_1 (s := s) (st := st) (bn := bn) (k := k) (off := off) (n := n) ⟨by omega, by omega, by omega⟩; refine f_end0 (F' := [(mp, C (encM (sentM s k off n) st sk bp) 69), (bp, C (bdL bu (sentN s st bn k off n) bv) 85)]) hl (has_two (bn := bn) hh (keeps_cons (b := mp) (by repeat (first | exact find_head | apply find_tail)) rfl (keeps_cons (b := bp) (by repeat (first | exact find_head | apply find_tail)) rfl keeps_nil)) he9) rfl keeps_self ⟨rfl, rfl⟩) | (have he9 := sent_2 (s := s) (st := st) (bn := bn) (k := k) (off := off) (n := n) (by omega) ⟨by omega, by omega, by omega⟩; refine f_end0 (F' := [(mp, C (encM (sentM s k off n) st sk bp) 69), (bp, C (bdL bu (sentN s st bn k off n) bv) 85)]) hl (has_two (bn := bn) hh (keeps_cons (b := mp) (by repeat (first | exact find_head | apply find_tail)) rfl (keeps_cons (b := bp) (by repeat (first | exact find_head | apply find_tail)) rfl keeps_nil)) he9) rfl keeps_self ⟨rfl, rfl⟩) | (have he9 := sent_3a (s := s) (st := st) (bn := bn) (k := k) (off := off) (n := n) (f := f9) (by omega) ⟨by omega, by omega, by omega⟩ (by omega) (by assumption); refine f_end0 (F' := [(mp, C (encM (sentM s k off n) st sk bp) 69), (bp, C (bdL bu (sentN s st bn k off n) bv) 85)]) hl (has_two (bn := bn) hh (keeps_cons (b := mp) (by repeat (first | exact find_head | apply find_tail)) rfl (keeps_cons (b := bp) (by repeat (first | exact find_head | apply find_tail)) rfl keeps_nil)) he9) rfl keeps_self ⟨rfl, rfl⟩) | (have he9 := sent_3b (s := s) (st := st) (bn := bn) (k := k) (off := off) (n := n) (f := f9) (by omega) ⟨by omega, by omega, by omega⟩ (by omega) (by assumption); refine f_end0 (F' := [(mp, C (encM (sentM s k off n) st sk bp) 69), (bp, C (bdL bu (sentN s st bn k off n) bv) 85)]) hl (has_two (bn := bn) hh (keeps_cons (b := mp) (by repeat (first | exact find_head | apply find_tail)) rfl (keeps_cons (b := bp) (by repeat (first | exact find_head | apply find_tail)) rfl keeps_nil)) he9) rfl keeps_self ⟨rfl, rfl⟩) | (have he9 := sent_4 (s := s) (st := st) (bn := bn) (k := k) (off := off) (n := n) (by omega) (by omega) (by omega); refine f_end0 (F' := [(mp, C (encM (sentM s k off n) st sk bp) 69), (bp, C (bdL bu (sentN s st bn k off n) bv) 85)]) hl (has_two (bn := bn) hh (keeps_cons (b := mp) (by repeat (first | exact find_head | apply find_tail)) rfl (keeps_cons (b := bp) (by repeat (first | exact find_head | apply find_tail)) rfl keeps_nil)) he9) rfl keeps_self ⟨rfl, rfl⟩) | (have he9 := sent_4 (s := s) (st := st) (bn := bn) (k := k) (off := off) (n := n) (by omega) (fun h9 => not_inF (by omega) h9.2) (fun h9 => not_inF (by omega) h9.2); refine f_end0 (F' := [(mp, C (encM (sentM s k off n) st sk bp) 69), (bp, C (bdL bu (sentN s st bn k off n) bv) 85)]) hl (has_two (bn := bn) hh (keeps_cons (b := mp) (by repeat (first | exact find_head | apply find_tail)) rfl (keeps_cons (b := bp) (by repeat (first | exact find_head | apply find_tail)) rfl keeps_nil)) he9) rfl keeps_self ⟨rfl, rfl⟩)
              · intro hg7; clear hl; intro hl
                try simp only [decide_eq_true_eq, decide_eq_false_iff_not, Bool.not_eq_true', Bool.not_eq_false', Bool.not_eq_true, Bool.not_eq_false, Bool.and_eq_true, Bool.or_eq_true, Bool.and_eq_false_iff, Bool.or_eq_false_iff, Bool.not_not, ne_eq, Int.not_lt, Int.not_le, Decidable.not_not, beq_iff_eq, bne_iff_ne] at hg7
                refine wl (wl_skip hl rfl ⟨_, _, rfl, rfl, rfl⟩ ?_)
                clear hl a; intro a hl
                refine wl (wl_val hl rfl trivial (r_pickF hl rfl rfl) ?_)
                clear hl a; intro a hl
                refine wl (wl_val hl rfl trivial (r_assign hl rfl) ?_)
                clear hl a; intro a hl
                refine w_nil ?_
                have hl2 := hl.add (t := 0) (hl.add (t := 3) (hl.add (t := 87) (hl.nil) rfl) rfl) rfl; clear hl; have hl := hl2; clear hl2
                refine then_normal ?_
                refine c_condF hl rfl ?_
                refine wp_skip ?_
                refine blk_normal ?_
                first | (exfalso; omega) | (have he9 := sent_1 (s := s) (st := st) (bn := bn) (k := k) (off := off) (n := n) ⟨by omega, by omega, by omega⟩; refine f_end0 (F' := [(mp, C (encM (sentM s k off n) st sk bp) 69), (bp, C (bdL bu (sentN s st bn k off n) bv) 85)]) hl (has_two (bn := bn) hh (keeps_cons (b := mp) (by repeat (first | exact find_head | apply find_tail)) rfl (keeps_cons (b := bp) (by repeat (first | exact find_head | apply find_tail)) rfl keeps_nil)) he9) rfl keeps_self ⟨rfl, rfl⟩) | (have he9 := sent_2 (s := s) (st := st) (bn := bn) (k := k) (off := off) (n := n) (by omega) ⟨by omega, by omega, by omega⟩; refine f_end0 (F' := [(mp, C (encM (sentM s k off n) st sk bp) 69), (bp, C (bdL bu (sentN s st bn k off n) bv) 85)]) hl (has_two (bn := bn) hh (keeps_cons (b := mp) (by repeat (first | exact find_head | apply find_tail)) rfl (keeps_cons (b := bp) (by repeat (first | exact find_head | apply find_tail)) rfl keeps_nil)) he9) rfl keeps_self ⟨rfl, rfl⟩) | (have he9 := sent_3a (s := s) (st := st) (bn := bn) (k := k) (off := off) (n := n) (f := f9) (by omega) ⟨by omega, by omega, by omega⟩ (by omega) (by assumption); refine f_end0 (F' := [(mp, C (encM (sentM s k off n) st sk bp) 69), (bp, C (bdL bu (sentN s st bn k off n) bv) 85)]) hl (has_two (bn := bn) hh (keeps_cons (b := mp) (by repeat (first | exact find_head | apply find_tail)) rfl (keeps_cons (b := bp) (by repeat (first | exact find_head | apply find_tail)) rfl keeps_nil)) he9) rfl keeps_self ⟨rfl, rfl⟩) | (have he9 := sent_3b (s := s) (st := st) (bn := bn) (k := k) (off := off) (n := n) (f := f9) (by omega) ⟨by omega, by omega, by omega⟩ (by omega) (by assumption); refine f_end0 (F' := [(mp, C (encM (sentM s k off n) st sk bp) 69), (bp, C (bdL bu (sentN s st bn k off n) bv) 85)]) hl (has_two (bn := bn) hh (keeps_cons (b := mp) (by repeat (first | exact find_head | apply find_tail)) rfl (keeps_cons (b := bp) (by repeat (first | exact find_head | apply find_tail)) rfl keeps_nil)) he9) rfl keeps_self ⟨rfl, rfl⟩) | (have he9 := sent_4 (s := s) (st := st) (bn := bn) (k := k) (off := off) (n := n) (by omega) (by omega) (by omega); refine f_end0 (F' := [(mp, C (encM (sentM s k off n) st sk bp) 69), (bp, C (bdL bu (sentN s st bn k off n) bv) 85)]) hl (has_two (bn := bn) hh (keeps_cons (b := mp) (by repeat (first | exact find_head | apply find_tail)) rfl (keeps_cons (b := bp) (by repeat (first | exact find_head | apply find_tail)) rfl keeps_nil)) he9) rfl keeps_self ⟨rfl, rfl⟩) | (have he9 := sent_4 (s := s) (st := st) (bn := bn) (k := k) (off := off) (n := n) (by omega) (fun h9 => not_inF (by omega) h9.2) (fun h9 => not_inF (by omega) h9.2); refine f_end0 (F' := [(mp, C (encM (sentM s k off n) st sk bp) 69), (bp, C (bdL bu (sentN s st bn k off n) bv) 85)]) hl (has_two (bn := bn) hh (keeps_cons (b := mp) (by repeat (first | exact find_head | apply find_tail)) rfl (keeps_cons (b := bp) (by repeat (first | exact find_head | apply find_tail)) rfl keeps_nil)) he9) rfl keeps_self ⟨rfl, rfl⟩)
        · intro hg4; clear hl; intro hl
          try simp only [decide_eq_true_eq, decide_eq_false_iff_not, Bool.not_eq_true', Bool.not_eq_false', Bool.not_eq_true, Bool.not_eq_false, Bool.and_eq_true, Bool.or_eq_true, Bool.and_eq_false_iff, Bool.or_eq_false_iff, Bool.not_not, ne_eq, Int.not_lt, Int.not_le, Decidable.not_not, beq_iff_eq, bne_iff_ne] at hg4
          refine d_skip (i := 13) hl rfl (by kernel_rfl) (by kernel_rfl) (by kernel_rfl) (by kernel_rfl) (by kernel_rfl) rfl ⟨_, _, rfl, rfl, rfl⟩ (fun _ _ _ h => h) hM ?_
          clear hl a; intro a hl
          refine d_skip (i := 14) hl rfl (by kernel_rfl) (by kernel_rfl) (by kernel_rfl) (by kernel_rfl) (by kernel_rfl) rfl ⟨_, _, rfl, rfl, rfl⟩ (fun _ _ _ h => h) hM ?_
          clear hl a; intro a hl
          refine d_skip (i := 15) hl rfl (by kernel_rfl) (by kernel_rfl) (by kernel_rfl) (by kernel_rfl) (by kernel_rfl) rfl ⟨_, _, rfl, rfl, rfl⟩ (fun _ _ _ h => h) hM ?_
          clear hl a; intro a hl
          refine d_skip (i := 16) hl rfl (by kernel_rfl) (by kernel_rfl) (by kernel_rfl) (by kernel_rfl) (by kernel_rfl) rfl ⟨_, _, rfl, rfl, rfl⟩ (fun _ _ _ h => h) hM ?_
          clear hl a; intro a hl
          refine d_skip (i := 17) hl rfl (by kernel_rfl) (by kernel_rfl) (by kernel_rfl) (by kernel_rfl) (by kernel_rfl) rfl ⟨_, _, rfl, rfl, rfl⟩ (fun _ _ _ h => h) hM ?_
          clear hl a; intro a hl
          refine d_skip (i := 18) hl rfl (by kernel_rfl) (by kernel_rfl) (by kernel_rfl) (by kernel_rfl) (by kernel_rfl) rfl ⟨_, _, rfl, rfl, rfl⟩ (fun _ _ _ h => h) hM ?_
          clear hl a; intro a hl
          refine d_skip (i := 19) hl rfl (by kernel_rfl) (by kernel_rfl) (by kernel_rfl) (by kernel_rfl) (by kernel_rfl) rfl ⟨_, _, rfl, rfl, rfl⟩ (fun _ _ _ h => h) hM ?_
          clear hl a; intro a hl
          refine d_skip (i := 20) hl rfl (by kernel_rfl) (by kernel_rfl) (by kernel_rfl) (by kernel_rfl) (by kernel_rfl) rfl ⟨_, _, rfl, rfl, rfl⟩ (fun _ _ _ h => h) hM ?_
          clear hl a; intro a hl
          refine d_skip (i := 21) hl rfl (by kernel_rfl) (by kernel_rfl) (by kernel_rfl) (by kernel_rfl) (by kernel_rfl) rfl ⟨_, _, rfl, rfl, rfl⟩ (fun _ _ _ h => h) hM ?_
          clear hl a; intro a hl
          refine d_skip (i := 22) hl rfl (by kernel_rfl) (by kernel_rfl) (by kernel_rfl) (by kernel_rfl) (by kernel_rfl) rfl ⟨_, _, rfl, rfl, rfl⟩ (fun _ _ _ h => h) hM ?_
          clear hl a; intro a hl
          refine d_skip (i := 23) hl rfl (by kernel_rfl) (by kernel_rfl) (by kernel_rfl) (by kernel_rfl) (by kernel_rfl) rfl ⟨_, _, rfl, rfl, rfl⟩ (fun _ _ _ h => h) hM ?_
          clear hl a; intro a hl
          refine d_skip (i := 24) hl rfl (by kernel_rfl) (by kernel_rfl) (by kernel_rfl) (by kernel_rfl) (by kernel_rfl) rfl ⟨_, _, rfl, rfl, rfl⟩ (fun _ _ _ h => h) hM ?_
          clear hl a; intro a hl
          refine d_skip (i := 25) hl rfl (by kernel_rfl) (by kernel_rfl) (by kernel_rfl) (by kernel_rfl) (by kernel_rfl) rfl ⟨_, _, rfl, rfl, rfl⟩ (fun _ _ _ h => h) hM ?_
          clear hl a; intro a hl
          refine d_takeL (i := 26) hl rfl (by kernel_rfl) (by kernel_rfl) (by kernel_rfl) (by kernel_rfl) (by kernel_rfl) rfl trivial (fun _ _ _ h => h) (fun w => r_pickF hl rfl rfl) rfl ?_
          clear hl a; intro a hl
          refine d_takeL (i := 27) hl rfl (by kernel_rfl) (by kernel_rfl) (by kernel_rfl) (by kernel_rfl) (by kernel_rfl) rfl trivial (fun _ _ _ h => h) (fun w => r_assign hl rfl) rfl ?_
          clear hl a; intro a hl
          refine d_done (by kernel_rfl) ?_
          try clear hM
          have hl2 := hl.add (t := 0) (hl.add (t := 3) (hl.add (t := 4) (hl.add (t := 29) (hl.nil) rfl) rfl) rfl) rfl; clear hl; have hl := hl2; clear hl2
          refine then_normal ?_
          refine c_condF hl rfl ?_
          refine c_seq ?_
          refine c_region ?_
          refine wl (wl_val hl rfl trivial (r_field hl rfl fld42_0) ?_)
          clear hl a; intro a hl
          refine wl (w_load hl hh rfl trivial one38 rfl (by repeat (first | exact find_head | apply find_tail)) (by first | rfl) ?_)
          clear hl a; intro a hl
          refine wl (wl_val hl rfl trivial (r_eql hl rfl rfl) ?_)
          clear hl a; intro a hl
          refine wl (wl_val hl rfl trivial (r_move hl rfl) ?_)
          clear hl a; intro a hl
          refine sl_split (t := 81) hl rfl ?_ ?_
          · intro hg8; clear hl; intro hl
            try simp only [decide_eq_true_eq, decide_eq_false_iff_not, Bool.not_eq_true', Bool.not_eq_false', Bool.not_eq_true, Bool.not_eq_false, Bool.and_eq_true, Bool.or_eq_true, Bool.and_eq_false_iff, Bool.or_eq_false_iff, Bool.not_not, ne_eq, Int.not_lt, Int.not_le, Decidable.not_not, beq_iff_eq, bne_iff_ne] at hg8
            refine wl (wl_val hl rfl ⟨_, _, rfl, rfl, rfl⟩ (r_move hl rfl) ?_)
            clear hl a; intro a hl
            refine wl (wl_val hl rfl trivial (r_pickT hl rfl rfl) ?_)
            clear hl a; intro a hl
            refine wl (wl_val hl rfl trivial (r_assign hl rfl) ?_)
            clear hl a; intro a hl
            refine w_nil ?_
            have hl2 := hl.add (t := 0) (hl.add (t := 3) (hl.add (t := 4) (hl.add (t := 77) (hl.nil) rfl) rfl) rfl) rfl; clear hl; have hl := hl2; clear hl2
            refine then_normal ?_
            refine c_cond hl rfl ?_ ?_
            · intro hc1
              try simp only [decide_eq_true_eq, decide_eq_false_iff_not, Bool.not_eq_true', Bool.not_eq_false', Bool.not_eq_true, Bool.not_eq_false, Bool.and_eq_true, Bool.or_eq_true, Bool.and_eq_false_iff, Bool.or_eq_false_iff, Bool.not_not, ne_eq, Int.not_lt, Int.not_le, Decidable.not_not, beq_iff_eq, bne_iff_ne] at hc1
              refine c_region ?_
              refine wl (wl_val hl rfl trivial (r_move hl rfl) ?_)
              clear hl a; intro a hl
              refine wl (wl_val hl rfl trivial (r_nilCheck hl rfl) ?_)
              clear hl a; intro a hl
              refine wl (wl_val hl rfl trivial (r_field hl rfl fld69_16) ?_)
              clear hl a; intro a hl
              refine wl (w_store hl hh trivial one4 rfl rfl (by repeat (first | exact find_head | apply find_tail)) (by first | (simp; done) | (simp; omega)) (by first | rfl | assumption | (apply Row.one; assumption)) (by first | (simp only [encM, setL, List.getElem?_cons_zero, List.getElem?_cons_succ, Value.cells, List.take_zero, List.take_succ_cons, List.take_nil, List.drop_zero, List.drop_succ_cons, List.drop_nil, List.length_cons, List.length_nil, List.cons_append, List.nil_append, List.append_nil, Nat.zero_add, Nat.add_zero, Nat.reduceAdd, Nat.reduceBEq, Nat.reduceEqDiff, Nat.ble, BEq.rfl, Bool.and_true, Bool.and_self, cond_true, beq_self_eq_true]; rfl) | (simp only [setL, List.getElem?_cons_zero, List.getElem?_cons_succ, Value.cells, List.take_zero, List.take_succ_cons, List.take_nil, List.drop_zero, List.drop_succ_cons, List.drop_nil, List.length_cons, List.length_nil, List.cons_append, List.nil_append, List.append_nil, Nat.zero_add, Nat.add_zero, Nat.reduceAdd, Nat.reduceBEq, Nat.reduceEqDiff, Nat.ble, BEq.rfl, Bool.and_true, Bool.and_self, cond_true, beq_self_eq_true]; rfl)) ?_)
              clear hh w; intro w hh
              refine w_nil ?_
              have hl2 := hl.nil; clear hl; have hl := hl2; clear hl2
              refine blk_normal ?_
              first | (exfalso; omega) | (have he9 := sent_1 (s := s) (st := st) (bn := bn) (k := k) (off := off) (n := n) ⟨by omega, by omega, by omega⟩; refine f_end0 (F' := [(mp, C (encM (sentM s k off n) st sk bp) 69), (bp, C (bdL bu (sentN s st bn k off n) bv) 85)]) hl (has_two (bn := bn) hh (keeps_cons (b := mp) (by repeat (first | exact find_head | apply find_tail)) rfl (keeps_cons (b := bp) (by repeat (first | exact find_head | apply find_tail)) rfl keeps_nil)) he9) rfl keeps_self ⟨rfl, rfl⟩) | (have he9 := sent_2 (s := s) (st := st) (bn := bn) (k := k) (off := off) (n := n) (by omega) ⟨by omega, by omega, by omega⟩; refine f_end0 (F' := [(mp, C (encM (sentM s k off n) st sk bp) 69), (bp, C (bdL bu (sentN s st bn k off n) bv) 85)]) hl (has_two (bn := bn) hh (keeps_cons (b := mp) (by repeat (first | exact find_head | apply find_tail)) rfl (keeps_cons (b := bp) (by repeat (first | exact find_head | apply find_tail)) rfl keeps_nil)) he9) rfl keeps_self ⟨rfl, rfl⟩) | (have he9 := sent_3a (s := s) (st := st) (bn := bn) (k := k) (off := off) (n := n) (f := f9) (by omega) ⟨by omega, by omega, by omega⟩ (by omega) (by assumption); refine f_end0 (F' := [(mp, C (encM (sentM s k off n) st sk bp) 69), (bp, C (bdL bu (sentN s st bn k off n) bv) 85)]) hl (has_two (bn := bn) hh (keeps_cons (b := mp) (by repeat (first | exact find_head | apply find_tail)) rfl (keeps_cons (b := bp) (by repeat (first | exact find_head | apply find_tail)) rfl keeps_nil)) he9) rfl keeps_self ⟨rfl, rfl⟩) | (have he9 := sent_3b (s := s) (st := st) (bn := bn) (k := k) (off := off) (n := n) (f := f9) (by omega) ⟨by omega, by omega, by omega⟩ (by omega) (by assumption); refine f_end0 (F' := [(mp, C (encM (sentM s k off n) st sk bp) 69), (bp, C (bdL bu (sentN s st bn k off n) bv) 85)]) hl (has_two (bn := bn) hh (keeps_cons (b := mp) (by repeat (first | exact find_head | apply find_tail)) rfl (keeps_cons (b := bp) (by repeat (first | exact find_head | apply find_tail)) rfl keeps_nil)) he9) rfl keeps_self ⟨rfl, rfl⟩) | (have he9 := sent_4 (s := s) (st := st) (bn := bn) (k := k) (off := off) (n := n) (by omega) (by omega) (by omega); refine f_end0 (F' := [(mp, C (encM (sentM s k off n) st sk bp) 69), (bp, C (bdL bu (sentN s st bn k off n) bv) 85)]) hl (has_two (bn := bn) hh (keeps_cons (b := mp) (by repeat (first | exact find_head | apply find_tail)) rfl (keeps_cons (b := bp) (by repeat (first | exact find_head | apply find_tail)) rfl keeps_nil)) he9) rfl keeps_self ⟨rfl, rfl⟩) | (have he9 := sent_4 (s := s) (st := st) (bn := bn) (k := k) (off := off) (n := n) (by omega) (fun h9 => not_inF (by omega) h9.2) (fun h9 => not_inF (by omega) h9.2); refine f_end0 (F' := [(mp, C (encM (sentM s k off n) st sk bp) 69), (bp, C (bdL bu (sentN s st bn k off n) bv) 85)]) hl (has_two (bn := bn) hh (keeps_cons (b := mp) (by repeat (first | exact find_head | apply find_tail)) rfl (keeps_cons (b := bp) (by repeat (first | exact find_head | apply find_tail)) rfl keeps_nil)) he9) rfl keeps_self ⟨rfl, rfl⟩)
            · intro hc1
              try simp only [decide_eq_true_eq, decide_eq_false_iff_not, Bool.not_eq_true', Bool.not_eq_false', Bool.not_eq_true, Bool.not_eq_false, Bool.and_eq_true, Bool.or_eq_true, Bool.and_eq_false_iff, Bool.or_eq_false_iff, Bool.not_not, ne_eq, Int.not_lt, Int.not_le, Decidable.not_not, beq_iff_eq, bne_iff_ne] at hc1
              refine c_seq ?_
              refine c_region ?_
              refine wl (wl_val hl rfl trivial (r_field hl rfl fld42_0) ?_)
              clear hl a; intro a hl
              refine wl (w_load hl hh rfl trivial one38 rfl (by repeat (first | exact find_head | apply find_tail)) (by first | rfl) ?_)
              clear hl a; intro a hl
              refine wl (wl_val hl rfl trivial (r_eql hl rfl rfl) ?_)
              clear hl a; intro a hl
              refine wl (wl_val hl rfl trivial (r_move hl rfl) ?_)
              clear hl a; intro a hl
              refine sl_split (t := 91) hl rfl ?_ ?_
              · intro hg9; clear hl; intro hl
                try simp only [decide_eq_true_eq, decide_eq_false_iff_not, Bool.not_eq_true', Bool.not_eq_false', Bool.not_eq_true, Bool.not_eq_false, Bool.and_eq_true, Bool.or_eq_true, Bool.and_eq_false_iff, Bool.or_eq_false_iff, Bool.not_not, ne_eq, Int.not_lt, Int.not_le, Decidable.not_not, beq_iff_eq, bne_iff_ne] at hg9
                refine wl (wl_val hl rfl ⟨_, _, rfl, rfl, rfl⟩ (r_move hl rfl) ?_)
                clear hl a; intro a hl
                refine wl (wl_val hl rfl trivial (r_pickT hl rfl rfl) ?_)
                clear hl a; intro a hl
                refine wl (wl_val hl rfl trivial (r_assign hl rfl) ?_)
                clear hl a; intro a hl
                refine w_nil ?_
                have hl2 := hl.add (t := 0) (hl.add (t := 3) (hl.add (t := 87) (hl.nil) rfl) rfl) rfl; clear hl; have hl := hl2; clear hl2
                refine then_normal ?_
                refine c_cond hl rfl ?_ ?_
                · intro hc2
                  try simp only [decide_eq_true_eq, decide_eq_false_iff_not, Bool.not_eq_true', Bool.not_eq_false', Bool.not_eq_true, Bool.not_eq_false, Bool.and_eq_true, Bool.or_eq_true, Bool.and_eq_false_iff, Bool.or_eq_false_iff, Bool.not_not, ne_eq, Int.not_lt, Int.not_le, Decidable.not_not, beq_iff_eq, bne_iff_ne] at hc2
                  refine c_seq ?_
                  refine c_seq ?_
                  refine c_draw [(mp, C (encM (s) st sk bp) 69), (k3, C [.int .u8 k, .int .i64 off, .int .i64 n] 42)] [6] mixed hh ?_
                  clear hh w; intro w hh
                  have hM : Mem [(mp, C (encM (s) st sk bp) 69), (k3, C [.int .u8 k, .int .i64 off, .int .i64 n] 42)] w := (by (repeat (first | exact Mem.nil | refine Mem.cons hh.mem (by (repeat (first | exact find_head | apply find_tail)); done) ?_ | refine Mem.consR hh (by assumption) (by simp) ?_ | fail)); done)
                  refine d_take (i := 0) hl rfl (by kernel_rfl) (by kernel_rfl) (by kernel_rfl) (by kernel_rfl) (by kernel_rfl) rfl trivial (fun _ _ _ h => h) hM (fun w hC => r_field hl rfl fld42_1) rfl ?_
                  clear hl a; intro a hl
                  refine d_take (i := 1) hl rfl (by kernel_rfl) (by kernel_rfl) (by kernel_rfl) (by kernel_rfl) (by kernel_rfl) rfl trivial (fun _ _ _ h => h) hM (fun w hC => r_loadC hl rfl one2 hC (by repeat (first | exact find_head | apply find_tail)) (by first | rfl)) rfl ?_
                  clear hl a; intro a hl
                  refine d_take (i := 2) hl rfl (by kernel_rfl) (by kernel_rfl) (by kernel_rfl) (by kernel_rfl) (by kernel_rfl) rfl trivial (fun _ _ _ h => h) hM (fun w hC => r_move hl rfl) rfl ?_
                  clear hl a; intro a hl
                  refine d_take (i := 3) hl rfl (by kernel_rfl) (by kernel_rfl) (by kernel_rfl) (by kernel_rfl) (by kernel_rfl) rfl trivial (fun _ _ _ h => h) hM (fun w hC => r_nilCheck hl rfl) rfl ?_
                  clear hl a; intro a hl
                  refine d_take (i := 4) hl rfl (by kernel_rfl) (by kernel_rfl) (by kernel_rfl) (by kernel_rfl) (by kernel_rfl) rfl trivial (fun _ _ _ h => h) hM (fun w hC => r_field hl rfl fld69_8) rfl ?_
                  clear hl a; intro a hl
                  refine d_take (i := 5) hl rfl (by kernel_rfl) (by kernel_rfl) (by kernel_rfl) (by kernel_rfl) (by kernel_rfl) rfl trivial (fun _ _ _ h => h) hM (fun w hC => r_loadC hl rfl one2 hC (by repeat (first | exact find_head | apply find_tail)) (by first | rfl)) rfl ?_
                  clear hl a; intro a hl
                  refine d_takeL (i := 6) hl rfl (by kernel_rfl) (by kernel_rfl) (by kernel_rfl) (by kernel_rfl) (by kernel_rfl) rfl trivial (fun _ _ _ h => h) (fun w => r_eql hl rfl rfl) rfl ?_
                  clear hl a; intro a hl
                  refine d_done (by kernel_rfl) ?_
                  try clear hM
                  have hl2 := hl.add (t := 0) (hl.add (t := 3) (hl.add (t := 100) (hl.nil) rfl) rfl) rfl; clear hl; have hl := hl2; clear hl2
                  refine then_normal ?_
                  refine c_cond hl rfl ?_ ?_
                  · intro hc3
                    try simp only [decide_eq_true_eq, decide_eq_false_iff_not, Bool.not_eq_true', Bool.not_eq_false', Bool.not_eq_true, Bool.not_eq_false, Bool.and_eq_true, Bool.or_eq_true, Bool.and_eq_false_iff, Bool.or_eq_false_iff, Bool.not_not, ne_eq, Int.not_lt, Int.not_le, Decidable.not_not, beq_iff_eq, bne_iff_ne] at hc3
                    obtain ⟨f9, hf9⟩ : ∃ z, z = false := ⟨_, rfl⟩
                    refine c_region ?_
                    refine wl (wl_val hl rfl trivial (r_move hl rfl) ?_)
                    clear hl a; intro a hl
                    refine wl (wl_val hl rfl trivial (r_nilCheck hl rfl) ?_)
                    clear hl a; intro a hl
                    refine wl (wl_val hl rfl trivial (r_field hl rfl fld69_14) ?_)
                    clear hl a; intro a hl
                    refine wl (w_store hl hh trivial one4 rfl rfl (by repeat (first | exact find_head | apply find_tail)) (by first | (simp; done) | (simp; omega)) (by first | rfl | assumption | (apply Row.one; assumption)) (by first | (simp only [encM, setL, List.getElem?_cons_zero, List.getElem?_cons_succ, Value.cells, List.take_zero, List.take_succ_cons, List.take_nil, List.drop_zero, List.drop_succ_cons, List.drop_nil, List.length_cons, List.length_nil, List.cons_append, List.nil_append, List.append_nil, Nat.zero_add, Nat.add_zero, Nat.reduceAdd, Nat.reduceBEq, Nat.reduceEqDiff, Nat.ble, BEq.rfl, Bool.and_true, Bool.and_self, cond_true, beq_self_eq_true]; rfl) | (simp only [setL, List.getElem?_cons_zero, List.getElem?_cons_succ, Value.cells, List.take_zero, List.take_succ_cons, List.take_nil, List.drop_zero, List.drop_succ_cons, List.drop_nil, List.length_cons, List.length_nil, List.cons_append, List.nil_append, List.append_nil, Nat.zero_add, Nat.add_zero, Nat.reduceAdd, Nat.reduceBEq, Nat.reduceEqDiff, Nat.ble, BEq.rfl, Bool.and_true, Bool.and_self, cond_true, beq_self_eq_true]; rfl)) ?_)
                    clear hh w; intro w hh
                    refine w_nil ?_
                    have hl2 := hl.add (t := 0) (hl.add (t := 3) (hl.nil) rfl) rfl; clear hl; have hl := hl2; clear hl2
                    replace hh : Has _ w0 [(mp, C (encM ({ s with forced := f9 }) st sk bp) 69), (k3, C [.int .u8 k, .int .i64 off, .int .i64 n] 42), (bp, C (bdL bu bn bv) 85)] w := hh.keep (keeps_cons (b := mp) (by repeat (first | exact find_head | apply find_tail)) (by rw [hf9]; rfl) (keeps_cons (b := k3) (by repeat (first | exact find_head | apply find_tail)) rfl (keeps_cons (b := bp) (by repeat (first | exact find_head | apply find_tail)) rfl keeps_nil)))
                    refine then_normal ?_
                    refine c_draw [(mp, C (encM ({ s with forced := f9 }) st sk bp) 69), (k3, C [.int .u8 k, .int .i64 off, .int .i64 n] 42)] [11, 12, 13] mixed hh ?_
                    clear hh w; intro w hh
                    have hM : Mem [(mp, C (encM ({ s with forced := f9 }) st sk bp) 69), (k3, C [.int .u8 k, .int .i64 off, .int .i64 n] 42)] w := (by (repeat (first | exact Mem.nil | refine Mem.cons hh.mem (by (repeat (first | exact find_head | apply find_tail)); done) ?_ | refine Mem.consR hh (by assumption) (by simp) ?_ | fail)); done)
                    refine d_take (i := 0) hl rfl (by kernel_rfl) (by kernel_rfl) (by kernel_rfl) (by kernel_rfl) (by kernel_rfl) rfl trivial (fun _ _ _ h => h) hM (fun w hC => r_move hl rfl) rfl ?_
                    clear hl a; intro a hl
                    refine d_take (i := 1) hl rfl (by kernel_rfl) (by kernel_rfl) (by kernel_rfl) (by kernel_rfl) (by kernel_rfl) rfl trivial (fun _ _ _ h => h) hM (fun w hC => r_move hl rfl) rfl ?_
                    clear hl a; intro a hl
                    refine d_take (i := 2) hl rfl (by kernel_rfl) (by kernel_rfl) (by kernel_rfl) (by kernel_rfl) (by kernel_rfl) rfl trivial (fun _ _ _ h => h) hM (fun w hC => r_nilCheck hl rfl) rfl ?_
                    clear hl a; intro a hl
                    refine d_take (i := 3) hl rfl (by kernel_rfl) (by kernel_rfl) (by kernel_rfl) (by kernel_rfl) (by kernel_rfl) rfl trivial (fun _ _ _ h => h) hM (fun w hC => r_field hl rfl fld69_12) rfl ?_
                    clear hl a; intro a hl
                    refine d_take (i := 4) hl rfl (by kernel_rfl) (by kernel_rfl) (by kernel_rfl) (by kernel_rfl) (by kernel_rfl) rfl trivial (fun _ _ _ h => h) hM (fun w hC => r_loadC hl rfl one2 hC (by repeat (first | exact find_head | apply find_tail)) (by first | rfl)) rfl ?_
                    clear hl a; intro a hl
                    refine d_take (i := 5) hl rfl (by kernel_rfl) (by kernel_rfl) (by kernel_rfl) (by kernel_rfl) (by kernel_rfl) rfl trivial (fun _ _ _ h => h) hM (fun w hC => r_field hl rfl fld42_1) rfl ?_
                    clear hl a; intro a hl
                    refine d_take (i := 6) hl rfl (by kernel_rfl) (by kernel_rfl) (by kernel_rfl) (by kernel_rfl) (by kernel_rfl) rfl trivial (fun _ _ _ h => h) hM (fun w hC => r_loadC hl rfl one2 hC (by repeat (first | exact find_head | apply find_tail)) (by first | rfl)) rfl ?_
                    clear hl a; intro a hl
                    refine d_take (i := 7) hl rfl (by kernel_rfl) (by kernel_rfl) (by kernel_rfl) (by kernel_rfl) (by kernel_rfl) rfl trivial (fun _ _ _ h => h) hM (fun w hC => r_field hl rfl fld42_2) rfl ?_
                    clear hl a; intro a hl
                    refine d_take (i := 8) hl rfl (by kernel_rfl) (by kernel_rfl) (by kernel_rfl) (by kernel_rfl) (by kernel_rfl) rfl trivial (fun _ _ _ h => h) hM (fun w hC => r_loadC hl rfl one2 hC (by repeat (first | exact find_head | apply find_tail)) (by first | rfl)) rfl ?_
                    clear hl a; intro a hl
                    first | refine d_take (i := 9) hl rfl (by kernel_rfl) (by kernel_rfl) (by kernel_rfl) (by kernel_rfl) (by kernel_rfl) rfl trivial (fun _ _ _ h => h) hM (fun w hC => r_add hl rfl rfl (by simp only [Fits]; omega)) rfl ?_ | refine d_take (i := 9) hl rfl (by kernel_rfl) (by kernel_rfl) (by kernel_rfl) (by kernel_rfl) (by kernel_rfl) rfl trivial (fun _ _ _ h => h) hM (fun w hC => r_addW hl rfl rfl) rfl ?_
                    clear hl a; intro a hl
                    refine d_take (i := 10) hl rfl (by kernel_rfl) (by kernel_rfl) (by kernel_rfl) (by kernel_rfl) (by kernel_rfl) rfl trivial (fun _ _ _ h => h) hM (fun w hC => r_maxI hl rfl rfl) rfl ?_
                    clear hl a; intro a hl
                    refine d_takeL (i := 11) hl rfl (by kernel_rfl) (by kernel_rfl) (by kernel_rfl) (by kernel_rfl) (by kernel_rfl) rfl trivial (fun _ _ _ h => h) (fun w => r_nilCheck hl rfl) rfl ?_
                    clear hl a; intro a hl
                    refine d_takeL (i := 12) hl rfl (by kernel_rfl) (by kernel_rfl) (by kernel_rfl) (by kernel_rfl) (by kernel_rfl) rfl trivial (fun _ _ _ h => h) (fun w => r_field hl rfl fld69_12) rfl ?_
                    clear hl a; intro a hl
                    refine d_one (i := 13) (by kernel_rfl) rfl ?_
                    try clear hM
                    refine id (w_store hl hh trivial one2 rfl rfl (by repeat (first | exact find_head | apply find_tail)) (by first | (simp; done) | (simp; omega)) (by first | rfl | assumption | (apply Row.one; assumption)) (by first | (simp only [encM, setL, List.getElem?_cons_zero, List.getElem?_cons_succ, Value.cells, List.take_zero, List.take_succ_cons, List.take_nil, List.drop_zero, List.drop_succ_cons, List.drop_nil, List.length_cons, List.length_nil, List.cons_append, List.nil_append, List.append_nil, Nat.zero_add, Nat.add_zero, Nat.reduceAdd, Nat.reduceBEq, Nat.reduceEqDiff, Nat.ble, BEq.rfl, Bool.and_true, Bool.and_self, cond_true, beq_self_eq_true]; rfl) | (simp only [setL, List.getElem?_cons_zero, List.getElem?_cons_succ, Value.cells, List.take_zero, List.take_succ_cons, List.take_nil, List.drop_zero, List.drop_succ_cons, List.drop_nil, List.length_cons, List.length_nil, List.cons_append, List.nil_append, List.append_nil, Nat.zero_add, Nat.add_zero, Nat.reduceAdd, Nat.reduceBEq, Nat.reduceEqDiff, Nat.ble, BEq.rfl, Bool.and_true, Bool.and_self, cond_true, beq_self_eq_true]; rfl)) ?_)
                    clear hh w; intro w hh
                    refine d_step (fun h => absurd h (by decide)) ?_
                    refine d_done (by kernel_rfl) ?_
                    try clear hM
                    have hl2 := hl.nil; clear hl; have hl := hl2; clear hl2
                    refine blk_normal ?_
                    first | (exfalso; omega) | (have he9 := sent_1 (s := s) (st := st) (bn := bn) (k := k) (off := off) (n := n) ⟨by omega, by omega, by omega⟩; refine f_end0 (F' := [(mp, C (encM (sentM s k off n) st sk bp) 69), (bp, C (bdL bu (sentN s st bn k off n) bv) 85)]) hl (has_two (bn := bn) hh (keeps_cons (b := mp) (by repeat (first | exact find_head | apply find_tail)) rfl (keeps_cons (b := bp) (by repeat (first | exact find_head | apply find_tail)) rfl keeps_nil)) he9) rfl keeps_self ⟨rfl, rfl⟩) | (have he9 := sent_2 (s := s) (st := st) (bn := bn) (k := k) (off := off) (n := n) (by omega) ⟨by omega, by omega, by omega⟩; refine f_end0 (F' := [(mp, C (encM (sentM s k off n) st sk bp) 69), (bp, C (bdL bu (sentN s st bn k off n) bv) 85)]) hl (has_two (bn := bn) hh (keeps_cons (b := mp) (by repeat (first | exact find_head | apply find_tail)) rfl (keeps_cons (b := bp) (by repeat (first | exact find_head | apply find_tail)) rfl keeps_nil)) he9) rfl keeps_self ⟨rfl, rfl⟩) | (have he9 := sent_3a (s := s) (st := st) (bn := bn) (k := k) (off := off) (n := n) (f := f9) (by omega) ⟨by omega, by omega, by omega⟩ (by omega) (by assumption); refine f_end0 (F' := [(mp, C (encM (sentM s k off n) st sk bp) 69), (bp, C (bdL bu (sentN s st bn k off n) bv) 85)]) hl (has_two (bn := bn) hh (keeps_cons (b := mp) (by repeat (first | exact find_head | apply find_tail)) rfl (keeps_cons (b := bp) (by repeat (first | exact find_head | apply find_tail)) rfl keeps_nil)) he9) rfl keeps_self ⟨rfl, rfl⟩) | (have he9 := sent_3b (s := s) (st := st) (bn := bn) (k := k) (off := off) (n := n) (f := f9) (by omega) ⟨by omega, by omega, by omega⟩ (by omega) (by assumption); refine f_end0 (F' := [(mp, C (encM (sentM s k off n) st sk bp) 69), (bp, C (bdL bu (sentN s st bn k off n) bv) 85)]) hl (has_two (bn := bn) hh (keeps_cons (b := mp) (by repeat (first | exact find_head | apply find_tail)) rfl (keeps_cons (b := bp) (by repeat (first | exact find_head | apply find_tail)) rfl keeps_nil)) he9) rfl keeps_self ⟨rfl, rfl⟩) | (have he9 := sent_4 (s := s) (st := st) (bn := bn) (k := k) (off := off) (n := n) (by omega) (by omega) (by omega); refine f_end0 (F' := [(mp, C (encM (sentM s k off n) st sk bp) 69), (bp, C (bdL bu (sentN s st bn k off n) bv) 85)]) hl (has_two (bn := bn) hh (keeps_cons (b := mp) (by repeat (first | exact find_head | apply find_tail)) rfl (keeps_cons (b := bp) (by repeat (first | exact find_head | apply find_tail)) rfl keeps_nil)) he9) rfl keeps_self ⟨rfl, rfl⟩) | (have he9 := sent_4 (s := s) (st := st) (bn := bn) (k := k) (off := off) (n := n) (by omega) (fun h9 => not_inF (by omega) h9.2) (fun h9 => not_inF (by omega) h9.2); refine f_end0 (F' := [(mp, C (encM (sentM s k off n) st sk bp) 69), (bp, C (bdL bu (sentN s st bn k off n) bv) 85)]) hl (has_two (bn := bn) hh (keeps_cons (b := mp) (by repeat (first | exact find_head | apply find_tail)) rfl (keeps_cons (b := bp) (by repeat (first | exact find_head | apply find_tail)) rfl keeps_nil)) he9) rfl keeps_self ⟨rfl, rfl⟩)
                  · intro hc3
                    try simp only [decide_eq_true_eq, decide_eq_false_iff_not, Bool.not_eq_true', Bool.not_eq_false', Bool.not_eq_true, Bool.not_eq_false, Bool.and_eq_true, Bool.or_eq_true, Bool.and_eq_false_iff, Bool.or_eq_false_iff, Bool.not_not, ne_eq, Int.not_lt, Int.not_le, Decidable.not_not, beq_iff_eq, bne_iff_ne] at hc3
                    obtain ⟨f9, hf9⟩ : ∃ z, z = s.forced := ⟨_, rfl⟩
                    replace hh : Has _ w0 [(mp, C (encM ({ s with forced := f9 }) st sk bp) 69), (k3, C [.int .u8 k, .int .i64 off, .int .i64 n] 42), (bp, C (bdL bu bn bv) 85)] w := hh.keep (keeps_cons (b := mp) (by repeat (first | exact find_head | apply find_tail)) (by rw [hf9]) (keeps_cons (b := k3) (by repeat (first | exact find_head | apply find_tail)) rfl (keeps_cons (b := bp) (by repeat (first | exact find_head | apply find_tail)) rfl keeps_nil)))
                    refine wp_skip ?_
                    refine then_normal ?_
                    refine c_draw [(mp, C (encM ({ s with forced := f9 }) st sk bp) 69), (k3, C [.int .u8 k, .int .i64 off, .int .i64 n] 42)] [11, 12, 13] mixed hh ?_
                    clear hh w; intro w hh
                    have hM : Mem [(mp, C (encM ({ s with forced := f9 }) st sk bp) 69), (k3, C [.int .u8 k, .int .i64 off, .int .i64 n] 42)] w := (by (repeat (first | exact Mem.nil | refine Mem.cons hh.mem (by (repeat (first | exact find_head | apply find_tail)); done) ?_ | refine Mem.consR hh (by assumption) (by simp) ?_ | fail)); done)
                    refine d_take (i := 0) hl rfl (by kernel_rfl) (by kernel_rfl) (by kernel_rfl) (by kernel_rfl) (by kernel_rfl) rfl trivial (fun _ _ _ h => h) hM (fun w hC => r_move hl rfl) rfl ?_
                    clear hl a; intro a hl
                    refine d_take (i := 1) hl rfl (by kernel_rfl) (by kernel_rfl) (by kernel_rfl) (by kernel_rfl) (by kernel_rfl) rfl trivial (fun _ _ _ h => h) hM (fun w hC => r_move hl rfl) rfl ?_
                    clear hl a; intro a hl
                    refine d_take (i := 2) hl rfl (by kernel_rfl) (by kernel_rfl) (by kernel_rfl) (by kernel_rfl) (by kernel_rfl) rfl trivial (fun _ _ _ h => h) hM (fun w hC => r_nilCheck hl rfl) rfl ?_
                    clear hl a; intro a hl
                    refine d_take (i := 3) hl rfl (by kernel_rfl) (by kernel_rfl) (by kernel_rfl) (by kernel_rfl) (by kernel_rfl) rfl trivial (fun _ _ _ h => h) hM (fun w hC => r_field hl rfl fld69_12) rfl ?_
                    clear hl a; intro a hl
                    refine d_take (i := 4) hl rfl (by kernel_rfl) (by kernel_rfl) (by kernel_rfl) (by kernel_rfl) (by kernel_rfl) rfl trivial (fun _ _ _ h => h) hM (fun w hC => r_loadC hl rfl one2 hC (by repeat (first | exact find_head | apply find_tail)) (by first | rfl)) rfl ?_
                    clear hl a; intro a hl
                    refine d_take (i := 5) hl rfl (by kernel_rfl) (by kernel_rfl) (by kernel_rfl) (by kernel_rfl) (by kernel_rfl) rfl trivial (fun _ _ _ h => h) hM (fun w hC => r_field hl rfl fld42_1) rfl ?_
                    clear hl a; intro a hl
                    refine d_take (i := 6) hl rfl (by kernel_rfl) (by kernel_rfl) (by kernel_rfl) (by kernel_rfl) (by kernel_rfl) rfl trivial (fun _ _ _ h => h) hM (fun w hC => r_loadC hl rfl one2 hC (by repeat (first | exact find_head | apply find_tail)) (by first | rfl)) rfl ?_
                    clear hl a; intro a hl
                    refine d_take (i := 7) hl rfl (by kernel_rfl) (by kernel_rfl) (by kernel_rfl) (by kernel_rfl) (by kernel_rfl) rfl trivial (fun _ _ _ h => h) hM (fun w hC => r_field hl rfl fld42_2) rfl ?_
                    clear hl a; intro a hl
                    refine d_take (i := 8) hl rfl (by kernel_rfl) (by kernel_rfl) (by kernel_rfl) (by kernel_rfl) (by kernel_rfl) rfl trivial (fun _ _ _ h => h) hM (fun w hC => r_loadC hl rfl one2 hC (by repeat (first | exact find_head | apply find_tail)) (by first | rfl)) rfl ?_
                    clear hl a; intro a hl
                    first | refine d_take (i := 9) hl rfl (by kernel_rfl) (by kernel_rfl) (by kernel_rfl) (by kernel_rfl) (by kernel_rfl) rfl trivial (fun _ _ _ h => h) hM (fun w hC => r_add hl rfl rfl (by simp only [Fits]; omega)) rfl ?_ | refine d_take (i := 9) hl rfl (by kernel_rfl) (by kernel_rfl) (by kernel_rfl) (by kernel_rfl) (by kernel_rfl) rfl trivial (fun _ _ _ h => h) hM (fun w hC => r_addW hl rfl rfl) rfl ?_
                    clear hl a; intro a hl
                    refine d_take (i := 10) hl rfl (by kernel_rfl) (by kernel_rfl) (by kernel_rfl) (by kernel_rfl) (by kernel_rfl) rfl trivial (fun _ _ _ h => h) hM (fun w hC => r_maxI hl rfl rfl) rfl ?_
                    clear hl a; intro a hl
                    refine d_takeL (i := 11) hl rfl (by kernel_rfl) (by kernel_rfl) (by kernel_rfl) (by kernel_rfl) (by kernel_rfl) rfl trivial (fun _ _ _ h => h) (fun w => r_nilCheck hl rfl) rfl ?_
                    clear hl a; intro a hl
                    refine d_takeL (i := 12) hl rfl (by kernel_rfl) (by kernel_rfl) (by kernel_rfl) (by kernel_rfl) (by kernel_rfl) rfl trivial (fun _ _ _ h => h) (fun w => r_field hl rfl fld69_12) rfl ?_
                    clear hl a; intro a hl
                    refine d_one (i := 13) (by kernel_rfl) rfl ?_
                    try clear hM
                    refine id (w_store hl hh trivial one2 rfl rfl (by repeat (first | exact find_head | apply find_tail)) (by first | (simp; done) | (simp; omega)) (by first | rfl | assumption | (apply Row.one; assumption)) (by first | (simp only [encM, setL, List.getElem?_cons_zero, List.getElem?_cons_succ, Value.cells, List.take_zero, List.take_succ_cons, List.take_nil, List.drop_zero, List.drop_succ_cons, List.drop_nil, List.length_cons, List.length_nil, List.cons_append, List.nil_append, List.append_nil, Nat.zero_add, Nat.add_zero, Nat.reduceAdd, Nat.reduceBEq, Nat.reduceEqDiff, Nat.ble, BEq.rfl, Bool.and_true, Bool.and_self, cond_true, beq_self_eq_true]; rfl) | (simp only [setL, List.getElem?_cons_zero, List.getElem?_cons_succ, Value.cells, List.take_zero, List.take_succ_cons, List.take_nil, List.drop_zero, List.drop_succ_cons, List.drop_nil, List.length_cons, List.length_nil, List.cons_append, List.nil_append, List.append_nil, Nat.zero_add, Nat.add_zero, Nat.reduceAdd, Nat.reduceBEq, Nat.reduceEqDiff, Nat.ble, BEq.rfl, Bool.and_true, Bool.and_self, cond_true, beq_self_eq_true]; rfl)) ?_)
                    clear hh w; intro w hh
                    refine d_step (fun h => absurd h (by decide)) ?_
                    refine d_done (by kernel_rfl) ?_
                    try clear hM
                    have hl2 := hl.nil; clear hl; have hl := hl2; clear hl2
                    refine blk_normal ?_
                    first | (exfalso; omega) | (have he9 := sent_1 (s := s) (st := st) (bn := bn) (k := k) (off := off) (n := n) ⟨by omega, by omega, by omega⟩; refine f_end0 (F' := [(mp, C (encM (sentM s k off n) st sk bp) 69), (bp, C (bdL bu (sentN s st bn k off n) bv) 85)]) hl (has_two (bn := bn) hh (keeps_cons (b := mp) (by repeat (first | exact find_head | apply find_tail)) rfl (keeps_cons (b := bp) (by repeat (first | exact find_head | apply find_tail)) rfl keeps_nil)) he9) rfl keeps_self ⟨rfl, rfl⟩) | (have he9 := sent_2 (s := s) (st := st) (bn := bn) (k := k) (off := off) (n := n) (by omega) ⟨by omega, by omega, by omega⟩; refine f_end0 (F' := [(mp, C (encM (sentM s k off n) st sk bp) 69), (bp, C (bdL bu (sentN s st bn k off n) bv) 85)]) hl (has_two (bn := bn) hh (keeps_cons (b := mp) (by repeat (first | exact find_head | apply find_tail)) rfl (keeps_cons (b := bp) (by repeat (first | exact find_head | apply find_tail)) rfl keeps_nil)) he9) rfl keeps_self ⟨rfl, rfl⟩) | (have he9 := sent_3a (s := s) (st := st) (bn := bn) (k := k) (off := off) (n := n) (f := f9) (by omega) ⟨by omega, by omega, by omega⟩ (by omega) (by assumption); refine f_end0 (F' := [(mp, C (encM (sentM s k off n) st sk bp) 69), (bp, C (bdL bu (sentN s st bn k off n) bv) 85)]) hl (has_two (bn := bn) hh (keeps_cons (b := mp) (by repeat (first | exact find_head | apply find_tail)) rfl (keeps_cons (b := bp) (by repeat (first | exact find_head | apply find_tail)) rfl keeps_nil)) he9) rfl keeps_self ⟨rfl, rfl⟩) | (have he9 := sent_3b (s := s) (st := st) (bn := bn) (k := k) (off := off) (n := n) (f := f9) (by omega) ⟨by omega, by omega, by omega⟩ (by omega) (by assumption); refine f_end0 (F' := [(mp, C (encM (sentM s k off n) st sk bp) 69), (bp, C (bdL bu (sentN s st bn k off n) bv) 85)]) hl (has_two (bn := bn) hh (keeps_cons (b := mp) (by repeat (first | exact find_head | apply find_tail)) rfl (keeps_cons (b := bp) (by repeat (first | exact find_head | apply find_tail)) rfl keeps_nil)) he9) rfl keeps_self ⟨rfl, rfl⟩) | (have he9 := sent_4 (s := s) (st := st) (bn := bn) (k := k) (off := off) (n := n) (by omega) (by omega) (by omega); refine f_end0 (F' := [(mp, C (encM (sentM s k off n) st sk bp) 69), (bp, C (bdL bu (sentN s st bn k off n) bv) 85)]) hl (has_two (bn := bn) hh (keeps_cons (b := mp) (by repeat (first | exact find_head | apply find_tail)) rfl (keeps_cons (b := bp) (by repeat (first | exact find_head | apply find_tail)) rfl keeps_nil)) he9) rfl keeps_self ⟨rfl, rfl⟩) | (have he9 := sent_4 (s := s) (st := st) (bn := bn) (k := k) (off := off) (n := n) (by omega) (fun h9 => not_inF (by omega) h9.2) (fun h9 => not_inF (by omega) h9.2); refine f_end0 (F' := [(mp, C (encM (sentM s k off n) st sk bp) 69), (bp, C (bdL bu (sentN s st bn k off n) bv) 85)]) hl (has_two (bn := bn) hh (keeps_cons (b := mp) (by repeat (first | exact find_head | apply find_tail)) rfl (keeps_cons (b := bp) (by repeat (first | exact find_head | apply find_tail)) rfl keeps_nil)) he9) rfl keeps_self ⟨rfl, rfl⟩)
                · intro hc2
                  try simp only [decide_eq_true_eq, decide_eq_false_iff_not, Bool.not_eq_true', Bool.not_eq_false', Bool.not_eq_true, Bool.not_eq_false, Bool.and_eq_true, Bool.or_eq_true, Bool.and_eq_false_iff, Bool.or_eq_false_iff, Bool.not_not, ne_eq, Int.not_lt, Int.not_le, Decidable.not_not, beq_iff_eq, bne_iff_ne] at hc2
                  refine wp_skip ?_
                  refine blk_normal ?_
                  first | (exfalso; omega) | (have he9 := sent_1 (s := s) (st := st) (bn := bn) (k := k) (off := off) (n := n) ⟨by omega, by omega, by omega⟩; refine f_end0 (F' := [(mp, C (encM (sentM s k off n) st sk bp) 69), (bp, C (bdL bu (sentN s st bn k off n) bv) 85)]) hl (has_two (bn := bn) hh (keeps_cons (b := mp) (by repeat (first | exact find_head | apply find_tail)) rfl (keeps_cons (b := bp) (by repeat (first | exact find_head | apply find_tail)) rfl keeps_nil)) he9) rfl keeps_self ⟨rfl, rfl⟩) | (have he9 := sent_2 (s := s) (st := st) (bn := bn) (k := k) (off := off) (n := n) (by omega) ⟨by omega, by omega, by omega⟩; refine f_end0 (F' := [(mp, C (encM (sentM s k off n) st sk bp) 69), (bp, C (bdL bu (sentN s st bn k off n) bv) 85)]) hl (has_two (bn := bn) hh (keeps_cons (b := mp) (by repeat (first | exact find_head | apply find_tail)) rfl (keeps_cons (b := bp) (by repeat (first | exact find_head | apply find_tail)) rfl keeps_nil)) he9) rfl keeps_self ⟨rfl, rfl⟩) | (have he9 := sent_3a (s := s) (st := st) (bn := bn) (k := k) (off := off) (n := n) (f := f9) (by omega) ⟨by omega, by omega, by omega⟩ (by omega) (by assumption); refine f_end0 (F' := [(mp, C (encM (sentM s k off n) st sk bp) 69), (bp, C (bdL bu (sentN s st bn k off n) bv) 85)]) hl (has_two (bn := bn) hh (keeps_cons (b := mp) (by repeat (first | exact find_head | apply find_tail)) rfl (keeps_cons (b := bp) (by repeat (first | exact find_head | apply find_tail)) rfl keeps_nil)) he9) rfl keeps_self ⟨rfl, rfl⟩) | (have he9 := sent_3b (s := s) (st := st) (bn := bn) (k := k) (off := off) (n := n) (f := f9) (by omega) ⟨by omega, by omega, by omega⟩ (by omega) (by assumption); refine f_end0 (F' := [(mp, C (encM (sentM s k off n) st sk bp) 69), (bp, C (bdL bu (sentN s st bn k off n) bv) 85)]) hl (has_two (bn := bn) hh (keeps_cons (b := mp) (by repeat (first | exact find_head | apply find_tail)) rfl (keeps_cons (b := bp) (by repeat (first | exact find_head | apply find_tail)) rfl keeps_nil)) he9) rfl keeps_self ⟨rfl, rfl⟩) | (have he9 := sent_4 (s := s) (st := st) (bn := bn) (k := k) (off := off) (n := n) (by omega) (by omega) (by omega); refine f_end0 (F' := [(mp, C (encM (sentM s k off n) st sk bp) 69), (bp, C (bdL bu (sentN s st bn k off n) bv) 85)]) hl (has_two (bn := bn) hh (keeps_cons (b := mp) (by repeat (first | exact find_head | apply find_tail)) rfl (keeps_cons (b := bp) (by repeat (first | exact find_head | apply find_tail)) rfl keeps_nil)) he9) rfl keeps_self ⟨rfl, rfl⟩) | (have he9 := sent_4 (s := s) (st := st) (bn := bn) (k := k) (off := off) (n := n) (by omega) (fun h9 => not_inF (by omega) h9.2) (fun h9 => not_inF (by omega) h9.2); refine f_end0 (F' := [(mp, C (encM (sentM s k off n) st sk bp) 69), (bp, C (bdL bu (sentN s st bn k off n) bv) 85)]) hl (has_two (bn := bn) hh (keeps_cons (b := mp) (by repeat (first | exact find_head | apply find_tail)) rfl (keeps_cons (b := bp) (by repeat (first | exact find_head | apply find_tail)) rfl keeps_nil)) he9) rfl keeps_self ⟨rfl, rfl⟩)
              · intro hg9; clear hl; intro hl
                try simp only [decide_eq_true_eq, decide_eq_false_iff_not, Bool.not_eq_true', Bool.not_eq_false', Bool.not_eq_true, Bool.not_eq_false, Bool.and_eq_true, Bool.or_eq_true, Bool.and_eq_false_iff, Bool.or_eq_false_iff, Bool.not_not, ne_eq, Int.not_lt, Int.not_le, Decidable.not_not, beq_iff_eq, bne_iff_ne] at hg9
                refine wl (wl_skip hl rfl ⟨_, _, rfl, rfl, rfl⟩ ?_)
                clear hl a; intro a hl
                refine wl (wl_val hl rfl trivial (r_pickF hl rfl rfl) ?_)
                clear hl a; intro a hl
                refine wl (wl_val hl rfl trivial (r_assign hl rfl) ?_)
                clear hl a; intro a hl
                refine w_nil ?_
                have hl2 := hl.add (t := 0) (hl.add (t := 3) (hl.add (t := 87) (hl.nil) rfl) rfl) rfl; clear hl; have hl := hl2; clear hl2
                refine then_normal ?_
                refine c_condF hl rfl ?_
                refine wp_skip ?_
                refine blk_normal ?_
                first | (exfalso; omega) | (have he9 := sent_1 (s := s) (st := st) (bn := bn) (k := k) (off := off) (n := n) ⟨by omega, by omega, by omega⟩; refine f_end0 (F' := [(mp, C (encM (sentM s k off n) st sk bp) 69), (bp, C (bdL bu (sentN s st bn k off n) bv) 85)]) hl (has_two (bn := bn) hh (keeps_cons (b := mp) (by repeat (first | exact find_head | apply find_tail)) rfl (keeps_cons (b := bp) (by repeat (first | exact find_head | apply find_tail)) rfl keeps_nil)) he9) rfl keeps_self ⟨rfl, rfl⟩) | (have he9 := sent_2 (s := s) (st := st) (bn := bn) (k := k) (off := off) (n := n) (by omega) ⟨by omega, by omega, by omega⟩; refine f_end0 (F' := [(mp, C (encM (sentM s k off n) st sk bp) 69), (bp, C (bdL bu (sentN s st bn k off n) bv) 85)]) hl (has_two (bn := bn) hh (keeps_cons (b := mp) (by repeat (first | exact find_head | apply find_tail)) rfl (keeps_cons (b := bp) (by repeat (first | exact find_head | apply find_tail)) rfl keeps_nil)) he9) rfl keeps_self ⟨rfl, rfl⟩) | (have he9 := sent_3a (s := s) (st := st) (bn := bn) (k := k) (off := off) (n := n) (f := f9) (by omega) ⟨by omega, by omega, by omega⟩ (by omega) (by assumption); refine f_end0 (F' := [(mp, C (encM (sentM s k off n) st sk bp) 69), (bp, C (bdL bu (sentN s st bn k off n) bv) 85)]) hl (has_two (bn := bn) hh (keeps_cons (b := mp) (by repeat (first | exact find_head | apply find_tail)) rfl (keeps_cons (b := bp) (by repeat (first | exact find_head | apply find_tail)) rfl keeps_nil)) he9) rfl keeps_self ⟨rfl, rfl⟩) | (have he9 := sent_3b (s := s) (st := st) (bn := bn) (k := k) (off := off) (n := n) (f := f9) (by omega) ⟨by omega, by omega, by omega⟩ (by omega) (by assumption); refine f_end0 (F' := [(mp, C (encM (sentM s k off n) st sk bp) 69), (bp, C (bdL bu (sentN s st bn k off n) bv) 85)]) hl (has_two (bn := bn) hh (keeps_cons (b := mp) (by repeat (first | exact find_head | apply find_tail)) rfl (keeps_cons (b := bp) (by repeat (first | exact find_head | apply find_tail)) rfl keeps_nil)) he9) rfl keeps_self ⟨rfl, rfl⟩) | (have he9 := sent_4 (s := s) (st := st) (bn := bn) (k := k) (off := off) (n := n) (by omega) (by omega) (by omega); refine f_end0 (F' := [(mp, C (encM (sentM s k off n) st sk bp) 69), (bp, C (bdL bu (sentN s st bn k off n) bv) 85)]) hl (has_two (bn := bn) hh (keeps_cons (b := mp) (by repeat (first | exact find_head | apply find_tail)) rfl (keeps_cons (b := bp) (by repeat (first | exact find_head | apply find_tail)) rfl keeps_nil)) he9) rfl keeps_self ⟨rfl, rfl⟩) | (have he9 := sent_4 (s := s) (st := st) (bn := bn) (k := k) (off := off) (n := n) (by omega) (fun h9 => not_inF (by omega) h9.2) (fun h9 => not_inF (by omega) h9.2); refine f_end0 (F' := [(mp, C (encM (sentM s k off n) st sk bp) 69), (bp, C (bdL bu (sentN s st bn k off n) bv) 85)]) hl (has_two (bn := bn) hh (keeps_cons (b := mp) (by repeat (first | exact find_head | apply find_tail)) rfl (keeps_cons (b := bp) (by repeat (first | exact find_head | apply find_tail)) rfl keeps_nil)) he9) rfl keeps_self ⟨rfl, rfl⟩)
          · intro hg8; clear hl; intro hl
            try simp only [decide_eq_true_eq, decide_eq_false_iff_not, Bool.not_eq_true', Bool.not_eq_false', Bool.not_eq_true, Bool.not_eq_false, Bool.and_eq_true, Bool.or_eq_true, Bool.and_eq_false_iff, Bool.or_eq_false_iff, Bool.not_not, ne_eq, Int.not_lt, Int.not_le, Decidable.not_not, beq_iff_eq, bne_iff_ne] at hg8
            refine wl (wl_skip hl rfl ⟨_, _, rfl, rfl, rfl⟩ ?_)
            clear hl a; intro a hl
            refine wl (wl_val hl rfl trivial (r_pickF hl rfl rfl) ?_)
            clear hl a; intro a hl
            refine wl (wl_val hl rfl trivial (r_assign hl rfl) ?_)
            clear hl a; intro a hl
            refine w_nil ?_
            have hl2 := hl.add (t := 0) (hl.add (t := 3) (hl.add (t := 4) (hl.add (t := 77) (hl.nil) rfl) rfl) rfl) rfl; clear hl; have hl := hl2; clear hl2
            refine then_normal ?_
            refine c_condF hl rfl ?_
            refine c_seq ?_
            refine c_region ?_
            refine wl (wl_val hl rfl trivial (r_field hl rfl fld42_0) ?_)
            clear hl a; intro a hl
            refine wl (w_load hl hh rfl trivial one38 rfl (by repeat (first | exact find_head | apply find_tail)) (by first | rfl) ?_)
            clear hl a; intro a hl
            refine wl (wl_val hl rfl trivial (r_eql hl rfl rfl) ?_)
            clear hl a; intro a hl
            refine wl (wl_val hl rfl trivial (r_move hl rfl) ?_)
            clear hl a; intro a hl
            refine sl_split (t := 91) hl rfl ?_ ?_
            · intro hg10; clear hl; intro hl
              try simp only [decide_eq_true_eq, decide_eq_false_iff_not, Bool.not_eq_true', Bool.not_eq_false', Bool.not_eq_true, Bool.not_eq_false, Bool.and_eq_true, Bool.or_eq_true, Bool.and_eq_false_iff, Bool.or_eq_false_iff, Bool.not_not, ne_eq, Int.not_lt, Int.not_le, Decidable.not_not, beq_iff_eq, bne_iff_ne] at hg10
              refine wl (wl_val hl rfl ⟨_, _, rfl, rfl, rfl⟩ (r_move hl rfl) ?_)
              clear hl a; intro a hl
              refine wl (wl_val hl rfl trivial (r_pickT hl rfl rfl) ?_)
              clear hl a; intro a hl
              refine wl (wl_val hl rfl trivial (r_assign hl rfl) ?_)
              clear hl a; intro a hl
              refine w_nil ?_
              have hl2 := hl.add (t := 0) (hl.add (t := 3) (hl.add (t := 87) (hl.nil) rfl) rfl) rfl; clear hl; have hl := hl2; clear hl2
              refine then_normal ?_
              refine c_cond hl rfl ?_ ?_
              · intro hc2
                try simp only [decide_eq_true_eq, decide_eq_false_iff_not, Bool.not_eq_true', Bool.not_eq_false', Bool.not_eq_true, Bool.not_eq_false, Bool.and_eq_true, Bool.or_eq_true, Bool.and_eq_false_iff, Bool.or_eq_false_iff, Bool.not_not, ne_eq, Int.not_lt, Int.not_le, Decidable.not_not, beq_iff_eq, bne_iff_ne] at hc2
                refine c_seq ?_
                refine c_seq ?_
                refine c_draw [(mp, C (encM (s) st sk bp) 69), (k3, C [.int .u8 k, .int .i64 off, .int .i64 n] 42)] [6] mixed hh ?_
                clear hh w; intro w hh
                have hM : Mem [(mp, C (encM (s) st sk bp) 69), (k3, C [.int .u8 k, .int .i64 off, .int .i64 n] 42)] w := (by (repeat (first | exact Mem.nil | refine Mem.cons hh.mem (by (repeat (first | exact find_head | apply find_tail)); done) ?_ | refine Mem.consR hh (by assumption) (by simp) ?_ | fail)); done)
                refine d_take (i := 0) hl rfl (by kernel_rfl) (by kernel_rfl) (by kernel_rfl) (by kernel_rfl) (by kernel_rfl) rfl trivial (fun _ _ _ h => h) hM (fun w hC => r_field hl rfl fld42_1) rfl ?_
                clear hl a; intro a hl
                refine d_take (i := 1) hl rfl (by kernel_rfl) (by kernel_rfl) (by kernel_rfl) (by kernel_rfl) (by kernel_rfl) rfl trivial (fun _ _ _ h => h) hM (fun w hC => r_loadC hl rfl one2 hC (by repeat (first | exact find_head | apply find_tail)) (by first | rfl)) rfl ?_
                clear hl a; intro a hl
                refine d_take (i := 2) hl rfl (by kernel_rfl) (by kernel_rfl) (by kernel_rfl) (by kernel_rfl) (by kernel_rfl) rfl trivial (fun _ _ _ h => h) hM (fun w hC => r_move hl rfl) rfl ?_
                clear hl a; intro a hl
                refine d_take (i := 3) hl rfl (by kernel_rfl) (by kernel_rfl) (by kernel_rfl) (by kernel_rfl) (by kernel_rfl) rfl trivial (fun _ _ _ h => h) hM (fun w hC => r_nilCheck hl rfl) rfl ?_
                clear hl a; intro a hl
                refine d_take (i := 4) hl rfl (by kernel_rfl) (by kernel_rfl) (by kernel_rfl) (by kernel_rfl) (by kernel_rfl) rfl trivial (fun _ _ _ h => h) hM (fun w hC => r_field hl rfl fld69_8) rfl ?_
                clear hl a; intro a hl
                refine d_take (i := 5) hl rfl (by kernel_rfl) (by kernel_rfl) (by kernel_rfl) (by kernel_rfl) (by kernel_rfl) rfl trivial (fun _ _ _ h => h) hM (fun w hC => r_loadC hl rfl one2 hC (by repeat (first | exact find_head | apply find_tail)) (by first | rfl)) rfl ?_
                clear hl a; intro a hl
                refine d_takeL (i := 6) hl rfl (by kernel_rfl) (by kernel_rfl) (by kernel_rfl) (by kernel_rfl) (by kernel_rfl) rfl trivial (fun _ _ _ h => h) (fun w => r_eql hl rfl rfl) rfl ?_
                clear hl a; intro a hl
                refine d_done (by kernel_rfl) ?_
                try clear hM
                have hl2 := hl.add (t := 0) (hl.add (t := 3) (hl.add (t := 100) (hl.nil) rfl) rfl) rfl; clear hl; have hl := hl2; clear hl2
                refine then_normal ?_
                refine c_cond hl rfl ?_ ?_
                · intro hc3
                  try simp only [decide_eq_true_eq, decide_eq_false_iff_not, Bool.not_eq_true', Bool.not_eq_false', Bool.not_eq_true, Bool.not_eq_false, Bool.and_eq_true, Bool.or_eq_true, Bool.and_eq_false_iff, Bool.or_eq_false_iff, Bool.not_not, ne_eq, Int.not_lt, Int.not_le, Decidable.not_not, beq_iff_eq, bne_iff_ne] at hc3
                  obtain ⟨f9, hf9⟩ : ∃ z, z = false := ⟨_, rfl⟩
                  refine c_region ?_
                  refine wl (wl_val hl rfl trivial (r_move hl rfl) ?_)
                  clear hl a; intro a hl
                  refine wl (wl_val hl rfl trivial (r_nilCheck hl rfl) ?_)
                  clear hl a; intro a hl
                  refine wl (wl_val hl rfl trivial (r_field hl rfl fld69_14) ?_)
                  clear hl a; intro a hl
                  refine wl (w_store hl hh trivial one4 rfl rfl (by repeat (first | exact find_head | apply find_tail)) (by first | (simp; done) | (simp; omega)) (by first | rfl | assumption | (apply Row.one; assumption)) (by first | (simp only [encM, setL, List.getElem?_cons_zero, List.getElem?_cons_succ, Value.cells, List.take_zero, List.take_succ_cons, List.take_nil, List.drop_zero, List.drop_succ_cons, List.drop_nil, List.length_cons, List.length_nil, List.cons_append, List.nil_append, List.append_nil, Nat.zero_add, Nat.add_zero, Nat.reduceAdd, Nat.reduceBEq, Nat.reduceEqDiff, Nat.ble, BEq.rfl, Bool.and_true, Bool.and_self, cond_true, beq_self_eq_true]; rfl) | (simp only [setL, List.getElem?_cons_zero, List.getElem?_cons_succ, Value.cells, List.take_zero, List.take_succ_cons, List.take_nil, List.drop_zero, List.drop_succ_cons, List.drop_nil, List.length_cons, List.length_nil, List.cons_append, List.nil_append, List.append_nil, Nat.zero_add, Nat.add_zero, Nat.reduceAdd, Nat.reduceBEq, Nat.reduceEqDiff, Nat.ble, BEq.rfl, Bool.and_true, Bool.and_self, cond_true, beq_self_eq_true]; rfl)) ?_)
                  clear hh w; intro w hh
                  refine w_nil ?_
                  have hl2 := hl.add (t := 0) (hl.add (t := 3) (hl.nil) rfl) rfl; clear hl; have hl := hl2; clear hl2
                  replace hh : Has _ w0 [(mp, C (encM ({ s with forced := f9 }) st sk bp) 69), (k3, C [.int .u8 k, .int .i64 off, .int .i64 n] 42), (bp, C (bdL bu bn bv) 85)] w := hh.keep (keeps_cons (b := mp) (by repeat (first | exact find_head | apply find_tail)) (by rw [hf9]; rfl) (keeps_cons (b := k3) (by repeat (first | exact find_head | apply find_tail)) rfl (keeps_cons (b := bp) (by repeat (first | exact find_head | apply find_tail)) rfl keeps_nil)))
                  refine then_normal ?_
                  refine c_draw [(mp, C (encM ({ s with forced := f9 }) st sk bp) 69), (k3, C [.int .u8 k, .int .i64 off, .int .i64 n] 42)] [11, 12, 13] mixed hh ?_
                  clear hh w; intro w hh
                  have hM : Mem [(mp, C (encM ({ s with forced := f9 }) st sk bp) 69), (k3, C [.int .u8 k, .int .i64 off, .int .i64 n] 42)] w := (by (repeat (first | exact Mem.nil | refine Mem.cons hh.mem (by (repeat (first | exact find_head | apply find_tail)); done) ?_ | refine Mem.consR hh (by assumption) (by simp) ?_ | fail)); done)
                  refine d_take (i := 0) hl rfl (by kernel_rfl) (by kernel_rfl) (by kernel_rfl) (by kernel_rfl) (by kernel_rfl) rfl trivial (fun _ _ _ h => h) hM (fun w hC => r_move hl rfl) rfl ?_
                  clear hl a; intro a hl
                  refine d_take (i := 1) hl rfl (by kernel_rfl) (by kernel_rfl) (by kernel_rfl) (by kernel_rfl) (by kernel_rfl) rfl trivial (fun _ _ _ h => h) hM (fun w hC => r_move hl rfl) rfl ?_
                  clear hl a; intro a hl
                  refine d_take (i := 2) hl rfl (by kernel_rfl) (by kernel_rfl) (by kernel_rfl) (by kernel_rfl) (by kernel_rfl) rfl trivial (fun _ _ _ h => h) hM (fun w hC => r_nilCheck hl rfl) rfl ?_
                  clear hl a; intro a hl
                  refine d_take (i := 3) hl rfl (by kernel_rfl) (by kernel_rfl) (by kernel_rfl) (by kernel_rfl) (by kernel_rfl) rfl trivial (fun _ _ _ h => h) hM (fun w hC => r_field hl rfl fld69_12) rfl ?_
                  clear hl a; intro a hl
                  refine d_take (i := 4) hl rfl (by kernel_rfl) (by kernel_rfl) (by kernel_rfl) (by kernel_rfl) (by kernel_rfl) rfl trivial (fun _ _ _ h => h) hM (fun w hC => r_loadC hl rfl one2 hC (by repeat (first | exact find_head | apply find_tail)) (by first | rfl)) rfl ?_
                  clear hl a; intro a hl
                  refine d_take (i := 5) hl rfl (by kernel_rfl) (by kernel_rfl) (by kernel_rfl) (by kernel_rfl) (by kernel_rfl) rfl trivial (fun _ _ _ h => h) hM (fun w hC => r_field hl rfl fld42_1) rfl ?_
                  clear hl a; intro a hl
                  refine d_take (i := 6) hl rfl (by kernel_rfl) (by kernel_rfl) (by kernel_rfl) (by kernel_rfl) (by kernel_rfl) rfl trivial (fun _ _ _ h => h) hM (fun w hC => r_loadC hl rfl one2 hC (by repeat (first | exact find_head | apply find_tail)) (by first | rfl)) rfl ?_
                  clear hl a; intro a hl
                  refine d_take (i := 7) hl rfl (by kernel_rfl) (by kernel_rfl) (by kernel_rfl) (by kernel_rfl) (by kernel_rfl) rfl trivial (fun _ _ _ h => h) hM (fun w hC => r_field hl rfl fld42_2) rfl ?_
                  clear hl a; intro a hl
                  refine d_take (i := 8) hl rfl (by kernel_rfl) (by kernel_rfl) (by kernel_rfl) (by kernel_rfl) (by kernel_rfl) rfl trivial (fun _ _ _ h => h) hM (fun w hC => r_loadC hl rfl one2 hC (by repeat (first | exact find_head | apply find_tail)) (by first | rfl)) rfl ?_
                  clear hl a; intro a hl
                  first | refine d_take (i := 9) hl rfl (by kernel_rfl) (by kernel_rfl) (by kernel_rfl) (by kernel_rfl) (by kernel_rfl) rfl trivial (fun _ _ _ h => h) hM (fun w hC => r_add hl rfl rfl (by simp only [Fits]; omega)) rfl ?_ | refine d_take (i := 9) hl rfl (by kernel_rfl) (by kernel_rfl) (by kernel_rfl) (by kernel_rfl) (by kernel_rfl) rfl trivial (fun _ _ _ h => h) hM (fun w hC => r_addW hl rfl rfl) rfl ?_
                  clear hl a; intro a hl
                  refine d_take (i := 10) hl rfl (by kernel_rfl) (by kernel_rfl) (by kernel_rfl) (by kernel_rfl) (by kernel_rfl) rfl trivial (fun _ _ _ h => h) hM (fun w hC => r_maxI hl rfl rfl) rfl ?_
                  clear hl a; intro a hl
                  refine d_takeL (i := 11) hl rfl (by kernel_rfl) (by kernel_rfl) (by kernel_rfl) (by kernel_rfl) (by kernel_rfl) rfl trivial (fun _ _ _ h => h) (fun w => r_nilCheck hl rfl) rfl ?_
                  clear hl a; intro a hl
                  refine d_takeL (i := 12) hl rfl (by kernel_rfl) (by kernel_rfl) (by kernel_rfl) (by kernel_rfl) (by kernel_rfl) rfl trivial (fun _ _ _ h => h) (fun w => r_field hl rfl fld69_12) rfl ?_
                  clear hl a; intro a hl
                  refine d_one (i := 13) (by kernel_rfl) rfl ?_
                  try clear hM
                  refine id (w_store hl hh trivial one2 rfl rfl (by repeat (first | exact find_head | apply find_tail)) (by first | (simp; done) | (simp; omega)) (by first | rfl | assumption | (apply Row.one; assumption)) (by first | (simp only [encM, setL, List.getElem?_cons_zero, List.getElem?_cons_succ, Value.cells, List.take_zero, List.take_succ_cons, List.take_nil, List.drop_zero, List.drop_succ_cons, List.drop_nil, List.length_cons, List.length_nil, List.cons_append, List.nil_append, List.append_nil, Nat.zero_add, Nat.add_zero, Nat.reduceAdd, Nat.reduceBEq, Nat.reduceEqDiff, Nat.ble, BEq.rfl, Bool.and_true, Bool.and_self, cond_true, beq_self_eq_true]; rfl) | (simp only [setL, List.getElem?_cons_zero, List.getElem?_cons_succ, Value.cells, List.take_zero, List.take_succ_cons, List.take_nil, List.drop_zero, List.drop_succ_cons, List.drop_nil, List.length_cons, List.length_nil, List.cons_append, List.nil_append, List.append_nil, Nat.zero_add, Nat.add_zero, Nat.reduceAdd, Nat.reduceBEq, Nat.reduceEqDiff, Nat.ble, BEq.rfl, Bool.and_true, Bool.and_self, cond_true, beq_self_eq_true]; rfl)) ?_)
                  clear hh w; intro w hh
                  refine d_step (fun h => absurd h (by decide)) ?_
                  refine d_done (by kernel_rfl) ?_
                  try clear hM
                  have hl2 := hl.nil; clear hl; have hl := hl2; clear hl2
                  refine blk_normal ?_
                  first | (exfalso; omega) | (have he9 := sent_1 (s := s) (st := st) (bn := bn) (k := k) (off := off) (n := n) ⟨by omega, by omega, by omega⟩; refine f_end0 (F' := [(mp, C (encM (sentM s k off n) st sk bp) 69), (bp, C (bdL bu (sentN s st bn k off n) bv) 85)]) hl (has_two (bn := bn) hh (keeps_cons (b := mp) (by repeat (first | exact find_head | apply find_tail)) rfl (keeps_cons (b := bp) (by repeat (first | exact find_head | apply find_tail)) rfl keeps_nil)) he9) rfl keeps_self ⟨rfl, rfl⟩) | (have he9 := sent_2 (s := s) (st := st) (bn := bn) (k := k) (off := off) (n := n) (by omega) ⟨by omega, by omega, by omega⟩; refine f_end0 (F' := [(mp, C (encM (sentM s k off n) st sk bp) 69), (bp, C (bdL bu (sentN s st bn k off n) bv) 85)]) hl (has_two (bn := bn) hh (keeps_cons (b := mp) (by repeat (first | exact find_head | apply find_tail)) rfl (keeps_cons (b := bp) (by repeat (first | exact find_head | apply find_tail)) rfl keeps_nil)) he9) rfl keeps_self ⟨rfl, rfl⟩) | (have he9 := sent_3a (s := s) (st := st) (bn := bn) (k := k) (off := off) (n := n) (f := f9) (by omega) ⟨by omega, by omega, by omega⟩ (by omega) (by assumption); refine f_end0 (F' := [(mp, C (encM (sentM s k off n) st sk bp) 69), (bp, C (bdL bu (sentN s st bn k off n) bv) 85)]) hl (has_two (bn := bn) hh (keeps_cons (b := mp) (by repeat (first | exact find_head | apply find_tail)) rfl (keeps_cons (b := bp) (by repeat (first | exact find_head | apply find_tail)) rfl keeps_nil)) he9) rfl keeps_self ⟨rfl, rfl⟩) | (have he9 := sent_3b (s := s) (st := st) (bn := bn) (k := k) (off := off) (n := n) (f := f9) (by omega) ⟨by omega, by omega, by omega⟩ (by omega) (by assumption); refine f_end0 (F' := [(mp, C (encM (sentM s k off n) st sk bp) 69), (bp, C (bdL bu (sentN s st bn k off n) bv) 85)]) hl (has_two (bn := bn) hh (keeps_cons (b := mp) (by repeat (first | exact find_head | apply find_tail)) rfl (keeps_cons (b := bp) (by repeat (first | exact find_head | apply find_tail)) rfl keeps_nil)) he9) rfl keeps_self ⟨rfl, rfl⟩) | (have he9 := sent_4 (s := s) (st := st) (bn := bn) (k := k) (off := off) (n := n) (by omega) (by omega) (by omega); refine f_end0 (F' := [(mp, C (encM (sentM s k off n) st sk bp) 69), (bp, C (bdL bu (sentN s st bn k off n) bv) 85)]) hl (has_two (bn := bn) hh (keeps_cons (b := mp) (by repeat (first | exact find_head | apply find_tail)) rfl (keeps_cons (b := bp) (by repeat (first | exact find_head | apply find_tail)) rfl keeps_nil)) he9) rfl keeps_self ⟨rfl, rfl⟩) | (have he9 := sent_4 (s := s) (st := st) (bn := bn) (k := k) (off := off) (n := n) (by omega) (fun h9 => not_inF (by omega) h9.2) (fun h9 => not_inF (by omega) h9.2); refine f_end0 (F' := [(mp, C (encM (sentM s k off n) st sk bp) 69), (bp, C (bdL bu (sentN s st bn k off n) bv) 85)]) hl (has_two (bn := bn) hh (keeps_cons (b := mp) (by repeat (first | exact find_head | apply find_tail)) rfl (keeps_cons (b := bp) (by repeat (first | exact find_head | apply find_tail)) rfl keeps_nil)) he9) rfl keeps_self ⟨rfl, rfl⟩)
                · intro hc3
                  try simp only [decide_eq_true_eq, decide_eq_false_iff_not, Bool.not_eq_true', Bool.not_eq_false', Bool.not_eq_true, Bool.not_eq_false, Bool.and_eq_true, Bool.or_eq_true, Bool.and_eq_false_iff, Bool.or_eq_false_iff, Bool.not_not, ne_eq, Int.not_lt, Int.not_le, Decidable.not_not, beq_iff_eq, bne_iff_ne] at hc3
                  obtain ⟨f9, hf9⟩ : ∃ z, z = s.forced := ⟨_, rfl⟩
                  replace hh : Has _ w0 [(mp, C (encM ({ s with forced := f9 }) st sk bp) 69), (k3, C [.int .u8 k, .int .i64 off, .int .i64 n] 42), (bp, C (bdL bu bn bv) 85)] w := hh.keep (keeps_cons (b := mp) (by repeat (first | exact find_head | apply find_tail)) (by rw [hf9]) (keeps_cons (b := k3) (by repeat (first | exact find_head | apply find_tail)) rfl (keeps_cons (b := bp) (by repeat (first | exact find_head | apply find_tail)) rfl keeps_nil)))
                  refine wp_skip ?_
                  refine then_normal ?_
                  refine c_draw [(mp, C (encM ({ s with forced := f9 }) st sk bp) 69), (k3, C [.int .u8 k, .int .i64 off, .int .i64 n] 42)] [11, 12, 13] mixed hh ?_
                  clear hh w; intro w hh
                  have hM : Mem [(mp, C (encM ({ s with forced := f9 }) st sk bp) 69), (k3, C [.int .u8 k, .int .i64 off, .int .i64 n] 42)] w := (by (repeat (first | exact Mem.nil | refine Mem.cons hh.mem (by (repeat (first | exact find_head | apply find_tail)); done) ?_ | refine Mem.consR hh (by assumption) (by simp) ?_ | fail)); done)
                  refine d_take (i := 0) hl rfl (by kernel_rfl) (by kernel_rfl) (by kernel_rfl) (by kernel_rfl) (by kernel_rfl) rfl trivial (fun _ _ _ h => h) hM (fun w hC => r_move hl rfl) rfl ?_
                  clear hl a; intro a hl
                  refine d_take (i := 1) hl rfl (by kernel_rfl) (by kernel_rfl) (by kernel_rfl) (by kernel_rfl) (by kernel_rfl) rfl trivial (fun _ _ _ h => h) hM (fun w hC => r_move hl rfl) rfl ?_
                  clear hl a; intro a hl
                  refine d_take (i := 2) hl rfl (by kernel_rfl) (by kernel_rfl) (by kernel_rfl) (by kernel_rfl) (by kernel_rfl) rfl trivial (fun _ _ _ h => h) hM (fun w hC => r_nilCheck hl rfl) rfl ?_
                  clear hl a; intro a hl
                  refine d_take (i := 3) hl rfl (by kernel_rfl) (by kernel_rfl) (by kernel_rfl) (by kernel_rfl) (by kernel_rfl) rfl trivial (fun _ _ _ h => h) hM (fun w hC => r_field hl rfl fld69_12) rfl ?_
                  clear hl a; intro a hl
                  refine d_take (i := 4) hl rfl (by kernel_rfl) (by kernel_rfl) (by kernel_rfl) (by kernel_rfl) (by kernel_rfl) rfl trivial (fun _ _ _ h => h) hM (fun w hC => r_loadC hl rfl one2 hC (by repeat (first | exact find_head | apply find_tail)) (by first | rfl)) rfl ?_
                  clear hl a; intro a hl
                  refine d_take (i := 5) hl rfl (by kernel_rfl) (by kernel_rfl) (by kernel_rfl) (by kernel_rfl) (by kernel_rfl) rfl trivial (fun _ _ _ h => h) hM (fun w hC => r_field hl rfl fld42_1) rfl ?_
                  clear hl a; intro a hl
                  refine d_take (i := 6) hl rfl (by kernel_rfl) (by kernel_rfl) (by kernel_rfl) (by kernel_rfl) (by kernel_rfl) rfl trivial (fun _ _ _ h => h) hM (fun w hC => r_loadC hl rfl one2 hC (by repeat (first | exact find_head | apply find_tail)) (by first | rfl)) rfl ?_
                  clear hl a; intro a hl
                  refine d_take (i := 7) hl rfl (by kernel_rfl) (by kernel_rfl) (by kernel_rfl) (by kernel_rfl) (by kernel_rfl) rfl trivial (fun _ _ _ h => h) hM (fun w hC => r_field hl rfl fld42_2) rfl ?_
                  clear hl a; intro a hl
                  refine d_take (i := 8) hl rfl (by kernel_rfl) (by kernel_rfl) (by kernel_rfl) (by kernel_rfl) (by kernel_rfl) rfl trivial (fun _ _ _ h => h) hM (fun w hC => r_loadC hl rfl one2 hC (by repeat (first | exact find_head | apply find_tail)) (by first | rfl)) rfl ?_
                  clear hl a; intro a hl
                  first | refine d_take (i := 9) hl rfl (by kernel_rfl) (by kernel_rfl) (by kernel_rfl) (by kernel_rfl) (by kernel_rfl) rfl trivial (fun _ _ _ h => h) hM (fun w hC => r_add hl rfl rfl (by simp only [Fits]; omega)) rfl ?_ | refine d_take (i := 9) hl rfl (by kernel_rfl) (by kernel_rfl) (by kernel_rfl) (by kernel_rfl) (by kernel_rfl) rfl trivial (fun _ _ _ h => h) hM (fun w hC => r_addW hl rfl rfl) rfl ?_
                  clear hl a; intro a hl
                  refine d_take (i := 10) hl rfl (by kernel_rfl) (by kernel_rfl) (by kernel_rfl) (by kernel_rfl) (by kernel_rfl) rfl trivial (fun _ _ _ h => h) hM (fun w hC => r_maxI hl rfl rfl) rfl ?_
                  clear hl a; intro a hl
                  refine d_takeL (i := 11) hl rfl (by kernel_rfl) (by kernel_rfl) (by kernel_rfl) (by kernel_rfl) (by kernel_rfl) rfl trivial (fun _ _ _ h => h) (fun w => r_nilCheck hl rfl) rfl ?_
                  clear hl a; intro a hl
                  refine d_takeL (i := 12) hl rfl (by kernel_rfl) (by kernel_rfl) (by kernel_rfl) (by kernel_rfl) (by kernel_rfl) rfl trivial (fun _ _ _ h => h) (fun w => r_field hl rfl fld69_12) rfl ?_
                  clear hl a; intro a hl
                  refine d_one (i := 13) (by kernel_rfl) rfl ?_
                  try clear hM
                  refine id (w_store hl hh trivial one2 rfl rfl (by repeat (first | exact find_head | apply find_tail)) (by first | (simp; done) | (simp; omega)) (by first | rfl | assumption | (apply Row.one; assumption)) (by first | (simp only [encM, setL, List.getElem?_cons_zero, List.getElem?_cons_succ, Value.cells, List.take_zero, List.take_succ_cons, List.take_nil, List.drop_zero, List.drop_succ_cons, List.drop_nil, List.length_cons, List.length_nil, List.cons_append, List.nil_append, List.append_nil, Nat.zero_add, Nat.add_zero, Nat.reduceAdd, Nat.reduceBEq, Nat.reduceEqDiff, Nat.ble, BEq.rfl, Bool.and_true, Bool.and_self, cond_true, beq_self_eq_true]; rfl) | (simp only [setL, List.getElem?_cons_zero, List.getElem?_cons_succ, Value.cells, List.take_zero, List.take_succ_cons, List.take_nil, List.drop_zero, List.drop_succ_cons, List.drop_nil, List.length_cons, List.length_nil, List.cons_append, List.nil_append, List.append_nil, Nat.zero_add, Nat.add_zero, Nat.reduceAdd, Nat.reduceBEq, Nat.reduceEqDiff, Nat.ble, BEq.rfl, Bool.and_true, Bool.and_self, cond_true, beq_self_eq_true]; rfl)) ?_)
                  clear hh w; intro w hh
                  refine d_step (fun h => absurd h (by decide)) ?_
                  refine d_done (by kernel_rfl) ?_
                  try clear hM
                  have hl2 := hl.nil; clear hl; have hl := hl2; clear hl2
                  refine blk_normal ?_
                  first | (exfalso; omega) | (have he9 := sent_1 (s := s) (st := st) (bn := bn) (k := k) (off := off) (n := n) ⟨by omega, by omega, by omega⟩; refine f_end0 (F' := [(mp, C (encM (sentM s k off n) st sk bp) 69), (bp, C (bdL bu (sentN s st bn k off n) bv) 85)]) hl (has_two (bn := bn) hh (keeps_cons (b := mp) (by repeat (first | exact find_head | apply find_tail)) rfl (keeps_cons (b := bp) (by repeat (first | exact find_head | apply find_tail)) rfl keeps_nil)) he9) rfl keeps_self ⟨rfl, rfl⟩) | (have he9 := sent_2 (s := s) (st := st) (bn := bn) (k := k) (off := off) (n := n) (by omega) ⟨by omega, by omega, by omega⟩; refine f_end0 (F' := [(mp, C (encM (sentM s k off n) st sk bp) 69), (bp, C (bdL bu (sentN s st bn k off n) bv) 85)]) hl (has_two (bn := bn) hh (keeps_cons (b := mp) (by repeat (first | exact find_head | apply find_tail)) rfl (keeps_cons (b := bp) (by repeat (first | exact find_head | apply find_tail)) rfl keeps_nil)) he9) rfl keeps_self ⟨rfl, rfl⟩) | (have he9 := sent_3a (s := s) (st := st) (bn := bn) (k := k) (off := off) (n := n) (f := f9) (by omega) ⟨by omega, by omega, by omega⟩ (by omega) (by assumption); refine f_end0 (F' := [(mp, C (encM (sentM s k off n) st sk bp) 69), (bp, C (bdL bu (sentN s st bn k off n) bv) 85)]) hl (has_two (bn := bn) hh (keeps_cons (b := mp) (by repeat (first | exact find_head | apply find_tail)) rfl (keeps_cons (b := bp) (by repeat (first | exact find_head | apply find_tail)) rfl keeps_nil)) he9) rfl keeps_self ⟨rfl, rfl⟩) | (have he9 := sent_3b (s := s) (st := st) (bn := bn) (k := k) (off := off) (n := n) (f := f9) (by omega) ⟨by omega, by omega, by omega⟩ (by omega) (by assumption); refine f_end0 (F' := [(mp, C (encM (sentM s k off n) st sk bp) 69), (bp, C (bdL bu (sentN s st bn k off n) bv) 85)]) hl (has_two (bn := bn) hh (keeps_cons (b := mp) (by repeat (first | exact find_head | apply find_tail)) rfl (keeps_cons (b := bp) (by repeat (first | exact find_head | apply find_tail)) rfl keeps_nil)) he9) rfl keeps_self ⟨rfl, rfl⟩) | (have he9 := sent_4 (s := s) (st := st) (bn := bn) (k := k) (off := off) (n := n) (by omega) (by omega) (by omega); refine f_end0 (F' := [(mp, C (encM (sentM s k off n) st sk bp) 69), (bp, C (bdL bu (sentN s st bn k off n) bv) 85)]) hl (has_two (bn := bn) hh (keeps_cons (b := mp) (by repeat (first | exact find_head | apply find_tail)) rfl (keeps_cons (b := bp) (by repeat (first | exact find_head | apply find_tail)) rfl keeps_nil)) he9) rfl keeps_self ⟨rfl, rfl⟩) | (have he9 := sent_4 (s := s) (st := st) (bn := bn) (k := k) (off := off) (n := n) (by omega) (fun h9 => not_inF (by omega) h9.2) (fun h9 => not_inF (by omega) h9.2); refine f_end0 (F' := [(mp, C (encM (sentM s k off n) st sk bp) 69), (bp, C (bdL bu (sentN s st bn k off n) bv) 85)]) hl (has_two (bn := bn) hh (keeps_cons (b := mp) (by repeat (first | exact find_head | apply find_tail)) rfl (keeps_cons (b := bp) (by repeat (first | exact find_head | apply find_tail)) rfl keeps_nil)) he9) rfl keeps_self ⟨rfl, rfl⟩)
              · intro hc2
                try simp only [decide_eq_true_eq, decide_eq_false_iff_not, Bool.not_eq_true', Bool.not_eq_false', Bool.not_eq_true, Bool.not_eq_false, Bool.and_eq_true, Bool.or_eq_true, Bool.and_eq_false_iff, Bool.or_eq_false_iff, Bool.not_not, ne_eq, Int.not_lt, Int.not_le, Decidable.not_not, beq_iff_eq, bne_iff_ne] at hc2
                refine wp_skip ?_
                refine blk_normal ?_
                first | (exfalso; omega) | (have he9 := sent_1 (s := s) (st := st) (bn := bn) (k := k) (off := off) (n := n) ⟨by omega, by omega, by omega⟩; refine f_end0 (F' := [(mp, C (encM (sentM s k off n) st sk bp) 69), (bp, C (bdL bu (sentN s st bn k off n) bv) 85)]) hl (has_two (bn := bn) hh (keeps_cons (b := mp) (by repeat (first | exact find_head | apply find_tail)) rfl (keeps_cons (b := bp) (by repeat (first | exact find_head | apply find_tail)) rfl keeps_nil)) he9) rfl keeps_self ⟨rfl, rfl⟩) | (have he9 := sent_2 (s := s) (st := st) (bn := bn) (k := k) (off := off) (n := n) (by omega) ⟨by omega, by omega, by omega⟩; refine f_end0 (F' := [(mp, C (encM (sentM s k off n) st sk bp) 69), (bp, C (bdL bu (sentN s st bn k off n) bv) 85)]) hl (has_two (bn := bn) hh (keeps_cons (b := mp) (by repeat (first | exact find_head | apply find_tail)) rfl (keeps_cons (b := bp) (by repeat (first | exact find_head | apply find_tail)) rfl keeps_nil)) he9) rfl keeps_self ⟨rfl, rfl⟩) | (have he9 := sent_3a (s := s) (st := st) (bn := bn) (k := k) (off := off) (n := n) (f := f9) (by omega) ⟨by omega, by omega, by omega⟩ (by omega) (by assumption); refine f_end0 (F' := [(mp, C (encM (sentM s k off n) st sk bp) 69), (bp, C (bdL bu (sentN s st bn k off n) bv) 85)]) hl (has_two (bn := bn) hh (keeps_cons (b := mp) (by repeat (first | exact find_head | apply find_tail)) rfl (keeps_cons (b := bp) (by repeat (first | exact find_head | apply find_tail)) rfl keeps_nil)) he9) rfl keeps_self ⟨rfl, rfl⟩) | (have he9 := sent_3b (s := s) (st := st) (bn := bn) (k := k) (off := off) (n := n) (f := f9) (by omega) ⟨by omega, by omega, by omega⟩ (by omega) (by assumption); refine f_end0 (F' := [(mp, C (encM (sentM s k off n) st sk bp) 69), (bp, C (bdL bu (sentN s st bn k off n) bv) 85)]) hl (has_two (bn := bn) hh (keeps_cons (b := mp) (by repeat (first | exact find_head | apply find_tail)) rfl (keeps_cons (b := bp) (by repeat (first | exact find_head | apply find_tail)) rfl keeps_nil)) he9) rfl keeps_self ⟨rfl, rfl⟩) | (have he9 := sent_4 (s := s) (st := st) (bn := bn) (k := k) (off := off) (n := n) (by omega) (by omega) (by omega); refine f_end0 (F' := [(mp, C (encM (sentM s k off n) st sk bp) 69), (bp, C (bdL bu (sentN s st bn k off n) bv) 85)]) hl (has_two (bn := bn) hh (keeps_cons (b := mp) (by repeat (first | exact find_head | apply find_tail)) rfl (keeps_cons (b := bp) (by repeat (first | exact find_head | apply find_tail)) rfl keeps_nil)) he9) rfl keeps_self ⟨rfl, rfl⟩) | (have he9 := sent_4 (s := s) (st := st) (bn := bn) (k := k) (off := off) (n := n) (by omega) (fun h9 => not_inF (by omega) h9.2) (fun h9 => not_inF (by omega) h9.2); refine f_end0 (F' := [(mp, C (encM (sentM s k off n) st sk bp) 69), (bp, C (bdL bu (sentN s st bn k off n) bv) 85)]) hl (has_two (bn := bn) hh (keeps_cons (b := mp) (by repeat (first | exact find_head | apply find_tail)) rfl (keeps_cons (b := bp) (by repeat (first | exact find_head | apply find_tail)) rfl keeps_nil)) he9) rfl keeps_self ⟨rfl, rfl⟩)
            · intro hg10; clear hl; intro hl
              try simp only [decide_eq_true_eq, decide_eq_false_iff_not, Bool.not_eq_true', Bool.not_eq_false', Bool.not_eq_true, Bool.not_eq_false, Bool.and_eq_true, Bool.or_eq_true, Bool.and_eq_false_iff, Bool.or_eq_false_iff, Bool.not_not, ne_eq, Int.not_lt, Int.not_le, Decidable.not_not, beq_iff_eq, bne_iff_ne] at hg10
              refine wl (wl_skip hl rfl ⟨_, _, rfl, rfl, rfl⟩ ?_)
              clear hl a; intro a hl
              refine wl (wl_val hl rfl trivial (r_pickF hl rfl rfl) ?_)
              clear hl a; intro a hl
              refine wl (wl_val hl rfl trivial (r_assign hl rfl) ?_)
              clear hl a; intro a hl
              refine w_nil ?_
              have hl2 := hl.add (t := 0) (hl.add (t := 3) (hl.add (t := 87) (hl.nil) rfl) rfl) rfl; clear hl; have hl := hl2; clear hl2
              refine then_normal ?_
              refine c_condF hl rfl ?_
              refine wp_skip ?_
              refine blk_normal ?_
              first | (exfalso; omega) | (have he9 := sent_1 (s := s) (st := st) (bn := bn) (k := k) (off := off) (n := n) ⟨by omega, by omega, by omega⟩; refine f_end0 (F' := [(mp, C (encM (sentM s k off n) st sk bp) 69), (bp, C (bdL bu (sentN s st bn k off n) bv) 85)]) hl (has_two (bn := bn) hh (keeps_cons (b := mp) (by repeat (first | exact find_head | apply find_tail)) rfl (keeps_cons (b := bp) (by repeat (first | exact find_head | apply find_tail)) rfl keeps_nil)) he9) rfl keeps_self ⟨rfl, rfl⟩) | (have he9 := sent_2 (s := s) (st := st) (bn := bn) (k := k) (off := off) (n := n) (by omega) ⟨by omega, by omega, by omega⟩; refine f_end0 (F' := [(mp, C (encM (sentM s k off n) st sk bp) 69), (bp, C (bdL bu (sentN s st bn k off n) bv) 85)]) hl (has_two (bn := bn) hh (keeps_cons (b := mp) (by repeat (first | exact find_head | apply find_tail)) rfl (keeps_cons (b := bp) (by repeat (first | exact find_head | apply find_tail)) rfl keeps_nil)) he9) rfl keeps_self ⟨rfl, rfl⟩) | (have he9 := sent_3a (s := s) (st := st) (bn := bn) (k := k) (off := off) (n := n) (f := f9) (by omega) ⟨by omega, by omega, by omega⟩ (by omega) (by assumption); refine f_end0 (F' := [(mp, C (encM (sentM s k off n) st sk bp) 69), (bp, C (bdL bu (sentN s st bn k off n) bv) 85)]) hl (has_two (bn := bn) hh (keeps_cons (b := mp) (by repeat (first | exact find_head | apply find_tail)) rfl (keeps_cons (b := bp) (by repeat (first | exact find_head | apply find_tail)) rfl keeps_nil)) he9) rfl keeps_self ⟨rfl, rfl⟩) | (have he9 := sent_3b (s := s) (st := st) (bn := bn) (k := k) (off := off) (n := n) (f := f9) (by omega) ⟨by omega, by omega, by omega⟩ (by omega) (by assumption); refine f_end0 (F' := [(mp, C (encM (sentM s k off n) st sk bp) 69), (bp, C (bdL bu (sentN s st bn k off n) bv) 85)]) hl (has_two (bn := bn) hh (keeps_cons (b := mp) (by repeat (first | exact find_head | apply find_tail)) rfl (keeps_cons (b := bp) (by repeat (first | exact find_head | apply find_tail)) rfl keeps_nil)) he9) rfl keeps_self ⟨rfl, rfl⟩) | (have he9 := sent_4 (s := s) (st := st) (bn := bn) (k := k) (off := off) (n := n) (by omega) (by omega) (by omega); refine f_end0 (F' := [(mp, C (encM (sentM s k off n) st sk bp) 69), (bp, C (bdL bu (sentN s st bn k off n) bv) 85)]) hl (has_two (bn := bn) hh (keeps_cons (b := mp) (by repeat (first | exact find_head | apply find_tail)) rfl (keeps_cons (b := bp) (by repeat (first | exact find_head | apply find_tail)) rfl keeps_nil)) he9) rfl keeps_self ⟨rfl, rfl⟩) | (have he9 := sent_4 (s := s) (st := st) (bn := bn) (k := k) (off := off) (n := n) (by omega) (fun h9 => not_inF (by omega) h9.2) (fun h9 => not_inF (by omega) h9.2); refine f_end0 (F' := [(mp, C (encM (sentM s k off n) st sk bp) 69), (bp, C (bdL bu (sentN s st bn k off n) bv) 85)]) hl (has_two (bn := bn) hh (keeps_cons (b := mp) (by repeat (first | exact find_head | apply find_tail)) rfl (keeps_cons (b := bp) (by repeat (first | exact find_head | apply find_tail)) rfl keeps_nil)) he9) rfl keeps_self ⟨rfl, rfl⟩)
      · intro hg3; clear hl; intro hl
        try simp only [decide_eq_true_eq, decide_eq_false_iff_not, Bool.not_eq_true', Bool.not_eq_false', Bool.not_eq_true, Bool.not_eq_false, Bool.and_eq_true, Bool.or_eq_true, Bool.and_eq_false_iff, Bool.or_eq_false_iff, Bool.not_not, ne_eq, Int.not_lt, Int.not_le, Decidable.not_not, beq_iff_eq, bne_iff_ne] at hg3
        refine d_skip (i := 4) hl rfl (by kernel_rfl) (by kernel_rfl) (by kernel_rfl) (by kernel_rfl) (by kernel_rfl) rfl ⟨_, _, rfl, rfl, rfl⟩ (fun _ _ _ h => h) hM ?_
        clear hl a; intro a hl
        refine d_skip (i := 5) hl rfl (by kernel_rfl) (by kernel_rfl) (by kernel_rfl) (by kernel_rfl) (by kernel_rfl) rfl ⟨_, _, rfl, rfl, rfl⟩ (fun _ _ _ h => h) hM ?_
        clear hl a; intro a hl
        refine d_skip (i := 6) hl rfl (by kernel_rfl) (by kernel_rfl) (by kernel_rfl) (by kernel_rfl) (by kernel_rfl) rfl ⟨_, _, rfl, rfl, rfl⟩ (fun _ _ _ h => h) hM ?_
        clear hl a; intro a hl
        refine d_skip (i := 7) hl rfl (by kernel_rfl) (by kernel_rfl) (by kernel_rfl) (by kernel_rfl) (by kernel_rfl) rfl ⟨_, _, rfl, rfl, rfl⟩ (fun _ _ _ h => h) hM ?_
        clear hl a; intro a hl
        refine d_skip (i := 8) hl rfl (by kernel_rfl) (by kernel_rfl) (by kernel_rfl) (by kernel_rfl) (by kernel_rfl) rfl ⟨_, _, rfl, rfl, rfl⟩ (fun _ _ _ h => h) hM ?_
        clear hl a; intro a hl
        refine d_skip (i := 9) hl rfl (by kernel_rfl) (by kernel_rfl) (by kernel_rfl) (by kernel_rfl) (by kernel_rfl) rfl ⟨_, _, rfl, rfl, rfl⟩ (fun _ _ _ h => h) hM ?_
        clear hl a; intro a hl
        refine d_skip (i := 10) hl rfl (by kernel_rfl) (by kernel_rfl) (by kernel_rfl) (by kernel_rfl) (by kernel_rfl) rfl ⟨_, _, rfl, rfl, rfl⟩ (fun _ _ _ h => h) hM ?_
        clear hl a; intro a hl
        refine d_take (i := 11) hl rfl (by kernel_rfl) (by kernel_rfl) (by kernel_rfl) (by kernel_rfl) (by kernel_rfl) rfl trivial (fun _ _ _ h => h) hM (fun w hC => r_pickF hl rfl rfl) rfl ?_
        clear hl a; intro a hl
        refine d_take (i := 12) hl rfl (by kernel_rfl) (by kernel_rfl) (by kernel_rfl) (by kernel_rfl) (by kernel_rfl) rfl trivial (fun _ _ _ h => h) hM (fun w hC => r_move hl rfl) rfl ?_
        clear hl a; intro a hl
        refine d_skip (i := 13) hl rfl (by kernel_rfl) (by kernel_rfl) (by kernel_rfl) (by kernel_rfl) (by kernel_rfl) rfl ⟨_, _, rfl, rfl, rfl⟩ (fun _ _ _ h => h) hM ?_
        clear hl a; intro a hl
        refine d_skip (i := 14) hl rfl (by kernel_rfl) (by kernel_rfl) (by kernel_rfl) (by kernel_rfl) (by kernel_rfl) rfl ⟨_, _, rfl, rfl, rfl⟩ (fun _ _ _ h => h) hM ?_
        clear hl a; intro a hl
        refine d_skip (i := 15) hl rfl (by kernel_rfl) (by kernel_rfl) (by kernel_rfl) (by kernel_rfl) (by kernel_rfl) rfl ⟨_, _, rfl, rfl, rfl⟩ (fun _ _ _ h => h) hM ?_
        clear hl a; intro a hl
        refine d_skip (i := 16) hl rfl (by kernel_rfl) (by kernel_rfl) (by kernel_rfl) (by kernel_rfl) (by kernel_rfl) rfl ⟨_, _, rfl, rfl, rfl⟩ (fun _ _ _ h => h) hM ?_
        clear hl a; intro a hl
        refine d_skip (i := 17) hl rfl (by kernel_rfl) (by kernel_rfl) (by kernel_rfl) (by kernel_rfl) (by kernel_rfl) rfl ⟨_, _, rfl, rfl, rfl⟩ (fun _ _ _ h => h) hM ?_
        clear hl a; intro a hl
        refine d_skip (i := 18) hl rfl (by kernel_rfl) (by kernel_rfl) (by kernel_rfl) (by kernel_rfl) (by kernel_rfl) rfl ⟨_, _, rfl, rfl, rfl⟩ (fun _ _ _ h => h) hM ?_
        clear hl a; intro a hl
        refine d_skip (i := 19) hl rfl (by kernel_rfl) (by kernel_rfl) (by kernel_rfl) (by kernel_rfl) (by kernel_rfl) rfl ⟨_, _, rfl, rfl, rfl⟩ (fun _ _ _ h => h) hM ?_
        clear hl a; intro a hl
        refine d_skip (i := 20) hl rfl (by kernel_rfl) (by kernel_rfl) (by kernel_rfl) (by kernel_rfl) (by kernel_rfl) rfl ⟨_, _, rfl, rfl, rfl⟩ (fun _ _ _ h => h) hM ?_
        clear hl a; intro a hl
        refine d_skip (i := 21) hl rfl (by kernel_rfl) (by kernel_rfl) (by kernel_rfl) (by kernel_rfl) (by kernel_rfl) rfl ⟨_, _, rfl, rfl, rfl⟩ (fun _ _ _ h => h) hM ?_
        clear hl a; intro a hl
        refine d_skip (i := 22) hl rfl (by kernel_rfl) (by kernel_rfl) (by kernel_rfl) (by kernel_rfl) (by kernel_rfl) rfl ⟨_, _, rfl, rfl, rfl⟩ (fun _ _ _ h => h) hM ?_
        clear hl a; intro a hl
        refine d_skip (i := 23) hl rfl (by kernel_rfl) (by kernel_rfl) (by kernel_rfl) (by kernel_rfl) (by kernel_rfl) rfl ⟨_, _, rfl, rfl, rfl⟩ (fun _ _ _ h => h) hM ?_
        clear hl a; intro a hl
        refine d_skip (i := 24) hl rfl (by kernel_rfl) (by kernel_rfl) (by kernel_rfl) (by kernel_rfl) (by kernel_rfl) rfl ⟨_, _, rfl, rfl, rfl⟩ (fun _ _ _ h => h) hM ?_
        clear hl a; intro a hl
        refine d_skip (i := 25) hl rfl (by kernel_rfl) (by kernel_rfl) (by kernel_rfl) (by kernel_rfl) (by kernel_rfl) rfl ⟨_, _, rfl, rfl, rfl⟩ (fun _ _ _ h => h) hM ?_
        clear hl a; intro a hl
        refine d_takeL (i := 26) hl rfl (by kernel_rfl) (by kernel_rfl) (by kernel_rfl) (by kernel_rfl) (by kernel_rfl) rfl trivial (fun _ _ _ h => h) (fun w => r_pickF hl rfl rfl) rfl ?_
        clear hl a; intro a hl
        refine d_takeL (i := 27) hl rfl (by kernel_rfl) (by kernel_rfl) (by kernel_rfl) (by kernel_rfl) (by kernel_rfl) rfl trivial (fun _ _ _ h => h) (fun w => r_assign hl rfl) rfl ?_
        clear hl a; intro a hl
        refine d_done (by kernel_rfl) ?_
        try clear hM
        have hl2 := hl.add (t := 0) (hl.add (t := 3) (hl.add (t := 4) (hl.add (t := 29) (hl.nil) rfl) rfl) rfl) rfl; clear hl; have hl := hl2; clear hl2
        refine then_normal ?_
        refine c_condF hl rfl ?_
        refine c_seq ?_
        refine c_region ?_
        refine wl (wl_val hl rfl trivial (r_field hl rfl fld42_0) ?_)
        clear hl a; intro a hl
        refine wl (w_load hl hh rfl trivial one38 rfl (by repeat (first | exact find_head | apply find_tail)) (by first | rfl) ?_)
        clear hl a; intro a hl
        refine wl (wl_val hl rfl trivial (r_eql hl rfl rfl) ?_)
        clear hl a; intro a hl
        refine wl (wl_val hl rfl trivial (r_move hl rfl) ?_)
        clear hl a; intro a hl
        refine sl_split (t := 81) hl rfl ?_ ?_
        · intro hg11; clear hl; intro hl
          try simp only [decide_eq_true_eq, decide_eq_false_iff_not, Bool.not_eq_true', Bool.not_eq_false', Bool.not_eq_true, Bool.not_eq_false, Bool.and_eq_true, Bool.or_eq_true, Bool.and_eq_false_iff, Bool.or_eq_false_iff, Bool.not_not, ne_eq, Int.not_lt, Int.not_le, Decidable.not_not, beq_iff_eq, bne_iff_ne] at hg11
          refine wl (wl_val hl rfl ⟨_, _, rfl, rfl, rfl⟩ (r_move hl rfl) ?_)
          clear hl a; intro a hl
          refine wl (wl_val hl rfl trivial (r_pickT hl rfl rfl) ?_)
          clear hl a; intro a hl
          refine wl (wl_val hl rfl trivial (r_assign hl rfl) ?_)
          clear hl a; intro a hl
          refine w_nil ?_
          have hl2 := hl.add (t := 0) (hl.add (t := 3) (hl.add (t := 4) (hl.add (t := 77) (hl.nil) rfl) rfl) rfl) rfl; clear hl; have hl := hl2; clear hl2
          refine then_normal ?_
          refine c_cond hl rfl ?_ ?_
          · intro hc1
            try simp only [decide_eq_true_eq, decide_eq_false_iff_not, Bool.not_eq_true', Bool.not_eq_false', Bool.not_eq_true, Bool.not_eq_false, Bool.and_eq_true, Bool.or_eq_true, Bool.and_eq_false_iff, Bool.or_eq_false_iff, Bool.not_not, ne_eq, Int.not_lt, Int.not_le, Decidable.not_not, beq_iff_eq, bne_iff_ne] at hc1
            refine c_region ?_
            refine wl (wl_val hl rfl trivial (r_move hl rfl) ?_)
            clear hl a; intro a hl
            refine wl (wl_val hl rfl trivial (r_nilCheck hl rfl) ?_)
            clear hl a; intro a hl
            refine wl (wl_val hl rfl trivial (r_field hl rfl fld69_16) ?_)
            clear hl a; intro a hl
            refine wl (w_store hl hh trivial one4 rfl rfl (by repeat (first | exact find_head | apply find_tail)) (by first | (simp; done) | (simp; omega)) (by first | rfl | assumption | (apply Row.one; assumption)) (by first | (simp only [encM, setL, List.getElem?_cons_zero, List.getElem?_cons_succ, Value.cells, List.take_zero, List.take_succ_cons, List.take_nil, List.drop_zero, List.drop_succ_cons, List.drop_nil, List.length_cons, List.length_nil, List.cons_append, List.nil_append, List.append_nil, Nat.zero_add, Nat.add_zero, Nat.reduceAdd, Nat.reduceBEq, Nat.reduceEqDiff, Nat.ble, BEq.rfl, Bool.and_true, Bool.and_self, cond_true, beq_self_eq_true]; rfl) | (simp only [setL, List.getElem?_cons_zero, List.getElem?_cons_succ, Value.cells, List.take_zero, List.take_succ_cons, List.take_nil, List.drop_zero, List.drop_succ_cons, List.drop_nil, List.length_cons, List.length_nil, List.cons_append, List.nil_append, List.append_nil, Nat.zero_add, Nat.add_zero, Nat.reduceAdd, Nat.reduceBEq, Nat.reduceEqDiff, Nat.ble, BEq.rfl, Bool.and_true, Bool.and_self, cond_true, beq_self_eq_true]; rfl)) ?_)
            clear hh w; intro w hh
            refine w_nil ?_
            have hl2 := hl.nil; clear hl; have hl := hl2; clear hl2
            refine blk_normal ?_
            first | (exfalso; omega) | (have he9 := sent_1 (s := s) (st := st) (bn := bn) (k := k) (off := off) (n := n) ⟨by omega, by omega, by omega⟩; refine f_end0 (F' := [(mp, C (encM (sentM s k off n) st sk bp) 69), (bp, C (bdL bu (sentN s st bn k off n) bv) 85)]) hl (has_two (bn := bn) hh (keeps_cons (b := mp) (by repeat (first | exact find_head | apply find_tail)) rfl (keeps_cons (b := bp) (by repeat (first | exact find_head | apply find_tail)) rfl keeps_nil)) he9) rfl keeps_self ⟨rfl, rfl⟩) | (have he9 := sent_2 (s := s) (st := st) (bn := bn) (k := k) (off := off) (n := n) (by omega) ⟨by omega, by omega, by omega⟩; refine f_end0 (F' := [(mp, C (encM (sentM s k off n) st sk bp) 69), (bp, C (bdL bu (sentN s st bn k off n) bv) 85)]) hl (has_two (bn := bn) hh (keeps_cons (b := mp) (by repeat (first | exact find_head | apply find_tail)) rfl (keeps_cons (b := bp) (by repeat (first | exact find_head | apply find_tail)) rfl keeps_nil)) he9) rfl keeps_self ⟨rfl, rfl⟩) | (have he9 := sent_3a (s := s) (st := st) (bn := bn) (k := k) (off := off) (n := n) (f := f9) (by omega) ⟨by omega, by omega, by omega⟩ (by omega) (by assumption); refine f_end0 (F' := [(mp, C (encM (sentM s k off n) st sk bp) 69), (bp, C (bdL bu (sentN s st bn k off n) bv) 85)]) hl (has_two (bn := bn) hh (keeps_cons (b := mp) (by repeat (first | exact find_head | apply find_tail)) rfl (keeps_cons (b := bp) (by repeat (first | exact find_head | apply find_tail)) rfl keeps_nil)) he9) rfl keeps_self ⟨rfl, rfl⟩) | (have he9 := sent_3b (s := s) (st := st) (bn := bn) (k := k) (off := off) (n := n) (f := f9) (by omega) ⟨by omega, by omega, by omega⟩ (by omega) (by assumption); refine f_end0 (F' := [(mp, C (encM (sentM s k off n) st sk bp) 69), (bp, C (bdL bu (sentN s st bn k off n) bv) 85)]) hl (has_two (bn := bn) hh (keeps_cons (b := mp) (by repeat (first | exact find_head | apply find_tail)) rfl (keeps_cons (b := bp) (by repeat (first | exact find_head | apply find_tail)) rfl keeps_nil)) he9) rfl keeps_self ⟨rfl, rfl⟩) | (have he9 := sent_4 (s := s) (st := st) (bn := bn) (k := k) (off := off) (n := n) (by omega) (by omega) (by omega); refine f_end0 (F' := [(mp, C (encM (sentM s k off n) st sk bp) 69), (bp, C (bdL bu (sentN s st bn k off n) bv) 85)]) hl (has_two (bn := bn) hh (keeps_cons (b := mp) (by repeat (first | exact find_head | apply find_tail)) rfl (keeps_cons (b := bp) (by repeat (first | exact find_head | apply find_tail)) rfl keeps_nil)) he9) rfl keeps_self ⟨rfl, rfl⟩) | (have he9 := sent_4 (s := s) (st := st) (bn := bn) (k := k) (off := off) (n := n) (by omega) (fun h9 => not_inF (by omega) h9.2) (fun h9 => not_inF (by omega) h9.2); refine f_end0 (F' := [(mp, C (encM (sentM s k off n) st sk bp) 69), (bp, C (bdL bu (sentN s st bn k off n) bv) 85)]) hl (has_two (bn := bn) hh (keeps_cons (b := mp) (by repeat (first | exact find_head | apply find_tail)) rfl (keeps_cons (b := bp) (by repeat (first | exact find_head | apply find_tail)) rfl keeps_nil)) he9) rfl keeps_self ⟨rfl, rfl⟩)
          · intro hc1
            try simp only [decide_eq_true_eq, decide_eq_false_iff_not, Bool.not_eq_true', Bool.not_eq_false', Bool.not_eq_true, Bool.not_eq_false, Bool.and_eq_true, Bool.or_eq_true, Bool.and_eq_false_iff, Bool.or_eq_false_iff, Bool.not_not, ne_eq, Int.not_lt, Int.not_le, Decidable.not_not, beq_iff_eq, bne_iff_ne] at hc1
            refine c_seq ?_
            refine c_region ?_
            refine wl (wl_val hl rfl trivial (r_field hl rfl fld42_0) ?_)
            clear hl a; intro a hl
            refine wl (w_load hl hh rfl trivial one38 rfl (by repeat (first | exact find_head | apply find_tail)) (by first | rfl) ?_)
            clear hl a; intro a hl
            refine wl (wl_val hl rfl trivial (r_eql hl rfl rfl) ?_)
            clear hl a; intro a hl
            refine wl (wl_val hl rfl trivial (r_move hl rfl) ?_)
            clear hl a; intro a hl
            refine sl_split (t := 91) hl rfl ?_ ?_
            · intro hg12; clear hl; intro hl
              try simp only [decide_eq_true_eq, decide_eq_false_iff_not, Bool.not_eq_true', Bool.not_eq_false', Bool.not_eq_true, Bool.not_eq_false, Bool.and_eq_true, Bool.or_eq_true, Bool.and_eq_false_iff, Bool.or_eq_false_iff, Bool.not_not, ne_eq, Int.not_lt, Int.not_le, Decidable.not_not, beq_iff_eq, bne_iff_ne] at hg12
              refine wl (wl_val hl rfl ⟨_, _, rfl, rfl, rfl⟩ (r_move hl rfl) ?_)
              clear hl a; intro a hl
              refine wl (wl_val hl rfl trivial (r_pickT hl rfl rfl) ?_)
              clear hl a; intro a hl
              refine wl (wl_val hl rfl trivial (r_assign hl rfl) ?_)
              clear hl a; intro a hl
              refine w_nil ?_
              have hl2 := hl.add (t := 0) (hl.add (t := 3) (hl.add (t := 87) (hl.nil) rfl) rfl) rfl; clear hl; have hl := hl2; clear hl2
              refine then_normal ?_
              refine c_cond hl rfl ?_ ?_
              · intro hc2
                try simp only [decide_eq_true_eq, decide_eq_false_iff_not, Bool.not_eq_true', Bool.not_eq_false', Bool.not_eq_true, Bool.not_eq_false, Bool.and_eq_true, Bool.or_eq_true, Bool.and_eq_false_iff, Bool.or_eq_false_iff, Bool.not_not, ne_eq, Int.not_lt, Int.not_le, Decidable.not_not, beq_iff_eq, bne_iff_ne] at hc2
                refine c_seq ?_
                refine c_seq ?_
                refine c_draw [(mp, C (encM (s) st sk bp) 69), (k3, C [.int .u8 k, .int .i64 off, .int .i64 n] 42)] [6] mixed hh ?_
                clear hh w; intro w hh
                have hM : Mem [(mp, C (encM (s) st sk bp) 69), (k3, C [.int .u8 k, .int .i64 off, .int .i64 n] 42)] w := (by (repeat (first | exact Mem.nil | refine Mem.cons hh.mem (by (repeat (first | exact find_head | apply find_tail)); done) ?_ | refine Mem.consR hh (by assumption) (by simp) ?_ | fail)); done)
                refine d_take (i := 0) hl rfl (by kernel_rfl) (by kernel_rfl) (by kernel_rfl) (by kernel_rfl) (by kernel_rfl) rfl trivial (fun _ _ _ h => h) hM (fun w hC => r_field hl rfl fld42_1) rfl ?_
                clear hl a; intro a hl
                refine d_take (i := 1) hl rfl (by kernel_rfl) (by kernel_rfl) (by kernel_rfl) (by kernel_rfl) (by kernel_rfl) rfl trivial (fun _ _ _ h => h) hM (fun w hC => r_loadC hl rfl one2 hC (by repeat (first | exact find_head | apply find_tail)) (by first | rfl)) rfl ?_
                clear hl a; intro a hl
                refine d_take (i := 2) hl rfl (by kernel_rfl) (by kernel_rfl) (by kernel_rfl) (by kernel_rfl) (by kernel_rfl) rfl trivial (fun _ _ _ h => h) hM (fun w hC => r_move hl rfl) rfl ?_
                clear hl a; intro a hl
                refine d_take (i := 3) hl rfl (by kernel_rfl) (by kernel_rfl) (by kernel_rfl) (by kernel_rfl) (by kernel_rfl) rfl trivial (fun _ _ _ h => h) hM (fun w hC => r_nilCheck hl rfl) rfl ?_
                clear hl a; intro a hl
                refine d_take (i := 4) hl rfl (by kernel_rfl) (by kernel_rfl) (by kernel_rfl) (by kernel_rfl) (by kernel_rfl) rfl trivial (fun _ _ _ h => h) hM (fun w hC => r_field hl rfl fld69_8) rfl ?_
                clear hl a; intro a hl
                refine d_take (i := 5) hl rfl (by kernel_rfl) (by kernel_rfl) (by kernel_rfl) (by kernel_rfl) (by kernel_rfl) rfl trivial (fun _ _ _ h => h) hM (fun w hC => r_loadC hl rfl one2 hC (by repeat (first | exact find_head | apply find_tail)) (by first | rfl)) rfl ?_
                clear hl a; intro a hl
                refine d_takeL (i := 6) hl rfl (by kernel_rfl) (by kernel_rfl) (by kernel_rfl) (by kernel_rfl) (by kernel_rfl) rfl trivial (fun _ _ _ h => h) (fun w => r_eql hl rfl rfl) rfl ?_
                clear hl a; intro a hl
                refine d_done (by kernel_rfl) ?_
                try clear hM
                have hl2 := hl.add (t := 0) (hl.add (t := 3) (hl.add (t := 100) (hl.nil) rfl) rfl) rfl; clear hl; have hl := hl2; clear hl2
                refine then_normal ?_
                refine c_cond hl rfl ?_ ?_
                · intro hc3
                  try simp only [decide_eq_true_eq, decide_eq_false_iff_not, Bool.not_eq_true', Bool.not_eq_false', Bool.not_eq_true, Bool.not_eq_false, Bool.and_eq_true, Bool.or_eq_true, Bool.and_eq_false_iff, Bool.or_eq_false_iff, Bool.not_not, ne_eq, Int.not_lt, Int.not_le, Decidable.not_not, beq_iff_eq, bne_iff_ne] at hc3
                  obtain ⟨f9, hf9⟩ : ∃ z, z = false := ⟨_, rfl⟩
                  refine c_region ?_
                  refine wl (wl_val hl rfl trivial (r_move hl rfl) ?_)
                  clear hl a; intro a hl
                  refine wl (wl_val hl rfl trivial (r_nilCheck hl rfl) ?_)
                  clear hl a; intro a hl
                  refine wl (wl_val hl rfl trivial (r_field hl rfl fld69_14) ?_)
                  clear hl a; intro a hl
                  refine wl (w_store hl hh trivial one4 rfl rfl (by repeat (first | exact find_head | apply find_tail)) (by first | (simp; done) | (simp; omega)) (by first | rfl | assumption | (apply Row.one; assumption)) (by first | (simp only [encM, setL, List.getElem?_cons_zero, List.getElem?_cons_succ, Value.cells, List.take_zero, List.take_succ_cons, List.take_nil, List.drop_zero, List.drop_succ_cons, List.drop_nil, List.length_cons, List.length_nil, List.cons_append, List.nil_append, List.append_nil, Nat.zero_add, Nat.add_zero, Nat.reduceAdd, Nat.reduceBEq, Nat.reduceEqDiff, Nat.ble, BEq.rfl, Bool.and_true, Bool.and_self, cond_true, beq_self_eq_true]; rfl) | (simp only [setL, List.getElem?_cons_zero, List.getElem?_cons_succ, Value.cells, List.take_zero, List.take_succ_cons, List.take_nil, List.drop_zero, List.drop_succ_cons, List.drop_nil, List.length_cons, List.length_nil, List.cons_append, List.nil_append, List.append_nil, Nat.zero_add, Nat.add_zero, Nat.reduceAdd, Nat.reduceBEq, Nat.reduceEqDiff, Nat.ble, BEq.rfl, Bool.and_true, Bool.and_self, cond_true, beq_self_eq_true]; rfl)) ?_)
                  clear hh w; intro w hh
                  refine w_nil ?_
                  have hl2 := hl.add (t := 0) (hl.add (t := 3) (hl.nil) rfl) rfl; clear hl; have hl := hl2; clear hl2
                  replace hh : Has _ w0 [(mp, C (encM ({ s with forced := f9 }) st sk bp) 69), (k3, C [.int .u8 k, .int .i64 off, .int .i64 n] 42), (bp, C (bdL bu bn bv) 85)] w := hh.keep (keeps_cons (b := mp) (by repeat (first | exact find_head | apply find_tail)) (by rw [hf9]; rfl) (keeps_cons (b := k3) (by repeat (first | exact find_head | apply find_tail)) rfl (keeps_cons (b := bp) (by repeat (first | exact find_head | apply find_tail)) rfl keeps_nil)))
                  refine then_normal ?_
                  refine c_draw [(mp, C (encM ({ s with forced := f9 }) st sk bp) 69), (k3, C [.int .u8 k, .int .i64 off, .int .i64 n] 42)] [11, 12, 13] mixed hh ?_
                  clear hh w; intro w hh
                  have hM : Mem [(mp, C (encM ({ s with forced := f9 }) st sk bp) 69), (k3, C [.int .u8 k, .int .i64 off, .int .i64 n] 42)] w := (by (repeat (first | exact Mem.nil | refine Mem.cons hh.mem (by (repeat (first | exact find_head | apply find_tail)); done) ?_ | refine Mem.consR hh (by assumption) (by simp) ?_ | fail)); done)
                  refine d_take (i := 0) hl rfl (by kernel_rfl) (by kernel_rfl) (by kernel_rfl) (by kernel_rfl) (by kernel_rfl) rfl trivial (fun _ _ _ h => h) hM (fun w hC => r_move hl rfl) rfl ?_
                  clear hl a; intro a hl
                  refine d_take (i := 1) hl rfl (by kernel_rfl) (by kernel_rfl) (by kernel_rfl) (by kernel_rfl) (by kernel_rfl) rfl trivial (fun _ _ _ h => h) hM (fun w hC => r_move hl rfl) rfl ?_
                  clear hl a; intro a hl
                  refine d_take (i := 2) hl rfl (by kernel_rfl) (by kernel_rfl) (by kernel_rfl) (by kernel_rfl) (by kernel_rfl) rfl trivial (fun _ _ _ h => h) hM (fun w hC => r_nilCheck hl rfl) rfl ?_
                  clear hl a; intro a hl
                  refine d_take (i := 3) hl rfl (by kernel_rfl) (by kernel_rfl) (by kernel_rfl) (by kernel_rfl) (by kernel_rfl) rfl trivial (fun _ _ _ h => h) hM (fun w hC => r_field hl rfl fld69_12) rfl ?_
                  clear hl a; intro a hl
                  refine d_take (i := 4) hl rfl (by kernel_rfl) (by kernel_rfl) (by kernel_rfl) (by kernel_rfl) (by kernel_rfl) rfl trivial (fun _ _ _ h => h) hM (fun w hC => r_loadC hl rfl one2 hC (by repeat (first | exact find_head | apply find_tail)) (by first | rfl)) rfl ?_
                  clear hl a; intro a hl
                  refine d_take (i := 5) hl rfl (by kernel_rfl) (by kernel_rfl) (by kernel_rfl) (by kernel_rfl) (by kernel_rfl) rfl trivial (fun _ _ _ h => h) hM (fun w hC => r_field hl rfl fld42_1) rfl ?_
                  clear hl a; intro a hl
                  refine d_take (i := 6) hl rfl (by kernel_rfl) (by kernel_rfl) (by kernel_rfl) (by kernel_rfl) (by kernel_rfl) rfl trivial (fun _ _ _ h => h) hM (fun w hC => r_loadC hl rfl one2 hC (by repeat (first | exact find_head | apply find_tail)) (by first | rfl)) rfl ?_
                  clear hl a; intro a hl
                  refine d_take (i := 7) hl rfl (by kernel_rfl) (by kernel_rfl) (by kernel_rfl) (by kernel_rfl) (by kernel_rfl) rfl trivial (fun _ _ _ h => h) hM (fun w hC => r_field hl rfl fld42_2) rfl ?_
                  clear hl a; intro a hl
                  refine d_take (i := 8) hl rfl (by kernel_rfl) (by kernel_rfl) (by kernel_rfl) (by kernel_rfl) (by kernel_rfl) rfl trivial (fun _ _ _ h => h) hM (fun w hC => r_loadC hl rfl one2 hC (by repeat (first | exact find_head | apply find_tail)) (by first | rfl)) rfl ?_
                  clear hl a; intro a hl
                  first | refine d_take (i := 9) hl rfl (by kernel_rfl) (by kernel_rfl) (by kernel_rfl) (by kernel_rfl) (by kernel_rfl) rfl trivial (fun _ _ _ h => h) hM (fun w hC => r_add hl rfl rfl (by simp only [Fits]; omega)) rfl ?_ | refine d_take (i := 9) hl rfl (by kernel_rfl) (by kernel_rfl) (by kernel_rfl) (by kernel_rfl) (by kernel_rfl) rfl trivial (fun _ _ _ h => h) hM (fun w hC => r_addW hl rfl rfl) rfl ?_
                  clear hl a; intro a hl
                  refine d_take (i := 10) hl rfl (by kernel_rfl) (by kernel_rfl) (by kernel_rfl) (by kernel_rfl) (by kernel_rfl) rfl trivial (fun _ _ _ h => h) hM (fun w hC => r_maxI hl rfl rfl) rfl ?_
                  clear hl a; intro a hl
                  refine d_takeL (i := 11) hl rfl (by kernel_rfl) (by kernel_rfl) (by kernel_rfl) (by kernel_rfl) (by kernel_rfl) rfl trivial (fun _ _ _ h => h) (fun w => r_nilCheck hl rfl) rfl ?_
                  clear hl a; intro a hl
                  refine d_takeL (i := 12) hl rfl (by kernel_rfl) (by kernel_rfl) (by kernel_rfl) (by kernel_rfl) (by kernel_rfl) rfl trivial (fun _ _ _ h => h) (fun w => r_field hl rfl fld69_12) rfl ?_
                  clear hl a; intro a hl
                  refine d_one (i := 13) (by kernel_rfl) rfl ?_
                  try clear hM
                  refine id (w_store hl hh trivial one2 rfl rfl (by repeat (first | exact find_head | apply find_tail)) (by first | (simp; done) | (simp; omega)) (by first | rfl | assumption | (apply Row.one; assumption)) (by first | (simp only [encM, setL, List.getElem?_cons_zero, List.getElem?_cons_succ, Value.cells, List.take_zero, List.take_succ_cons, List.take_nil, List.drop_zero, List.drop_succ_cons, List.drop_nil, List.length_cons, List.length_nil, List.cons_append, List.nil_append, List.append_nil, Nat.zero_add, Nat.add_zero, Nat.reduceAdd, Nat.reduceBEq, Nat.reduceEqDiff, Nat.ble, BEq.rfl, Bool.and_true, Bool.and_self, cond_true, beq_self_eq_true]; rfl) | (simp only [setL, List.getElem?_cons_zero, List.getElem?_cons_succ, Value.cells, List.take_zero, List.take_succ_cons, List.take_nil, List.drop_zero, List.drop_succ_cons, List.drop_nil, List.length_cons, List.length_nil, List.cons_append, List.nil_append, List.append_nil, Nat.zero_add, Nat.add_zero, Nat.reduceAdd, Nat.reduceBEq, Nat.reduceEqDiff, Nat.ble, BEq.rfl, Bool.and_true, Bool.and_self, cond_true, beq_self_eq_true]; rfl)) ?_)
                  clear hh w; intro w hh
                  refine d_step (fun h => absurd h (by decide)) ?_
                  refine d_done (by kernel_rfl) ?_
                  try clear hM
                  have hl2 := hl.nil; clear hl; have hl := hl2; clear hl2
                  refine blk_normal ?_
                  first | (exfalso; omega) | (have he9 := sent_1 (s := s) (st := st) (bn := bn) (k := k) (off := off) (n := n) ⟨by omega, by omega, by omega⟩; refine f_end0 (F' := [(mp, C (encM (sentM s k off n) st sk bp) 69), (bp, C (bdL bu (sentN s st bn k off n) bv) 85)]) hl (has_two (bn := bn) hh (keeps_cons (b := mp) (by repeat (first | exact find_head | apply find_tail)) rfl (keeps_cons (b := bp) (by repeat (first | exact find_head | apply find_tail)) rfl keeps_nil)) he9) rfl keeps_self ⟨rfl, rfl⟩) | (have he9 := sent_2 (s := s) (st := st) (bn := bn) (k := k) (off := off) (n := n) (by omega) ⟨by omega, by omega, by omega⟩; refine f_end0 (F' := [(mp, C (encM (sentM s k off n) st sk bp) 69), (bp, C (bdL bu (sentN s st bn k off n) bv) 85)]) hl (has_two (bn := bn) hh (keeps_cons (b := mp) (by repeat (first | exact find_head | apply find_tail)) rfl (keeps_cons (b := bp) (by repeat (first | exact find_head | apply find_tail)) rfl keeps_nil)) he9) rfl keeps_self ⟨rfl, rfl⟩) | (have he9 := sent_3a (s := s) (st := st) (bn := bn) (k := k) (off := off) (n := n) (f := f9) (by omega) ⟨by omega, by omega, by omega⟩ (by omega) (by assumption); refine f_end0 (F' := [(mp, C (encM (sentM s k off n) st sk bp) 69), (bp, C (bdL bu (sentN s st bn k off n) bv) 85)]) hl (has_two (bn := bn) hh (keeps_cons (b := mp) (by repeat (first | exact find_head | apply find_tail)) rfl (keeps_cons (b := bp) (by repeat (first | exact find_head | apply find_tail)) rfl keeps_nil)) he9) rfl keeps_self ⟨rfl, rfl⟩) | (have he9 := sent_3b (s := s) (st := st) (bn := bn) (k := k) (off := off) (n := n) (f := f9) (by omega) ⟨by omega, by omega, by omega⟩ (by omega) (by assumption); refine f_end0 (F' := [(mp, C (encM (sentM s k off n) st sk bp) 69), (bp, C (bdL bu (sentN s st bn k off n) bv) 85)]) hl (has_two (bn := bn) hh (keeps_cons (b := mp) (by repeat (first | exact find_head | apply find_tail)) rfl (keeps_cons (b := bp) (by repeat (first | exact find_head | apply find_tail)) rfl keeps_nil)) he9) rfl keeps_self ⟨rfl, rfl⟩) | (have he9 := sent_4 (s := s) (st := st) (bn := bn) (k := k) (off := off) (n := n) (by omega) (by omega) (by omega); refine f_end0 (F' := [(mp, C (encM (sentM s k off n) st sk bp) 69), (bp, C (bdL bu (sentN s st bn k off n) bv) 85)]) hl (has_two (bn := bn) hh (keeps_cons (b := mp) (by repeat (first | exact find_head | apply find_tail)) rfl (keeps_cons (b := bp) (by repeat (first | exact find_head | apply find_tail)) rfl keeps_nil)) he9) rfl keeps_self ⟨rfl, rfl⟩) | (have he9 := sent_4 (s := s) (st := st) (bn := bn) (k := k) (off := off) (n := n) (by omega) (fun h9 => not_inF (by omega) h9.2) (fun h9 => not_inF (by omega) h9.2); refine f_end0 (F' := [(mp, C (encM (sentM s k off n) st sk bp) 69), (bp, C (bdL bu (sentN s st bn k off n) bv) 85)]) hl (has_two (bn := bn) hh (keeps_cons (b := mp) (by repeat (first | exact find_head | apply find_tail)) rfl (keeps_cons (b := bp) (by repeat (first | exact find_head | apply find_tail)) rfl keeps_nil)) he9) rfl keeps_self ⟨rfl, rfl⟩)
                · intro hc3
                  try simp only [decide_eq_true_eq, decide_eq_false_iff_not, Bool.not_eq_true', Bool.not_eq_false', Bool.not_eq_true, Bool.not_eq_false, Bool.and_eq_true, Bool.or_eq_true, Bool.and_eq_false_iff, Bool.or_eq_false_iff, Bool.not_not, ne_eq, Int.not_lt, Int.not_le, Decidable.not_not, beq_iff_eq, bne_iff_ne] at hc3
                  obtain ⟨f9, hf9⟩ : ∃ z, z = s.forced := ⟨_, rfl⟩
                  replace hh : Has _ w0 [(mp, C (encM ({ s with forced := f9 }) st sk bp) 69), (k3, C [.int .u8 k, .int .i64 off, .int .i64 n] 42), (bp, C (bdL bu bn bv) 85)] w := hh.keep (keeps_cons (b := mp) (by repeat (first | exact find_head | apply find_tail)) (by rw [hf9]) (keeps_cons (b := k3) (by repeat (first | exact find_head | apply find_tail)) rfl (keeps_cons (b := bp) (by repeat (first | exact find_head | apply find_tail)) rfl keeps_nil)))
                  refine wp_skip ?_
                  refine then_normal ?_
                  refine c_draw [(mp, C (encM ({ s with forced := f9 }) st sk bp) 69), (k3, C [.int .u8 k, .int .i64 off, .int .i64 n] 42)] [11, 12, 13] mixed hh ?_
                  clear hh w; intro w hh
                  have hM : Mem [(mp, C (encM ({ s with forced := f9 }) st sk bp) 69), (k3, C [.int .u8 k, .int .i64 off, .int .i64 n] 42)] w := (by (repeat (first | exact Mem.nil | refine Mem.cons hh.mem (by (repeat (first | exact find_head | apply find_tail)); done) ?_ | refine Mem.consR hh (by assumption) (by simp) ?_ | fail)); done)
                  refine d_take (i := 0) hl rfl (by kernel_rfl) (by kernel_rfl) (by kernel_rfl) (by kernel_rfl) (by kernel_rfl) rfl trivial (fun _ _ _ h => h) hM (fun w hC => r_move hl rfl) rfl ?_
                  clear hl a; intro a hl
                  refine d_take (i := 1) hl rfl (by kernel_rfl) (by kernel_rfl) (by kernel_rfl) (by kernel_rfl) (by kernel_rfl) rfl trivial (fun _ _ _ h => h) hM (fun w hC => r_move hl rfl) rfl ?_
                  clear hl a; intro a hl
                  refine d_take (i := 2) hl rfl (by kernel_rfl) (by kernel_rfl) (by kernel_rfl) (by kernel_rfl) (by kernel_rfl) rfl trivial (fun _ _ _ h => h) hM (fun w hC => r_nilCheck hl rfl) rfl ?_
                  clear hl a; intro a hl
                  refine d_take (i := 3) hl rfl (by kernel_rfl) (by kernel_rfl) (by kernel_rfl) (by kernel_rfl) (by kernel_rfl) rfl trivial (fun _ _ _ h => h) hM (fun w hC => r_field hl rfl fld69_12) rfl ?_
                  clear hl a; intro a hl
                  refine d_take (i := 4) hl rfl (by kernel_rfl) (by kernel_rfl) (by kernel_rfl) (by kernel_rfl) (by kernel_rfl) rfl trivial (fun _ _ _ h => h) hM (fun w hC => r_loadC hl rfl one2 hC (by repeat (first | exact find_head | apply find_tail)) (by first | rfl)) rfl ?_
                  clear hl a; intro a hl
                  refine d_take (i := 5) hl rfl (by kernel_rfl) (by kernel_rfl) (by kernel_rfl) (by kernel_rfl) (by kernel_rfl) rfl trivial (fun _ _ _ h => h) hM (fun w hC => r_field hl rfl fld42_1) rfl ?_
                  clear hl a; intro a hl
                  refine d_take (i := 6) hl rfl (by kernel_rfl) (by kernel_rfl) (by kernel_rfl) (by kernel_rfl) (by kernel_rfl) rfl trivial (fun _ _ _ h => h) hM (fun w hC => r_loadC hl rfl one2 hC (by repeat (first | exact find_head | apply find_tail)) (by first | rfl)) rfl ?_
                  clear hl a; intro a hl
                  refine d_take (i := 7) hl rfl (by kernel_rfl) (by kernel_rfl) (by kernel_rfl) (by kernel_rfl) (by kernel_rfl) rfl trivial (fun _ _ _ h => h) hM (fun w hC => r_field hl rfl fld42_2) rfl ?_
                  clear hl a; intro a hl
                  refine d_take (i := 8) hl rfl (by kernel_rfl) (by kernel_rfl) (by kernel_rfl) (by kernel_rfl) (by kernel_rfl) rfl trivial (fun _ _ _ h => h) hM (fun w hC => r_loadC hl rfl one2 hC (by repeat (first | exact find_head | apply find_tail)) (by first | rfl)) rfl ?_
                  clear hl a; intro a hl
                  first | refine d_take (i := 9) hl rfl (by kernel_rfl) (by kernel_rfl) (by kernel_rfl) (by kernel_rfl) (by kernel_rfl) rfl trivial (fun _ _ _ h => h) hM (fun w hC => r_add hl rfl rfl (by simp only [Fits]; omega)) rfl ?_ | refine d_take (i := 9) hl rfl (by kernel_rfl) (by kernel_rfl) (by kernel_rfl) (by kernel_rfl) (by kernel_rfl) rfl trivial (fun _ _ _ h => h) hM (fun w hC => r_addW hl rfl rfl) rfl ?_
                  clear hl a; intro a hl
                  refine d_take (i := 10) hl rfl (by kernel_rfl) (by kernel_rfl) (by kernel_rfl) (by kernel_rfl) (by kernel_rfl) rfl trivial (fun _ _ _ h => h) hM (fun w hC => r_maxI hl rfl rfl) rfl ?_
                  clear hl a; intro a hl
                  refine d_takeL (i := 11) hl rfl (by kernel_rfl) (by kernel_rfl) (by kernel_rfl) (by kernel_rfl) (by kernel_rfl) rfl trivial (fun _ _ _ h => h) (fun w => r_nilCheck hl rfl) rfl ?_
                  clear hl a; intro a hl
                  refine d_takeL (i := 12) hl rfl (by kernel_rfl) (by kernel_rfl) (by kernel_rfl) (by kernel_rfl) (by kernel_rfl) rfl trivial (fun _ _ _ h => h) (fun w => r_field hl rfl fld69_12) rfl ?_
                  clear hl a; intro a hl
                  refine d_one (i := 13) (by kernel_rfl) rfl ?_
                  try clear hM
                  refine id (w_store hl hh trivial one2 rfl rfl (by repeat (first | exact find_head | apply find_tail)) (by first | (simp; done) | (simp; omega)) (by first | rfl | assumption | (apply Row.one; assumption)) (by first | (simp only [encM, setL, List.getElem?_cons_zero, List.getElem?_cons_succ, Value.cells, List.take_zero, List.take_succ_cons, List.take_nil, List.drop_zero, List.drop_succ_cons, List.drop_nil, List.length_cons, List.length_nil, List.cons_append, List.nil_append, List.append_nil, Nat.zero_add, Nat.add_zero, Nat.reduceAdd, Nat.reduceBEq, Nat.reduceEqDiff, Nat.ble, BEq.rfl, Bool.and_true, Bool.and_self, cond_true, beq_self_eq_true]; rfl) | (simp only [setL, List.getElem?_cons_zero, List.getElem?_cons_succ, Value.cells, List.take_zero, List.take_succ_cons, List.take_nil, List.drop_zero, List.drop_succ_cons, List.drop_nil, List.length_cons, List.length_nil, List.cons_append, List.nil_append, List.append_nil, Nat.zero_add, Nat.add_zero, Nat.reduceAdd, Nat.reduceBEq, Nat.reduceEqDiff, Nat.ble, BEq.rfl, Bool.and_true, Bool.and_self, cond_true, beq_self_eq_true]; rfl)) ?_)
                  clear hh w; intro w hh
                  refine d_step (fun h => absurd h (by decide)) ?_
                  refine d_done (by kernel_rfl) ?_
                  try clear hM
                  have hl2 := hl.nil; clear hl; have hl := hl2; clear hl2
                  refine blk_normal ?_
                  first | (exfalso; omega) | (have he9 := sent_1 (s := s) (st := st) (bn := bn) (k := k) (off := off) (n := n) ⟨by omega, by omega, by omega⟩; refine f_end0 (F' := [(mp, C (encM (sentM s k off n) st sk bp) 69), (bp, C (bdL bu (sentN s st bn k off n) bv) 85)]) hl (has_two (bn := bn) hh (keeps_cons (b := mp) (by repeat (first | exact find_head | apply find_tail)) rfl (keeps_cons (b := bp) (by repeat (first | exact find_head | apply find_tail)) rfl keeps_nil)) he9) rfl keeps_self ⟨rfl, rfl⟩) | (have he9 := sent_2 (s := s) (st := st) (bn := bn) (k := k) (off := off) (n := n) (by omega) ⟨by omega, by omega, by omega⟩; refine f_end0 (F' := [(mp, C (encM (sentM s k off n) st sk bp) 69), (bp, C (bdL bu (sentN s st bn k off n) bv) 85)]) hl (has_two (bn := bn) hh (keeps_cons (b := mp) (by repeat (first | exact find_head | apply find_tail)) rfl (keeps_cons (b := bp) (by repeat (first | exact find_head | apply find_tail)) rfl keeps_nil)) he9) rfl keeps_self ⟨rfl, rfl⟩) | (have he9 := sent_3a (s := s) (st := st) (bn := bn) (k := k) (off := off) (n := n) (f := f9) (by omega) ⟨by omega, by omega, by omega⟩ (by omega) (by assumption); refine f_end0 (F' := [(mp, C (encM (sentM s k off n) st sk bp) 69), (bp, C (bdL bu (sentN s st bn k off n) bv) 85)]) hl (has_two (bn := bn) hh (keeps_cons (b := mp) (by repeat (first | exact find_head | apply find_tail)) rfl (keeps_cons (b := bp) (by repeat (first | exact find_head | apply find_tail)) rfl keeps_nil)) he9) rfl keeps_self ⟨rfl, rfl⟩) | (have he9 := sent_3b (s := s) (st := st) (bn := bn) (k := k) (off := off) (n := n) (f := f9) (by omega) ⟨by omega, by omega, by omega⟩ (by omega) (by assumption); refine f_end0 (F' := [(mp, C (encM (sentM s k off n) st sk bp) 69), (bp, C (bdL bu (sentN s st bn k off n) bv) 85)]) hl (has_two (bn := bn) hh (keeps_cons (b := mp) (by repeat (first | exact find_head | apply find_tail)) rfl (keeps_cons (b := bp) (by repeat (first | exact find_head | apply find_tail)) rfl keeps_nil)) he9) rfl keeps_self ⟨rfl, rfl⟩) | (have he9 := sent_4 (s := s) (st := st) (bn := bn) (k := k) (off := off) (n := n) (by omega) (by omega) (by omega); refine f_end0 (F' := [(mp, C (encM (sentM s k off n) st sk bp) 69), (bp, C (bdL bu (sentN s st bn k off n) bv) 85)]) hl (has_two (bn := bn) hh (keeps_cons (b := mp) (by repeat (first | exact find_head | apply find_tail)) rfl (keeps_cons (b := bp) (by repeat (first | exact find_head | apply find_tail)) rfl keeps_nil)) he9) rfl keeps_self ⟨rfl, rfl⟩) | (have he9 := sent_4 (s := s) (st := st) (bn := bn) (k := k) (off := off) (n := n) (by omega) (fun h9 => not_inF (by omega) h9.2) (fun h9 => not_inF (by omega) h9.2); refine f_end0 (F' := [(mp, C (encM (sentM s k off n) st sk bp) 69), (bp, C (bdL bu (sentN s st bn k off n) bv) 85)]) hl (has_two (bn := bn) hh (keeps_cons (b := mp) (by repeat (first | exact find_head | apply find_tail)) rfl (keeps_cons (b := bp) (by repeat (first | exact find_head | apply find_tail)) rfl keeps_nil)) he9) rfl keeps_self ⟨rfl, rfl⟩)
              · intro hc2
                try simp only [decide_eq_true_eq, decide_eq_false_iff_not, Bool.not_eq_true', Bool.not_eq_false', Bool.not_eq_true, Bool.not_eq_false, Bool.and_eq_true, Bool.or_eq_true, Bool.and_eq_false_iff, Bool.or_eq_false_iff, Bool.not_not, ne_eq, Int.not_lt, Int.not_le, Decidable.not_not, beq_iff_eq, bne_iff_ne] at hc2
                refine wp_skip ?_
                refine blk_normal ?_
                first | (exfalso; omega) | (have he9 := sent_1 (s := s) (st := st) (bn := bn) (k := k) (off := off) (n := n) ⟨by omega, by omega, by omega⟩; refine f_end0 (F' := [(mp, C (encM (sentM s k off n) st sk bp) 69), (bp, C (bdL bu (sentN s st bn k off n) bv) 85)]) hl (has_two (bn := bn) hh (keeps_cons (b := mp) (by repeat (first | exact find_head | apply find_tail)) rfl (keeps_cons (b := bp) (by repeat (first | exact find_head | apply find_tail)) rfl keeps_nil)) he9) rfl keeps_self ⟨rfl, rfl⟩) | (have he9 := sent_2 (s := s) (st := st) (bn := bn) (k := k) (off := off) (n := n) (by omega) ⟨by omega, by omega, by omega⟩; refine f_end0 (F' := [(mp, C (encM (sentM s k off n) st sk bp) 69), (bp, C (bdL bu (sentN s st bn k off n) bv) 85)]) hl (has_two (bn := bn) hh (keeps_cons (b := mp) (by repeat (first | exact find_head | apply find_tail)) rfl (keeps_cons (b := bp) (by repeat (first | exact find_head | apply find_tail)) rfl keeps_nil)) he9) rfl keeps_self ⟨rfl, rfl⟩) | (have he9 := sent_3a (s := s) (st := st) (bn := bn) (k := k) (off := off) (n := n) (f := f9) (by omega) ⟨by omega, by omega, by omega⟩ (by omega) (by assumption); refine f_end0 (F' := [(mp, C (encM (sentM s k off n) st sk bp) 69), (bp, C (bdL bu (sentN s st bn k off n) bv) 85)]) hl (has_two (bn := bn) hh (keeps_cons (b := mp) (by repeat (first | exact find_head | apply find_tail)) rfl (keeps_cons (b := bp) (by repeat (first | exact find_head | apply find_tail)) rfl keeps_nil)) he9) rfl keeps_self ⟨rfl, rfl⟩) | (have he9 := sent_3b (s := s) (st := st) (bn := bn) (k := k) (off := off) (n := n) (f := f9) (by omega) ⟨by omega, by omega, by omega⟩ (by omega) (by assumption); refine f_end0 (F' := [(mp, C (encM (sentM s k off n) st sk bp) 69), (bp, C (bdL bu (sentN s st bn k off n) bv) 85)]) hl (has_two (bn := bn) hh (keeps_cons (b := mp) (by repeat (first | exact find_head | apply find_tail)) rfl (keeps_cons (b := bp) (by repeat (first | exact find_head | apply find_tail)) rfl keeps_nil)) he9) rfl keeps_self ⟨rfl, rfl⟩) | (have he9 := sent_4 (s := s) (st := st) (bn := bn) (k := k) (off := off) (n := n) (by omega) (by omega) (by omega); refine f_end0 (F' := [(mp, C (encM (sentM s k off n) st sk bp) 69), (bp, C (bdL bu (sentN s st bn k off n) bv) 85)]) hl (has_two (bn := bn) hh (keeps_cons (b := mp) (by repeat (first | exact find_head | apply find_tail)) rfl (keeps_cons (b := bp) (by repeat (first | exact find_head | apply find_tail)) rfl keeps_nil)) he9) rfl keeps_self ⟨rfl, rfl⟩) | (have he9 := sent_4 (s := s) (st := st) (bn := bn) (k := k) (off := off) (n := n) (by omega) (fun h9 => not_inF (by omega) h9.2) (fun h9 => not_inF (by omega) h9.2); refine f_end0 (F' := [(mp, C (encM (sentM s k off n) st sk bp) 69), (bp, C (bdL bu (sentN s st bn k off n) bv) 85)]) hl (has_two (bn := bn) hh (keeps_cons (b := mp) (by repeat (first | exact find_head | apply find_tail)) rfl (keeps_cons (b := bp) (by repeat (first | exact find_head | apply find_tail)) rfl keeps_nil)) he9) rfl keeps_self ⟨rfl, rfl⟩)
            · intro hg12; clear hl; intro hl
              try simp only [decide_eq_true_eq, decide_eq_false_iff_not, Bool.not_eq_true', Bool.not_eq_false', Bool.not_eq_true, Bool.not_eq_false, Bool.and_eq_true, Bool.or_eq_true, Bool.and_eq_false_iff, Bool.or_eq_false_iff, Bool.not_not, ne_eq, Int.not_lt, Int.not_le, Decidable.not_not, beq_iff_eq, bne_iff_ne] at hg12
              refine wl (wl_skip hl rfl ⟨_, _, rfl, rfl, rfl⟩ ?_)
              clear hl a; intro a hl
              refine wl (wl_val hl rfl trivial (r_pickF hl rfl rfl) ?_)
              clear hl a; intro a hl
              refine wl (wl_val hl rfl trivial (r_assign hl rfl) ?_)
              clear hl a; intro a hl
              refine w_nil ?_
              have hl2 := hl.add (t := 0) (hl.add (t := 3) (hl.add (t := 87) (hl.nil) rfl) rfl) rfl; clear hl; have hl := hl2; clear hl2
              refine then_normal ?_
              refine c_condF hl rfl ?_
              refine wp_skip ?_
              refine blk_normal ?_
              first | (exfalso; omega) | (have he9 := sent_1 (s := s) (st := st) (bn := bn) (k := k) (off := off) (n := n) ⟨by omega, by omega, by omega⟩; refine f_end0 (F' := [(mp, C (encM (sentM s k off n) st sk bp) 69), (bp, C (bdL bu (sentN s st bn k off n) bv) 85)]) hl (has_two (bn := bn) hh (keeps_cons (b := mp) (by repeat (first | exact find_head | apply find_tail)) rfl (keeps_cons (b := bp) (by repeat (first | exact find_head | apply find_tail)) rfl keeps_nil)) he9) rfl keeps_self ⟨rfl, rfl⟩) | (have he9 := sent_2 (s := s) (st := st) (bn := bn) (k := k) (off := off) (n := n) (by omega) ⟨by omega, by omega, by omega⟩; refine f_end0 (F' := [(mp, C (encM (sentM s k off n) st sk bp) 69), (bp, C (bdL bu (sentN s st bn k off n) bv) 85)]) hl (has_two (bn := bn) hh (keeps_cons (b := mp) (by repeat (first | exact find_head | apply find_tail)) rfl (keeps_cons (b := bp) (by repeat (first | exact find_head | apply find_tail)) rfl keeps_nil)) he9) rfl keeps_self ⟨rfl, rfl⟩) | (have he9 := sent_3a (s := s) (st := st) (bn := bn) (k := k) (off := off) (n := n) (f := f9) (by omega) ⟨by omega, by omega, by omega⟩ (by omega) (by assumption); refine f_end0 (F' := [(mp, C (encM (sentM s k off n) st sk bp) 69), (bp, C (bdL bu (sentN s st bn k off n) bv) 85)]) hl (has_two (bn := bn) hh (keeps_cons (b := mp) (by repeat (first | exact find_head | apply find_tail)) rfl (keeps_cons (b := bp) (by repeat (first | exact find_head | apply find_tail)) rfl keeps_nil)) he9) rfl keeps_self ⟨rfl, rfl⟩) | (have he9 := sent_3b (s := s) (st := st) (bn := bn) (k := k) (off := off) (n := n) (f := f9) (by omega) ⟨by omega, by omega, by omega⟩ (by omega) (by assumption); refine f_end0 (F' := [(mp, C (encM (sentM s k off n) st sk bp) 69), (bp, C (bdL bu (sentN s st bn k off n) bv) 85)]) hl (has_two (bn := bn) hh (keeps_cons (b := mp) (by repeat (first | exact find_head | apply find_tail)) rfl (keeps_cons (b := bp) (by repeat (first | exact find_head | apply find_tail)) rfl keeps_nil)) he9) rfl keeps_self ⟨rfl, rfl⟩) | (have he9 := sent_4 (s := s) (st := st) (bn := bn) (k := k) (off := off) (n := n) (by omega) (by omega) (by omega); refine f_end0 (F' := [(mp, C (encM (sentM s k off n) st sk bp) 69), (bp, C (bdL bu (sentN s st bn k off n) bv) 85)]) hl (has_two (bn := bn) hh (keeps_cons (b := mp) (by repeat (first | exact find_head | apply find_tail)) rfl (keeps_cons (b := bp) (by repeat (first | exact find_head | apply find_tail)) rfl keeps_nil)) he9) rfl keeps_self ⟨rfl, rfl⟩) | (have he9 := sent_4 (s := s) (st := st) (bn := bn) (k := k) (off := off) (n := n) (by omega) (fun h9 => not_inF (by omega) h9.2) (fun h9 => not_inF (by omega) h9.2); refine f_end0 (F' := [(mp, C (encM (sentM s k off n) st sk bp) 69), (bp, C (bdL bu (sentN s st bn k off n) bv) 85)]) hl (has_two (bn := bn) hh (keeps_cons (b := mp) (by repeat (first | exact find_head | apply find_tail)) rfl (keeps_cons (b := bp) (by repeat (first | exact find_head | apply find_tail)) rfl keeps_nil)) he9) rfl keeps_self ⟨rfl, rfl⟩)
        · intro hg11; clear hl; intro hl
          try simp only [decide_eq_true_eq, decide_eq_false_iff_not, Bool.not_eq_true', Bool.not_eq_false', Bool.not_eq_true, Bool.not_eq_false, Bool.and_eq_true, Bool.or_eq_true, Bool.and_eq_false_iff, Bool.or_eq_false_iff, Bool.not_not, ne_eq, Int.not_lt, Int.not_le, Decidable.not_not, beq_iff_eq, bne_iff_ne] at hg11
          refine wl (wl_skip hl rfl ⟨_, _, rfl, rfl, rfl⟩ ?_)
          clear hl a; intro a hl
          refine wl (wl_val hl rfl trivial (r_pickF hl rfl rfl) ?_)
          clear hl a; intro a hl
          refine wl (wl_val hl rfl trivial (r_assign hl rfl) ?_)
          clear hl a; intro a hl
          refine w_nil ?_
          have hl2 := hl.add (t := 0) (hl.add (t := 3) (hl.add (t := 4) (hl.add (t := 77) (hl.nil) rfl) rfl) rfl) rfl; clear hl; have hl := hl2; clear hl2
          refine then_normal ?_
          refine c_condF hl rfl ?_
          refine c_seq ?_
          refine c_region ?_
          refine wl (wl_val hl rfl trivial (r_field hl rfl fld42_0) ?_)
          clear hl a; intro a hl
          refine wl (w_load hl hh rfl trivial one38 rfl (by repeat (first | exact find_head | apply find_tail)) (by first | rfl) ?_)
          clear hl a; intro a hl
          refine wl (wl_val hl rfl trivial (r_eql hl rfl rfl) ?_)
          clear hl a; intro a hl
          refine wl (wl_val hl rfl trivial (r_move hl rfl) ?_)
          clear hl a; intro a hl
          refine sl_split (t := 91) hl rfl ?_ ?_
          · intro hg13; clear hl; intro hl
            try simp only [decide_eq_true_eq, decide_eq_false_iff_not, Bool.not_eq_true', Bool.not_eq_false', Bool.not_eq_true, Bool.not_eq_false, Bool.and_eq_true, Bool.or_eq_true, Bool.and_eq_false_iff, Bool.or_eq_false_iff, Bool.not_not, ne_eq, Int.not_lt, Int.not_le, Decidable.not_not, beq_iff_eq, bne_iff_ne] at hg13
            refine wl (wl_val hl rfl ⟨_, _, rfl, rfl, rfl⟩ (r_move hl rfl) ?_)
            clear hl a; intro a hl
            refine wl (wl_val hl rfl trivial (r_pickT hl rfl rfl) ?_)
            clear hl a; intro a hl
            refine wl (wl_val hl rfl trivial (r_assign hl rfl) ?_)
            clear hl a; intro a hl
            refine w_nil ?_
            have hl2 := hl.add (t := 0) (hl.add (t := 3) (hl.add (t := 87) (hl.nil) rfl) rfl) rfl; clear hl; have hl := hl2; clear hl2
            refine then_normal ?_
            refine c_cond hl rfl ?_ ?_
            · intro hc2
              try simp only [decide_eq_true_eq, decide_eq_false_iff_not, Bool.not_eq_true', Bool.not_eq_false', Bool.not_eq_true, Bool.not_eq_false, Bool.and_eq_true, Bool.or_eq_true, Bool.and_eq_false_iff, Bool.or_eq_false_iff, Bool.not_not, ne_eq, Int.not_lt, Int.not_le, Decidable.not_not, beq_iff_eq, bne_iff_ne] at hc2
              refine c_seq ?_
              refine c_seq ?_
              refine c_draw [(mp, C (encM (s) st sk bp) 69), (k3, C [.int .u8 k, .int .i64 off, .int .i64 n] 42)] [6] mixed hh ?_
              clear hh w; intro w hh
              have hM : Mem [(mp, C (encM (s) st sk bp) 69), (k3, C [.int .u8 k, .int .i64 off, .int .i64 n] 42)] w := (by (repeat (first | exact Mem.nil | refine Mem.cons hh.mem (by (repeat (first | exact find_head | apply find_tail)); done) ?_ | refine Mem.consR hh (by assumption) (by simp) ?_ | fail)); done)
              refine d_take (i := 0) hl rfl (by kernel_rfl) (by kernel_rfl) (by kernel_rfl) (by kernel_rfl) (by kernel_rfl) rfl trivial (fun _ _ _ h => h) hM (fun w hC => r_field hl rfl fld42_1) rfl ?_
              clear hl a; intro a hl
              refine d_take (i := 1) hl rfl (by kernel_rfl) (by kernel_rfl) (by kernel_rfl) (by kernel_rfl) (by kernel_rfl) rfl trivial (fun _ _ _ h => h) hM (fun w hC => r_loadC hl rfl one2 hC (by repeat (first | exact find_head | apply find_tail)) (by first | rfl)) rfl ?_
              clear hl a; intro a hl
              refine d_take (i := 2) hl rfl (by kernel_rfl) (by kernel_rfl) (by kernel_rfl) (by kernel_rfl) (by kernel_rfl) rfl trivial (fun _ _ _ h => h) hM (fun w hC => r_move hl rfl) rfl ?_
              clear hl a; intro a hl
              refine d_take (i := 3) hl rfl (by kernel_rfl) (by kernel_rfl) (by kernel_rfl) (by kernel_rfl) (by kernel_rfl) rfl trivial (fun _ _ _ h => h) hM (fun w hC => r_nilCheck hl rfl) rfl ?_
              clear hl a; intro a hl
              refine d_take (i := 4) hl rfl (by kernel_rfl) (by kernel_rfl) (by kernel_rfl) (by kernel_rfl) (by kernel_rfl) rfl trivial (fun _ _ _ h => h) hM (fun w hC => r_field hl rfl fld69_8) rfl ?_
              clear hl a; intro a hl
              refine d_take (i := 5) hl rfl (by kernel_rfl) (by kernel_rfl) (by kernel_rfl) (by kernel_rfl) (by kernel_rfl) rfl trivial (fun _ _ _ h => h) hM (fun w hC => r_loadC hl rfl one2 hC (by repeat (first | exact find_head | apply find_tail)) (by first | rfl)) rfl ?_
              clear hl a; intro a hl
              refine d_takeL (i := 6) hl rfl (by kernel_rfl) (by kernel_rfl) (by kernel_rfl) (by kernel_rfl) (by kernel_rfl) rfl trivial (fun _ _ _ h => h) (fun w => r_eql hl rfl rfl) rfl ?_
              clear hl a; intro a hl
              refine d_done (by kernel_rfl) ?_
              try clear hM
              have hl2 := hl.add (t := 0) (hl.add (t := 3) (hl.add (t := 100) (hl.nil) rfl) rfl) rfl; clear hl; have hl := hl2; clear hl2
              refine then_normal ?_
              refine c_cond hl rfl ?_ ?_
              · intro hc3
                try simp only [decide_eq_true_eq, decide_eq_false_iff_not, Bool.not_eq_true', Bool.not_eq_false', Bool.not_eq_true, Bool.not_eq_false, Bool.and_eq_true, Bool.or_eq_true, Bool.and_eq_false_iff, Bool.or_eq_false_iff, Bool.not_not, ne_eq, Int.not_lt, Int.not_le, Decidable.not_not, beq_iff_eq, bne_iff_ne] at hc3
                obtain ⟨f9, hf9⟩ : ∃ z, z = false := ⟨_, rfl⟩
                refine c_region ?_
                refine wl (wl_val hl rfl trivial (r_move hl rfl) ?_)
                clear hl a; intro a hl
                refine wl (wl_val hl rfl trivial (r_nilCheck hl rfl) ?_)
                clear hl a; intro a hl
                refine wl (wl_val hl rfl trivial (r_field hl rfl fld69_14) ?_)
                clear hl a; intro a hl
                refine wl (w_store hl hh trivial one4 rfl rfl (by repeat (first | exact find_head | apply find_tail)) (by first | (simp; done) | (simp; omega)) (by first | rfl | assumption | (apply Row.one; assumption)) (by first | (simp only [encM, setL, List.getElem?_cons_zero, List.getElem?_cons_succ, Value.cells, List.take_zero, List.take_succ_cons, List.take_nil, List.drop_zero, List.drop_succ_cons, List.drop_nil, List.length_cons, List.length_nil, List.cons_append, List.nil_append, List.append_nil, Nat.zero_add, Nat.add_zero, Nat.reduceAdd, Nat.reduceBEq, Nat.reduceEqDiff, Nat.ble, BEq.rfl, Bool.and_true, Bool.and_self, cond_true, beq_self_eq_true]; rfl) | (simp only [setL, List.getElem?_cons_zero, List.getElem?_cons_succ, Value.cells, List.take_zero, List.take_succ_cons, List.take_nil, List.drop_zero, List.drop_succ_cons, List.drop_nil, List.length_cons, List.length_nil, List.cons_append, List.nil_append, List.append_nil, Nat.zero_add, Nat.add_zero, Nat.reduceAdd, Nat.reduceBEq, Nat.reduceEqDiff, Nat.ble, BEq.rfl, Bool.and_true, Bool.and_self, cond_true, beq_self_eq_true]; rfl)) ?_)
                clear hh w; intro w hh
                refine w_nil ?_
                have hl2 := hl.add (t := 0) (hl.add (t := 3) (hl.nil) rfl) rfl; clear hl; have hl := hl2; clear hl2
                replace hh : Has _ w0 [(mp, C (encM ({ s with forced := f9 }) st sk bp) 69), (k3, C [.int .u8 k, .int .i64 off, .int .i64 n] 42), (bp, C (bdL bu bn bv) 85)] w := hh.keep (keeps_cons (b := mp) (by repeat (first | exact find_head | apply find_tail)) (by rw [hf9]; rfl) (keeps_cons (b := k3) (by repeat (first | exact find_head | apply find_tail)) rfl (keeps_cons (b := bp) (by repeat (first | exact find_head | apply find_tail)) rfl keeps_nil)))
                refine then_normal ?_
                refine c_draw [(mp, C (encM ({ s with forced := f9 }) st sk bp) 69), (k3, C [.int .u8 k, .int .i64 off, .int .i64 n] 42)] [11, 12, 13] mixed hh ?_
                clear hh w; intro w hh
                have hM : Mem [(mp, C (encM ({ s with forced := f9 }) st sk bp) 69), (k3, C [.int .u8 k, .int .i64 off, .int .i64 n] 42)] w := (by (repeat (first | exact Mem.nil | refine Mem.cons hh.mem (by (repeat (first | exact find_head | apply find_tail)); done) ?_ | refine Mem.consR hh (by assumption) (by simp) ?_ | fail)); done)
                refine d_take (i := 0) hl rfl (by kernel_rfl) (by kernel_rfl) (by kernel_rfl) (by kernel_rfl) (by kernel_rfl) rfl trivial (fun _ _ _ h => h) hM (fun w hC => r_move hl rfl) rfl ?_
                clear hl a; intro a hl
                refine d_take (i := 1) hl rfl (by kernel_rfl) (by kernel_rfl) (by kernel_rfl) (by kernel_rfl) (by kernel_rfl) rfl trivial (fun _ _ _ h => h) hM (fun w hC => r_move hl rfl) rfl ?_
                clear hl a; intro a hl
                refine d_take (i := 2) hl rfl (by kernel_rfl) (by kernel_rfl) (by kernel_rfl) (by kernel_rfl) (by kernel_rfl) rfl trivial (fun _ _ _ h => h) hM (fun w hC => r_nilCheck hl rfl) rfl ?_
                clear hl a; intro a hl
                refine d_take (i := 3) hl rfl (by kernel_rfl) (by kernel_rfl) (by kernel_rfl) (by kernel_rfl) (by kernel_rfl) rfl trivial (fun _ _ _ h => h) hM (fun w hC => r_field hl rfl fld69_12) rfl ?_
                clear hl a; intro a hl
                refine d_take (i := 4) hl rfl (by kernel_rfl) (by kernel_rfl) (by kernel_rfl) (by kernel_rfl) (by kernel_rfl) rfl trivial (fun _ _ _ h => h) hM (fun w hC => r_loadC hl rfl one2 hC (by repeat (first | exact find_head | apply find_tail)) (by first | rfl)) rfl ?_
                clear hl a; intro a hl
                refine d_take (i := 5) hl rfl (by kernel_rfl) (by kernel_rfl) (by kernel_rfl) (by kernel_rfl) (by kernel_rfl) rfl trivial (fun _ _ _ h => h) hM (fun w hC => r_field hl rfl fld42_1) rfl ?_
                clear hl a; intro a hl
                refine d_take (i := 6) hl rfl (by kernel_rfl) (by kernel_rfl) (by kernel_rfl) (by kernel_rfl) (by kernel_rfl) rfl trivial (fun _ _ _ h => h) hM (fun w hC => r_loadC hl rfl one2 hC (by repeat (first | exact find_head | apply find_tail)) (by first | rfl)) rfl ?_
                clear hl a; intro a hl
                refine d_take (i := 7) hl rfl (by kernel_rfl) (by kernel_rfl) (by kernel_rfl) (by kernel_rfl) (by kernel_rfl) rfl trivial (fun _ _ _ h => h) hM (fun w hC => r_field hl rfl fld42_2) rfl ?_
                clear hl a; intro a hl
                refine d_take (i := 8) hl rfl (by kernel_rfl) (by kernel_rfl) (by kernel_rfl) (by kernel_rfl) (by kernel_rfl) rfl trivial (fun _ _ _ h => h) hM (fun w hC => r_loadC hl rfl one2 hC (by repeat (first | exact find_head | apply find_tail)) (by first | rfl)) rfl ?_
                clear hl a; intro a hl
                first | refine d_take (i := 9) hl rfl (by kernel_rfl) (by kernel_rfl) (by kernel_rfl) (by kernel_rfl) (by kernel_rfl) rfl trivial (fun _ _ _ h => h) hM (fun w hC => r_add hl rfl rfl (by simp only [Fits]; omega)) rfl ?_ | refine d_take (i := 9) hl rfl (by kernel_rfl) (by kernel_rfl) (by kernel_rfl) (by kernel_rfl) (by kernel_rfl) rfl trivial (fun _ _ _ h => h) hM (fun w hC => r_addW hl rfl rfl) rfl ?_
                clear hl a; intro a hl
                refine d_take (i := 10) hl rfl (by kernel_rfl) (by kernel_rfl) (by kernel_rfl) (by kernel_rfl) (by kernel_rfl) rfl trivial (fun _ _ _ h => h) hM (fun w hC => r_maxI hl rfl rfl) rfl ?_
                clear hl a; intro a hl
                refine d_takeL (i := 11) hl rfl (by kernel_rfl) (by kernel_rfl) (by kernel_rfl) (by kernel_rfl) (by kernel_rfl) rfl trivial (fun _ _ _ h => h) (fun w => r_nilCheck hl rfl) rfl ?_
                clear hl a; intro a hl
                refine d_takeL (i := 12) hl rfl (by kernel_rfl) (by kernel_rfl) (by kernel_rfl) (by kernel_rfl) (by kernel_rfl) rfl trivial (fun _ _ _ h => h) (fun w => r_field hl rfl fld69_12) rfl ?_
                clear hl a; intro a hl
                refine d_one (i := 13) (by kernel_rfl) rfl ?_
                try clear hM
                refine id (w_store hl hh trivial one2 rfl rfl (by repeat (first | exact find_head | apply find_tail)) (by first | (simp; done) | (simp; omega)) (by first | rfl | assumption | (apply Row.one; assumption)) (by first | (simp only [encM, setL, List.getElem?_cons_zero, List.getElem?_cons_succ, Value.cells, List.take_zero, List.take_succ_cons, List.take_nil, List.drop_zero, List.drop_succ_cons, List.drop_nil, List.length_cons, List.length_nil, List.cons_append, List.nil_append, List.append_nil, Nat.zero_add, Nat.add_zero, Nat.reduceAdd, Nat.reduceBEq, Nat.reduceEqDiff, Nat.ble, BEq.rfl, Bool.and_true, Bool.and_self, cond_true, beq_self_eq_true]; rfl) | (simp only [setL, List.getElem?_cons_zero, List.getElem?_cons_succ, Value.cells, List.take_zero, List.take_succ_cons, List.take_nil, List.drop_zero, List.drop_succ_cons, List.drop_nil, List.length_cons, List.length_nil, List.cons_append, List.nil_append, List.append_nil, Nat.zero_add, Nat.add_zero, Nat.reduceAdd, Nat.reduceBEq, Nat.reduceEqDiff, Nat.ble, BEq.rfl, Bool.and_true, Bool.and_self, cond_true, beq_self_eq_true]; rfl)) ?_)
                clear hh w; intro w hh
                refine d_step (fun h => absurd h (by decide)) ?_
                refine d_done (by kernel_rfl) ?_
                try clear hM
                have hl2 := hl.nil; clear hl; have hl := hl2; clear hl2
                refine blk_normal ?_
                first | (exfalso; omega) | (have he9 := sent_1 (s := s) (st := st) (bn := bn) (k := k) (off := off) (n := n) ⟨by omega, by omega, by omega⟩; refine f_end0 (F' := [(mp, C (encM (sentM s k off n) st sk bp) 69), (bp, C (bdL bu (sentN s st bn k off n) bv) 85)]) hl (has_two (bn := bn) hh (keeps_cons (b := mp) (by repeat (first | exact find_head | apply find_tail)) rfl (keeps_cons (b := bp) (by repeat (first | exact find_head | apply find_tail)) rfl keeps_nil)) he9) rfl keeps_self ⟨rfl, rfl⟩) | (have he9 := sent_2 (s := s) (st := st) (bn := bn) (k := k) (off := off) (n := n) (by omega) ⟨by omega, by omega, by omega⟩; refine f_end0 (F' := [(mp, C (encM (sentM s k off n) st sk bp) 69), (bp, C (bdL bu (sentN s st bn k off n) bv) 85)]) hl (has_two (bn := bn) hh (keeps_cons (b := mp) (by repeat (first | exact find_head | apply find_tail)) rfl (keeps_cons (b := bp) (by repeat (first | exact find_head | apply find_tail)) rfl keeps_nil)) he9) rfl keeps_self ⟨rfl, rfl⟩) | (have he9 := sent_3a (s := s) (st := st) (bn := bn) (k := k) (off := off) (n := n) (f := f9) (by omega) ⟨by omega, by omega, by omega⟩ (by omega) (by assumption); refine f_end0 (F' := [(mp, C (encM (sentM s k off n) st sk bp) 69), (bp, C (bdL bu (sentN s st bn k off n) bv) 85)]) hl (has_two (bn := bn) hh (keeps_cons (b := mp) (by repeat (first | exact find_head | apply find_tail)) rfl (keeps_cons (b := bp) (by repeat (first | exact find_head | apply find_tail)) rfl keeps_nil)) he9) rfl keeps_self ⟨rfl, rfl⟩) | (have he9 := sent_3b (s := s) (st := st) (bn := bn) (k := k) (off := off) (n := n) (f := f9) (by omega) ⟨by omega, by omega, by omega⟩ (by omega) (by assumption); refine f_end0 (F' := [(mp, C (encM (sentM s k off n) st sk bp) 69), (bp, C (bdL bu (sentN s st bn k off n) bv) 85)]) hl (has_two (bn := bn) hh (keeps_cons (b := mp) (by repeat (first | exact find_head | apply find_tail)) rfl (keeps_cons (b := bp) (by repeat (first | exact find_head | apply find_tail)) rfl keeps_nil)) he9) rfl keeps_self ⟨rfl, rfl⟩) | (have he9 := sent_4 (s := s) (st := st) (bn := bn) (k := k) (off := off) (n := n) (by omega) (by omega) (by omega); refine f_end0 (F' := [(mp, C (encM (sentM s k off n) st sk bp) 69), (bp, C (bdL bu (sentN s st bn k off n) bv) 85)]) hl (has_two (bn := bn) hh (keeps_cons (b := mp) (by repeat (first | exact find_head | apply find_tail)) rfl (keeps_cons (b := bp) (by repeat (first | exact find_head | apply find_tail)) rfl keeps_nil)) he9) rfl keeps_self ⟨rfl, rfl⟩) | (have he9 := sent_4 (s := s) (st := st) (bn := bn) (k := k) (off := off) (n := n) (by omega) (fun h9 => not_inF (by omega) h9.2) (fun h9 => not_inF (by omega) h9.2); refine f_end0 (F' := [(mp, C (encM (sentM s k off n) st sk bp) 69), (bp, C (bdL bu (sentN s st bn k off n) bv) 85)]) hl (has_two (bn := bn) hh (keeps_cons (b := mp) (by repeat (first | exact find_head | apply find_tail)) rfl (keeps_cons (b := bp) (by repeat (first | exact find_head | apply find_tail)) rfl keeps_nil)) he9) rfl keeps_self ⟨rfl, rfl⟩)
              · intro hc3
                try simp only [decide_eq_true_eq, decide_eq_false_iff_not, Bool.not_eq_true', Bool.not_eq_false', Bool.not_eq_true, Bool.not_eq_false, Bool.and_eq_true, Bool.or_eq_true, Bool.and_eq_false_iff, Bool.or_eq_false_iff, Bool.not_not, ne_eq, Int.not_lt, Int.not_le, Decidable.not_not, beq_iff_eq, bne_iff_ne] at hc3
                obtain ⟨f9, hf9⟩ : ∃ z, z = s.forced := ⟨_, rfl⟩
                replace hh : Has _ w0 [(mp, C (encM ({ s with forced := f9 }) st sk bp) 69), (k3, C [.int .u8 k, .int .i64 off, .int .i64 n] 42), (bp, C (bdL bu bn bv) 85)] w := hh.keep (keeps_cons (b := mp) (by repeat (first | exact find_head | apply find_tail)) (by rw [hf9]) (keeps_cons (b := k3) (by repeat (first | exact find_head | apply find_tail)) rfl (keeps_cons (b := bp) (by repeat (first | exact find_head | apply find_tail)) rfl keeps_nil)))
                refine wp_skip ?_
                refine then_normal ?_
                refine c_draw [(mp, C (encM ({ s with forced := f9 }) st sk bp) 69), (k3, C [.int .u8 k, .int .i64 off, .int .i64 n] 42)] [11, 12, 13] mixed hh ?_
                clear hh w; intro w hh
                have hM : Mem [(mp, C (encM ({ s with forced := f9 }) st sk bp) 69), (k3, C [.int .u8 k, .int .i64 off, .int .i64 n] 42)] w := (by (repeat (first | exact Mem.nil | refine Mem.cons hh.mem (by (repeat (first | exact find_head | apply find_tail)); done) ?_ | refine Mem.consR hh (by assumption) (by simp) ?_ | fail)); done)
                refine d_take (i := 0) hl rfl (by kernel_rfl) (by kernel_rfl) (by kernel_rfl) (by kernel_rfl) (by kernel_rfl) rfl trivial (fun _ _ _ h => h) hM (fun w hC => r_move hl rfl) rfl ?_
                clear hl a; intro a hl
                refine d_take (i := 1) hl rfl (by kernel_rfl) (by kernel_rfl) (by kernel_rfl) (by kernel_rfl) (by kernel_rfl) rfl trivial (fun _ _ _ h => h) hM (fun w hC => r_move hl rfl) rfl ?_
                clear hl a; intro a hl
                refine d_take (i := 2) hl rfl (by kernel_rfl) (by kernel_rfl) (by kernel_rfl) (by kernel_rfl) (by kernel_rfl) rfl trivial (fun _ _ _ h => h) hM (fun w hC => r_nilCheck hl rfl) rfl ?_
                clear hl a; intro a hl
                refine d_take (i := 3) hl rfl (by kernel_rfl) (by kernel_rfl) (by kernel_rfl) (by kernel_rfl) (by kernel_rfl) rfl trivial (fun _ _ _ h => h) hM (fun w hC => r_field hl rfl fld69_12) rfl ?_
                clear hl a; intro a hl
                refine d_take (i := 4) hl rfl (by kernel_rfl) (by kernel_rfl) (by kernel_rfl) (by kernel_rfl) (by kernel_rfl) rfl trivial (fun _ _ _ h => h) hM (fun w hC => r_loadC hl rfl one2 hC (by repeat (first | exact find_head | apply find_tail)) (by first | rfl)) rfl ?_
                clear hl a; intro a hl
                refine d_take (i := 5) hl rfl (by kernel_rfl) (by kernel_rfl) (by kernel_rfl) (by kernel_rfl) (by kernel_rfl) rfl trivial (fun _ _ _ h => h) hM (fun w hC => r_field hl rfl fld42_1) rfl ?_
                clear hl a; intro a hl
                refine d_take (i := 6) hl rfl (by kernel_rfl) (by kernel_rfl) (by kernel_rfl) (by kernel_rfl) (by kernel_rfl) rfl trivial (fun _ _ _ h => h) hM (fun w hC => r_loadC hl rfl one2 hC (by repeat (first | exact find_head | apply find_tail)) (by first | rfl)) rfl ?_
                clear hl a; intro a hl
                refine d_take (i := 7) hl rfl (by kernel_rfl) (by kernel_rfl) (by kernel_rfl) (by kernel_rfl) (by kernel_rfl) rfl trivial (fun _ _ _ h => h) hM (fun w hC => r_field hl rfl fld42_2) rfl ?_
                clear hl a; intro a hl
                refine d_take (i := 8) hl rfl (by kernel_rfl) (by kernel_rfl) (by kernel_rfl) (by kernel_rfl) (by kernel_rfl) rfl trivial (fun _ _ _ h => h) hM (fun w hC => r_loadC hl rfl one2 hC (by repeat (first | exact find_head | apply find_tail)) (by first | rfl)) rfl ?_
                clear hl a; intro a hl
                first | refine d_take (i := 9) hl rfl (by kernel_rfl) (by kernel_rfl) (by kernel_rfl) (by kernel_rfl) (by kernel_rfl) rfl trivial (fun _ _ _ h => h) hM (fun w hC => r_add hl rfl rfl (by simp only [Fits]; omega)) rfl ?_ | refine d_take (i := 9) hl rfl (by kernel_rfl) (by kernel_rfl) (by kernel_rfl) (by kernel_rfl) (by kernel_rfl) rfl trivial (fun _ _ _ h => h) hM (fun w hC => r_addW hl rfl rfl) rfl ?_
                clear hl a; intro a hl
                refine d_take (i := 10) hl rfl (by kernel_rfl) (by kernel_rfl) (by kernel_rfl) (by kernel_rfl) (by kernel_rfl) rfl trivial (fun _ _ _ h => h) hM (fun w hC => r_maxI hl rfl rfl) rfl ?_
                clear hl a; intro a hl
                refine d_takeL (i := 11) hl rfl (by kernel_rfl) (by kernel_rfl) (by kernel_rfl) (by kernel_rfl) (by kernel_rfl) rfl trivial (fun _ _ _ h => h) (fun w => r_nilCheck hl rfl) rfl ?_
                clear hl a; intro a hl
                refine d_takeL (i := 12) hl rfl (by kernel_rfl) (by kernel_rfl) (by kernel_rfl) (by kernel_rfl) (by kernel_rfl) rfl trivial (fun _ _ _ h => h) (fun w => r_field hl rfl fld69_12) rfl ?_
                clear hl a; intro a hl
                refine d_one (i := 13) (by kernel_rfl) rfl ?_
                try clear hM
                refine id (w_store hl hh trivial one2 rfl rfl (by repeat (first | exact find_head | apply find_tail)) (by first | (simp; done) | (simp; omega)) (by first | rfl | assumption | (apply Row.one; assumption)) (by first | (simp only [encM, setL, List.getElem?_cons_zero, List.getElem?_cons_succ, Value.cells, List.take_zero, List.take_succ_cons, List.take_nil, List.drop_zero, List.drop_succ_cons, List.drop_nil, List.length_cons, List.length_nil, List.cons_append, List.nil_append, List.append_nil, Nat.zero_add, Nat.add_zero, Nat.reduceAdd, Nat.reduceBEq, Nat.reduceEqDiff, Nat.ble, BEq.rfl, Bool.and_true, Bool.and_self, cond_true, beq_self_eq_true]; rfl) | (simp only [setL, List.getElem?_cons_zero, List.getElem?_cons_succ, Value.cells, List.take_zero, List.take_succ_cons, List.take_nil, List.drop_zero, List.drop_succ_cons, List.drop_nil, List.length_cons, List.length_nil, List.cons_append, List.nil_append, List.append_nil, Nat.zero_add, Nat.add_zero, Nat.reduceAdd, Nat.reduceBEq, Nat.reduceEqDiff, Nat.ble, BEq.rfl, Bool.and_true, Bool.and_self, cond_true, beq_self_eq_true]; rfl)) ?_)
                clear hh w; intro w hh
                refine d_step (fun h => absurd h (by decide)) ?_
                refine d_done (by kernel_rfl) ?_
                try clear hM
                have hl2 := hl.nil; clear hl; have hl := hl2; clear hl2
                refine blk_normal ?_
                first | (exfalso; omega) | (have he9 := sent_1 (s := s) (st := st) (bn := bn) (k := k) (off := off) (n := n) ⟨by omega, by omega, by omega⟩; refine f_end0 (F' := [(mp, C (encM (sentM s k off n) st sk bp) 69), (bp, C (bdL bu (sentN s st bn k off n) bv) 85)]) hl (has_two (bn := bn) hh (keeps_cons (b := mp) (by repeat (first | exact find_head | apply find_tail)) rfl (keeps_cons (b := bp) (by repeat (first | exact find_head | apply find_tail)) rfl keeps_nil)) he9) rfl keeps_self ⟨rfl, rfl⟩) | (have he9 := sent_2 (s := s) (st := st) (bn := bn) (k := k) (off := off) (n := n) (by omega) ⟨by omega, by omega, by omega⟩; refine f_end0 (F' := [(mp, C (encM (sentM s k off n) st sk bp) 69), (bp, C (bdL bu (sentN s st bn k off n) bv) 85)]) hl (has_two (bn := bn) hh (keeps_cons (b := mp) (by repeat (first | exact find_head | apply find_tail)) rfl (keeps_cons (b := bp) (by repeat (first | exact find_head | apply find_tail)) rfl keeps_nil)) he9) rfl keeps_self ⟨rfl, rfl⟩) | (have he9 := sent_3a (s := s) (st := st) (bn := bn) (k := k) (off := off) (n := n) (f := f9) (by omega) ⟨by omega, by omega, by omega⟩ (by omega) (by assumption); refine f_end0 (F' := [(mp, C (encM (sentM s k off n) st sk bp) 69), (bp, C (bdL bu (sentN s st bn k off n) bv) 85)]) hl (has_two (bn := bn) hh (keeps_cons (b := mp) (by repeat (first | exact find_head | apply find_tail)) rfl (keeps_cons (b := bp) (by repeat (first | exact find_head | apply find_tail)) rfl keeps_nil)) he9) rfl keeps_self ⟨rfl, rfl⟩) | (have he9 := sent_3b (s := s) (st := st) (bn := bn) (k := k) (off := off) (n := n) (f := f9) (by omega) ⟨by omega, by omega, by omega⟩ (by omega) (by assumption); refine f_end0 (F' := [(mp, C (encM (sentM s k off n) st sk bp) 69), (bp, C (bdL bu (sentN s st bn k off n) bv) 85)]) hl (has_two (bn := bn) hh (keeps_cons (b := mp) (by repeat (first | exact find_head | apply find_tail)) rfl (keeps_cons (b := bp) (by repeat (first | exact find_head | apply find_tail)) rfl keeps_nil)) he9) rfl keeps_self ⟨rfl, rfl⟩) | (have he9 := sent_4 (s := s) (st := st) (bn := bn) (k := k) (off := off) (n := n) (by omega) (by omega) (by omega); refine f_end0 (F' := [(mp, C (encM (sentM s k off n) st sk bp) 69), (bp, C (bdL bu (sentN s st bn k off n) bv) 85)]) hl (has_two (bn := bn) hh (keeps_cons (b := mp) (by repeat (first | exact find_head | apply find_tail)) rfl (keeps_cons (b := bp) (by repeat (first | exact find_head | apply find_tail)) rfl keeps_nil)) he9) rfl keeps_self ⟨rfl, rfl⟩) | (have he9 := sent_4 (s := s) (st := st) (bn := bn) (k := k) (off := off) (n := n) (by omega) (fun h9 => not_inF (by omega) h9.2) (fun h9 => not_inF (by omega) h9.2); refine f_end0 (F' := [(mp, C (encM (sentM s k off n) st sk bp) 69), (bp, C (bdL bu (sentN s st bn k off n) bv) 85)]) hl (has_two (bn := bn) hh (keeps_cons (b := mp) (by repeat (first | exact find_head | apply find_tail)) rfl (keeps_cons (b := bp) (by repeat (first | exact find_head | apply find_tail)) rfl keeps_nil)) he9) rfl keeps_self ⟨rfl, rfl⟩)
            · intro hc2
              try simp only [decide_eq_true_eq, decide_eq_false_iff_not, Bool.not_eq_true', Bool.not_eq_false', Bool.not_eq_true, Bool.not_eq_false, Bool.and_eq_true, Bool.or_eq_true, Bool.and_eq_false_iff, Bool.or_eq_false_iff, Bool.not_not, ne_eq, Int.not_lt, Int.not_le, Decidable.not_not, beq_iff_eq, bne_iff_ne] at hc2
              refine wp_skip ?_
              refine blk_normal ?_
              first | (exfalso; omega) | (have he9 := sent_1 (s := s) (st := st) (bn := bn) (k := k) (off := off) (n := n) ⟨by omega, by omega, by omega⟩; refine f_end0 (F' := [(mp, C (encM (sentM s k off n) st sk bp) 69), (bp, C (bdL bu (sentN s st bn k off n) bv) 85)]) hl (has_two (bn := bn) hh (keeps_cons (b := mp) (by repeat (first | exact find_head | apply find_tail)) rfl (keeps_cons (b := bp) (by repeat (first | exact find_head | apply find_tail)) rfl keeps_nil)) he9) rfl keeps_self ⟨rfl, rfl⟩) | (have he9 := sent_2 (s := s) (st := st) (bn := bn) (k := k) (off := off) (n := n) (by omega) ⟨by omega, by omega, by omega⟩; refine f_end0 (F' := [(mp, C (encM (sentM s k off n) st sk bp) 69), (bp, C (bdL bu (sentN s st bn k off n) bv) 85)]) hl (has_two (bn := bn) hh (keeps_cons (b := mp) (by repeat (first | exact find_head | apply find_tail)) rfl (keeps_cons (b := bp) (by repeat (first | exact find_head | apply find_tail)) rfl keeps_nil)) he9) rfl keeps_self ⟨rfl, rfl⟩) | (have he9 := sent_3a (s := s) (st := st) (bn := bn) (k := k) (off := off) (n := n) (f := f9) (by omega) ⟨by omega, by omega, by omega⟩ (by omega) (by assumption); refine f_end0 (F' := [(mp, C (encM (sentM s k off n) st sk bp) 69), (bp, C (bdL bu (sentN s st bn k off n) bv) 85)]) hl (has_two (bn := bn) hh (keeps_cons (b := mp) (by repeat (first | exact find_head | apply find_tail)) rfl (keeps_cons (b := bp) (by repeat (first | exact find_head | apply find_tail)) rfl keeps_nil)) he9) rfl keeps_self ⟨rfl, rfl⟩) | (have he9 := sent_3b (s := s) (st := st) (bn := bn) (k := k) (off := off) (n := n) (f := f9) (by omega) ⟨by omega, by omega, by omega⟩ (by omega) (by assumption); refine f_end0 (F' := [(mp, C (encM (sentM s k off n) st sk bp) 69), (bp, C (bdL bu (sentN s st bn k off n) bv) 85)]) hl (has_two (bn := bn) hh (keeps_cons (b := mp) (by repeat (first | exact find_head | apply find_tail)) rfl (keeps_cons (b := bp) (by repeat (first | exact find_head | apply find_tail)) rfl keeps_nil)) he9) rfl keeps_self ⟨rfl, rfl⟩) | (have he9 := sent_4 (s := s) (st := st) (bn := bn) (k := k) (off := off) (n := n) (by omega) (by omega) (by omega); refine f_end0 (F' := [(mp, C (encM (sentM s k off n) st sk bp) 69), (bp, C (bdL bu (sentN s st bn k off n) bv) 85)]) hl (has_two (bn := bn) hh (keeps_cons (b := mp) (by repeat (first | exact find_head | apply find_tail)) rfl (keeps_cons (b := bp) (by repeat (first | exact find_head | apply find_tail)) rfl keeps_nil)) he9) rfl keeps_self ⟨rfl, rfl⟩) | (have he9 := sent_4 (s := s) (st := st) (bn := bn) (k := k) (off := off) (n := n) (by omega) (fun h9 => not_inF (by omega) h9.2) (fun h9 => not_inF (by omega) h9.2); refine f_end0 (F' := [(mp, C (encM (sentM s k off n) st sk bp) 69), (bp, C (bdL bu (sentN s st bn k off n) bv) 85)]) hl (has_two (bn := bn) hh (keeps_cons (b := mp) (by repeat (first | exact find_head | apply find_tail)) rfl (keeps_cons (b := bp) (by repeat (first | exact find_head | apply find_tail)) rfl keeps_nil)) he9) rfl keeps_self ⟨rfl, rfl⟩)
          · intro hg13; clear hl; intro hl
            try simp only [decide_eq_true_eq, decide_eq_false_iff_not, Bool.not_eq_true', Bool.not_eq_false', Bool.not_eq_true, Bool.not_eq_false, Bool.and_eq_true, Bool.or_eq_true, Bool.and_eq_false_iff, Bool.or_eq_false_iff, Bool.not_not, ne_eq, Int.not_lt, Int.not_le, Decidable.not_not, beq_iff_eq, bne_iff_ne] at hg13
            refine wl (wl_skip hl rfl ⟨_, _, rfl, rfl, rfl⟩ ?_)
            clear hl a; intro a hl
            refine wl (wl_val hl rfl trivial (r_pickF hl rfl rfl) ?_)
            clear hl a; intro a hl
            refine wl (wl_val hl rfl trivial (r_assign hl rfl) ?_)
            clear hl a; intro a hl
            refine w_nil ?_
            have hl2 := hl.add (t := 0) (hl.add (t := 3) (hl.add (t := 87) (hl.nil) rfl) rfl) rfl; clear hl; have hl := hl2; clear hl2
            refine then_normal ?_
            refine c_condF hl rfl ?_
            refine wp_skip ?_
            refine blk_normal ?_
            first | (exfalso; omega) | (have he9 := sent_1 (s := s) (st := st) (bn := bn) (k := k) (off := off) (n := n) ⟨by omega, by omega, by omega⟩; refine f_end0 (F' := [(mp, C (encM (sentM s k off n) st sk bp) 69), (bp, C (bdL bu (sentN s st bn k off n) bv) 85)]) hl (has_two (bn := bn) hh (keeps_cons (b := mp) (by repeat (first | exact find_head | apply find_tail)) rfl (keeps_cons (b := bp) (by repeat (first | exact find_head | apply find_tail)) rfl keeps_nil)) he9) rfl keeps_self ⟨rfl, rfl⟩) | (have he9 := sent_2 (s := s) (st := st) (bn := bn) (k := k) (off := off) (n := n) (by omega) ⟨by omega, by omega, by omega⟩; refine f_end0 (F' := [(mp, C (encM (sentM s k off n) st sk bp) 69), (bp, C (bdL bu (sentN s st bn k off n) bv) 85)]) hl (has_two (bn := bn) hh (keeps_cons (b := mp) (by repeat (first | exact find_head | apply find_tail)) rfl (keeps_cons (b := bp) (by repeat (first | exact find_head | apply find_tail)) rfl keeps_nil)) he9) rfl keeps_self ⟨rfl, rfl⟩) | (have he9 := sent_3a (s := s) (st := st) (bn := bn) (k := k) (off := off) (n := n) (f := f9) (by omega) ⟨by omega, by omega, by omega⟩ (by omega) (by assumption); refine f_end0 (F' := [(mp, C (encM (sentM s k off n) st sk bp) 69), (bp, C (bdL bu (sentN s st bn k off n) bv) 85)]) hl (has_two (bn := bn) hh (keeps_cons (b := mp) (by repeat (first | exact find_head | apply find_tail)) rfl (keeps_cons (b := bp) (by repeat (first | exact find_head | apply find_tail)) rfl keeps_nil)) he9) rfl keeps_self ⟨rfl, rfl⟩) | (have he9 := sent_3b (s := s) (st := st) (bn := bn) (k := k) (off := off) (n := n) (f := f9) (by omega) ⟨by omega, by omega, by omega⟩ (by omega) (by assumption); refine f_end0 (F' := [(mp, C (encM (sentM s k off n) st sk bp) 69), (bp, C (bdL bu (sentN s st bn k off n) bv) 85)]) hl (has_two (bn := bn) hh (keeps_cons (b := mp) (by repeat (first | exact find_head | apply find_tail)) rfl (keeps_cons (b := bp) (by repeat (first | exact find_head | apply find_tail)) rfl keeps_nil)) he9) rfl keeps_self ⟨rfl, rfl⟩) | (have he9 := sent_4 (s := s) (st := st) (bn := bn) (k := k) (off := off) (n := n) (by omega) (by omega) (by omega); refine f_end0 (F' := [(mp, C (encM (sentM s k off n) st sk bp) 69), (bp, C (bdL bu (sentN s st bn k off n) bv) 85)]) hl (has_two (bn := bn) hh (keeps_cons (b := mp) (by repeat (first | exact find_head | apply find_tail)) rfl (keeps_cons (b := bp) (by repeat (first | exact find_head | apply find_tail)) rfl keeps_nil)) he9) rfl keeps_self ⟨rfl, rfl⟩) | (have he9 := sent_4 (s := s) (st := st) (bn := bn) (k := k) (off := off) (n := n) (by omega) (fun h9 => not_inF (by omega) h9.2) (fun h9 => not_inF (by omega) h9.2); refine f_end0 (F' := [(mp, C (encM (sentM s k off n) st sk bp) 69), (bp, C (bdL bu (sentN s st bn k off n) bv) 85)]) hl (has_two (bn := bn) hh (keeps_cons (b := mp) (by repeat (first | exact find_head | apply find_tail)) rfl (keeps_cons (b := bp) (by repeat (first | exact find_head | apply find_tail)) rfl keeps_nil)) he9) rfl keeps_self ⟨rfl, rfl⟩)
    · intro hg2; clear hl; intro hl
      try simp only [decide_eq_true_eq, decide_eq_false_iff_not, Bool.not_eq_true', Bool.not_eq_false', Bool.not_eq_true, Bool.not_eq_false, Bool.and_eq_true, Bool.or_eq_true, Bool.and_eq_false_iff, Bool.or_eq_false_iff, Bool.not_not, ne_eq, Int.not_lt, Int.not_le, Decidable.not_not, beq_iff_eq, bne_iff_ne] at hg2
      refine d_skip (i := 13) hl rfl (by kernel_rfl) (by kernel_rfl) (by kernel_rfl) (by kernel_rfl) (by kernel_rfl) rfl ⟨_, _, rfl, rfl, rfl⟩ (fun _ _ _ h => h) hM ?_
      clear hl a; intro a hl
      refine d_skip (i := 14) hl rfl (by kernel_rfl) (by kernel_rfl) (by kernel_rfl) (by kernel_rfl) (by kernel_rfl) rfl ⟨_, _, rfl, rfl, rfl⟩ (fun _ _ _ h => h) hM ?_
      clear hl a; intro a hl
      refine d_skip (i := 15) hl rfl (by kernel_rfl) (by kernel_rfl) (by kernel_rfl) (by kernel_rfl) (by kernel_rfl) rfl ⟨_, _, rfl, rfl, rfl⟩ (fun _ _ _ h => h) hM ?_
      clear hl a; intro a hl
      refine d_skip (i := 16) hl rfl (by kernel_rfl) (by kernel_rfl) (by kernel_rfl) (by kernel_rfl) (by kernel_rfl) rfl ⟨_, _, rfl, rfl, rfl⟩ (fun _ _ _ h => h) hM ?_
      clear hl a; intro a hl
      refine d_skip (i := 17) hl rfl (by kernel_rfl) (by kernel_rfl) (by kernel_rfl) (by kernel_rfl) (by kernel_rfl) rfl ⟨_, _, rfl, rfl, rfl⟩ (fun _ _ _ h => h) hM ?_
      clear hl a; intro a hl
      refine d_skip (i := 18) hl rfl (by kernel_rfl) (by kernel_rfl) (by kernel_rfl) (by kernel_rfl) (by kernel_rfl) rfl ⟨_, _, rfl, rfl, rfl⟩ (fun _ _ _ h => h) hM ?_
      clear hl a; intro a hl
      refine d_skip (i := 19) hl rfl (by kernel_rfl) (by kernel_rfl) (by kernel_rfl) (by kernel_rfl) (by kernel_rfl) rfl ⟨_, _, rfl, rfl, rfl⟩ (fun _ _ _ h => h) hM ?_
      clear hl a; intro a hl
      refine d_skip (i := 20) hl rfl (by kernel_rfl) (by kernel_rfl) (by kernel_rfl) (by kernel_rfl) (by kernel_rfl) rfl ⟨_, _, rfl, rfl, rfl⟩ (fun _ _ _ h => h) hM ?_
      clear hl a; intro a hl
      refine d_skip (i := 21) hl rfl (by kernel_rfl) (by kernel_rfl) (by kernel_rfl) (by kernel_rfl) (by kernel_rfl) rfl ⟨_, _, rfl, rfl, rfl⟩ (fun _ _ _ h => h) hM ?_
      clear hl a; intro a hl
      refine d_skip (i := 22) hl rfl (by kernel_rfl) (by kernel_rfl) (by kernel_rfl) (by kernel_rfl) (by kernel_rfl) rfl ⟨_, _, rfl, rfl, rfl⟩ (fun _ _ _ h => h) hM ?_
      clear hl a; intro a hl
      refine d_takeL (i := 23) hl rfl (by kernel_rfl) (by kernel_rfl) (by kernel_rfl) (by kernel_rfl) (by kernel_rfl) rfl trivial (fun _ _ _ h => h) (fun w => r_pickF hl rfl rfl) rfl ?_
      clear hl a; intro a hl
      refine d_takeL (i := 24) hl rfl (by kernel_rfl) (by kernel_rfl) (by kernel_rfl) (by kernel_rfl) (by kernel_rfl) rfl trivial (fun _ _ _ h => h) (fun w => r_assign hl rfl) rfl ?_
      clear hl a; intro a hl
      refine d_done (by kernel_rfl) ?_
      try clear hM
      have hl2 := hl.add (t := 0) (hl.add (t := 3) (hl.add (t := 4) (hl.nil) rfl) rfl) rfl; clear hl; have hl := hl2; clear hl2
      refine then_normal ?_
      refine wp_block ?_
      refine c_seq ?_
      refine c_draw [(mp, C (encM (s) st sk bp) 69), (k3, C [.int .u8 k, .int .i64 off, .int .i64 n] 42)] [24, 25, 26, 27] mixed hh ?_
      clear hh w; intro w hh
      have hM : Mem [(mp, C (encM (s) st sk bp) 69), (k3, C [.int .u8 k, .int .i64 off, .int .i64 n] 42)] w := (by (repeat (first | exact Mem.nil | refine Mem.cons hh.mem (by (repeat (first | exact find_head | apply find_tail)); done) ?_ | refine Mem.consR hh (by assumption) (by simp) ?_ | fail)); done)
      refine d_take (i := 0) hl rfl (by kernel_rfl) (by kernel_rfl) (by kernel_rfl) (by kernel_rfl) (by kernel_rfl) rfl trivial (fun _ _ _ h => h) hM (fun w hC => r_field hl rfl fld42_0) rfl ?_
      clear hl a; intro a hl
      refine d_take (i := 1) hl rfl (by kernel_rfl) (by kernel_rfl) (by kernel_rfl) (by kernel_rfl) (by kernel_rfl) rfl trivial (fun _ _ _ h => h) hM (fun w hC => r_loadC hl rfl one38 hC (by repeat (first | exact find_head | apply find_tail)) (by first | rfl)) rfl ?_
      clear hl a; intro a hl
      refine d_take (i := 2) hl rfl (by kernel_rfl) (by kernel_rfl) (by kernel_rfl) (by kernel_rfl) (by kernel_rfl) rfl trivial (fun _ _ _ h => h) hM (fun w hC => r_eql hl rfl rfl) rfl ?_
      clear hl a; intro a hl
      refine d_take (i := 3) hl rfl (by kernel_rfl) (by kernel_rfl) (by kernel_rfl) (by kernel_rfl) (by kernel_rfl) rfl trivial (fun _ _ _ h => h) hM (fun w hC => r_move hl rfl) rfl ?_
      clear hl a; intro a hl
      refine sl_split (t := 33) hl rfl ?_ ?_
      · intro hg14; clear hl; intro hl
        try simp only [decide_eq_true_eq, decide_eq_false_iff_not, Bool.not_eq_true', Bool.not_eq_false', Bool.not_eq_true, Bool.not_eq_false, Bool.and_eq_true, Bool.or_eq_true, Bool.and_eq_false_iff, Bool.or_eq_false_iff, Bool.not_not, ne_eq, Int.not_lt, Int.not_le, Decidable.not_not, beq_iff_eq, bne_iff_ne] at hg14
        refine d_take (i := 4) hl rfl (by kernel_rfl) (by kernel_rfl) (by kernel_rfl) (by kernel_rfl) (by kernel_rfl) rfl ⟨_, _, rfl, rfl, rfl⟩ (fun _ _ _ h => h) hM (fun w hC => r_field hl rfl fld42_1) rfl ?_
        clear hl a; intro a hl
        refine d_take (i := 5) hl rfl (by kernel_rfl) (by kernel_rfl) (by kernel_rfl) (by kernel_rfl) (by kernel_rfl) rfl ⟨_, _, rfl, rfl, rfl⟩ (fun _ _ _ h => h) hM (fun w hC => r_loadC hl rfl one2 hC (by repeat (first | exact find_head | apply find_tail)) (by first | rfl)) rfl ?_
        clear hl a; intro a hl
        refine d_take (i := 6) hl rfl (by kernel_rfl) (by kernel_rfl) (by kernel_rfl) (by kernel_rfl) (by kernel_rfl) rfl ⟨_, _, rfl, rfl, rfl⟩ (fun _ _ _ h => h) hM (fun w hC => r_move hl rfl) rfl ?_
        clear hl a; intro a hl
        refine d_take (i := 7) hl rfl (by kernel_rfl) (by kernel_rfl) (by kernel_rfl) (by kernel_rfl) (by kernel_rfl) rfl ⟨_, _, rfl, rfl, rfl⟩ (fun _ _ _ h => h) hM (fun w hC => r_nilCheck hl rfl) rfl ?_
        clear hl a; intro a hl
        refine d_take (i := 8) hl rfl (by kernel_rfl) (by kernel_rfl) (by kernel_rfl) (by kernel_rfl) (by kernel_rfl) rfl ⟨_, _, rfl, rfl, rfl⟩ (fun _ _ _ h => h) hM (fun w hC => r_field hl rfl fld69_9) rfl ?_
        clear hl a; intro a hl
        refine d_take (i := 9) hl rfl (by kernel_rfl) (by kernel_rfl) (by kernel_rfl) (by kernel_rfl) (by kernel_rfl) rfl ⟨_, _, rfl, rfl, rfl⟩ (fun _ _ _ h => h) hM (fun w hC => r_loadC hl rfl one2 hC (by repeat (first | exact find_head | apply find_tail)) (by first | rfl)) rfl ?_
        clear hl a; intro a hl
        refine d_take (i := 10) hl rfl (by kernel_rfl) (by kernel_rfl) (by kernel_rfl) (by kernel_rfl) (by kernel_rfl) rfl ⟨_, _, rfl, rfl, rfl⟩ (fun _ _ _ h => h) hM (fun w hC => r_eql hl rfl rfl) rfl ?_
        clear hl a; intro a hl
        refine d_take (i := 11) hl rfl (by kernel_rfl) (by kernel_rfl) (by kernel_rfl) (by kernel_rfl) (by kernel_rfl) rfl trivial (fun _ _ _ h => h) hM (fun w hC => r_pickT hl rfl rfl) rfl ?_
        clear hl a; intro a hl
        refine d_take (i := 12) hl rfl (by kernel_rfl) (by kernel_rfl) (by kernel_rfl) (by kernel_rfl) (by kernel_rfl) rfl trivial (fun _ _ _ h => h) hM (fun w hC => r_move hl rfl) rfl ?_
        clear hl a; intro a hl
        refine sl_split (t := 42) hl rfl ?_ ?_
        · intro hg15; clear hl; intro hl
          try simp only [decide_eq_true_eq, decide_eq_false_iff_not, Bool.not_eq_true', Bool.not_eq_false', Bool.not_eq_true, Bool.not_eq_false, Bool.and_eq_true, Bool.or_eq_true, Bool.and_eq_false_iff, Bool.or_eq_false_iff, Bool.not_not, ne_eq, Int.not_lt, Int.not_le, Decidable.not_not, beq_iff_eq, bne_iff_ne] at hg15
          refine d_take (i := 13) hl rfl (by kernel_rfl) (by kernel_rfl) (by kernel_rfl) (by kernel_rfl) (by kernel_rfl) rfl ⟨_, _, rfl, rfl, rfl⟩ (fun _ _ _ h => h) hM (fun w hC => r_move hl rfl) rfl ?_
          clear hl a; intro a hl
          refine d_take (i := 14) hl rfl (by kernel_rfl) (by kernel_rfl) (by kernel_rfl) (by kernel_rfl) (by kernel_rfl) rfl ⟨_, _, rfl, rfl, rfl⟩ (fun _ _ _ h => h) hM (fun w hC => r_nilCheck hl rfl) rfl ?_
          clear hl a; intro a hl
          refine d_take (i := 15) hl rfl (by kernel_rfl) (by kernel_rfl) (by kernel_rfl) (by kernel_rfl) (by kernel_rfl) rfl ⟨_, _, rfl, rfl, rfl⟩ (fun _ _ _ h => h) hM (fun w hC => r_field hl rfl fld69_9) rfl ?_
          clear hl a; intro a hl
          refine d_take (i := 16) hl rfl (by kernel_rfl) (by kernel_rfl) (by kernel_rfl) (by kernel_rfl) (by kernel_rfl) rfl ⟨_, _, rfl, rfl, rfl⟩ (fun _ _ _ h => h) hM (fun w hC => r_loadC hl rfl one2 hC (by repeat (first | exact find_head | apply find_tail)) (by first | rfl)) rfl ?_
          clear hl a; intro a hl
          refine d_take (i := 17) hl rfl (by kernel_rfl) (by kernel_rfl) (by kernel_rfl) (by kernel_rfl) (by kernel_rfl) rfl ⟨_, _, rfl, rfl, rfl⟩ (fun _ _ _ h => h) hM (fun w hC => r_move hl rfl) rfl ?_
          clear hl a; intro a hl
          refine d_take (i := 18) hl rfl (by kernel_rfl) (by kernel_rfl) (by kernel_rfl) (by kernel_rfl) (by kernel_rfl) rfl ⟨_, _, rfl, rfl, rfl⟩ (fun _ _ _ h => h) hM (fun w hC => r_nilCheck hl rfl) rfl ?_
          clear hl a; intro a hl
          refine d_take (i := 19) hl rfl (by kernel_rfl) (by kernel_rfl) (by kernel_rfl) (by kernel_rfl) (by kernel_rfl) rfl ⟨_, _, rfl, rfl, rfl⟩ (fun _ _ _ h => h) hM (fun w hC => r_field hl rfl fld69_8) rfl ?_
          clear hl a; intro a hl
          refine d_take (i := 20) hl rfl (by kernel_rfl) (by kernel_rfl) (by kernel_rfl) (by kernel_rfl) (by kernel_rfl) rfl ⟨_, _, rfl, rfl, rfl⟩ (fun _ _ _ h => h) hM (fun w hC => r_loadC hl rfl one2 hC (by repeat (first | exact find_head | apply find_tail)) (by first | rfl)) rfl ?_
          clear hl a; intro a hl
          first | refine d_take (i := 21) hl rfl (by kernel_rfl) (by kernel_rfl) (by kernel_rfl) (by kernel_rfl) (by kernel_rfl) rfl ⟨_, _, rfl, rfl, rfl⟩ (fun _ _ _ h => h) hM (fun w hC => r_sub hl rfl rfl (by simp only [Fits]; omega)) rfl ?_ | refine d_take (i := 21) hl rfl (by kernel_rfl) (by kernel_rfl) (by kernel_rfl) (by kernel_rfl) (by kernel_rfl) rfl ⟨_, _, rfl, rfl, rfl⟩ (fun _ _ _ h => h) hM (fun w hC => r_subW hl rfl rfl) rfl ?_
          clear hl a; intro a hl
          refine d_take (i := 22) hl rfl (by kernel_rfl) (by kernel_rfl) (by kernel_rfl) (by kernel_rfl) (by kernel_rfl) rfl ⟨_, _, rfl, rfl, rfl⟩ (fun _ _ _ h => h) hM (fun w hC => r_field hl rfl fld42_2) rfl ?_
          clear hl a; intro a hl
          refine d_take (i := 23) hl rfl (by kernel_rfl) (by kernel_rfl) (by kernel_rfl) (by kernel_rfl) (by kernel_rfl) rfl ⟨_, _, rfl, rfl, rfl⟩ (fun _ _ _ h => h) hM (fun w hC => r_loadC hl rfl one2 hC (by repeat (first | exact find_head | apply find_tail)) (by first | rfl)) rfl ?_
          clear hl a; intro a hl
          first | refine d_takeL (i := 24) hl rfl (by kernel_rfl) (by kernel_rfl) (by kernel_rfl) (by kernel_rfl) (by kernel_rfl) rfl ⟨_, _, rfl, rfl, rfl⟩ (fun _ _ _ h => h) (fun w => r_add hl rfl rfl (by simp only [Fits]; omega)) rfl ?_ | refine d_takeL (i := 24) hl rfl (by kernel_rfl) (by kernel_rfl) (by kernel_rfl) (by kernel_rfl) (by kernel_rfl) rfl ⟨_, _, rfl, rfl, rfl⟩ (fun _ _ _ h => h) (fun w => r_addW hl rfl rfl) rfl ?_
          clear hl a; intro a hl
          refine d_takeL (i := 25) hl rfl (by kernel_rfl) (by kernel_rfl) (by kernel_rfl) (by kernel_rfl) (by kernel_rfl) rfl ⟨_, _, rfl, rfl, rfl⟩ (fun _ _ _ h => h) (fun w => r_leq hl rfl rfl) rfl ?_
          clear hl a; intro a hl
          refine d_takeL (i := 26) hl rfl (by kernel_rfl) (by kernel_rfl) (by kernel_rfl) (by kernel_rfl) (by kernel_rfl) rfl trivial (fun _ _ _ h => h) (fun w => r_pickT hl rfl rfl) rfl ?_
          clear hl a; intro a hl
          refine d_takeL (i := 27) hl rfl (by kernel_rfl) (by kernel_rfl) (by kernel_rfl) (by kernel_rfl) (by kernel_rfl) rfl trivial (fun _ _ _ h => h) (fun w => r_assign hl rfl) rfl ?_
          clear hl a; intro a hl
          refine d_done (by kernel_rfl) ?_
          try clear hM
          have hl2 := hl.add (t := 0) (hl.add (t := 3) (hl.add (t := 4) (hl.add (t := 29) (hl.nil) rfl) rfl) rfl) rfl; clear hl; have hl := hl2; clear hl2
          refine then_normal ?_
          refine c_cond hl rfl ?_ ?_
          · intro hc0
            try simp only [decide_eq_true_eq, decide_eq_false_iff_not, Bool.not_eq_true', Bool.not_eq_false', Bool.not_eq_true, Bool.not_eq_false, Bool.and_eq_true, Bool.or_eq_true, Bool.and_eq_false_iff, Bool.or_eq_false_iff, Bool.not_not, ne_eq, Int.not_lt, Int.not_le, Decidable.not_not, beq_iff_eq, bne_iff_ne] at hc0
            refine c_seq ?_
            refine c_draw [(mp, C (encM (s) st sk bp) 69), (k3, C [.int .u8 k, .int .i64 off, .int .i64 n] 42)] [6, 7, 8, 9] mixed hh ?_
            clear hh w; intro w hh
            have hM : Mem [(mp, C (encM (s) st sk bp) 69), (k3, C [.int .u8 k, .int .i64 off, .int .i64 n] 42)] w := (by (repeat (first | exact Mem.nil | refine Mem.cons hh.mem (by (repeat (first | exact find_head | apply find_tail)); done) ?_ | refine Mem.consR hh (by assumption) (by simp) ?_ | fail)); done)
            refine d_take (i := 0) hl rfl (by kernel_rfl) (by kernel_rfl) (by kernel_rfl) (by kernel_rfl) (by kernel_rfl) rfl trivial (fun _ _ _ h => h) hM (fun w hC => r_move hl rfl) rfl ?_
            clear hl a; intro a hl
            refine d_take (i := 1) hl rfl (by kernel_rfl) (by kernel_rfl) (by kernel_rfl) (by kernel_rfl) (by kernel_rfl) rfl trivial (fun _ _ _ h => h) hM (fun w hC => r_nilCheck hl rfl) rfl ?_
            clear hl a; intro a hl
            refine d_take (i := 2) hl rfl (by kernel_rfl) (by kernel_rfl) (by kernel_rfl) (by kernel_rfl) (by kernel_rfl) rfl trivial (fun _ _ _ h => h) hM (fun w hC => r_field hl rfl fld69_9) rfl ?_
            clear hl a; intro a hl
            refine d_take (i := 3) hl rfl (by kernel_rfl) (by kernel_rfl) (by kernel_rfl) (by kernel_rfl) (by kernel_rfl) rfl trivial (fun _ _ _ h => h) hM (fun w hC => r_loadC hl rfl one2 hC (by repeat (first | exact find_head | apply find_tail)) (by first | rfl)) rfl ?_
            clear hl a; intro a hl
            refine d_take (i := 4) hl rfl (by kernel_rfl) (by kernel_rfl) (by kernel_rfl) (by kernel_rfl) (by kernel_rfl) rfl trivial (fun _ _ _ h => h) hM (fun w hC => r_field hl rfl fld42_2) rfl ?_
            clear hl a; intro a hl
            refine d_take (i := 5) hl rfl (by kernel_rfl) (by kernel_rfl) (by kernel_rfl) (by kernel_rfl) (by kernel_rfl) rfl trivial (fun _ _ _ h => h) hM (fun w hC => r_loadC hl rfl one2 hC (by repeat (first | exact find_head | apply find_tail)) (by first | rfl)) rfl ?_
            clear hl a; intro a hl
            first | refine d_takeL (i := 6) hl rfl (by kernel_rfl) (by kernel_rfl) (by kernel_rfl) (by kernel_rfl) (by kernel_rfl) rfl trivial (fun _ _ _ h => h) (fun w => r_add hl rfl rfl (by simp only [Fits]; omega)) rfl ?_ | refine d_takeL (i := 6) hl rfl (by kernel_rfl) (by kernel_rfl) (by kernel_rfl) (by kernel_rfl) (by kernel_rfl) rfl trivial (fun _ _ _ h => h) (fun w => r_addW hl rfl rfl) rfl ?_
            clear hl a; intro a hl
            refine d_takeL (i := 7) hl rfl (by kernel_rfl) (by kernel_rfl) (by kernel_rfl) (by kernel_rfl) (by kernel_rfl) rfl trivial (fun _ _ _ h => h) (fun w => r_nilCheck hl rfl) rfl ?_
            clear hl a; intro a hl
            refine d_takeL (i := 8) hl rfl (by kernel_rfl) (by kernel_rfl) (by kernel_rfl) (by kernel_rfl) (by kernel_rfl) rfl trivial (fun _ _ _ h => h) (fun w => r_field hl rfl fld69_9) rfl ?_
            clear hl a; intro a hl
            refine d_one (i := 9) (by kernel_rfl) rfl ?_
            try clear hM
            refine id (w_store hl hh trivial one2 rfl rfl (by repeat (first | exact find_head | apply find_tail)) (by first | (simp; done) | (simp; omega)) (by first | rfl | assumption | (apply Row.one; assumption)) (by first | (simp only [encM, setL, List.getElem?_cons_zero, List.getElem?_cons_succ, Value.cells, List.take_zero, List.take_succ_cons, List.take_nil, List.drop_zero, List.drop_succ_cons, List.drop_nil, List.length_cons, List.length_nil, List.cons_append, List.nil_append, List.append_nil, Nat.zero_add, Nat.add_zero, Nat.reduceAdd, Nat.reduceBEq, Nat.reduceEqDiff, Nat.ble, BEq.rfl, Bool.and_true, Bool.and_self, cond_true, beq_self_eq_true]; rfl) | (simp only [setL, List.getElem?_cons_zero, List.getElem?_cons_succ, Value.cells, List.take_zero, List.take_succ_cons, List.take_nil, List.drop_zero, List.drop_succ_cons, List.drop_nil, List.length_cons, List.length_nil, List.cons_append, List.nil_append, List.append_nil, Nat.zero_add, Nat.add_zero, Nat.reduceAdd, Nat.reduceBEq, Nat.reduceEqDiff, Nat.ble, BEq.rfl, Bool.and_true, Bool.and_self, cond_true, beq_self_eq_true]; rfl)) ?_)
            clear hh w; intro w hh
            refine d_step (fun h => absurd h (by decide)) ?_
            refine d_done (by kernel_rfl) ?_
            try clear hM
            have hl2 := hl.add (t := 0) (hl.nil) rfl; clear hl; have hl := hl2; clear hl2
            refine then_normal ?_
            refine c_draw [(mp, C (encM ({ s with nxt := s.nxt + n }) st sk bp) 69)] [10] mixed hh ?_
            clear hh w; intro w hh
            have hM : Mem [(mp, C (encM ({ s with nxt := s.nxt + n }) st sk bp) 69)] w := (by (repeat (first | exact Mem.nil | refine Mem.cons hh.mem (by (repeat (first | exact find_head | apply find_tail)); done) ?_ | refine Mem.consR hh (by assumption) (by simp) ?_ | fail)); done)
            refine d_take (i := 0) hl rfl (by kernel_rfl) (by kernel_rfl) (by kernel_rfl) (by kernel_rfl) (by kernel_rfl) rfl trivial (fun _ _ _ h => h) hM (fun w hC => r_move hl rfl) rfl ?_
            clear hl a; intro a hl
            refine d_take (i := 1) hl rfl (by kernel_rfl) (by kernel_rfl) (by kernel_rfl) (by kernel_rfl) (by kernel_rfl) rfl trivial (fun _ _ _ h => h) hM (fun w hC => r_nilCheck hl rfl) rfl ?_
            clear hl a; intro a hl
            refine d_take (i := 2) hl rfl (by kernel_rfl) (by kernel_rfl) (by kernel_rfl) (by kernel_rfl) (by kernel_rfl) rfl trivial (fun _ _ _ h => h) hM (fun w hC => r_field hl rfl fld69_4) rfl ?_
            clear hl a; intro a hl
            refine d_take (i := 3) hl rfl (by kernel_rfl) (by kernel_rfl) (by kernel_rfl) (by kernel_rfl) (by kernel_rfl) rfl trivial (fun _ _ _ h => h) hM (fun w hC => r_loadC hl rfl one64 hC (by repeat (first | exact find_head | apply find_tail)) (by first | rfl)) rfl ?_
            clear hl a; intro a hl
            refine d_take (i := 4) hl rfl (by kernel_rfl) (by kernel_rfl) (by kernel_rfl) (by kernel_rfl) (by kernel_rfl) rfl trivial (fun _ _ _ h => h) hM (fun w hC => r_move hl rfl) rfl ?_
            clear hl a; intro a hl
            refine d_take (i := 5) hl rfl (by kernel_rfl) (by kernel_rfl) (by kernel_rfl) (by kernel_rfl) (by kernel_rfl) rfl trivial (fun _ _ _ h => h) hM (fun w hC => r_move hl rfl) rfl ?_
            clear hl a; intro a hl
            refine d_take (i := 6) hl rfl (by kernel_rfl) (by kernel_rfl) (by kernel_rfl) (by kernel_rfl) (by kernel_rfl) rfl trivial (fun _ _ _ h => h) hM (fun w hC => r_nilCheck hl rfl) rfl ?_
            clear hl a; intro a hl
            refine d_take (i := 7) hl rfl (by kernel_rfl) (by kernel_rfl) (by kernel_rfl) (by kernel_rfl) (by kernel_rfl) rfl trivial (fun _ _ _ h => h) hM (fun w hC => r_field hl rfl fld69_9) rfl ?_
            clear hl a; intro a hl
            refine d_take (i := 8) hl rfl (by kernel_rfl) (by kernel_rfl) (by kernel_rfl) (by kernel_rfl) (by kernel_rfl) rfl trivial (fun _ _ _ h => h) hM (fun w hC => r_loadC hl rfl one2 hC (by repeat (first | exact find_head | apply find_tail)) (by first | rfl)) rfl ?_
            clear hl a; intro a hl
            refine d_one (i := 9) (by kernel_rfl) rfl ?_
            try clear hM
            refine id (w_call hl hh rfl trivial rfl cal14 rfl (seq_m mp ({ s with nxt := s.nxt + n }) st sk bp (nxt_mk hs (by omega) (by omega) hnx) _) (by repeat (first | exact keeps_nil | apply keeps_cons (by repeat (first | exact find_head | apply find_tail)) (by first  | rfl) | exact keeps_self | apply keeps_mv)) (hh.mem _ _ (Find.mem (by repeat (first | exact find_head | apply find_tail)))) ?_)
            clear hl hh a w; intro vc Fc a w hR hl hh
            obtain ⟨rfl, rfl⟩ := hR
            try simp only [List.cons_append, List.nil_append] at hh
            have hM : Mem [(mp, C (encM ({ s with nxt := s.nxt + n }) st sk bp) 69)] w := (by (repeat (first | exact Mem.nil | refine Mem.cons hh.mem (by (repeat (first | exact find_head | apply find_tail)); done) ?_ | refine Mem.consR hh (by assumption) (by simp) ?_ | fail)); done)
            refine d_step (fun _ => hM) ?_
            refine d_one (i := 10) (by kernel_rfl) rfl ?_
            try clear hM
            refine id (w_call hl hh rfl trivial rfl cal38 rfl (sent_spec bp bu bn bv _) (by repeat (first | exact keeps_nil | apply keeps_cons (by repeat (first | exact find_head | apply find_tail)) (by first  | rfl) | exact keeps_self | apply keeps_mv)) trivial ?_)
            clear hl hh a w; intro vc Fc a w hR hl hh
            obtain ⟨rfl, rfl⟩ := hR
            try simp only [List.cons_append, List.nil_append] at hh
            refine d_step (fun h => absurd h (by decide)) ?_
            refine d_done (by kernel_rfl) ?_
            try clear hM
            have hl2 := hl.nil; clear hl; have hl := hl2; clear hl2
            refine blk_normal ?_
            first | (exfalso; omega) | (have he9 := sent_1 (s := s) (st := st) (bn := bn) (k := k) (off := off) (n := n) ⟨by omega, by omega, by omega⟩; refine f_end0 (F' := [(mp, C (encM (sentM s k off n) st sk bp) 69), (bp, C (bdL bu (sentN s st bn k off n) bv) 85)]) hl (has_two (bn := bn) hh (keeps_cons (b := mp) (by repeat (first | exact find_head | apply find_tail)) rfl (keeps_cons (b := bp) (by repeat (first | exact find_head | apply find_tail)) rfl keeps_nil)) he9) rfl keeps_self ⟨rfl, rfl⟩) | (have he9 := sent_2 (s := s) (st := st) (bn := bn) (k := k) (off := off) (n := n) (by omega) ⟨by omega, by omega, by omega⟩; refine f_end0 (F' := [(mp, C (encM (sentM s k off n) st sk bp) 69), (bp, C (bdL bu (sentN s st bn k off n) bv) 85)]) hl (has_two (bn := bn) hh (keeps_cons (b := mp) (by repeat (first | exact find_head | apply find_tail)) rfl (keeps_cons (b := bp) (by repeat (first | exact find_head | apply find_tail)) rfl keeps_nil)) he9) rfl keeps_self ⟨rfl, rfl⟩) | (have he9 := sent_3a (s := s) (st := st) (bn := bn) (k := k) (off := off) (n := n) (f := f9) (by omega) ⟨by omega, by omega, by omega⟩ (by omega) (by assumption); refine f_end0 (F' := [(mp, C (encM (sentM s k off n) st sk bp) 69), (bp, C (bdL bu (sentN s st bn k off n) bv) 85)]) hl (has_two (bn := bn) hh (keeps_cons (b := mp) (by repeat (first | exact find_head | apply find_tail)) rfl (keeps_cons (b := bp) (by repeat (first | exact find_head | apply find_tail)) rfl keeps_nil)) he9) rfl keeps_self ⟨rfl, rfl⟩) | (have he9 := sent_3b (s := s) (st := st) (bn := bn) (k := k) (off := off) (n := n) (f := f9) (by omega) ⟨by omega, by omega, by omega⟩ (by omega) (by assumption); refine f_end0 (F' := [(mp, C (encM (sentM s k off n) st sk bp) 69), (bp, C (bdL bu (sentN s st bn k off n) bv) 85)]) hl (has_two (bn := bn) hh (keeps_cons (b := mp) (by repeat (first | exact find_head | apply find_tail)) rfl (keeps_cons (b := bp) (by repeat (first | exact find_head | apply find_tail)) rfl keeps_nil)) he9) rfl keeps_self ⟨rfl, rfl⟩) | (have he9 := sent_4 (s := s) (st := st) (bn := bn) (k := k) (off := off) (n := n) (by omega) (by omega) (by omega); refine f_end0 (F' := [(mp, C (encM (sentM s k off n) st sk bp) 69), (bp, C (bdL bu (sentN s st bn k off n) bv) 85)]) hl (has_two (bn := bn) hh (keeps_cons (b := mp) (by repeat (first | exact find_head | apply find_tail)) rfl (keeps_cons (b := bp) (by repeat (first | exact find_head | apply find_tail)) rfl keeps_nil)) he9) rfl keeps_self ⟨rfl, rfl⟩) | (have he9 := sent_4 (s := s) (st := st) (bn := bn) (k := k) (off := off) (n := n) (by omega) (fun h9 => not_inF (by omega) h9.2) (fun h9 => not_inF (by omega) h9.2); refine f_end0 (F' := [(mp, C (encM (sentM s k off n) st sk bp) 69), (bp, C (bdL bu (sentN s st bn k off n) bv) 85)]) hl (has_two (bn := bn) hh (keeps_cons (b := mp) (by repeat (first | exact find_head | apply find_tail)) rfl (keeps_cons (b := bp) (by repeat (first | exact find_head | apply find_tail)) rfl keeps_nil)) he9) rfl keeps_self ⟨rfl, rfl⟩)
          · intro hc0
            try simp only [decide_eq_true_eq, decide_eq_false_iff_not, Bool.not_eq_true', Bool.not_eq_false', Bool.not_eq_true, Bool.not_eq_false, Bool.and_eq_true, Bool.or_eq_true, Bool.and_eq_false_iff, Bool.or_eq_false_iff, Bool.not_not, ne_eq, Int.not_lt, Int.not_le, Decidable.not_not, beq_iff_eq, bne_iff_ne] at hc0
            refine c_seq ?_
            refine c_region ?_
            refine wl (wl_val hl rfl trivial (r_field hl rfl fld42_0) ?_)
            clear hl a; intro a hl
            refine wl (w_load hl hh rfl trivial one38 rfl (by repeat (first | exact find_head | apply find_tail)) (by first | rfl) ?_)
            clear hl a; intro a hl
            refine wl (wl_val hl rfl trivial (r_eql hl rfl rfl) ?_)
            clear hl a; intro a hl
            refine wl (wl_val hl rfl trivial (r_move hl rfl) ?_)
            clear hl a; intro a hl
            refine sl_split (t := 81) hl rfl ?_ ?_
            · intro hg16; clear hl; intro hl
              try simp only [decide_eq_true_eq, decide_eq_false_iff_not, Bool.not_eq_true', Bool.not_eq_false', Bool.not_eq_true, Bool.not_eq_false, Bool.and_eq_true, Bool.or_eq_true, Bool.and_eq_false_iff, Bool.or_eq_false_iff, Bool.not_not, ne_eq, Int.not_lt, Int.not_le, Decidable.not_not, beq_iff_eq, bne_iff_ne] at hg16
              refine wl (wl_val hl rfl ⟨_, _, rfl, rfl, rfl⟩ (r_move hl rfl) ?_)
              clear hl a; intro a hl
              refine wl (wl_val hl rfl trivial (r_pickT hl rfl rfl) ?_)
              clear hl a; intro a hl
              refine wl (wl_val hl rfl trivial (r_assign hl rfl) ?_)
              clear hl a; intro a hl
              refine w_nil ?_
              have hl2 := hl.add (t := 0) (hl.add (t := 3) (hl.add (t := 4) (hl.add (t := 77) (hl.nil) rfl) rfl) rfl) rfl; clear hl; have hl := hl2; clear hl2
              refine then_normal ?_
              refine c_condF hl rfl ?_
              refine c_seq ?_
              refine c_region ?_
              refine wl (wl_val hl rfl trivial (r_field hl rfl fld42_0) ?_)
              clear hl a; intro a hl
              refine wl (w_load hl hh rfl trivial one38 rfl (by repeat (first | exact find_head | apply find_tail)) (by first | rfl) ?_)
              clear hl a; intro a hl
              refine wl (wl_val hl rfl trivial (r_eql hl rfl rfl) ?_)
              clear hl a; intro a hl
              refine wl (wl_val hl rfl trivial (r_move hl rfl) ?_)
              clear hl a; intro a hl
              refine sl_split (t := 91) hl rfl ?_ ?_
              · intro hg17; clear hl; intro hl
                try simp only [decide_eq_true_eq, decide_eq_false_iff_not, Bool.not_eq_true', Bool.not_eq_false', Bool.not_eq_true, Bool.not_eq_false, Bool.and_eq_true, Bool.or_eq_true, Bool.and_eq_false_iff, Bool.or_eq_false_iff, Bool.not_not, ne_eq, Int.not_lt, Int.not_le, Decidable.not_not, beq_iff_eq, bne_iff_ne] at hg17
                refine wl (wl_val hl rfl ⟨_, _, rfl, rfl, rfl⟩ (r_move hl rfl) ?_)
                clear hl a; intro a hl
                refine wl (wl_val hl rfl trivial (r_pickT hl rfl rfl) ?_)
                clear hl a; intro a hl
                refine wl (wl_val hl rfl trivial (r_assign hl rfl) ?_)
                clear hl a; intro a hl
                refine w_nil ?_
                have hl2 := hl.add (t := 0) (hl.add (t := 3) (hl.add (t := 87) (hl.nil) rfl) rfl) rfl; clear hl; have hl := hl2; clear hl2
                refine then_normal ?_
                refine c_condF hl rfl ?_
                refine wp_skip ?_
                refine blk_normal ?_
                first | (exfalso; omega) | (have he9 := sent_1 (s := s) (st := st) (bn := bn) (k := k) (off := off) (n := n) ⟨by omega, by omega, by omega⟩; refine f_end0 (F' := [(mp, C (encM (sentM s k off n) st sk bp) 69), (bp, C (bdL bu (sentN s st bn k off n) bv) 85)]) hl (has_two (bn := bn) hh (keeps_cons (b := mp) (by repeat (first | exact find_head | apply find_tail)) rfl (keeps_cons (b := bp) (by repeat (first | exact find_head | apply find_tail)) rfl keeps_nil)) he9) rfl keeps_self ⟨rfl, rfl⟩) | (have he9 := sent_2 (s := s) (st := st) (bn := bn) (k := k) (off := off) (n := n) (by omega) ⟨by omega, by omega, by omega⟩; refine f_end0 (F' := [(mp, C (encM (sentM s k off n) st sk bp) 69), (bp, C (bdL bu (sentN s st bn k off n) bv) 85)]) hl (has_two (bn := bn) hh (keeps_cons (b := mp) (by repeat (first | exact find_head | apply find_tail)) rfl (keeps_cons (b := bp) (by repeat (first | exact find_head | apply find_tail)) rfl keeps_nil)) he9) rfl keeps_self ⟨rfl, rfl⟩) | (have he9 := sent_3a (s := s) (st := st) (bn := bn) (k := k) (off := off) (n := n) (f := f9) (by omega) ⟨by omega, by omega, by omega⟩ (by omega) (by assumption); refine f_end0 (F' := [(mp, C (encM (sentM s k off n) st sk bp) 69), (bp, C (bdL bu (sentN s st bn k off n) bv) 85)]) hl (has_two (bn := bn) hh (keeps_cons (b := mp) (by repeat (first | exact find_head | apply find_tail)) rfl (keeps_cons (b := bp) (by repeat (first | exact find_head | apply find_tail)) rfl keeps_nil)) he9) rfl keeps_self ⟨rfl, rfl⟩) | (have he9 := sent_3b (s := s) (st := st) (bn := bn) (k := k) (off := off) (n := n) (f := f9) (by omega) ⟨by omega, by omega, by omega⟩ (by omega) (by assumption); refine f_end0 (F' := [(mp, C (encM (sentM s k off n) st sk bp) 69), (bp, C (bdL bu (sentN s st bn k off n) bv) 85)]) hl (has_two (bn := bn) hh (keeps_cons (b := mp) (by repeat (first | exact find_head | apply find_tail)) rfl (keeps_cons (b := bp) (by repeat (first | exact find_head | apply find_tail)) rfl keeps_nil)) he9) rfl keeps_self ⟨rfl, rfl⟩) | (have he9 := sent_4 (s := s) (st := st) (bn := bn) (k := k) (off := off) (n := n) (by omega) (by omega) (by omega); refine f_end0 (F' := [(mp, C (encM (sentM s k off n) st sk bp) 69), (bp, C (bdL bu (sentN s st bn k off n) bv) 85)]) hl (has_two (bn := bn) hh (keeps_cons (b := mp) (by repeat (first | exact find_head | apply find_tail)) rfl (keeps_cons (b := bp) (by repeat (first | exact find_head | apply find_tail)) rfl keeps_nil)) he9) rfl keeps_self ⟨rfl, rfl⟩) | (have he9 := sent_4 (s := s) (st := st) (bn := bn) (k := k) (off := off) (n := n) (by omega) (fun h9 => not_inF (by omega) h9.2) (fun h9 => not_inF (by omega) h9.2); refine f_end0 (F' := [(mp, C (encM (sentM s k off n) st sk bp) 69), (bp, C (bdL bu (sentN s st bn k off n) bv) 85)]) hl (has_two (bn := bn) hh (keeps_cons (b := mp) (by repeat (first | exact find_head | apply find_tail)) rfl (keeps_cons (b := bp) (by repeat (first | exact find_head | apply find_tail)) rfl keeps_nil)) he9) rfl keeps_self ⟨rfl, rfl⟩)
              · intro hg17; clear hl; intro hl
                try simp only [decide_eq_true_eq, decide_eq_false_iff_not, Bool.not_eq_true', Bool.not_eq_false', Bool.not_eq_true, Bool.not_eq_false, Bool.and_eq_true, Bool.or_eq_true, Bool.and_eq_false_iff, Bool.or_eq_false_iff, Bool.not_not, ne_eq, Int.not_lt, Int.not_le, Decidable.not_not, beq_iff_eq, bne_iff_ne] at hg17
                refine wl (wl_skip hl rfl ⟨_, _, rfl, rfl, rfl⟩ ?_)
                clear hl a; intro a hl
                refine wl (wl_val hl rfl trivial (r_pickF hl rfl rfl) ?_)
                clear hl a; intro a hl
                refine wl (wl_val hl rfl trivial (r_assign hl rfl) ?_)
                clear hl a; intro a hl
                refine w_nil ?_
                have hl2 := hl.add (t := 0) (hl.add (t := 3) (hl.add (t := 87) (hl.nil) rfl) rfl) rfl; clear hl; have hl := hl2; clear hl2
                refine then_normal ?_
                refine c_condF hl rfl ?_
                refine wp_skip ?_
                refine blk_normal ?_
                first | (exfalso; omega) | (have he9 := sent_1 (s := s) (st := st) (bn := bn) (k := k) (off := off) (n := n) ⟨by omega, by omega, by omega⟩; refine f_end0 (F' := [(mp, C (encM (sentM s k off n) st sk bp) 69), (bp, C (bdL bu (sentN s st bn k off n) bv) 85)]) hl (has_two (bn := bn) hh (keeps_cons (b := mp) (by repeat (first | exact find_head | apply find_tail)) rfl (keeps_cons (b := bp) (by repeat (first | exact find_head | apply find_tail)) rfl keeps_nil)) he9) rfl keeps_self ⟨rfl, rfl⟩) | (have he9 := sent_2 (s := s) (st := st) (bn := bn) (k := k) (off := off) (n := n) (by omega) ⟨by omega, by omega, by omega⟩; refine f_end0 (F' := [(mp, C (encM (sentM s k off n) st sk bp) 69), (bp, C (bdL bu (sentN s st bn k off n) bv) 85)]) hl (has_two (bn := bn) hh (keeps_cons (b := mp) (by repeat (first | exact find_head | apply find_tail)) rfl (keeps_cons (b := bp) (by repeat (first | exact find_head | apply find_tail)) rfl keeps_nil)) he9) rfl keeps_self ⟨rfl, rfl⟩) | (have he9 := sent_3a (s := s) (st := st) (bn := bn) (k := k) (off := off) (n := n) (f := f9) (by omega) ⟨by omega, by omega, by omega⟩ (by omega) (by assumption); refine f_end0 (F' := [(mp, C (encM (sentM s k off n) st sk bp) 69), (bp, C (bdL bu (sentN s st bn k off n) bv) 85)]) hl (has_two (bn := bn) hh (keeps_cons (b := mp) (by repeat (first | exact find_head | apply find_tail)) rfl (keeps_cons (b := bp) (by repeat (first | exact find_head | apply find_tail)) rfl keeps_nil)) he9) rfl keeps_self ⟨rfl, rfl⟩) | (have he9 := sent_3b (s := s) (st := st) (bn := bn) (k := k) (off := off) (n := n) (f := f9) (by omega) ⟨by omega, by omega, by omega⟩ (by omega) (by assumption); refine f_end0 (F' := [(mp, C (encM (sentM s k off n) st sk bp) 69), (bp, C (bdL bu (sentN s st bn k off n) bv) 85)]) hl (has_two (bn := bn) hh (keeps_cons (b := mp) (by repeat (first | exact find_head | apply find_tail)) rfl (keeps_cons (b := bp) (by repeat (first | exact find_head | apply find_tail)) rfl keeps_nil)) he9) rfl keeps_self ⟨rfl, rfl⟩) | (have he9 := sent_4 (s := s) (st := st) (bn := bn) (k := k) (off := off) (n := n) (by omega) (by omega) (by omega); refine f_end0 (F' := [(mp, C (encM (sentM s k off n) st sk bp) 69), (bp, C (bdL bu (sentN s st bn k off n) bv) 85)]) hl (has_two (bn := bn) hh (keeps_cons (b := mp) (by repeat (first | exact find_head | apply find_tail)) rfl (keeps_cons (b := bp) (by repeat (first | exact find_head | apply find_tail)) rfl keeps_nil)) he9) rfl keeps_self ⟨rfl, rfl⟩) | (have he9 := sent_4 (s := s) (st := st) (bn := bn) (k := k) (off := off) (n := n) (by omega) (fun h9 => not_inF (by omega) h9.2) (fun h9 => not_inF (by omega) h9.2); refine f_end0 (F' := [(mp, C (encM (sentM s k off n) st sk bp) 69), (bp, C (bdL bu (sentN s st bn k off n) bv) 85)]) hl (has_two (bn := bn) hh (keeps_cons (b := mp) (by repeat (first | exact find_head | apply find_tail)) rfl (keeps_cons (b := bp) (by repeat (first | exact find_head | apply find_tail)) rfl keeps_nil)) he9) rfl keeps_self ⟨rfl, rfl⟩)
            · intro hg16; clear hl; intro hl
              try simp only [decide_eq_true_eq, decide_eq_false_iff_not, Bool.not_eq_true', Bool.not_eq_false', Bool.not_eq_true, Bool.not_eq_false, Bool.and_eq_true, Bool.or_eq_true, Bool.and_eq_false_iff, Bool.or_eq_false_iff, Bool.not_not, ne_eq, Int.not_lt, Int.not_le, Decidable.not_not, beq_iff_eq, bne_iff_ne] at hg16
              refine wl (wl_skip hl rfl ⟨_, _, rfl, rfl, rfl⟩ ?_)
              clear hl a; intro a hl
              refine wl (wl_val hl rfl trivial (r_pickF hl rfl rfl) ?_)
              clear hl a; intro a hl
              refine wl (wl_val hl rfl trivial (r_assign hl rfl) ?_)
              clear hl a; intro a hl
              refine w_nil ?_
              have hl2 := hl.add (t := 0) (hl.add (t := 3) (hl.add (t := 4) (hl.add (t := 77) (hl.nil) rfl) rfl) rfl) rfl; clear hl; have hl := hl2; clear hl2
              refine then_normal ?_
              refine c_condF hl rfl ?_
              refine c_seq ?_
              refine c_region ?_
              refine wl (wl_val hl rfl trivial (r_field hl rfl fld42_0) ?_)
              clear hl a; intro a hl
              refine wl (w_load hl hh rfl trivial one38 rfl (by repeat (first | exact find_head | apply find_tail)) (by first | rfl) ?_)
              clear hl a; intro a hl
              refine wl (wl_val hl rfl trivial (r_eql hl rfl rfl) ?_)
              clear hl a; intro a hl
              refine wl (wl_val hl rfl trivial (r_move hl rfl) ?_)
              clear hl a; intro a hl
              refine sl_split (t := 91) hl rfl ?_ ?_
              · intro hg18; clear hl; intro hl
                try simp only [decide_eq_true_eq, decide_eq_false_iff_not, Bool.not_eq_true', Bool.not_eq_false', Bool.not_eq_true, Bool.not_eq_false, Bool.and_eq_true, Bool.or_eq_true, Bool.and_eq_false_iff, Bool.or_eq_false_iff, Bool.not_not, ne_eq, Int.not_lt, Int.not_le, Decidable.not_not, beq_iff_eq, bne_iff_ne] at hg18
                refine wl (wl_val hl rfl ⟨_, _, rfl, rfl, rfl⟩ (r_move hl rfl) ?_)
                clear hl a; intro a hl
                refine wl (wl_val hl rfl trivial (r_pickT hl rfl rfl) ?_)
                clear hl a; intro a hl
                refine wl (wl_val hl rfl trivial (r_assign hl rfl) ?_)
                clear hl a; intro a hl
                refine w_nil ?_
                have hl2 := hl.add (t := 0) (hl.add (t := 3) (hl.add (t := 87) (hl.nil) rfl) rfl) rfl; clear hl; have hl := hl2; clear hl2
                refine then_normal ?_
                refine c_condF hl rfl ?_
                refine wp_skip ?_
                refine blk_normal ?_
                first | (exfalso; omega) | (have he9 := sent_1 (s := s) (st := st) (bn := bn) (k := k) (off := off) (n := n) ⟨by omega, by omega, by omega⟩; refine f_end0 (F' := [(mp, C (encM (sentM s k off n) st sk bp) 69), (bp, C (bdL bu (sentN s st bn k off n) bv) 85)]) hl (has_two (bn := bn) hh (keeps_cons (b := mp) (by repeat (first | exact find_head | apply find_tail)) rfl (keeps_cons (b := bp) (by repeat (first | exact find_head | apply find_tail)) rfl keeps_nil)) he9) rfl keeps_self ⟨rfl, rfl⟩) | (have he9 := sent_2 (s := s) (st := st) (bn := bn) (k := k) (off := off) (n := n) (by omega) ⟨by omega, by omega, by omega⟩; refine f_end0 (F' := [(mp, C (encM (sentM s k off n) st sk bp) 69), (bp, C (bdL bu (sentN s st bn k off n) bv) 85)]) hl (has_two (bn := bn) hh (keeps_cons (b := mp) (by repeat (first | exact find_head | apply find_tail)) rfl (keeps_cons (b := bp) (by repeat (first | exact find_head | apply find_tail)) rfl keeps_nil)) he9) rfl keeps_self ⟨rfl, rfl⟩) | (have he9 := sent_3a (s := s) (st := st) (bn := bn) (k := k) (off := off) (n := n) (f := f9) (by omega) ⟨by omega, by omega, by omega⟩ (by omega) (by assumption); refine f_end0 (F' := [(mp, C (encM (sentM s k off n) st sk bp) 69), (bp, C (bdL bu (sentN s st bn k off n) bv) 85)]) hl (has_two (bn := bn) hh (keeps_cons (b := mp) (by repeat (first | exact find_head | apply find_tail)) rfl (keeps_cons (b := bp) (by repeat (first | exact find_head | apply find_tail)) rfl keeps_nil)) he9) rfl keeps_self ⟨rfl, rfl⟩) | (have he9 := sent_3b (s := s) (st := st) (bn := bn) (k := k) (off := off) (n := n) (f := f9) (by omega) ⟨by omega, by omega, by omega⟩ (by omega) (by assumption); refine f_end0 (F' := [(mp, C (encM (sentM s k off n) st sk bp) 69), (bp, C (bdL bu (sentN s st bn k off n) bv) 85)]) hl (has_two (bn := bn) hh (keeps_cons (b := mp) (by repeat (first | exact find_head | apply find_tail)) rfl (keeps_cons (b := bp) (by repeat (first | exact find_head | apply find_tail)) rfl keeps_nil)) he9) rfl keeps_self ⟨rfl, rfl⟩) | (have he9 := sent_4 (s := s) (st := st) (bn := bn) (k := k) (off := off) (n := n) (by omega) (by omega) (by omega); refine f_end0 (F' := [(mp, C (encM (sentM s k off n) st sk bp) 69), (bp, C (bdL bu (sentN s st bn k off n) bv) 85)]) hl (has_two (bn := bn) hh (keeps_cons (b := mp) (by repeat (first | exact find_head | apply find_tail)) rfl (keeps_cons (b := bp) (by repeat (first | exact find_head | apply find_tail)) rfl keeps_nil)) he9) rfl keeps_self ⟨rfl, rfl⟩) | (have he9 := sent_4 (s := s) (st := st) (bn := bn) (k := k) (off := off) (n := n) (by omega) (fun h9 => not_inF (by omega) h9.2) (fun h9 => not_inF (by omega) h9.2); refine f_end0 (F' := [(mp, C (encM (sentM s k off n) st sk bp) 69), (bp, C (bdL bu (sentN s st bn k off n) bv) 85)]) hl (has_two (bn := bn) hh (keeps_cons (b := mp) (by repeat (first | exact find_head | apply find_tail)) rfl (keeps_cons (b := bp) (by repeat (first | exact find_head | apply find_tail)) rfl keeps_nil)) he9) rfl keeps_self ⟨rfl, rfl⟩)
              · intro hg18; clear hl; intro hl
                try simp only [decide_eq_true_eq, decide_eq_false_iff_not, Bool.not_eq_true', Bool.not_eq_false', Bool.not_eq_true, Bool.not_eq_false, Bool.and_eq_true, Bool.or_eq_true, Bool.and_eq_false_iff, Bool.or_eq_false_iff, Bool.not_not, ne_eq, Int.not_lt, Int.not_le, Decidable.not_not, beq_iff_eq, bne_iff_ne] at hg18
                refine wl (wl_skip hl rfl ⟨_, _, rfl, rfl, rfl⟩ ?_)
                clear hl a; intro a hl
                refine wl (wl_val hl rfl trivial (r_pickF hl rfl rfl) ?_)
                clear hl a; intro a hl
                refine wl (wl_val hl rfl trivial (r_assign hl rfl) ?_)
                clear hl a; intro a hl
                refine w_nil ?_
                have hl2 := hl.add (t := 0) (hl.add (t := 3) (hl.add (t := 87) (hl.nil) rfl) rfl) rfl; clear hl; have hl := hl2; clear hl2
                refine then_normal ?_
                refine c_condF hl rfl ?_
                refine wp_skip ?_
                refine blk_normal ?_
                first | (exfalso; omega) | (have he9 := sent_1 (s := s) (st := st) (bn := bn) (k := k) (off := off) (n := n) ⟨by omega, by omega, by omega⟩; refine f_end0 (F' := [(mp, C (encM (sentM s k off n) st sk bp) 69), (bp, C (bdL bu (sentN s st bn k off n) bv) 85)]) hl (has_two (bn := bn) hh (keeps_cons (b := mp) (by repeat (first | exact find_head | apply find_tail)) rfl (keeps_cons (b := bp) (by repeat (first | exact find_head | apply find_tail)) rfl keeps_nil)) he9) rfl keeps_self ⟨rfl, rfl⟩) | (have he9 := sent_2 (s := s) (st := st) (bn := bn) (k := k) (off := off) (n := n) (by omega) ⟨by omega, by omega, by omega⟩; refine f_end0 (F' := [(mp, C (encM (sentM s k off n) st sk bp) 69), (bp, C (bdL bu (sentN s st bn k off n) bv) 85)]) hl (has_two (bn := bn) hh (keeps_cons (b := mp) (by repeat (first | exact find_head | apply find_tail)) rfl (keeps_cons (b := bp) (by repeat (first | exact find_head | apply find_tail)) rfl keeps_nil)) he9) rfl keeps_self ⟨rfl, rfl⟩) | (have he9 := sent_3a (s := s) (st := st) (bn := bn) (k := k) (off := off) (n := n) (f := f9) (by omega) ⟨by omega, by omega, by omega⟩ (by omega) (by assumption); refine f_end0 (F' := [(mp, C (encM (sentM s k off n) st sk bp) 69), (bp, C (bdL bu (sentN s st bn k off n) bv) 85)]) hl (has_two (bn := bn) hh (keeps_cons (b := mp) (by repeat (first | exact find_head | apply find_tail)) rfl (keeps_cons (b := bp) (by repeat (first | exact find_head | apply find_tail)) rfl keeps_nil)) he9) rfl keeps_self ⟨rfl, rfl⟩) | (have he9 := sent_3b (s := s) (st := st) (bn := bn) (k := k) (off := off) (n := n) (f := f9) (by omega) ⟨by omega, by omega, by omega⟩ (by omega) (by assumption); refine f_end0 (F' := [(mp, C (encM (sentM s k off n) st sk bp) 69), (bp, C (bdL bu (sentN s st bn k off n) bv) 85)]) hl (has_two (bn := bn) hh (keeps_cons (b := mp) (by repeat (first | exact find_head | apply find_tail)) rfl (keeps_cons (b := bp) (by repeat (first | exact find_head | apply find_tail)) rfl keeps_nil)) he9) rfl keeps_self ⟨rfl, rfl⟩) | (have he9 := sent_4 (s := s) (st := st) (bn := bn) (k := k) (off := off) (n := n) (by omega) (by omega) (by omega); refine f_end0 (F' := [(mp, C (encM (sentM s k off n) st sk bp) 69), (bp, C (bdL bu (sentN s st bn k off n) bv) 85)]) hl (has_two (bn := bn) hh (keeps_cons (b := mp) (by repeat (first | exact find_head | apply find_tail)) rfl (keeps_cons (b := bp) (by repeat (first | exact find_head | apply find_tail)) rfl keeps_nil)) he9) rfl keeps_self ⟨rfl, rfl⟩) | (have he9 := sent_4 (s := s) (st := st) (bn := bn) (k := k) (off := off) (n := n) (by omega) (fun h9 => not_inF (by omega) h9.2) (fun h9 => not_inF (by omega) h9.2); refine f_end0 (F' := [(mp, C (encM (sentM s k off n) st sk bp) 69), (bp, C (bdL bu (sentN s st bn k off n) bv) 85)]) hl (has_two (bn := bn) hh (keeps_cons (b := mp) (by repeat (first | exact find_head | apply find_tail)) rfl (keeps_cons (b := bp) (by repeat (first | exact find_head | apply find_tail)) rfl keeps_nil)) he9) rfl keeps_self ⟨rfl, rfl⟩)
        · intro hg15; clear hl; intro hl
          try simp only [decide_eq_true_eq, decide_eq_false_iff_not, Bool.not_eq_true', Bool.not_eq_false', Bool.not_eq_true, Bool.not_eq_false, Bool.and_eq_true, Bool.or_eq_true, Bool.and_eq_false_iff, Bool.or_eq_false_iff, Bool.not_not, ne_eq, Int.not_lt, Int.not_le, Decidable.not_not, beq_iff_eq, bne_iff_ne] at hg15
          refine d_skip (i := 13) hl rfl (by kernel_rfl) (by kernel_rfl) (by kernel_rfl) (by kernel_rfl) (by kernel_rfl) rfl ⟨_, _, rfl, rfl, rfl⟩ (fun _ _ _ h => h) hM ?_
          clear hl a; intro a hl
          refine d_skip (i := 14) hl rfl (by kernel_rfl) (by kernel_rfl) (by kernel_rfl) (by kernel_rfl) (by kernel_rfl) rfl ⟨_, _, rfl, rfl, rfl⟩ (fun _ _ _ h => h) hM ?_
          clear hl a; intro a hl
          refine d_skip (i := 15) hl rfl (by kernel_rfl) (by kernel_rfl) (by kernel_rfl) (by kernel_rfl) (by kernel_rfl) rfl ⟨_, _, rfl, rfl, rfl⟩ (fun _ _ _ h => h) hM ?_
          clear hl a; intro a hl
          refine d_skip (i := 16) hl rfl (by kernel_rfl) (by kernel_rfl) (by kernel_rfl) (by kernel_rfl) (by kernel_rfl) rfl ⟨_, _, rfl, rfl, rfl⟩ (fun _ _ _ h => h) hM ?_
          clear hl a; intro a hl
          refine d_skip (i := 17) hl rfl (by kernel_rfl) (by kernel_rfl) (by kernel_rfl) (by kernel_rfl) (by kernel_rfl) rfl ⟨_, _, rfl, rfl, rfl⟩ (fun _ _ _ h => h) hM ?_
          clear hl a; intro a hl
          refine d_skip (i := 18) hl rfl (by kernel_rfl) (by kernel_rfl) (by kernel_rfl) (by kernel_rfl) (by kernel_rfl) rfl ⟨_, _, rfl, rfl, rfl⟩ (fun _ _ _ h => h) hM ?_
          clear hl a; intro a hl
          refine d_skip (i := 19) hl rfl (by kernel_rfl) (by kernel_rfl) (by kernel_rfl) (by kernel_rfl) (by kernel_rfl) rfl ⟨_, _, rfl, rfl, rfl⟩ (fun _ _ _ h => h) hM ?_
          clear hl a; intro a hl
          refine d_skip (i := 20) hl rfl (by kernel_rfl) (by kernel_rfl) (by kernel_rfl) (by kernel_rfl) (by kernel_rfl) rfl ⟨_, _, rfl, rfl, rfl⟩ (fun _ _ _ h => h) hM ?_
          clear hl a; intro a hl
          refine d_skip (i := 21) hl rfl (by kernel_rfl) (by kernel_rfl) (by kernel_rfl) (by kernel_rfl) (by kernel_rfl) rfl ⟨_, _, rfl, rfl, rfl⟩ (fun _ _ _ h => h) hM ?_
          clear hl a; intro a hl
          refine d_skip (i := 22) hl rfl (by kernel_rfl) (by kernel_rfl) (by kernel_rfl) (by kernel_rfl) (by kernel_rfl) rfl ⟨_, _, rfl, rfl, rfl⟩ (fun _ _ _ h => h) hM ?_
          clear hl a; intro a hl
          refine d_skip (i := 23) hl rfl (by kernel_rfl) (by kernel_rfl) (by kernel_rfl) (by kernel_rfl) (by kernel_rfl) rfl ⟨_, _, rfl, rfl, rfl⟩ (fun _ _ _ h => h) hM ?_
          clear hl a; intro a hl
          refine d_skip (i := 24) hl rfl (by kernel_rfl) (by kernel_rfl) (by kernel_rfl) (by kernel_rfl) (by kernel_rfl) rfl ⟨_, _, rfl, rfl, rfl⟩ (fun _ _ _ h => h) hM ?_
          clear hl a; intro a hl
          refine d_skip (i := 25) hl rfl (by kernel_rfl) (by kernel_rfl) (by kernel_rfl) (by kernel_rfl) (by kernel_rfl) rfl ⟨_, _, rfl, rfl, rfl⟩ (fun _ _ _ h => h) hM ?_
          clear hl a; intro a hl
          refine d_takeL (i := 26) hl rfl (by kernel_rfl) (by kernel_rfl) (by kernel_rfl) (by kernel_rfl) (by kernel_rfl) rfl trivial (fun _ _ _ h => h) (fun w => r_pickF hl rfl rfl) rfl ?_
          clear hl a; intro a hl
          refine d_takeL (i := 27) hl rfl (by kernel_rfl) (by kernel_rfl) (by kernel_rfl) (by kernel_rfl) (by kernel_rfl) rfl trivial (fun _ _ _ h => h) (fun w => r_assign hl rfl) rfl ?_
          clear hl a; intro a hl
          refine d_done (by kernel_rfl) ?_
          try clear hM
          have hl2 := hl.add (t := 0) (hl.add (t := 3) (hl.add (t := 4) (hl.add (t := 29) (hl.nil) rfl) rfl) rfl) rfl; clear hl; have hl := hl2; clear hl2
          refine then_normal ?_
          refine c_condF hl rfl ?_
          refine c_seq ?_
          refine c_region ?_
          refine wl (wl_val hl rfl trivial (r_field hl rfl fld42_0) ?_)
          clear hl a; intro a hl
          refine wl (w_load hl hh rfl trivial one38 rfl (by repeat (first | exact find_head | apply find_tail)) (by first | rfl) ?_)
          clear hl a; intro a hl
          refine wl (wl_val hl rfl trivial (r_eql hl rfl rfl) ?_)
          clear hl a; intro a hl
          refine wl (wl_val hl rfl trivial (r_move hl rfl) ?_)
          clear hl a; intro a hl
          refine sl_split (t := 81) hl rfl ?_ ?_
          · intro hg19; clear hl; intro hl
            try simp only [decide_eq_true_eq, decide_eq_false_iff_not, Bool.not_eq_true', Bool.not_eq_false', Bool.not_eq_true, Bool.not_eq_false, Bool.and_eq_true, Bool.or_eq_true, Bool.and_eq_false_iff, Bool.or_eq_false_iff, Bool.not_not, ne_eq, Int.not_lt, Int.not_le, Decidable.not_not, beq_iff_eq, bne_iff_ne] at hg19
            refine wl (wl_val hl rfl ⟨_, _, rfl, rfl, rfl⟩ (r_move hl rfl) ?_)
            clear hl a; intro a hl
            refine wl (wl_val hl rfl trivial (r_pickT hl rfl rfl) ?_)
            clear hl a; intro a hl
            refine wl (wl_val hl rfl trivial (r_assign hl rfl) ?_)
            clear hl a; intro a hl
            refine w_nil ?_
            have hl2 := hl.add (t := 0) (hl.add (t := 3) (hl.add (t := 4) (hl.add (t := 77) (hl.nil) rfl) rfl) rfl) rfl; clear hl; have hl := hl2; clear hl2
            refine then_normal ?_
            refine c_condF hl rfl ?_
            refine c_seq ?_
            refine c_region ?_
            refine wl (wl_val hl rfl trivial (r_field hl rfl fld42_0) ?_)
            clear hl a; intro a hl
            refine wl (w_load hl hh rfl trivial one38 rfl (by repeat (first | exact find_head | apply find_tail)) (by first | rfl) ?_)
            clear hl a; intro a hl
            refine wl (wl_val hl rfl trivial (r_eql hl rfl rfl) ?_)
            clear hl a; intro a hl
            refine wl (wl_val hl rfl trivial (r_move hl rfl) ?_)
            clear hl a; intro a hl
            refine sl_split (t := 91) hl rfl ?_ ?_
            · intro hg20; clear hl; intro hl
              try simp only [decide_eq_true_eq, decide_eq_false_iff_not, Bool.not_eq_true', Bool.not_eq_false', Bool.not_eq_true, Bool.not_eq_false, Bool.and_eq_true, Bool.or_eq_true, Bool.and_eq_false_iff, Bool.or_eq_false_iff, Bool.not_not, ne_eq, Int.not_lt, Int.not_le, Decidable.not_not, beq_iff_eq, bne_iff_ne] at hg20
              refine wl (wl_val hl rfl ⟨_, _, rfl, rfl, rfl⟩ (r_move hl rfl) ?_)
              clear hl a; intro a hl
              refine wl (wl_val hl rfl trivial (r_pickT hl rfl rfl) ?_)
              clear hl a; intro a hl
              refine wl (wl_val hl rfl trivial (r_assign hl rfl) ?_)
              clear hl a; intro a hl
              refine w_nil ?_
              have hl2 := hl.add (t := 0) (hl.add (t := 3) (hl.add (t := 87) (hl.nil) rfl) rfl) rfl; clear hl; have hl := hl2; clear hl2
              refine then_normal ?_
              refine c_condF hl rfl ?_
              refine wp_skip ?_
              refine blk_normal ?_
              first | (exfalso; omega) | (have he9 := sent_1 (s := s) (st := st) (bn := bn) (k := k) (off := off) (n := n) ⟨by omega, by omega, by omega⟩; refine f_end0 (F' := [(mp, C (encM (sentM s k off n) st sk bp) 69), (bp, C (bdL bu (sentN s st bn k off n) bv) 85)]) hl (has_two (bn := bn) hh (keeps_cons (b := mp) (by repeat (first | exact find_head | apply find_tail)) rfl (keeps_cons (b := bp) (by repeat (first | exact find_head | apply find_tail)) rfl keeps_nil)) he9) rfl keeps_self ⟨rfl, rfl⟩) | (have he9 := sent_2 (s := s) (st := st) (bn := bn) (k := k) (off := off) (n := n) (by omega) ⟨by omega, by omega, by omega⟩; refine f_end0 (F' := [(mp, C (encM (sentM s k off n) st sk bp) 69), (bp, C (bdL bu (sentN s st bn k off n) bv) 85)]) hl (has_two (bn := bn) hh (keeps_cons (b := mp) (by repeat (first | exact find_head | apply find_tail)) rfl (keeps_cons (b := bp) (by repeat (first | exact find_head | apply find_tail)) rfl keeps_nil)) he9) rfl keeps_self ⟨rfl, rfl⟩) | (have he9 := sent_3a (s := s) (st := st) (bn := bn) (k := k) (off := off) (n := n) (f := f9) (by omega) ⟨by omega, by omega, by omega⟩ (by omega) (by assumption); refine f_end0 (F' := [(mp, C (encM (sentM s k off n) st sk bp) 69), (bp, C (bdL bu (sentN s st bn k off n) bv) 85)]) hl (has_two (bn := bn) hh (keeps_cons (b := mp) (by repeat (first | exact find_head | apply find_tail)) rfl (keeps_cons (b := bp) (by repeat (first | exact find_head | apply find_tail)) rfl keeps_nil)) he9) rfl keeps_self ⟨rfl, rfl⟩) | (have he9 := sent_3b (s := s) (st := st) (bn := bn) (k := k) (off := off) (n := n) (f := f9) (by omega) ⟨by omega, by omega, by omega⟩ (by omega) (by assumption); refine f_end0 (F' := [(mp, C (encM (sentM s k off n) st sk bp) 69), (bp, C (bdL bu (sentN s st bn k off n) bv) 85)]) hl (has_two (bn := bn) hh (keeps_cons (b := mp) (by repeat (first | exact find_head | apply find_tail)) rfl (keeps_cons (b := bp) (by repeat (first | exact find_head | apply find_tail)) rfl keeps_nil)) he9) rfl keeps_self ⟨rfl, rfl⟩) | (have he9 := sent_4 (s := s) (st := st) (bn := bn) (k := k) (off := off) (n := n) (by omega) (by omega) (by omega); refine f_end0 (F' := [(mp, C (encM (sentM s k off n) st sk bp) 69), (bp, C (bdL bu (sentN s st bn k off n) bv) 85)]) hl (has_two (bn := bn) hh (keeps_cons (b := mp) (by repeat (first | exact find_head | apply find_tail)) rfl (keeps_cons (b := bp) (by repeat (first | exact find_head | apply find_tail)) rfl keeps_nil)) he9) rfl keeps_self ⟨rfl, rfl⟩) | (have he9 := sent_4 (s := s) (st := st) (bn := bn) (k := k) (off := off) (n := n) (by omega) (fun h9 => not_inF (by omega) h9.2) (fun h9 => not_inF (by omega) h9.2); refine f_end0 (F' := [(mp, C (encM (sentM s k off n) st sk bp) 69), (bp, C (bdL bu (sentN s st bn k off n) bv) 85)]) hl (has_two (bn := bn) hh (keeps_cons (b := mp) (by repeat (first | exact find_head | apply find_tail)) rfl (keeps_cons (b := bp) (by repeat (first | exact find_head | apply find_tail)) rfl keeps_nil)) he9) rfl keeps_self ⟨rfl, rfl⟩)
            · intro hg20; clear hl; intro hl
              try simp only [decide_eq_true_eq, decide_eq_false_iff_not, Bool.not_eq_true', Bool.not_eq_false', Bool.not_eq_true, Bool.not_eq_false, Bool.and_eq_true, Bool.or_eq_true, Bool.and_eq_false_iff, Bool.or_eq_false_iff, Bool.not_not, ne_eq, Int.not_lt, Int.not_le, Decidable.not_not, beq_iff_eq, bne_iff_ne] at hg20
              refine wl (wl_skip hl rfl ⟨_, _, rfl, rfl, rfl⟩ ?_)
              clear hl a; intro a hl
              refine wl (wl_val hl rfl trivial (r_pickF hl rfl rfl) ?_)
              clear hl a; intro a hl
              refine wl (wl_val hl rfl trivial (r_assign hl rfl) ?_)
              clear hl a; intro a hl
              refine w_nil ?_
              have hl2 := hl.add (t := 0) (hl.add (t := 3) (hl.add (t := 87) (hl.nil) rfl) rfl) rfl; clear hl; have hl := hl2; clear hl2
              refine then_normal ?_
              refine c_condF hl rfl ?_
              refine wp_skip ?_
              refine blk_normal ?_
              first | (exfalso; omega) | (have he9 := sent_1 (s := s) (st := st) (bn := bn) (k := k) (off := off) (n := n) ⟨by omega, by omega, by omega⟩; refine f_end0 (F' := [(mp, C (encM (sentM s k off n) st sk bp) 69), (bp, C (bdL bu (sentN s st bn k off n) bv) 85)]) hl (has_two (bn := bn) hh (keeps_cons (b := mp) (by repeat (first | exact find_head | apply find_tail)) rfl (keeps_cons (b := bp) (by repeat (first | exact find_head | apply find_tail)) rfl keeps_nil)) he9) rfl keeps_self ⟨rfl, rfl⟩) | (have he9 := sent_2 (s := s) (st := st) (bn := bn) (k := k) (off := off) (n := n) (by omega) ⟨by omega, by omega, by omega⟩; refine f_end0 (F' := [(mp, C (encM (sentM s k off n) st sk bp) 69), (bp, C (bdL bu (sentN s st bn k off n) bv) 85)]) hl (has_two (bn := bn) hh (keeps_cons (b := mp) (by repeat (first | exact find_head | apply find_tail)) rfl (keeps_cons (b := bp) (by repeat (first | exact find_head | apply find_tail)) rfl keeps_nil)) he9) rfl keeps_self ⟨rfl, rfl⟩) | (have he9 := sent_3a (s := s) (st := st) (bn := bn) (k := k) (off := off) (n := n) (f := f9) (by omega) ⟨by omega, by omega, by omega⟩ (by omega) (by assumption); refine f_end0 (F' := [(mp, C (encM (sentM s k off n) st sk bp) 69), (bp, C (bdL bu (sentN s st bn k off n) bv) 85)]) hl (has_two (bn := bn) hh (keeps_cons (b := mp) (by repeat (first | exact find_head | apply find_tail)) rfl (keeps_cons (b := bp) (by repeat (first | exact find_head | apply find_tail)) rfl keeps_nil)) he9) rfl keeps_self ⟨rfl, rfl⟩) | (have he9 := sent_3b (s := s) (st := st) (bn := bn) (k := k) (off := off) (n := n) (f := f9) (by omega) ⟨by omega, by omega, by omega⟩ (by omega) (by assumption); refine f_end0 (F' := [(mp, C (encM (sentM s k off n) st sk bp) 69), (bp, C (bdL bu (sentN s st bn k off n) bv) 85)]) hl (has_two (bn := bn) hh (keeps_cons (b := mp) (by repeat (first | exact find_head | apply find_tail)) rfl (keeps_cons (b := bp) (by repeat (first | exact find_head | apply find_tail)) rfl keeps_nil)) he9) rfl keeps_self ⟨rfl, rfl⟩) | (have he9 := sent_4 (s := s) (st := st) (bn := bn) (k := k) (off := off) (n := n) (by omega) (by omega) (by omega); refine f_end0 (F' := [(mp, C (encM (sentM s k off n) st sk bp) 69), (bp, C (bdL bu (sentN s st bn k off n) bv) 85)]) hl (has_two (bn := bn) hh (keeps_cons (b := mp) (by repeat (first | exact find_head | apply find_tail)) rfl (keeps_cons (b := bp) (by repeat (first | exact find_head | apply find_tail)) rfl keeps_nil)) he9) rfl keeps_self ⟨rfl, rfl⟩) | (have he9 := sent_4 (s := s) (st := st) (bn := bn) (k := k) (off := off) (n := n) (by omega) (fun h9 => not_inF (by omega) h9.2) (fun h9 => not_inF (by omega) h9.2); refine f_end0 (F' := [(mp, C (encM (sentM s k off n) st sk bp) 69), (bp, C (bdL bu (sentN s st bn k off n) bv) 85)]) hl (has_two (bn := bn) hh (keeps_cons (b := mp) (by repeat (first | exact find_head | apply find_tail)) rfl (keeps_cons (b := bp) (by repeat (first | exact find_head | apply find_tail)) rfl keeps_nil)) he9) rfl keeps_self ⟨rfl, rfl⟩)
          · intro hg19; clear hl; intro hl
            try simp only [decide_eq_true_eq, decide_eq_false_iff_not, Bool.not_eq_true', Bool.not_eq_false', Bool.not_eq_true, Bool.not_eq_false, Bool.and_eq_true, Bool.or_eq_true, Bool.and_eq_false_iff, Bool.or_eq_false_iff, Bool.not_not, ne_eq, Int.not_lt, Int.not_le, Decidable.not_not, beq_iff_eq, bne_iff_ne] at hg19
            refine wl (wl_skip hl rfl ⟨_, _, rfl, rfl, rfl⟩ ?_)
            clear hl a; intro a hl
            refine wl (wl_val hl rfl trivial (r_pickF hl rfl rfl) ?_)
            clear hl a; intro a hl
            refine wl (wl_val hl rfl trivial (r_assign hl rfl) ?_)
            clear hl a; intro a hl
            refine w_nil ?_
            have hl2 := hl.add (t := 0) (hl.add (t := 3) (hl.add (t := 4) (hl.add (t := 77) (hl.nil) rfl) rfl) rfl) rfl; clear hl; have hl := hl2; clear hl2
            refine then_normal ?_
            refine c_condF hl rfl ?_
            refine c_seq ?_
            refine c_region ?_
            refine wl (wl_val hl rfl trivial (r_field hl rfl fld42_0) ?_)
            clear hl a; intro a hl
            refine wl (w_load hl hh rfl trivial one38 rfl (by repeat (first | exact find_head | apply find_tail)) (by first | rfl) ?_)
            clear hl a; intro a hl
            refine wl (wl_val hl rfl trivial (r_eql hl rfl rfl) ?_)
            clear hl a; intro a hl
            refine wl (wl_val hl rfl trivial (r_move hl rfl) ?_)
            clear hl a; intro a hl
            refine sl_split (t := 91) hl rfl ?_ ?_
            · intro hg21; clear hl; intro hl
              try simp only [decide_eq_true_eq, decide_eq_false_iff_not, Bool.not_eq_true', Bool.not_eq_false', Bool.not_eq_true, Bool.not_eq_false, Bool.and_eq_true, Bool.or_eq_true, Bool.and_eq_false_iff, Bool.or_eq_false_iff, Bool.not_not, ne_eq, Int.not_lt, Int.not_le, Decidable.not_not, beq_iff_eq, bne_iff_ne] at hg21
              refine wl (wl_val hl rfl ⟨_, _, rfl, rfl, rfl⟩ (r_move hl rfl) ?_)
              clear hl a; intro a hl
              refine wl (wl_val hl rfl trivial (r_pickT hl rfl rfl) ?_)
              clear hl a; intro a hl
              refine wl (wl_val hl rfl trivial (r_assign hl rfl) ?_)
              clear hl a; intro a hl
              refine w_nil ?_
              have hl2 := hl.add (t := 0) (hl.add (t := 3) (hl.add (t := 87) (hl.nil) rfl) rfl) rfl; clear hl; have hl := hl2; clear hl2
              refine then_normal ?_
              refine c_condF hl rfl ?_
              refine wp_skip ?_
              refine blk_normal ?_
              first | (exfalso; omega) | (have he9 := sent_1 (s := s) (st := st) (bn := bn) (k := k) (off := off) (n := n) ⟨by omega, by omega, by omega⟩; refine f_end0 (F' := [(mp, C (encM (sentM s k off n) st sk bp) 69), (bp, C (bdL bu (sentN s st bn k off n) bv) 85)]) hl (has_two (bn := bn) hh (keeps_cons (b := mp) (by repeat (first | exact find_head | apply find_tail)) rfl (keeps_cons (b := bp) (by repeat (first | exact find_head | apply find_tail)) rfl keeps_nil)) he9) rfl keeps_self ⟨rfl, rfl⟩) | (have he9 := sent_2 (s := s) (st := st) (bn := bn) (k := k) (off := off) (n := n) (by omega) ⟨by omega, by omega, by omega⟩; refine f_end0 (F' := [(mp, C (encM (sentM s k off n) st sk bp) 69), (bp, C (bdL bu (sentN s st bn k off n) bv) 85)]) hl (has_two (bn := bn) hh (keeps_cons (b := mp) (by repeat (first | exact find_head | apply find_tail)) rfl (keeps_cons (b := bp) (by repeat (first | exact find_head | apply find_tail)) rfl keeps_nil)) he9) rfl keeps_self ⟨rfl, rfl⟩) | (have he9 := sent_3a (s := s) (st := st) (bn := bn) (k := k) (off := off) (n := n) (f := f9) (by omega) ⟨by omega, by omega, by omega⟩ (by omega) (by assumption); refine f_end0 (F' := [(mp, C (encM (sentM s k off n) st sk bp) 69), (bp, C (bdL bu (sentN s st bn k off n) bv) 85)]) hl (has_two (bn := bn) hh (keeps_cons (b := mp) (by repeat (first | exact find_head | apply find_tail)) rfl (keeps_cons (b := bp) (by repeat (first | exact find_head | apply find_tail)) rfl keeps_nil)) he9) rfl keeps_self ⟨rfl, rfl⟩) | (have he9 := sent_3b (s := s) (st := st) (bn := bn) (k := k) (off := off) (n := n) (f := f9) (by omega) ⟨by omega, by omega, by omega⟩ (by omega) (by assumption); refine f_end0 (F' := [(mp, C (encM (sentM s k off n) st sk bp) 69), (bp, C (bdL bu (sentN s st bn k off n) bv) 85)]) hl (has_two (bn := bn) hh (keeps_cons (b := mp) (by repeat (first | exact find_head | apply find_tail)) rfl (keeps_cons (b := bp) (by repeat (first | exact find_head | apply find_tail)) rfl keeps_nil)) he9) rfl keeps_self ⟨rfl, rfl⟩) | (have he9 := sent_4 (s := s) (st := st) (bn := bn) (k := k) (off := off) (n := n) (by omega) (by omega) (by omega); refine f_end0 (F' := [(mp, C (encM (sentM s k off n) st sk bp) 69), (bp, C (bdL bu (sentN s st bn k off n) bv) 85)]) hl (has_two (bn := bn) hh (keeps_cons (b := mp) (by repeat (first | exact find_head | apply find_tail)) rfl (keeps_cons (b := bp) (by repeat (first | exact find_head | apply find_tail)) rfl keeps_nil)) he9) rfl keeps_self ⟨rfl, rfl⟩) | (have he9 := sent_4 (s := s) (st := st) (bn := bn) (k := k) (off := off) (n := n) (by omega) (fun h9 => not_inF (by omega) h9.2) (fun h9 => not_inF (by omega) h9.2); refine f_end0 (F' := [(mp, C (encM (sentM s k off n) st sk bp) 69), (bp, C (bdL bu (sentN s st bn k off n) bv) 85)]) hl (has_two (bn := bn) hh (keeps_cons (b := mp) (by repeat (first | exact find_head | apply find_tail)) rfl (keeps_cons (b := bp) (by repeat (first | exact find_head | apply find_tail)) rfl keeps_nil)) he9) rfl keeps_self ⟨rfl, rfl⟩)
            · intro hg21; clear hl; intro hl
              try simp only [decide_eq_true_eq, decide_eq_false_iff_not, Bool.not_eq_true', Bool.not_eq_false', Bool.not_eq_true, Bool.not_eq_false, Bool.and_eq_true, Bool.or_eq_true, Bool.and_eq_false_iff, Bool.or_eq_false_iff, Bool.not_not, ne_eq, Int.not_lt, Int.not_le, Decidable.not_not, beq_iff_eq, bne_iff_ne] at hg21
              refine wl (wl_skip hl rfl ⟨_, _, rfl, rfl, rfl⟩ ?_)
              clear hl a; intro a hl
              refine wl (wl_val hl rfl trivial (r_pickF hl rfl rfl) ?_)
              clear hl a; intro a hl
              refine wl (wl_val hl rfl trivial (r_assign hl rfl) ?_)
              clear hl a; intro a hl
              refine w_nil ?_
              have hl2 := hl.add (t := 0) (hl.add (t := 3) (hl.add (t := 87) (hl.nil) rfl) rfl) rfl; clear hl; have hl := hl2; clear hl2
              refine then_normal ?_
              refine c_condF hl rfl ?_
              refine wp_skip ?_
              refine blk_normal ?_
              first | (exfalso; omega) | (have he9 := sent_1 (s := s) (st := st) (bn := bn) (k := k) (off := off) (n := n) ⟨by omega, by omega, by omega⟩; refine f_end0 (F' := [(mp, C (encM (sentM s k off n) st sk bp) 69), (bp, C (bdL bu (sentN s st bn k off n) bv) 85)]) hl (has_two (bn := bn) hh (keeps_cons (b := mp) (by repeat (first | exact find_head | apply find_tail)) rfl (keeps_cons (b := bp) (by repeat (first | exact find_head | apply find_tail)) rfl keeps_nil)) he9) rfl keeps_self ⟨rfl, rfl⟩) | (have he9 := sent_2 (s := s) (st := st) (bn := bn) (k := k) (off := off) (n := n) (by omega) ⟨by omega, by omega, by omega⟩; refine f_end0 (F' := [(mp, C (encM (sentM s k off n) st sk bp) 69), (bp, C (bdL bu (sentN s st bn k off n) bv) 85)]) hl (has_two (bn := bn) hh (keeps_cons (b := mp) (by repeat (first | exact find_head | apply find_tail)) rfl (keeps_cons (b := bp) (by repeat (first | exact find_head | apply find_tail)) rfl keeps_nil)) he9) rfl keeps_self ⟨rfl, rfl⟩) | (have he9 := sent_3a (s := s) (st := st) (bn := bn) (k := k) (off := off) (n := n) (f := f9) (by omega) ⟨by omega, by omega, by omega⟩ (by omega) (by assumption); refine f_end0 (F' := [(mp, C (encM (sentM s k off n) st sk bp) 69), (bp, C (bdL bu (sentN s st bn k off n) bv) 85)]) hl (has_two (bn := bn) hh (keeps_cons (b := mp) (by repeat (first | exact find_head | apply find_tail)) rfl (keeps_cons (b := bp) (by repeat (first | exact find_head | apply find_tail)) rfl keeps_nil)) he9) rfl keeps_self ⟨rfl, rfl⟩) | (have he9 := sent_3b (s := s) (st := st) (bn := bn) (k := k) (off := off) (n := n) (f := f9) (by omega) ⟨by omega, by omega, by omega⟩ (by omega) (by assumption); refine f_end0 (F' := [(mp, C (encM (sentM s k off n) st sk bp) 69), (bp, C (bdL bu (sentN s st bn k off n) bv) 85)]) hl (has_two (bn := bn) hh (keeps_cons (b := mp) (by repeat (first | exact find_head | apply find_tail)) rfl (keeps_cons (b := bp) (by repeat (first | exact find_head | apply find_tail)) rfl keeps_nil)) he9) rfl keeps_self ⟨rfl, rfl⟩) | (have he9 := sent_4 (s := s) (st := st) (bn := bn) (k := k) (off := off) (n := n) (by omega) (by omega) (by omega); refine f_end0 (F' := [(mp, C (encM (sentM s k off n) st sk bp) 69), (bp, C (bdL bu (sentN s st bn k off n) bv) 85)]) hl (has_two (bn := bn) hh (keeps_cons (b := mp) (by repeat (first | exact find_head | apply find_tail)) rfl (keeps_cons (b := bp) (by repeat (first | exact find_head | apply find_tail)) rfl keeps_nil)) he9) rfl keeps_self ⟨rfl, rfl⟩) | (have he9 := sent_4 (s := s) (st := st) (bn := bn) (k := k) (off := off) (n := n) (by omega) (fun h9 => not_inF (by omega) h9.2) (fun h9 => not_inF (by omega) h9.2); refine f_end0 (F' := [(mp, C (encM (sentM s k off n) st sk bp) 69), (bp, C (bdL bu (sentN s st bn k off n) bv) 85)]) hl (has_two (bn := bn) hh (keeps_cons (b := mp) (by repeat (first | exact find_head | apply find_tail)) rfl (keeps_cons (b := bp) (by repeat (first | exact find_head | apply find_tail)) rfl keeps_nil)) he9) rfl keeps_self ⟨rfl, rfl⟩)
      · intro hg14; clear hl; intro hl
        try simp only [decide_eq_true_eq, decide_eq_false_iff_not, Bool.not_eq_true', Bool.not_eq_false', Bool.not_eq_true, Bool.not_eq_false, Bool.and_eq_true, Bool.or_eq_true, Bool.and_eq_false_iff, Bool.or_eq_false_iff, Bool.not_not, ne_eq, Int.not_lt, Int.not_le, Decidable.not_not, beq_iff_eq, bne_iff_ne] at hg14
        refine d_skip (i := 4) hl rfl (by kernel_rfl) (by kernel_rfl) (by kernel_rfl) (by kernel_rfl) (by kernel_rfl) rfl ⟨_, _, rfl, rfl, rfl⟩ (fun _ _ _ h => h) hM ?_
        clear hl a; intro a hl
        refine d_skip (i := 5) hl rfl (by kernel_rfl) (by kernel_rfl) (by kernel_rfl) (by kernel_rfl) (by kernel_rfl) rfl ⟨_, _, rfl, rfl, rfl⟩ (fun _ _ _ h => h) hM ?_
        clear hl a; intro a hl
        refine d_skip (i := 6) hl rfl (by kernel_rfl) (by kernel_rfl) (by kernel_rfl) (by kernel_rfl) (by kernel_rfl) rfl ⟨_, _, rfl, rfl, rfl⟩ (fun _ _ _ h => h) hM ?_
        clear hl a; intro a hl
        refine d_skip (i := 7) hl rfl (by kernel_rfl) (by kernel_rfl) (by kernel_rfl) (by kernel_rfl) (by kernel_rfl) rfl ⟨_, _, rfl, rfl, rfl⟩ (fun _ _ _ h => h) hM ?_
        clear hl a; intro a hl
        refine d_skip (i := 8) hl rfl (by kernel_rfl) (by kernel_rfl) (by kernel_rfl) (by kernel_rfl) (by kernel_rfl) rfl ⟨_, _, rfl, rfl, rfl⟩ (fun _ _ _ h => h) hM ?_
        clear hl a; intro a hl
        refine d_skip (i := 9) hl rfl (by kernel_rfl) (by kernel_rfl) (by kernel_rfl) (by kernel_rfl) (by kernel_rfl) rfl ⟨_, _, rfl, rfl, rfl⟩ (fun _ _ _ h => h) hM ?_
        clear hl a; intro a hl
        refine d_skip (i := 10) hl rfl (by kernel_rfl) (by kernel_rfl) (by kernel_rfl) (by kernel_rfl) (by kernel_rfl) rfl ⟨_, _, rfl, rfl, rfl⟩ (fun _ _ _ h => h) hM ?_
        clear hl a; intro a hl
        refine d_take (i := 11) hl rfl (by kernel_rfl) (by kernel_rfl) (by kernel_rfl) (by kernel_rfl) (by kernel_rfl) rfl trivial (fun _ _ _ h => h) hM (fun w hC => r_pickF hl rfl rfl) rfl ?_
        clear hl a; intro a hl
        refine d_take (i := 12) hl rfl (by kernel_rfl) (by kernel_rfl) (by kernel_rfl) (by kernel_rfl) (by kernel_rfl) rfl trivial (fun _ _ _ h => h) hM (fun w hC => r_move hl rfl) rfl ?_
        clear hl a; intro a hl
        refine d_skip (i := 13) hl rfl (by kernel_rfl) (by kernel_rfl) (by kernel_rfl) (by kernel_rfl) (by kernel_rfl) rfl ⟨_, _, rfl, rfl, rfl⟩ (fun _ _ _ h => h) hM ?_
        clear hl a; intro a hl
        refine d_skip (i := 14) hl rfl (by kernel_rfl) (by kernel_rfl) (by kernel_rfl) (by kernel_rfl) (by kernel_rfl) rfl ⟨_, _, rfl, rfl, rfl⟩ (fun _ _ _ h => h) hM ?_
        clear hl a; intro a hl
        refine d_skip (i := 15) hl rfl (by kernel_rfl) (by kernel_rfl) (by kernel_rfl) (by kernel_rfl) (by kernel_rfl) rfl ⟨_, _, rfl, rfl, rfl⟩ (fun _ _ _ h => h) hM ?_
        clear hl a; intro a hl
        refine d_skip (i := 16) hl rfl (by kernel_rfl) (by kernel_rfl) (by kernel_rfl) (by kernel_rfl) (by kernel_rfl) rfl ⟨_, _, rfl, rfl, rfl⟩ (fun _ _ _ h => h) hM ?_
        clear hl a; intro a hl
        refine d_skip (i := 17) hl rfl (by kernel_rfl) (by kernel_rfl) (by kernel_rfl) (by kernel_rfl) (by kernel_rfl) rfl ⟨_, _, rfl, rfl, rfl⟩ (fun _ _ _ h => h) hM ?_
        clear hl a; intro a hl
        refine d_skip (i := 18) hl rfl (by kernel_rfl) (by kernel_rfl) (by kernel_rfl) (by kernel_rfl) (by kernel_rfl) rfl ⟨_, _, rfl, rfl, rfl⟩ (fun _ _ _ h => h) hM ?_
        clear hl a; intro a hl
        refine d_skip (i := 19) hl rfl (by kernel_rfl) (by kernel_rfl) (by kernel_rfl) (by kernel_rfl) (by kernel_rfl) rfl ⟨_, _, rfl, rfl, rfl⟩ (fun _ _ _ h => h) hM ?_
        clear hl a; intro a hl
        refine d_skip (i := 20) hl rfl (by kernel_rfl) (by kernel_rfl) (by kernel_rfl) (by kernel_rfl) (by kernel_rfl) rfl ⟨_, _, rfl, rfl, rfl⟩ (fun _ _ _ h => h) hM ?_
        clear hl a; intro a hl
        refine d_skip (i := 21) hl rfl (by kernel_rfl) (by kernel_rfl) (by kernel_rfl) (by kernel_rfl) (by kernel_rfl) rfl ⟨_, _, rfl, rfl, rfl⟩ (fun _ _ _ h => h) hM ?_
        clear hl a; intro a hl
        refine d_skip (i := 22) hl rfl (by kernel_rfl) (by kernel_rfl) (by kernel_rfl) (by kernel_rfl) (by kernel_rfl) rfl ⟨_, _, rfl, rfl, rfl⟩ (fun _ _ _ h => h) hM ?_
        clear hl a; intro a hl
        refine d_skip (i := 23) hl rfl (by kernel_rfl) (by kernel_rfl) (by kernel_rfl) (by kernel_rfl) (by kernel_rfl) rfl ⟨_, _, rfl, rfl, rfl⟩ (fun _ _ _ h => h) hM ?_
        clear hl a; intro a hl
        refine d_skip (i := 24) hl rfl (by kernel_rfl) (by kernel_rfl) (by kernel_rfl) (by kernel_rfl) (by kernel_rfl) rfl ⟨_, _, rfl, rfl, rfl⟩ (fun _ _ _ h => h) hM ?_
        clear hl a; intro a hl
        refine d_skip (i := 25) hl rfl (by kernel_rfl) (by kernel_rfl) (by kernel_rfl) (by kernel_rfl) (by kernel_rfl) rfl ⟨_, _, rfl, rfl, rfl⟩ (fun _ _ _ h => h) hM ?_
        clear hl a; intro a hl
        refine d_takeL (i := 26) hl rfl (by kernel_rfl) (by kernel_rfl) (by kernel_rfl) (by kernel_rfl) (by kernel_rfl) rfl trivial (fun _ _ _ h => h) (fun w => r_pickF hl rfl rfl) rfl ?_
        clear hl a; intro a hl
        refine d_takeL (i := 27) hl rfl (by kernel_rfl) (by kernel_rfl) (by kernel_rfl) (by kernel_rfl) (by kernel_rfl) rfl trivial (fun _ _ _ h => h) (fun w => r_assign hl rfl) rfl ?_
        clear hl a; intro a hl
        refine d_done (by kernel_rfl) ?_
        try clear hM
        have hl2 := hl.add (t := 0) (hl.add (t := 3) (hl.add (t := 4) (hl.add (t := 29) (hl.nil) rfl) rfl) rfl) rfl; clear hl; have hl := hl2; clear hl2
        refine then_normal ?_
        refine c_condF hl rfl ?_
        refine c_seq ?_
        refine c_region ?_
        refine wl (wl_val hl rfl trivial (r_field hl rfl fld42_0) ?_)
        clear hl a; intro a hl
        refine wl (w_load hl hh rfl trivial one38 rfl (by repeat (first | exact find_head | apply find_tail)) (by first | rfl) ?_)
        clear hl a; intro a hl
        refine wl (wl_val hl rfl trivial (r_eql hl rfl rfl) ?_)
        clear hl a; intro a hl
        refine wl (wl_val hl rfl trivial (r_move hl rfl) ?_)
        clear hl a; intro a hl
        refine sl_split (t := 81) hl rfl ?_ ?_
        · intro hg22; clear hl; intro hl
          try simp only [decide_eq_true_eq, decide_eq_false_iff_not, Bool.not_eq_true', Bool.not_eq_false', Bool.not_eq_true, Bool.not_eq_false, Bool.and_eq_true, Bool.or_eq_true, Bool.and_eq_false_iff, Bool.or_eq_false_iff, Bool.not_not, ne_eq, Int.not_lt, Int.not_le, Decidable.not_not, beq_iff_eq, bne_iff_ne] at hg22
          refine wl (wl_val hl rfl ⟨_, _, rfl, rfl, rfl⟩ (r_move hl rfl) ?_)
          clear hl a; intro a hl
          refine wl (wl_val hl rfl trivial (r_pickT hl rfl rfl) ?_)
          clear hl a; intro a hl
          refine wl (wl_val hl rfl trivial (r_assign hl rfl) ?_)
          clear hl a; intro a hl
          refine w_nil ?_
          have hl2 := hl.add (t := 0) (hl.add (t := 3) (hl.add (t := 4) (hl.add (t := 77) (hl.nil) rfl) rfl) rfl) rfl; clear hl; have hl := hl2; clear hl2
          refine then_normal ?_
          refine c_condF hl rfl ?_
          refine c_seq ?_
          refine c_region ?_
          refine wl (wl_val hl rfl trivial (r_field hl rfl fld42_0) ?_)
          clear hl a; intro a hl
          refine wl (w_load hl hh rfl trivial one38 rfl (by repeat (first | exact find_head | apply find_tail)) (by first | rfl) ?_)
          clear hl a; intro a hl
          refine wl (wl_val hl rfl trivial (r_eql hl rfl rfl) ?_)
          clear hl a; intro a hl
          refine wl (wl_val hl rfl trivial (r_move hl rfl) ?_)
          clear hl a; intro a hl
          refine sl_split (t := 91) hl rfl ?_ ?_
          · intro hg23; clear hl; intro hl
            try simp only [decide_eq_true_eq, decide_eq_false_iff_not, Bool.not_eq_true', Bool.not_eq_false', Bool.not_eq_true, Bool.not_eq_false, Bool.and_eq_true, Bool.or_eq_true, Bool.and_eq_false_iff, Bool.or_eq_false_iff, Bool.not_not, ne_eq, Int.not_lt, Int.not_le, Decidable.not_not, beq_iff_eq, bne_iff_ne] at hg23
            refine wl (wl_val hl rfl ⟨_, _, rfl, rfl, rfl⟩ (r_move hl rfl) ?_)
            clear hl a; intro a hl
            refine wl (wl_val hl rfl trivial (r_pickT hl rfl rfl) ?_)
            clear hl a; intro a hl
            refine wl (wl_val hl rfl trivial (r_assign hl rfl) ?_)
            clear hl a; intro a hl
            refine w_nil ?_
            have hl2 := hl.add (t := 0) (hl.add (t := 3) (hl.add (t := 87) (hl.nil) rfl) rfl) rfl; clear hl; have hl := hl2; clear hl2
            refine then_normal ?_
            refine c_condF hl rfl ?_
            refine wp_skip ?_
            refine blk_normal ?_
            first | (exfalso; omega) | (have he9 := sent_1 (s := s) (st := st) (bn := bn) (k := k) (off := off) (n := n) ⟨by omega, by omega, by omega⟩; refine f_end0 (F' := [(mp, C (encM (sentM s k off n) st sk bp) 69), (bp, C (bdL bu (sentN s st bn k off n) bv) 85)]) hl (has_two (bn := bn) hh (keeps_cons (b := mp) (by repeat (first | exact find_head | apply find_tail)) rfl (keeps_cons (b := bp) (by repeat (first | exact find_head | apply find_tail)) rfl keeps_nil)) he9) rfl keeps_self ⟨rfl, rfl⟩) | (have he9 := sent_2 (s := s) (st := st) (bn := bn) (k := k) (off := off) (n := n) (by omega) ⟨by omega, by omega, by omega⟩; refine f_end0 (F' := [(mp, C (encM (sentM s k off n) st sk bp) 69), (bp, C (bdL bu (sentN s st bn k off n) bv) 85)]) hl (has_two (bn := bn) hh (keeps_cons (b := mp) (by repeat (first | exact find_head | apply find_tail)) rfl (keeps_cons (b := bp) (by repeat (first | exact find_head | apply find_tail)) rfl keeps_nil)) he9) rfl keeps_self ⟨rfl, rfl⟩) | (have he9 := sent_3a (s := s) (st := st) (bn := bn) (k := k) (off := off) (n := n) (f := f9) (by omega) ⟨by omega, by omega, by omega⟩ (by omega) (by assumption); refine f_end0 (F' := [(mp, C (encM (sentM s k off n) st sk bp) 69), (bp, C (bdL bu (sentN s st bn k off n) bv) 85)]) hl (has_two (bn := bn) hh (keeps_cons (b := mp) (by repeat (first | exact find_head | apply find_tail)) rfl (keeps_cons (b := bp) (by repeat (first | exact find_head | apply find_tail)) rfl keeps_nil)) he9) rfl keeps_self ⟨rfl, rfl⟩) | (have he9 := sent_3b (s := s) (st := st) (bn := bn) (k := k) (off := off) (n := n) (f := f9) (by omega) ⟨by omega, by omega, by omega⟩ (by omega) (by assumption); refine f_end0 (F' := [(mp, C (encM (sentM s k off n) st sk bp) 69), (bp, C (bdL bu (sentN s st bn k off n) bv) 85)]) hl (has_two (bn := bn) hh (keeps_cons (b := mp) (by repeat (first | exact find_head | apply find_tail)) rfl (keeps_cons (b := bp) (by repeat (first | exact find_head | apply find_tail)) rfl keeps_nil)) he9) rfl keeps_self ⟨rfl, rfl⟩) | (have he9 := sent_4 (s := s) (st := st) (bn := bn) (k := k) (off := off) (n := n) (by omega) (by omega) (by omega); refine f_end0 (F' := [(mp, C (encM (sentM s k off n) st sk bp) 69), (bp, C (bdL bu (sentN s st bn k off n) bv) 85)]) hl (has_two (bn := bn) hh (keeps_cons (b := mp) (by repeat (first | exact find_head | apply find_tail)) rfl (keeps_cons (b := bp) (by repeat (first | exact find_head | apply find_tail)) rfl keeps_nil)) he9) rfl keeps_self ⟨rfl, rfl⟩) | (have he9 := sent_4 (s := s) (st := st) (bn := bn) (k := k) (off := off) (n := n) (by omega) (fun h9 => not_inF (by omega) h9.2) (fun h9 => not_inF (by omega) h9.2); refine f_end0 (F' := [(mp, C (encM (sentM s k off n) st sk bp) 69), (bp, C (bdL bu (sentN s st bn k off n) bv) 85)]) hl (has_two (bn := bn) hh (keeps_cons (b := mp) (by repeat (first | exact find_head | apply find_tail)) rfl (keeps_cons (b := bp) (by repeat (first | exact find_head | apply find_tail)) rfl keeps_nil)) he9) rfl keeps_self ⟨rfl, rfl⟩)
          · intro hg23; clear hl; intro hl
            try simp only [decide_eq_true_eq, decide_eq_false_iff_not, Bool.not_eq_true', Bool.not_eq_false', Bool.not_eq_true, Bool.not_eq_false, Bool.and_eq_true, Bool.or_eq_true, Bool.and_eq_false_iff, Bool.or_eq_false_iff, Bool.not_not, ne_eq, Int.not_lt, Int.not_le, Decidable.not_not, beq_iff_eq, bne_iff_ne] at hg23
            refine wl (wl_skip hl rfl ⟨_, _, rfl, rfl, rfl⟩ ?_)
            clear hl a; intro a hl
            refine wl (wl_val hl rfl trivial (r_pickF hl rfl rfl) ?_)
            clear hl a; intro a hl
            refine wl (wl_val hl rfl trivial (r_assign hl rfl) ?_)
            clear hl a; intro a hl
            refine w_nil ?_
            have hl2 := hl.add (t := 0) (hl.add (t := 3) (hl.add (t := 87) (hl.nil) rfl) rfl) rfl; clear hl; have hl := hl2; clear hl2
            refine then_normal ?_
            refine c_condF hl rfl ?_
            refine wp_skip ?_
            refine blk_normal ?_
            first | (exfalso; omega) | (have he9 := sent_1 (s := s) (st := st) (bn := bn) (k := k) (off := off) (n := n) ⟨by omega, by omega, by omega⟩; refine f_end0 (F' := [(mp, C (encM (sentM s k off n) st sk bp) 69), (bp, C (bdL bu (sentN s st bn k off n) bv) 85)]) hl (has_two (bn := bn) hh (keeps_cons (b := mp) (by repeat (first | exact find_head | apply find_tail)) rfl (keeps_cons (b := bp) (by repeat (first | exact find_head | apply find_tail)) rfl keeps_nil)) he9) rfl keeps_self ⟨rfl, rfl⟩) | (have he9 := sent_2 (s := s) (st := st) (bn := bn) (k := k) (off := off) (n := n) (by omega) ⟨by omega, by omega, by omega⟩; refine f_end0 (F' := [(mp, C (encM (sentM s k off n) st sk bp) 69), (bp, C (bdL bu (sentN s st bn k off n) bv) 85)]) hl (has_two (bn := bn) hh (keeps_cons (b := mp) (by repeat (first | exact find_head | apply find_tail)) rfl (keeps_cons (b := bp) (by repeat (first | exact find_head | apply find_tail)) rfl keeps_nil)) he9) rfl keeps_self ⟨rfl, rfl⟩) | (have he9 := sent_3a (s := s) (st := st) (bn := bn) (k := k) (off := off) (n := n) (f := f9) (by omega) ⟨by omega, by omega, by omega⟩ (by omega) (by assumption); refine f_end0 (F' := [(mp, C (encM (sentM s k off n) st sk bp) 69), (bp, C (bdL bu (sentN s st bn k off n) bv) 85)]) hl (has_two (bn := bn) hh (keeps_cons (b := mp) (by repeat (first | exact find_head | apply find_tail)) rfl (keeps_cons (b := bp) (by repeat (first | exact find_head | apply find_tail)) rfl keeps_nil)) he9) rfl keeps_self ⟨rfl, rfl⟩) | (have he9 := sent_3b (s := s) (st := st) (bn := bn) (k := k) (off := off) (n := n) (f := f9) (by omega) ⟨by omega, by omega, by omega⟩ (by omega) (by assumption); refine f_end0 (F' := [(mp, C (encM (sentM s k off n) st sk bp) 69), (bp, C (bdL bu (sentN s st bn k off n) bv) 85)]) hl (has_two (bn := bn) hh (keeps_cons (b := mp) (by repeat (first | exact find_head | apply find_tail)) rfl (keeps_cons (b := bp) (by repeat (first | exact find_head | apply find_tail)) rfl keeps_nil)) he9) rfl keeps_self ⟨rfl, rfl⟩) | (have he9 := sent_4 (s := s) (st := st) (bn := bn) (k := k) (off := off) (n := n) (by omega) (by omega) (by omega); refine f_end0 (F' := [(mp, C (encM (sentM s k off n) st sk bp) 69), (bp, C (bdL bu (sentN s st bn k off n) bv) 85)]) hl (has_two (bn := bn) hh (keeps_cons (b := mp) (by repeat (first | exact find_head | apply find_tail)) rfl (keeps_cons (b := bp) (by repeat (first | exact find_head | apply find_tail)) rfl keeps_nil)) he9) rfl keeps_self ⟨rfl, rfl⟩) | (have he9 := sent_4 (s := s) (st := st) (bn := bn) (k := k) (off := off) (n := n) (by omega) (fun h9 => not_inF (by omega) h9.2) (fun h9 => not_inF (by omega) h9.2); refine f_end0 (F' := [(mp, C (encM (sentM s k off n) st sk bp) 69), (bp, C (bdL bu (sentN s st bn k off n) bv) 85)]) hl (has_two (bn := bn) hh (keeps_cons (b := mp) (by repeat (first | exact find_head | apply find_tail)) rfl (keeps_cons (b := bp) (by repeat (first | exact find_head | apply find_tail)) rfl keeps_nil)) he9) rfl keeps_self ⟨rfl, rfl⟩)
        · intro hg22; clear hl; intro hl
          try simp only [decide_eq_true_eq, decide_eq_false_iff_not, Bool.not_eq_true', Bool.not_eq_false', Bool.not_eq_true, Bool.not_eq_false, Bool.and_eq_true, Bool.or_eq_true, Bool.and_eq_false_iff, Bool.or_eq_false_iff, Bool.not_not, ne_eq, Int.not_lt, Int.not_le, Decidable.not_not, beq_iff_eq, bne_iff_ne] at hg22
          refine wl (wl_skip hl rfl ⟨_, _, rfl, rfl, rfl⟩ ?_)
          clear hl a; intro a hl
          refine wl (wl_val hl rfl trivial (r_pickF hl rfl rfl) ?_)
          clear hl a; intro a hl
          refine wl (wl_val hl rfl trivial (r_assign hl rfl) ?_)
          clear hl a; intro a hl
          refine w_nil ?_
          have hl2 := hl.add (t := 0) (hl.add (t := 3) (hl.add (t := 4) (hl.add (t := 77) (hl.nil) rfl) rfl) rfl) rfl; clear hl; have hl := hl2; clear hl2
          refine then_normal ?_
          refine c_condF hl rfl ?_
          refine c_seq ?_
          refine c_region ?_
          refine wl (wl_val hl rfl trivial (r_field hl rfl fld42_0) ?_)
          clear hl a; intro a hl
          refine wl (w_load hl hh rfl trivial one38 rfl (by repeat (first | exact find_head | apply find_tail)) (by first | rfl) ?_)
          clear hl a; intro a hl
          refine wl (wl_val hl rfl trivial (r_eql hl rfl rfl) ?_)
          clear hl a; intro a hl
          refine wl (wl_val hl rfl trivial (r_move hl rfl) ?_)
          clear hl a; intro a hl
          refine sl_split (t := 91) hl rfl ?_ ?_
          · intro hg24; clear hl; intro hl
            try simp only [decide_eq_true_eq, decide_eq_false_iff_not, Bool.not_eq_true', Bool.not_eq_false', Bool.not_eq_true, Bool.not_eq_false, Bool.and_eq_true, Bool.or_eq_true, Bool.and_eq_false_iff, Bool.or_eq_false_iff, Bool.not_not, ne_eq, Int.not_lt, Int.not_le, Decidable.not_not, beq_iff_eq, bne_iff_ne] at hg24
            refine wl (wl_val hl rfl ⟨_, _, rfl, rfl, rfl⟩ (r_move hl rfl) ?_)
            clear hl a; intro a hl
            refine wl (wl_val hl rfl trivial (r_pickT hl rfl rfl) ?_)
            clear hl a; intro a hl
            refine wl (wl_val hl rfl trivial (r_assign hl rfl) ?_)
            clear hl a; intro a hl
            refine w_nil ?_
            have hl2 := hl.add (t := 0) (hl.add (t := 3) (hl.add (t := 87) (hl.nil) rfl) rfl) rfl; clear hl; have hl := hl2; clear hl2
            refine then_normal ?_
            refine c_condF hl rfl ?_
            refine wp_skip ?_
            refine blk_normal ?_
            first | (exfalso; omega) | (have he9 := sent_1 (s := s) (st := st) (bn := bn) (k := k) (off := off) (n := n) ⟨by omega, by omega, by omega⟩; refine f_end0 (F' := [(mp, C (encM (sentM s k off n) st sk bp) 69), (bp, C (bdL bu (sentN s st bn k off n) bv) 85)]) hl (has_two (bn := bn) hh (keeps_cons (b := mp) (by repeat (first | exact find_head | apply find_tail)) rfl (keeps_cons (b := bp) (by repeat (first | exact find_head | apply find_tail)) rfl keeps_nil)) he9) rfl keeps_self ⟨rfl, rfl⟩) | (have he9 := sent_2 (s := s) (st := st) (bn := bn) (k := k) (off := off) (n := n) (by omega) ⟨by omega, by omega, by omega⟩; refine f_end0 (F' := [(mp, C (encM (sentM s k off n) st sk bp) 69), (bp, C (bdL bu (sentN s st bn k off n) bv) 85)]) hl (has_two (bn := bn) hh (keeps_cons (b := mp) (by repeat (first | exact find_head | apply find_tail)) rfl (keeps_cons (b := bp) (by repeat (first | exact find_head | apply find_tail)) rfl keeps_nil)) he9) rfl keeps_self ⟨rfl, rfl⟩) | (have he9 := sent_3a (s := s) (st := st) (bn := bn) (k := k) (off := off) (n := n) (f := f9) (by omega) ⟨by omega, by omega, by omega⟩ (by omega) (by assumption); refine f_end0 (F' := [(mp, C (encM (sentM s k off n) st sk bp) 69), (bp, C (bdL bu (sentN s st bn k off n) bv) 85)]) hl (has_two (bn := bn) hh (keeps_cons (b := mp) (by repeat (first | exact find_head | apply find_tail)) rfl (keeps_cons (b := bp) (by repeat (first | exact find_head | apply find_tail)) rfl keeps_nil)) he9) rfl keeps_self ⟨rfl, rfl⟩) | (have he9 := sent_3b (s := s) (st := st) (bn := bn) (k := k) (off := off) (n := n) (f := f9) (by omega) ⟨by omega, by omega, by omega⟩ (by omega) (by assumption); refine f_end0 (F' := [(mp, C (encM (sentM s k off n) st sk bp) 69), (bp, C (bdL bu (sentN s st bn k off n) bv) 85)]) hl (has_two (bn := bn) hh (keeps_cons (b := mp) (by repeat (first | exact find_head | apply find_tail)) rfl (keeps_cons (b := bp) (by repeat (first | exact find_head | apply find_tail)) rfl keeps_nil)) he9) rfl keeps_self ⟨rfl, rfl⟩) | (have he9 := sent_4 (s := s) (st := st) (bn := bn) (k := k) (off := off) (n := n) (by omega) (by omega) (by omega); refine f_end0 (F' := [(mp, C (encM (sentM s k off n) st sk bp) 69), (bp, C (bdL bu (sentN s st bn k off n) bv) 85)]) hl (has_two (bn := bn) hh (keeps_cons (b := mp) (by repeat (first | exact find_head | apply find_tail)) rfl (keeps_cons (b := bp) (by repeat (first | exact find_head | apply find_tail)) rfl keeps_nil)) he9) rfl keeps_self ⟨rfl, rfl⟩) | (have he9 := sent_4 (s := s) (st := st) (bn := bn) (k := k) (off := off) (n := n) (by omega) (fun h9 => not_inF (by omega) h9.2) (fun h9 => not_inF (by omega) h9.2); refine f_end0 (F' := [(mp, C (encM (sentM s k off n) st sk bp) 69), (bp, C (bdL bu (sentN s st bn k off n) bv) 85)]) hl (has_two (bn := bn) hh (keeps_cons (b := mp) (by repeat (first | exact find_head | apply find_tail)) rfl (keeps_cons (b := bp) (by repeat (first | exact find_head | apply find_tail)) rfl keeps_nil)) he9) rfl keeps_self ⟨rfl, rfl⟩)
          · intro hg24; clear hl; intro hl
            try simp only [decide_eq_true_eq, decide_eq_false_iff_not, Bool.not_eq_true', Bool.not_eq_false', Bool.not_eq_true, Bool.not_eq_false, Bool.and_eq_true, Bool.or_eq_true, Bool.and_eq_false_iff, Bool.or_eq_false_iff, Bool.not_not, ne_eq, Int.not_lt, Int.not_le, Decidable.not_not, beq_iff_eq, bne_iff_ne] at hg24
            refine wl (wl_skip hl rfl ⟨_, _, rfl, rfl, rfl⟩ ?_)
            clear hl a; intro a hl
            refine wl (wl_val hl rfl trivial (r_pickF hl rfl rfl) ?_)
            clear hl a; intro a hl
            refine wl (wl_val hl rfl trivial (r_assign hl rfl) ?_)
            clear hl a; intro a hl
            refine w_nil ?_
            have hl2 := hl.add (t := 0) (hl.add (t := 3) (hl.add (t := 87) (hl.nil) rfl) rfl) rfl; clear hl; have hl := hl2; clear hl2
            refine then_normal ?_
            refine c_condF hl rfl ?_
            refine wp_skip ?_
            refine blk_normal ?_
            first | (exfalso; omega) | (have he9 := sent_1 (s := s) (st := st) (bn := bn) (k := k) (off := off) (n := n) ⟨by omega, by omega, by omega⟩; refine f_end0 (F' := [(mp, C (encM (sentM s k off n) st sk bp) 69), (bp, C (bdL bu (sentN s st bn k off n) bv) 85)]) hl (has_two (bn := bn) hh (keeps_cons (b := mp) (by repeat (first | exact find_head | apply find_tail)) rfl (keeps_cons (b := bp) (by repeat (first | exact find_head | apply find_tail)) rfl keeps_nil)) he9) rfl keeps_self ⟨rfl, rfl⟩) | (have he9 := sent_2 (s := s) (st := st) (bn := bn) (k := k) (off := off) (n := n) (by omega) ⟨by omega, by omega, by omega⟩; refine f_end0 (F' := [(mp, C (encM (sentM s k off n) st sk bp) 69), (bp, C (bdL bu (sentN s st bn k off n) bv) 85)]) hl (has_two (bn := bn) hh (keeps_cons (b := mp) (by repeat (first | exact find_head | apply find_tail)) rfl (keeps_cons (b := bp) (by repeat (first | exact find_head | apply find_tail)) rfl keeps_nil)) he9) rfl keeps_self ⟨rfl, rfl⟩) | (have he9 := sent_3a (s := s) (st := st) (bn := bn) (k := k) (off := off) (n := n) (f := f9) (by omega) ⟨by omega, by omega, by omega⟩ (by omega) (by assumption); refine f_end0 (F' := [(mp, C (encM (sentM s k off n) st sk bp) 69), (bp, C (bdL bu (sentN s st bn k off n) bv) 85)]) hl (has_two (bn := bn) hh (keeps_cons (b := mp) (by repeat (first | exact find_head | apply find_tail)) rfl (keeps_cons (b := bp) (by repeat (first | exact find_head | apply find_tail)) rfl keeps_nil)) he9) rfl keeps_self ⟨rfl, rfl⟩) | (have he9 := sent_3b (s := s) (st := st) (bn := bn) (k := k) (off := off) (n := n) (f := f9) (by omega) ⟨by omega, by omega, by omega⟩ (by omega) (by assumption); refine f_end0 (F' := [(mp, C (encM (sentM s k off n) st sk bp) 69), (bp, C (bdL bu (sentN s st bn k off n) bv) 85)]) hl (has_two (bn := bn) hh (keeps_cons (b := mp) (by repeat (first | exact find_head | apply find_tail)) rfl (keeps_cons (b := bp) (by repeat (first | exact find_head | apply find_tail)) rfl keeps_nil)) he9) rfl keeps_self ⟨rfl, rfl⟩) | (have he9 := sent_4 (s := s) (st := st) (bn := bn) (k := k) (off := off) (n := n) (by omega) (by omega) (by omega); refine f_end0 (F' := [(mp, C (encM (sentM s k off n) st sk bp) 69), (bp, C (bdL bu (sentN s st bn k off n) bv) 85)]) hl (has_two (bn := bn) hh (keeps_cons (b := mp) (by repeat (first | exact find_head | apply find_tail)) rfl (keeps_cons (b := bp) (by repeat (first | exact find_head | apply find_tail)) rfl keeps_nil)) he9) rfl keeps_self ⟨rfl, rfl⟩) | (have he9 := sent_4 (s := s) (st := st) (bn := bn) (k := k) (off := off) (n := n) (by omega) (fun h9 => not_inF (by omega) h9.2) (fun h9 => not_inF (by omega) h9.2); refine f_end0 (F' := [(mp, C (encM (sentM s k off n) st sk bp) 69), (bp, C (bdL bu (sentN s st bn k off n) bv) 85)]) hl (has_two (bn := bn) hh (keeps_cons (b := mp) (by repeat (first | exact find_head | apply find_tail)) rfl (keeps_cons (b := bp) (by repeat (first | exact find_head | apply find_tail)) rfl keeps_nil)) he9) rfl keeps_self ⟨rfl, rfl⟩)
  · intro hg1; clear hl; intro hl
    try simp only [decide_eq_true_eq, decide_eq_false_iff_not, Bool.not_eq_true', Bool.not_eq_false', Bool.not_eq_true, Bool.not_eq_false, Bool.and_eq_true, Bool.or_eq_true, Bool.and_eq_false_iff, Bool.or_eq_false_iff, Bool.not_not, ne_eq, Int.not_lt, Int.not_le, Decidable.not_not, beq_iff_eq, bne_iff_ne] at hg1
    refine d_skip (i := 4) hl rfl (by kernel_rfl) (by kernel_rfl) (by kernel_rfl) (by kernel_rfl) (by kernel_rfl) rfl ⟨_, _, rfl, rfl, rfl⟩ (fun _ _ _ h => h) hM ?_
    clear hl a; intro a hl
    refine d_skip (i := 5) hl rfl (by kernel_rfl) (by kernel_rfl) (by kernel_rfl) (by kernel_rfl) (by kernel_rfl) rfl ⟨_, _, rfl, rfl, rfl⟩ (fun _ _ _ h => h) hM ?_
    clear hl a; intro a hl
    refine d_skip (i := 6) hl rfl (by kernel_rfl) (by kernel_rfl) (by kernel_rfl) (by kernel_rfl) (by kernel_rfl) rfl ⟨_, _, rfl, rfl, rfl⟩ (fun _ _ _ h => h) hM ?_
    clear hl a; intro a hl
    refine d_skip (i := 7) hl rfl (by kernel_rfl) (by kernel_rfl) (by kernel_rfl) (by kernel_rfl) (by kernel_rfl) rfl ⟨_, _, rfl, rfl, rfl⟩ (fun _ _ _ h => h) hM ?_
    clear hl a; intro a hl
    refine d_skip (i := 8) hl rfl (by kernel_rfl) (by kernel_rfl) (by kernel_rfl) (by kernel_rfl) (by kernel_rfl) rfl ⟨_, _, rfl, rfl, rfl⟩ (fun _ _ _ h => h) hM ?_
    clear hl a; intro a hl
    refine d_skip (i := 9) hl rfl (by kernel_rfl) (by kernel_rfl) (by kernel_rfl) (by kernel_rfl) (by kernel_rfl) rfl ⟨_, _, rfl, rfl, rfl⟩ (fun _ _ _ h => h) hM ?_
    clear hl a; intro a hl
    refine d_skip (i := 10) hl rfl (by kernel_rfl) (by kernel_rfl) (by kernel_rfl) (by kernel_rfl) (by kernel_rfl) rfl ⟨_, _, rfl, rfl, rfl⟩ (fun _ _ _ h => h) hM ?_
    clear hl a; intro a hl
    refine d_take (i := 11) hl rfl (by kernel_rfl) (by kernel_rfl) (by kernel_rfl) (by kernel_rfl) (by kernel_rfl) rfl trivial (fun _ _ _ h => h) hM (fun w hC => r_pickF hl rfl rfl) rfl ?_
    clear hl a; intro a hl
    refine d_take (i := 12) hl rfl (by kernel_rfl) (by kernel_rfl) (by kernel_rfl) (by kernel_rfl) (by kernel_rfl) rfl trivial (fun _ _ _ h => h) hM (fun w hC => r_move hl rfl) rfl ?_
    clear hl a; intro a hl
    refine d_skip (i := 13) hl rfl (by kernel_rfl) (by kernel_rfl) (by kernel_rfl) (by kernel_rfl) (by kernel_rfl) rfl ⟨_, _, rfl, rfl, rfl⟩ (fun _ _ _ h => h) hM ?_
    clear hl a; intro a hl
    refine d_skip (i := 14) hl rfl (by kernel_rfl) (by kernel_rfl) (by kernel_rfl) (by kernel_rfl) (by kernel_rfl) rfl ⟨_, _, rfl, rfl, rfl⟩ (fun _ _ _ h => h) hM ?_
    clear hl a; intro a hl
    refine d_skip (i := 15) hl rfl (by kernel_rfl) (by kernel_rfl) (by kernel_rfl) (by kernel_rfl) (by kernel_rfl) rfl ⟨_, _, rfl, rfl, rfl⟩ (fun _ _ _ h => h) hM ?_
    clear hl a; intro a hl
    refine d_skip (i := 16) hl rfl (by kernel_rfl) (by kernel_rfl) (by kernel_rfl) (by kernel_rfl) (by kernel_rfl) rfl ⟨_, _, rfl, rfl, rfl⟩ (fun _ _ _ h => h) hM ?_
    clear hl a; intro a hl
    refine d_skip (i := 17) hl rfl (by kernel_rfl) (by kernel_rfl) (by kernel_rfl) (by kernel_rfl) (by kernel_rfl) rfl ⟨_, _, rfl, rfl, rfl⟩ (fun _ _ _ h => h) hM ?_
    clear hl a; intro a hl
    refine d_skip (i := 18) hl rfl (by kernel_rfl) (by kernel_rfl) (by kernel_rfl) (by kernel_rfl) (by kernel_rfl) rfl ⟨_, _, rfl, rfl, rfl⟩ (fun _ _ _ h => h) hM ?_
    clear hl a; intro a hl
    refine d_skip (i := 19) hl rfl (by kernel_rfl) (by kernel_rfl) (by kernel_rfl) (by kernel_rfl) (by kernel_rfl) rfl ⟨_, _, rfl, rfl, rfl⟩ (fun _ _ _ h => h) hM ?_
    clear hl a; intro a hl
    refine d_skip (i := 20) hl rfl (by kernel_rfl) (by kernel_rfl) (by kernel_rfl) (by kernel_rfl) (by kernel_rfl) rfl ⟨_, _, rfl, rfl, rfl⟩ (fun _ _ _ h => h) hM ?_
    clear hl a; intro a hl
    refine d_skip (i := 21) hl rfl (by kernel_rfl) (by kernel_rfl) (by kernel_rfl) (by kernel_rfl) (by kernel_rfl) rfl ⟨_, _, rfl, rfl, rfl⟩ (fun _ _ _ h => h) hM ?_
    clear hl a; intro a hl
    refine d_skip (i := 22) hl rfl (by kernel_rfl) (by kernel_rfl) (by kernel_rfl) (by kernel_rfl) (by kernel_rfl) rfl ⟨_, _, rfl, rfl, rfl⟩ (fun _ _ _ h => h) hM ?_
    clear hl a; intro a hl
    refine d_takeL (i := 23) hl rfl (by kernel_rfl) (by kernel_rfl) (by kernel_rfl) (by kernel_rfl) (by kernel_rfl) rfl trivial (fun _ _ _ h => h) (fun w => r_pickF hl rfl rfl) rfl ?_
    clear hl a; intro a hl
    refine d_takeL (i := 24) hl rfl (by kernel_rfl) (by kernel_rfl) (by kernel_rfl) (by kernel_rfl) (by kernel_rfl) rfl trivial (fun _ _ _ h => h) (fun w => r_assign hl rfl) rfl ?_
    clear hl a; intro a hl
    refine d_done (by kernel_rfl) ?_
    try clear hM
    have hl2 := hl.add (t := 0) (hl.add (t := 3) (hl.add (t := 4) (hl.nil) rfl) rfl) rfl; clear hl; have hl := hl2; clear hl2
    refine then_normal ?_
    refine wp_block ?_
    refine c_seq ?_
    refine c_draw [(mp, C (encM (s) st sk bp) 69), (k3, C [.int .u8 k, .int .i64 off, .int .i64 n] 42)] [24, 25, 26, 27] mixed hh ?_
    clear hh w; intro w hh
    have hM : Mem [(mp, C (encM (s) st sk bp) 69), (k3, C [.int .u8 k, .int .i64 off, .int .i64 n] 42)] w := (by (repeat (first | exact Mem.nil | refine Mem.cons hh.mem (by (repeat (first | exact find_head | apply find_tail)); done) ?_ | refine Mem.consR hh (by assumption) (by simp) ?_ | fail)); done)
    refine d_take (i := 0) hl rfl (by kernel_rfl) (by kernel_rfl) (by kernel_rfl) (by kernel_rfl) (by kernel_rfl) rfl trivial (fun _ _ _ h => h) hM (fun w hC => r_field hl rfl fld42_0) rfl ?_
    clear hl a; intro a hl
    refine d_take (i := 1) hl rfl (by kernel_rfl) (by kernel_rfl) (by kernel_rfl) (by kernel_rfl) (by kernel_rfl) rfl trivial (fun _ _ _ h => h) hM (fun w hC => r_loadC hl rfl one38 hC (by repeat (first | exact find_head | apply find_tail)) (by first | rfl)) rfl ?_
    clear hl a; intro a hl
    refine d_take (i := 2) hl rfl (by kernel_rfl) (by kernel_rfl) (by kernel_rfl) (by kernel_rfl) (by kernel_rfl) rfl trivial (fun _ _ _ h => h) hM (fun w hC => r_eql hl rfl rfl) rfl ?_
    clear hl a; intro a hl
    refine d_take (i := 3) hl rfl (by kernel_rfl) (by kernel_rfl) (by kernel_rfl) (by kernel_rfl) (by kernel_rfl) rfl trivial (fun _ _ _ h => h) hM (fun w hC => r_move hl rfl) rfl ?_
    clear hl a; intro a hl
    refine sl_split (t := 33) hl rfl ?_ ?_
    · intro hg25; clear hl; intro hl
      try simp only [decide_eq_true_eq, decide_eq_false_iff_not, Bool.not_eq_true', Bool.not_eq_false', Bool.not_eq_true, Bool.not_eq_false, Bool.and_eq_true, Bool.or_eq_true, Bool.and_eq_false_iff, Bool.or_eq_false_iff, Bool.not_not, ne_eq, Int.not_lt, Int.not_le, Decidable.not_not, beq_iff_eq, bne_iff_ne] at hg25
      refine d_take (i := 4) hl rfl (by kernel_rfl) (by kernel_rfl) (by kernel_rfl) (by kernel_rfl) (by kernel_rfl) rfl ⟨_, _, rfl, rfl, rfl⟩ (fun _ _ _ h => h) hM (fun w hC => r_field hl rfl fld42_1) rfl ?_
      clear hl a; intro a hl
      refine d_take (i := 5) hl rfl (by kernel_rfl) (by kernel_rfl) (by kernel_rfl) (by kernel_rfl) (by kernel_rfl) rfl ⟨_, _, rfl, rfl, rfl⟩ (fun _ _ _ h => h) hM (fun w hC => r_loadC hl rfl one2 hC (by repeat (first | exact find_head | apply find_tail)) (by first | rfl)) rfl ?_
      clear hl a; intro a hl
      refine d_take (i := 6) hl rfl (by kernel_rfl) (by kernel_rfl) (by kernel_rfl) (by kernel_rfl) (by kernel_rfl) rfl ⟨_, _, rfl, rfl, rfl⟩ (fun _ _ _ h => h) hM (fun w hC => r_move hl rfl) rfl ?_
      clear hl a; intro a hl
      refine d_take (i := 7) hl rfl (by kernel_rfl) (by kernel_rfl) (by kernel_rfl) (by kernel_rfl) (by kernel_rfl) rfl ⟨_, _, rfl, rfl, rfl⟩ (fun _ _ _ h => h) hM (fun w hC => r_nilCheck hl rfl) rfl ?_
      clear hl a; intro a hl
      refine d_take (i := 8) hl rfl (by kernel_rfl) (by kernel_rfl) (by kernel_rfl) (by kernel_rfl) (by kernel_rfl) rfl ⟨_, _, rfl, rfl, rfl⟩ (fun _ _ _ h => h) hM (fun w hC => r_field hl rfl fld69_9) rfl ?_
      clear hl a; intro a hl
      refine d_take (i := 9) hl rfl (by kernel_rfl) (by kernel_rfl) (by kernel_rfl) (by kernel_rfl) (by kernel_rfl) rfl ⟨_, _, rfl, rfl, rfl⟩ (fun _ _ _ h => h) hM (fun w hC => r_loadC hl rfl one2 hC (by repeat (first | exact find_head | apply find_tail)) (by first | rfl)) rfl ?_
      clear hl a; intro a hl
      refine d_take (i := 10) hl rfl (by kernel_rfl) (by kernel_rfl) (by kernel_rfl) (by kernel_rfl) (by kernel_rfl) rfl ⟨_, _, rfl, rfl, rfl⟩ (fun _ _ _ h => h) hM (fun w hC => r_eql hl rfl rfl) rfl ?_
      clear hl a; intro a hl
      refine d_take (i := 11) hl rfl (by kernel_rfl) (by kernel_rfl) (by kernel_rfl) (by kernel_rfl) (by kernel_rfl) rfl trivial (fun _ _ _ h => h) hM (fun w hC => r_pickT hl rfl rfl) rfl ?_
      clear hl a; intro a hl
      refine d_take (i := 12) hl rfl (by kernel_rfl) (by kernel_rfl) (by kernel_rfl) (by kernel_rfl) (by kernel_rfl) rfl trivial (fun _ _ _ h => h) hM (fun w hC => r_move hl rfl) rfl ?_
      clear hl a; intro a hl
      refine sl_split (t := 42) hl rfl ?_ ?_
      · intro hg26; clear hl; intro hl
        try simp only [decide_eq_true_eq, decide_eq_false_iff_not, Bool.not_eq_true', Bool.not_eq_false', Bool.not_eq_true, Bool.not_eq_false, Bool.and_eq_true, Bool.or_eq_true, Bool.and_eq_false_iff, Bool.or_eq_false_iff, Bool.not_not, ne_eq, Int.not_lt, Int.not_le, Decidable.not_not, beq_iff_eq, bne_iff_ne] at hg26
        refine d_take (i := 13) hl rfl (by kernel_rfl) (by kernel_rfl) (by kernel_rfl) (by kernel_rfl) (by kernel_rfl) rfl ⟨_, _, rfl, rfl, rfl⟩ (fun _ _ _ h => h) hM (fun w hC => r_move hl rfl) rfl ?_
        clear hl a; intro a hl
        refine d_take (i := 14) hl rfl (by kernel_rfl) (by kernel_rfl) (by kernel_rfl) (by kernel_rfl) (by kernel_rfl) rfl ⟨_, _, rfl, rfl, rfl⟩ (fun _ _ _ h => h) hM (fun w hC => r_nilCheck hl rfl) rfl ?_
        clear hl a; intro a hl
        refine d_take (i := 15) hl rfl (by kernel_rfl) (by kernel_rfl) (by kernel_rfl) (by kernel_rfl) (by kernel_rfl) rfl ⟨_, _, rfl, rfl, rfl⟩ (fun _ _ _ h => h) hM (fun w hC => r_field hl rfl fld69_9) rfl ?_
        clear hl a; intro a hl
        refine d_take (i := 16) hl rfl (by kernel_rfl) (by kernel_rfl) (by kernel_rfl) (by kernel_rfl) (by kernel_rfl) rfl ⟨_, _, rfl, rfl, rfl⟩ (fun _ _ _ h => h) hM (fun w hC => r_loadC hl rfl one2 hC (by repeat (first | exact find_head | apply find_tail)) (by first | rfl)) rfl ?_
        clear hl a; intro a hl
        refine d_take (i := 17) hl rfl (by kernel_rfl) (by kernel_rfl) (by kernel_rfl) (by kernel_rfl) (by kernel_rfl) rfl ⟨_, _, rfl, rfl, rfl⟩ (fun _ _ _ h => h) hM (fun w hC => r_move hl rfl) rfl ?_
        clear hl a; intro a hl
        refine d_take (i := 18) hl rfl (by kernel_rfl) (by kernel_rfl) (by kernel_rfl) (by kernel_rfl) (by kernel_rfl) rfl ⟨_, _, rfl, rfl, rfl⟩ (fun _ _ _ h => h) hM (fun w hC => r_nilCheck hl rfl) rfl ?_
        clear hl a; intro a hl
        refine d_take (i := 19) hl rfl (by kernel_rfl) (by kernel_rfl) (by kernel_rfl) (by kernel_rfl) (by kernel_rfl) rfl ⟨_, _, rfl, rfl, rfl⟩ (fun _ _ _ h => h) hM (fun w hC => r_field hl rfl fld69_8) rfl ?_
        clear hl a; intro a hl
        refine d_take (i := 20) hl rfl (by kernel_rfl) (by kernel_rfl) (by kernel_rfl) (by kernel_rfl) (by kernel_rfl) rfl ⟨_, _, rfl, rfl, rfl⟩ (fun _ _ _ h => h) hM (fun w hC => r_loadC hl rfl one2 hC (by repeat (first | exact find_head | apply find_tail)) (by first | rfl)) rfl ?_
        clear hl a; intro a hl
        first | refine d_take (i := 21) hl rfl (by kernel_rfl) (by kernel_rfl) (by kernel_rfl) (by kernel_rfl) (by kernel_rfl) rfl ⟨_, _, rfl, rfl, rfl⟩ (fun _ _ _ h => h) hM (fun w hC => r_sub hl rfl rfl (by simp only [Fits]; omega)) rfl ?_ | refine d_take (i := 21) hl rfl (by kernel_rfl) (by kernel_rfl) (by kernel_rfl) (by kernel_rfl) (by kernel_rfl) rfl ⟨_, _, rfl, rfl, rfl⟩ (fun _ _ _ h => h) hM (fun w hC => r_subW hl rfl rfl) rfl ?_
        clear hl a; intro a hl
        refine d_take (i := 22) hl rfl (by kernel_rfl) (by kernel_rfl) (by kernel_rfl) (by kernel_rfl) (by kernel_rfl) rfl ⟨_, _, rfl, rfl, rfl⟩ (fun _ _ _ h => h) hM (fun w hC => r_field hl rfl fld42_2) rfl ?_
        clear hl a; intro a hl
        refine d_take (i := 23) hl rfl (by kernel_rfl) (by kernel_rfl) (by kernel_rfl) (by kernel_rfl) (by kernel_rfl) rfl ⟨_, _, rfl, rfl, rfl⟩ (fun _ _ _ h => h) hM (fun w hC => r_loadC hl rfl one2 hC (by repeat (first | exact find_head | apply find_tail)) (by first | rfl)) rfl ?_
        clear hl a; intro a hl
        first | refine d_takeL (i := 24) hl rfl (by kernel_rfl) (by kernel_rfl) (by kernel_rfl) (by kernel_rfl) (by kernel_rfl) rfl ⟨_, _, rfl, rfl, rfl⟩ (fun _ _ _ h => h) (fun w => r_add hl rfl rfl (by simp only [Fits]; omega)) rfl ?_ | refine d_takeL (i := 24) hl rfl (by kernel_rfl) (by kernel_rfl) (by kernel_rfl) (by kernel_rfl) (by kernel_rfl) rfl ⟨_, _, rfl, rfl, rfl⟩ (fun _ _ _ h => h) (fun w => r_addW hl rfl rfl) rfl ?_
        clear hl a; intro a hl
        refine d_takeL (i := 25) hl rfl (by kernel_rfl) (by kernel_rfl) (by kernel_rfl) (by kernel_rfl) (by kernel_rfl) rfl ⟨_, _, rfl, rfl, rfl⟩ (fun _ _ _ h => h) (fun w => r_leq hl rfl rfl) rfl ?_
        clear hl a; intro a hl
        refine d_takeL (i := 26) hl rfl (by kernel_rfl) (by kernel_rfl) (by kernel_rfl) (by kernel_rfl) (by kernel_rfl) rfl trivial (fun _ _ _ h => h) (fun w => r_pickT hl rfl rfl) rfl ?_
        clear hl a; intro a hl
        refine d_takeL (i := 27) hl rfl (by kernel_rfl) (by kernel_rfl) (by kernel_rfl) (by kernel_rfl) (by kernel_rfl) rfl trivial (fun _ _ _ h => h) (fun w => r_assign hl rfl) rfl ?_
        clear hl a; intro a hl
        refine d_done (by kernel_rfl) ?_
        try clear hM
        have hl2 := hl.add (t := 0) (hl.add (t := 3) (hl.add (t := 4) (hl.add (t := 29) (hl.nil) rfl) rfl) rfl) rfl; clear hl; have hl := hl2; clear hl2
        refine then_normal ?_
        refine c_cond hl rfl ?_ ?_
        · intro hc0
          try simp only [decide_eq_true_eq, decide_eq_false_iff_not, Bool.not_eq_true', Bool.not_eq_false', Bool.not_eq_true, Bool.not_eq_false, Bool.and_eq_true, Bool.or_eq_true, Bool.and_eq_false_iff, Bool.or_eq_false_iff, Bool.not_not, ne_eq, Int.not_lt, Int.not_le, Decidable.not_not, beq_iff_eq, bne_iff_ne] at hc0
          refine c_seq ?_
          refine c_draw [(mp, C (encM (s) st sk bp) 69), (k3, C [.int .u8 k, .int .i64 off, .int .i64 n] 42)] [6, 7, 8, 9] mixed hh ?_
          clear hh w; intro w hh
          have hM : Mem [(mp, C (encM (s) st sk bp) 69), (k3, C [.int .u8 k, .int .i64 off, .int .i64 n] 42)] w := (by (repeat (first | exact Mem.nil | refine Mem.cons hh.mem (by (repeat (first | exact find_head | apply find_tail)); done) ?_ | refine Mem.consR hh (by assumption) (by simp) ?_ | fail)); done)
          refine d_take (i := 0) hl rfl (by kernel_rfl) (by kernel_rfl) (by kernel_rfl) (by kernel_rfl) (by kernel_rfl) rfl trivial (fun _ _ _ h => h) hM (fun w hC => r_move hl rfl) rfl ?_
          clear hl a; intro a hl
          refine d_take (i := 1) hl rfl (by kernel_rfl) (by kernel_rfl) (by kernel_rfl) (by kernel_rfl) (by kernel_rfl) rfl trivial (fun _ _ _ h => h) hM (fun w hC => r_nilCheck hl rfl) rfl ?_
          clear hl a; intro a hl
          refine d_take (i := 2) hl rfl (by kernel_rfl) (by kernel_rfl) (by kernel_rfl) (by kernel_rfl) (by kernel_rfl) rfl trivial (fun _ _ _ h => h) hM (fun w hC => r_field hl rfl fld69_9) rfl ?_
          clear hl a; intro a hl
          refine d_take (i := 3) hl rfl (by kernel_rfl) (by kernel_rfl) (by kernel_rfl) (by kernel_rfl) (by kernel_rfl) rfl trivial (fun _ _ _ h => h) hM (fun w hC => r_loadC hl rfl one2 hC (by repeat (first | exact find_head | apply find_tail)) (by first | rfl)) rfl ?_
          clear hl a; intro a hl
          refine d_take (i := 4) hl rfl (by kernel_rfl) (by kernel_rfl) (by kernel_rfl) (by kernel_rfl) (by kernel_rfl) rfl trivial (fun _ _ _ h => h) hM (fun w hC => r_field hl rfl fld42_2) rfl ?_
          clear hl a; intro a hl
          refine d_take (i := 5) hl rfl (by kernel_rfl) (by kernel_rfl) (by kernel_rfl) (by kernel_rfl) (by kernel_rfl) rfl trivial (fun _ _ _ h => h) hM (fun w hC => r_loadC hl rfl one2 hC (by repeat (first | exact find_head | apply find_tail)) (by first | rfl)) rfl ?_
          clear hl a; intro a hl
          first | refine d_takeL (i := 6) hl rfl (by kernel_rfl) (by kernel_rfl) (by kernel_rfl) (by kernel_rfl) (by kernel_rfl) rfl trivial (fun _ _ _ h => h) (fun w => r_add hl rfl rfl (by simp only [Fits]; omega)) rfl ?_ | refine d_takeL (i := 6) hl rfl (by kernel_rfl) (by kernel_rfl) (by kernel_rfl) (by kernel_rfl) (by kernel_rfl) rfl trivial (fun _ _ _ h => h) (fun w => r_addW hl rfl rfl) rfl ?_
          clear hl a; intro a hl
          refine d_takeL (i := 7) hl rfl (by kernel_rfl) (by kernel_rfl) (by kernel_rfl) (by kernel_rfl) (by kernel_rfl) rfl trivial (fun _ _ _ h => h) (fun w => r_nilCheck hl rfl) rfl ?_
          clear hl a; intro a hl
          refine d_takeL (i := 8) hl rfl (by kernel_rfl) (by kernel_rfl) (by kernel_rfl) (by kernel_rfl) (by kernel_rfl) rfl trivial (fun _ _ _ h => h) (fun w => r_field hl rfl fld69_9) rfl ?_
          clear hl a; intro a hl
          refine d_one (i := 9) (by kernel_rfl) rfl ?_
          try clear hM
          refine id (w_store hl hh trivial one2 rfl rfl (by repeat (first | exact find_head | apply find_tail)) (by first | (simp; done) | (simp; omega)) (by first | rfl | assumption | (apply Row.one; assumption)) (by first | (simp only [encM, setL, List.getElem?_cons_zero, List.getElem?_cons_succ, Value.cells, List.take_zero, List.take_succ_cons, List.take_nil, List.drop_zero, List.drop_succ_cons, List.drop_nil, List.length_cons, List.length_nil, List.cons_append, List.nil_append, List.append_nil, Nat.zero_add, Nat.add_zero, Nat.reduceAdd, Nat.reduceBEq, Nat.reduceEqDiff, Nat.ble, BEq.rfl, Bool.and_true, Bool.and_self, cond_true, beq_self_eq_true]; rfl) | (simp only [setL, List.getElem?_cons_zero, List.getElem?_cons_succ, Value.cells, List.take_zero, List.take_succ_cons, List.take_nil, List.drop_zero, List.drop_succ_cons, List.drop_nil, List.length_cons, List.length_nil, List.cons_append, List.nil_append, List.append_nil, Nat.zero_add, Nat.add_zero, Nat.reduceAdd, Nat.reduceBEq, Nat.reduceEqDiff, Nat.ble, BEq.rfl, Bool.and_true, Bool.and_self, cond_true, beq_self_eq_true]; rfl)) ?_)
          clear hh w; intro w hh
          refine d_step (fun h => absurd h (by decide)) ?_
          refine d_done (by kernel_rfl) ?_
          try clear hM
          have hl2 := hl.add (t := 0) (hl.nil) rfl; clear hl; have hl := hl2; clear hl2
          refine then_normal ?_
          refine c_draw [(mp, C (encM ({ s with nxt := s.nxt + n }) st sk bp) 69)] [10] mixed hh ?_
          clear hh w; intro w hh
          have hM : Mem [(mp, C (encM ({ s with nxt := s.nxt + n }) st sk bp) 69)] w := (by (repeat (first | exact Mem.nil | refine Mem.cons hh.mem (by (repeat (first | exact find_head | apply find_tail)); done) ?_ | refine Mem.consR hh (by assumption) (by simp) ?_ | fail)); done)
          refine d_take (i := 0) hl rfl (by kernel_rfl) (by kernel_rfl) (by kernel_rfl) (by kernel_rfl) (by kernel_rfl) rfl trivial (fun _ _ _ h => h) hM (fun w hC => r_move hl rfl) rfl ?_
          clear hl a; intro a hl
          refine d_take (i := 1) hl rfl (by kernel_rfl) (by kernel_rfl) (by kernel_rfl) (by kernel_rfl) (by kernel_rfl) rfl trivial (fun _ _ _ h => h) hM (fun w hC => r_nilCheck hl rfl) rfl ?_
          clear hl a; intro a hl
          refine d_take (i := 2) hl rfl (by kernel_rfl) (by kernel_rfl) (by kernel_rfl) (by kernel_rfl) (by kernel_rfl) rfl trivial (fun _ _ _ h => h) hM (fun w hC => r_field hl rfl fld69_4) rfl ?_
          clear hl a; intro a hl
          refine d_take (i := 3) hl rfl (by kernel_rfl) (by kernel_rfl) (by kernel_rfl) (by kernel_rfl) (by kernel_rfl) rfl trivial (fun _ _ _ h => h) hM (fun w hC => r_loadC hl rfl one64 hC (by repeat (first | exact find_head | apply find_tail)) (by first | rfl)) rfl ?_
          clear hl a; intro a hl
          refine d_take (i := 4) hl rfl (by kernel_rfl) (by kernel_rfl) (by kernel_rfl) (by kernel_rfl) (by kernel_rfl) rfl trivial (fun _ _ _ h => h) hM (fun w hC => r_move hl rfl) rfl ?_
          clear hl a; intro a hl
          refine d_take (i := 5) hl rfl (by kernel_rfl) (by kernel_rfl) (by kernel_rfl) (by kernel_rfl) (by kernel_rfl) rfl trivial (fun _ _ _ h => h) hM (fun w hC => r_move hl rfl) rfl ?_
          clear hl a; intro a hl
          refine d_take (i := 6) hl rfl (by kernel_rfl) (by kernel_rfl) (by kernel_rfl) (by kernel_rfl) (by kernel_rfl) rfl trivial (fun _ _ _ h => h) hM (fun w hC => r_nilCheck hl rfl) rfl ?_
          clear hl a; intro a hl
          refine d_take (i := 7) hl rfl (by kernel_rfl) (by kernel_rfl) (by kernel_rfl) (by kernel_rfl) (by kernel_rfl) rfl trivial (fun _ _ _ h => h) hM (fun w hC => r_field hl rfl fld69_9) rfl ?_
          clear hl a; intro a hl
          refine d_take (i := 8) hl rfl (by kernel_rfl) (by kernel_rfl) (by kernel_rfl) (by kernel_rfl) (by kernel_rfl) rfl trivial (fun _ _ _ h => h) hM (fun w hC => r_loadC hl rfl one2 hC (by repeat (first | exact find_head | apply find_tail)) (by first | rfl)) rfl ?_
          clear hl a; intro a hl
          refine d_one (i := 9) (by kernel_rfl) rfl ?_
          try clear hM
          refine id (w_call hl hh rfl trivial rfl cal14 rfl (seq_m mp ({ s with nxt := s.nxt + n }) st sk bp (nxt_mk hs (by omega) (by omega) hnx) _) (by repeat (first | exact keeps_nil | apply keeps_cons (by repeat (first | exact find_head | apply find_tail)) (by first  | rfl) | exact keeps_self | apply keeps_mv)) (hh.mem _ _ (Find.mem (by repeat (first | exact find_head | apply find_tail)))) ?_)
          clear hl hh a w; intro vc Fc a w hR hl hh
          obtain ⟨rfl, rfl⟩ := hR
          try simp only [List.cons_append, List.nil_append] at hh
          have hM : Mem [(mp, C (encM ({ s with nxt := s.nxt + n }) st sk bp) 69)] w := (by (repeat (first | exact Mem.nil | refine Mem.cons hh.mem (by (repeat (first | exact find_head | apply find_tail)); done) ?_ | refine Mem.consR hh (by assumption) (by simp) ?_ | fail)); done)
          refine d_step (fun _ => hM) ?_
          refine d_one (i := 10) (by kernel_rfl) rfl ?_
          try clear hM
          refine id (w_call hl hh rfl trivial rfl cal38 rfl (sent_spec bp bu bn bv _) (by repeat (first | exact keeps_nil | apply keeps_cons (by repeat (first | exact find_head | apply find_tail)) (by first  | rfl) | exact keeps_self | apply keeps_mv)) trivial ?_)
          clear hl hh a w; intro vc Fc a w hR hl hh
          obtain ⟨rfl, rfl⟩ := hR
          try simp only [List.cons_append, List.nil_append] at hh
          refine d_step (fun h => absurd h (by decide)) ?_
          refine d_done (by kernel_rfl) ?_
          try clear hM
          have hl2 := hl.nil; clear hl; have hl := hl2; clear hl2
          refine blk_normal ?_
          first | (exfalso; omega) | (have he9 := sent_1 (s := s) (st := st) (bn := bn) (k := k) (off := off) (n := n) ⟨by omega, by omega, by omega⟩; refine f_end0 (F' := [(mp, C (encM (sentM s k off n) st sk bp) 69), (bp, C (bdL bu (sentN s st bn k off n) bv) 85)]) hl (has_two (bn := bn) hh (keeps_cons (b := mp) (by repeat (first | exact find_head | apply find_tail)) rfl (keeps_cons (b := bp) (by repeat (first | exact find_head | apply find_tail)) rfl keeps_nil)) he9) rfl keeps_self ⟨rfl, rfl⟩) | (have he9 := sent_2 (s := s) (st := st) (bn := bn) (k := k) (off := off) (n := n) (by omega) ⟨by omega, by omega, by omega⟩; refine f_end0 (F' := [(mp, C (encM (sentM s k off n) st sk bp) 69), (bp, C (bdL bu (sentN s st bn k off n) bv) 85)]) hl (has_two (bn := bn) hh (keeps_cons (b := mp) (by repeat (first | exact find_head | apply find_tail)) rfl (keeps_cons (b := bp) (by repeat (first | exact find_head | apply find_tail)) rfl keeps_nil)) he9) rfl keeps_self ⟨rfl, rfl⟩) | (have he9 := sent_3a (s := s) (st := st) (bn := bn) (k := k) (off := off) (n := n) (f := f9) (by omega) ⟨by omega, by omega, by omega⟩ (by omega) (by assumption); refine f_end0 (F' := [(mp, C (encM (sentM s k off n) st sk bp) 69), (bp, C (bdL bu (sentN s st bn k off n) bv) 85)]) hl (has_two (bn := bn) hh (keeps_cons (b := mp) (by repeat (first | exact find_head | apply find_tail)) rfl (keeps_cons (b := bp) (by repeat (first | exact find_head | apply find_tail)) rfl keeps_nil)) he9) rfl keeps_self ⟨rfl, rfl⟩) | (have he9 := sent_3b (s := s) (st := st) (bn := bn) (k := k) (off := off) (n := n) (f := f9) (by omega) ⟨by omega, by omega, by omega⟩ (by omega) (by assumption); refine f_end0 (F' := [(mp, C (encM (sentM s k off n) st sk bp) 69), (bp, C (bdL bu (sentN s st bn k off n) bv) 85)]) hl (has_two (bn := bn) hh (keeps_cons (b := mp) (by repeat (first | exact find_head | apply find_tail)) rfl (keeps_cons (b := bp) (by repeat (first | exact find_head | apply find_tail)) rfl keeps_nil)) he9) rfl keeps_self ⟨rfl, rfl⟩) | (have he9 := sent_4 (s := s) (st := st) (bn := bn) (k := k) (off := off) (n := n) (by omega) (by omega) (by omega); refine f_end0 (F' := [(mp, C (encM (sentM s k off n) st sk bp) 69), (bp, C (bdL bu (sentN s st bn k off n) bv) 85)]) hl (has_two (bn := bn) hh (keeps_cons (b := mp) (by repeat (first | exact find_head | apply find_tail)) rfl (keeps_cons (b := bp) (by repeat (first | exact find_head | apply find_tail)) rfl keeps_nil)) he9) rfl keeps_self ⟨rfl, rfl⟩) | (have he9 := sent_4 (s := s) (st := st) (bn := bn) (k := k) (off := off) (n := n) (by omega) (fun h9 => not_inF (by omega) h9.2) (fun h9 => not_inF (by omega) h9.2); refine f_end0 (F' := [(mp, C (encM (sentM s k off n) st sk bp) 69), (bp, C (bdL bu (sentN s st bn k off n) bv) 85)]) hl (has_two (bn := bn) hh (keeps_cons (b := mp) (by repeat (first | exact find_head | apply find_tail)) rfl (keeps_cons (b := bp) (by repeat (first | exact find_head | apply find_tail)) rfl keeps_nil)) he9) rfl keeps_self ⟨rfl, rfl⟩)
        · intro hc0
          try simp only [decide_eq_true_eq, decide_eq_false_iff_not, Bool.not_eq_true', Bool.not_eq_false', Bool.not_eq_true, Bool.not_eq_false, Bool.and_eq_true, Bool.or_eq_true, Bool.and_eq_false_iff, Bool.or_eq_false_iff, Bool.not_not, ne_eq, Int.not_lt, Int.not_le, Decidable.not_not, beq_iff_eq, bne_iff_ne] at hc0
          refine c_seq ?_
          refine c_region ?_
          refine wl (wl_val hl rfl trivial (r_field hl rfl fld42_0) ?_)
          clear hl a; intro a hl
          refine wl (w_load hl hh rfl trivial one38 rfl (by repeat (first | exact find_head | apply find_tail)) (by first | rfl) ?_)
          clear hl a; intro a hl
          refine wl (wl_val hl rfl trivial (r_eql hl rfl rfl) ?_)
          clear hl a; intro a hl
          refine wl (wl_val hl rfl trivial (r_move hl rfl) ?_)
          clear hl a; intro a hl
          refine sl_split (t := 81) hl rfl ?_ ?_
          · intro hg27; clear hl; intro hl
            try simp only [decide_eq_true_eq, decide_eq_false_iff_not, Bool.not_eq_true', Bool.not_eq_false', Bool.not_eq_true, Bool.not_eq_false, Bool.and_eq_true, Bool.or_eq_true, Bool.and_eq_false_iff, Bool.or_eq_false_iff, Bool.not_not, ne_eq, Int.not_lt, Int.not_le, Decidable.not_not, beq_iff_eq, bne_iff_ne] at hg27
            refine wl (wl_val hl rfl ⟨_, _, rfl, rfl, rfl⟩ (r_move hl rfl) ?_)
            clear hl a; intro a hl
            refine wl (wl_val hl rfl trivial (r_pickT hl rfl rfl) ?_)
            clear hl a; intro a hl
            refine wl (wl_val hl rfl trivial (r_assign hl rfl) ?_)
            clear hl a; intro a hl
            refine w_nil ?_
            have hl2 := hl.add (t := 0) (hl.add (t := 3) (hl.add (t := 4) (hl.add (t := 77) (hl.nil) rfl) rfl) rfl) rfl; clear hl; have hl := hl2; clear hl2
            refine then_normal ?_
            refine c_condF hl rfl ?_
            refine c_seq ?_
            refine c_region ?_
            refine wl (wl_val hl rfl trivial (r_field hl rfl fld42_0) ?_)
            clear hl a; intro a hl
            refine wl (w_load hl hh rfl trivial one38 rfl (by repeat (first | exact find_head | apply find_tail)) (by first | rfl) ?_)
            clear hl a; intro a hl
            refine wl (wl_val hl rfl trivial (r_eql hl rfl rfl) ?_)
            clear hl a; intro a hl
            refine wl (wl_val hl rfl trivial (r_move hl rfl) ?_)
            clear hl a; intro a hl
            refine sl_split (t := 91) hl rfl ?_ ?_
            · intro hg28; clear hl; intro hl
              try simp only [decide_eq_true_eq, decide_eq_false_iff_not, Bool.not_eq_true', Bool.not_eq_false', Bool.not_eq_true, Bool.not_eq_false, Bool.and_eq_true, Bool.or_eq_true, Bool.and_eq_false_iff, Bool.or_eq_false_iff, Bool.not_not, ne_eq, Int.not_lt, Int.not_le, Decidable.not_not, beq_iff_eq, bne_iff_ne] at hg28
              refine wl (wl_val hl rfl ⟨_, _, rfl, rfl, rfl⟩ (r_move hl rfl) ?_)
              clear hl a; intro a hl
              refine wl (wl_val hl rfl trivial (r_pickT hl rfl rfl) ?_)
              clear hl a; intro a hl
              refine wl (wl_val hl rfl trivial (r_assign hl rfl) ?_)
              clear hl a; intro a hl
              refine w_nil ?_
              have hl2 := hl.add (t := 0) (hl.add (t := 3) (hl.add (t := 87) (hl.nil) rfl) rfl) rfl; clear hl; have hl := hl2; clear hl2
              refine then_normal ?_
              refine c_condF hl rfl ?_
              refine wp_skip ?_
              refine blk_normal ?_
              first | (exfalso; omega) | (have he9 := sent_1 (s := s) (st := st) (bn := bn) (k := k) (off := off) (n := n) ⟨by omega, by omega, by omega⟩; refine f_end0 (F' := [(mp, C (encM (sentM s k off n) st sk bp) 69), (bp, C (bdL bu (sentN s st bn k off n) bv) 85)]) hl (has_two (bn := bn) hh (keeps_cons (b := mp) (by repeat (first | exact find_head | apply find_tail)) rfl (keeps_cons (b := bp) (by repeat (first | exact find_head | apply find_tail)) rfl keeps_nil)) he9) rfl keeps_self ⟨rfl, rfl⟩) | (have he9 := sent_2 (s := s) (st := st) (bn := bn) (k := k) (off := off) (n := n) (by omega) ⟨by omega, by omega, by omega⟩; refine f_end0 (F' := [(mp, C (encM (sentM s k off n) st sk bp) 69), (bp, C (bdL bu (sentN s st bn k off n) bv) 85)]) hl (has_two (bn := bn) hh (keeps_cons (b := mp) (by repeat (first | exact find_head | apply find_tail)) rfl (keeps_cons (b := bp) (by repeat (first | exact find_head | apply find_tail)) rfl keeps_nil)) he9) rfl keeps_self ⟨rfl, rfl⟩) | (have he9 := sent_3a (s := s) (st := st) (bn := bn) (k := k) (off := off) (n := n) (f := f9) (by omega) ⟨by omega, by omega, by omega⟩ (by omega) (by assumption); refine f_end0 (F' := [(mp, C (encM (sentM s k off n) st sk bp) 69), (bp, C (bdL bu (sentN s st bn k off n) bv) 85)]) hl (has_two (bn := bn) hh (keeps_cons (b := mp) (by repeat (first | exact find_head | apply find_tail)) rfl (keeps_cons (b := bp) (by repeat (first | exact find_head | apply find_tail)) rfl keeps_nil)) he9) rfl keeps_self ⟨rfl, rfl⟩) | (have he9 := sent_3b (s := s) (st := st) (bn := bn) (k := k) (off := off) (n := n) (f := f9) (by omega) ⟨by omega, by omega, by omega⟩ (by omega) (by assumption); refine f_end0 (F' := [(mp, C (encM (sentM s k off n) st sk bp) 69), (bp, C (bdL bu (sentN s st bn k off n) bv) 85)]) hl (has_two (bn := bn) hh (keeps_cons (b := mp) (by repeat (first | exact find_head | apply find_tail)) rfl (keeps_cons (b := bp) (by repeat (first | exact find_head | apply find_tail)) rfl keeps_nil)) he9) rfl keeps_self ⟨rfl, rfl⟩) | (have he9 := sent_4 (s := s) (st := st) (bn := bn) (k := k) (off := off) (n := n) (by omega) (by omega) (by omega); refine f_end0 (F' := [(mp, C (encM (sentM s k off n) st sk bp) 69), (bp, C (bdL bu (sentN s st bn k off n) bv) 85)]) hl (has_two (bn := bn) hh (keeps_cons (b := mp) (by repeat (first | exact find_head | apply find_tail)) rfl (keeps_cons (b := bp) (by repeat (first | exact find_head | apply find_tail)) rfl keeps_nil)) he9) rfl keeps_self ⟨rfl, rfl⟩) | (have he9 := sent_4 (s := s) (st := st) (bn := bn) (k := k) (off := off) (n := n) (by omega) (fun h9 => not_inF (by omega) h9.2) (fun h9 => not_inF (by omega) h9.2); refine f_end0 (F' := [(mp, C (encM (sentM s k off n) st sk bp) 69), (bp, C (bdL bu (sentN s st bn k off n) bv) 85)]) hl (has_two (bn := bn) hh (keeps_cons (b := mp) (by repeat (first | exact find_head | apply find_tail)) rfl (keeps_cons (b := bp) (by repeat (first | exact find_head | apply find_tail)) rfl keeps_nil)) he9) rfl keeps_self ⟨rfl, rfl⟩)
            · intro hg28; clear hl; intro hl
              try simp only [decide_eq_true_eq, decide_eq_false_iff_not, Bool.not_eq_true', Bool.not_eq_false', Bool.not_eq_true, Bool.not_eq_false, Bool.and_eq_true, Bool.or_eq_true, Bool.and_eq_false_iff, Bool.or_eq_false_iff, Bool.not_not, ne_eq, Int.not_lt, Int.not_le, Decidable.not_not, beq_iff_eq, bne_iff_ne] at hg28
              refine wl (wl_skip hl rfl ⟨_, _, rfl, rfl, rfl⟩ ?_)
              clear hl a; intro a hl
              refine wl (wl_val hl rfl trivial (r_pickF hl rfl rfl) ?_)
              clear hl a; intro a hl
              refine wl (wl_val hl rfl trivial (r_assign hl rfl) ?_)
              clear hl a; intro a hl
              refine w_nil ?_
              have hl2 := hl.add (t := 0) (hl.add (t := 3) (hl.add (t := 87) (hl.nil) rfl) rfl) rfl; clear hl; have hl := hl2; clear hl2
              refine then_normal ?_
              refine c_condF hl rfl ?_
              refine wp_skip ?_
              refine blk_normal ?_
              first | (exfalso; omega) | (have he9 := sent_1 (s := s) (st := st) (bn := bn) (k := k) (off := off) (n := n) ⟨by omega, by omega, by omega⟩; refine f_end0 (F' := [(mp, C (encM (sentM s k off n) st sk bp) 69), (bp, C (bdL bu (sentN s st bn k off n) bv) 85)]) hl (has_two (bn := bn) hh (keeps_cons (b := mp) (by repeat (first | exact find_head | apply find_tail)) rfl (keeps_cons (b := bp) (by repeat (first | exact find_head | apply find_tail)) rfl keeps_nil)) he9) rfl keeps_self ⟨rfl, rfl⟩) | (have he9 := sent_2 (s := s) (st := st) (bn := bn) (k := k) (off := off) (n := n) (by omega) ⟨by omega, by omega, by omega⟩; refine f_end0 (F' := [(mp, C (encM (sentM s k off n) st sk bp) 69), (bp, C (bdL bu (sentN s st bn k off n) bv) 85)]) hl (has_two (bn := bn) hh (keeps_cons (b := mp) (by repeat (first | exact find_head | apply find_tail)) rfl (keeps_cons (b := bp) (by repeat (first | exact find_head | apply find_tail)) rfl keeps_nil)) he9) rfl keeps_self ⟨rfl, rfl⟩) | (have he9 := sent_3a (s := s) (st := st) (bn := bn) (k := k) (off := off) (n := n) (f := f9) (by omega) ⟨by omega, by omega, by omega⟩ (by omega) (by assumption); refine f_end0 (F' := [(mp, C (encM (sentM s k off n) st sk bp) 69), (bp, C (bdL bu (sentN s st bn k off n) bv) 85)]) hl (has_two (bn := bn) hh (keeps_cons (b := mp) (by repeat (first | exact find_head | apply find_tail)) rfl (keeps_cons (b := bp) (by repeat (first | exact find_head | apply find_tail)) rfl keeps_nil)) he9) rfl keeps_self ⟨rfl, rfl⟩) | (have he9 := sent_3b (s := s) (st := st) (bn := bn) (k := k) (off := off) (n := n) (f := f9) (by omega) ⟨by omega, by omega, by omega⟩ (by omega) (by assumption); refine f_end0 (F' := [(mp, C (encM (sentM s k off n) st sk bp) 69), (bp, C (bdL bu (sentN s st bn k off n) bv) 85)]) hl (has_two (bn := bn) hh (keeps_cons (b := mp) (by repeat (first | exact find_head | apply find_tail)) rfl (keeps_cons (b := bp) (by repeat (first | exact find_head | apply find_tail)) rfl keeps_nil)) he9) rfl keeps_self ⟨rfl, rfl⟩) | (have he9 := sent_4 (s := s) (st := st) (bn := bn) (k := k) (off := off) (n := n) (by omega) (by omega) (by omega); refine f_end0 (F' := [(mp, C (encM (sentM s k off n) st sk bp) 69), (bp, C (bdL bu (sentN s st bn k off n) bv) 85)]) hl (has_two (bn := bn) hh (keeps_cons (b := mp) (by repeat (first | exact find_head | apply find_tail)) rfl (keeps_cons (b := bp) (by repeat (first | exact find_head | apply find_tail)) rfl keeps_nil)) he9) rfl keeps_self ⟨rfl, rfl⟩) | (have he9 := sent_4 (s := s) (st := st) (bn := bn) (k := k) (off := off) (n := n) (by omega) (fun h9 => not_inF (by omega) h9.2) (fun h9 => not_inF (by omega) h9.2); refine f_end0 (F' := [(mp, C (encM (sentM s k off n) st sk bp) 69), (bp, C (bdL bu (sentN s st bn k off n) bv) 85)]) hl (has_two (bn := bn) hh (keeps_cons (b := mp) (by repeat (first | exact find_head | apply find_tail)) rfl (keeps_cons (b := bp) (by repeat (first | exact find_head | apply find_tail)) rfl keeps_nil)) he9) rfl keeps_self ⟨rfl, rfl⟩)
          · intro hg27; clear hl; intro hl
            try simp only [decide_eq_true_eq, decide_eq_false_iff_not, Bool.not_eq_true', Bool.not_eq_false', Bool.not_eq_true, Bool.not_eq_false, Bool.and_eq_true, Bool.or_eq_true, Bool.and_eq_false_iff, Bool.or_eq_false_iff, Bool.not_not, ne_eq, Int.not_lt, Int.not_le, Decidable.not_not, beq_iff_eq, bne_iff_ne] at hg27
            refine wl (wl_skip hl rfl ⟨_, _, rfl, rfl, rfl⟩ ?_)
            clear hl a; intro a hl
            refine wl (wl_val hl rfl trivial (r_pickF hl rfl rfl) ?_)
            clear hl a; intro a hl
            refine wl (wl_val hl rfl trivial (r_assign hl rfl) ?_)
            clear hl a; intro a hl
            refine w_nil ?_
            have hl2 := hl.add (t := 0) (hl.add (t := 3) (hl.add (t := 4) (hl.add (t := 77) (hl.nil) rfl) rfl) rfl) rfl; clear hl; have hl := hl2; clear hl2
            refine then_normal ?_
            refine c_condF hl rfl ?_
            refine c_seq ?_
            refine c_region ?_
            refine wl (wl_val hl rfl trivial (r_field hl rfl fld42_0) ?_)
            clear hl a; intro a hl
            refine wl (w_load hl hh rfl trivial one38 rfl (by repeat (first | exact find_head | apply find_tail)) (by first | rfl) ?_)
            clear hl a; intro a hl
            refine wl (wl_val hl rfl trivial (r_eql hl rfl rfl) ?_)
            clear hl a; intro a hl
            refine wl (wl_val hl rfl trivial (r_move hl rfl) ?_)
            clear hl a; intro a hl
            refine sl_split (t := 91) hl rfl ?_ ?_
            · intro hg29; clear hl; intro hl
              try simp only [decide_eq_true_eq, decide_eq_false_iff_not, Bool.not_eq_true', Bool.not_eq_false', Bool.not_eq_true, Bool.not_eq_false, Bool.and_eq_true, Bool.or_eq_true, Bool.and_eq_false_iff, Bool.or_eq_false_iff, Bool.not_not, ne_eq, Int.not_lt, Int.not_le, Decidable.not_not, beq_iff_eq, bne_iff_ne] at hg29
              refine wl (wl_val hl rfl ⟨_, _, rfl, rfl, rfl⟩ (r_move hl rfl) ?_)
              clear hl a; intro a hl
              refine wl (wl_val hl rfl trivial (r_pickT hl rfl rfl) ?_)
              clear hl a; intro a hl
              refine wl (wl_val hl rfl trivial (r_assign hl rfl) ?_)
              clear hl a; intro a hl
              refine w_nil ?_
              have hl2 := hl.add (t := 0) (hl.add (t := 3) (hl.add (t := 87) (hl.nil) rfl) rfl) rfl; clear hl; have hl := hl2; clear hl2
              refine then_normal ?_
              refine c_condF hl rfl ?_
              refine wp_skip ?_
              refine blk_normal ?_
              first | (exfalso; omega) | (have he9 := sent_1 (s := s) (st := st) (bn := bn) (k := k) (off := off) (n := n) ⟨by omega, by omega, by omega⟩; refine f_end0 (F' := [(mp, C (encM (sentM s k off n) st sk bp) 69), (bp, C (bdL bu (sentN s st bn k off n) bv) 85)]) hl (has_two (bn := bn) hh (keeps_cons (b := mp) (by repeat (first | exact find_head | apply find_tail)) rfl (keeps_cons (b := bp) (by repeat (first | exact find_head | apply find_tail)) rfl keeps_nil)) he9) rfl keeps_self ⟨rfl, rfl⟩) | (have he9 := sent_2 (s := s) (st := st) (bn := bn) (k := k) (off := off) (n := n) (by omega) ⟨by omega, by omega, by omega⟩; refine f_end0 (F' := [(mp, C (encM (sentM s k off n) st sk bp) 69), (bp, C (bdL bu (sentN s st bn k off n) bv) 85)]) hl (has_two (bn := bn) hh (keeps_cons (b := mp) (by repeat (first | exact find_head | apply find_tail)) rfl (keeps_cons (b := bp) (by repeat (first | exact find_head | apply find_tail)) rfl keeps_nil)) he9) rfl keeps_self ⟨rfl, rfl⟩) | (have he9 := sent_3a (s := s) (st := st) (bn := bn) (k := k) (off := off) (n := n) (f := f9) (by omega) ⟨by omega, by omega, by omega⟩ (by omega) (by assumption); refine f_end0 (F' := [(mp, C (encM (sentM s k off n) st sk bp) 69), (bp, C (bdL bu (sentN s st bn k off n) bv) 85)]) hl (has_two (bn := bn) hh (keeps_cons (b := mp) (by repeat (first | exact find_head | apply find_tail)) rfl (keeps_cons (b := bp) (by repeat (first | exact find_head | apply find_tail)) rfl keeps_nil)) he9) rfl keeps_self ⟨rfl, rfl⟩) | (have he9 := sent_3b (s := s) (st := st) (bn := bn) (k := k) (off := off) (n := n) (f := f9) (by omega) ⟨by omega, by omega, by omega⟩ (by omega) (by assumption); refine f_end0 (F' := [(mp, C (encM (sentM s k off n) st sk bp) 69), (bp, C (bdL bu (sentN s st bn k off n) bv) 85)]) hl (has_two (bn := bn) hh (keeps_cons (b := mp) (by repeat (first | exact find_head | apply find_tail)) rfl (keeps_cons (b := bp) (by repeat (first | exact find_head | apply find_tail)) rfl keeps_nil)) he9) rfl keeps_self ⟨rfl, rfl⟩) | (have he9 := sent_4 (s := s) (st := st) (bn := bn) (k := k) (off := off) (n := n) (by omega) (by omega) (by omega); refine f_end0 (F' := [(mp, C (encM (sentM s k off n) st sk bp) 69), (bp, C (bdL bu (sentN s st bn k off n) bv) 85)]) hl (has_two (bn := bn) hh (keeps_cons (b := mp) (by repeat (first | exact find_head | apply find_tail)) rfl (keeps_cons (b := bp) (by repeat (first | exact find_head | apply find_tail)) rfl keeps_nil)) he9) rfl keeps_self ⟨rfl, rfl⟩) | (have he9 := sent_4 (s := s) (st := st) (bn := bn) (k := k) (off := off) (n := n) (by omega) (fun h9 => not_inF (by omega) h9.2) (fun h9 => not_inF (by omega) h9.2); refine f_end0 (F' := [(mp, C (encM (sentM s k off n) st sk bp) 69), (bp, C (bdL bu (sentN s st bn k off n) bv) 85)]) hl (has_two (bn := bn) hh (keeps_cons (b := mp) (by repeat (first | exact find_head | apply find_tail)) rfl (keeps_cons (b := bp) (by repeat (first | exact find_head | apply find_tail)) rfl keeps_nil)) he9) rfl keeps_self ⟨rfl, rfl⟩)
            · intro hg29; clear hl; intro hl
              try simp only [decide_eq_true_eq, decide_eq_false_iff_not, Bool.not_eq_true', Bool.not_eq_false', Bool.not_eq_true, Bool.not_eq_false, Bool.and_eq_true, Bool.or_eq_true, Bool.and_eq_false_iff, Bool.or_eq_false_iff, Bool.not_not, ne_eq, Int.not_lt, Int.not_le, Decidable.not_not, beq_iff_eq, bne_iff_ne] at hg29
              refine wl (wl_skip hl rfl ⟨_, _, rfl, rfl, rfl⟩ ?_)
              clear hl a; intro a hl
              refine wl (wl_val hl rfl trivial (r_pickF hl rfl rfl) ?_)
              clear hl a; intro a hl
              refine wl (wl_val hl rfl trivial (r_assign hl rfl) ?_)
              clear hl a; intro a hl
              refine w_nil ?_
              have hl2 := hl.add (t := 0) (hl.add (t := 3) (hl.add (t := 87) (hl.nil) rfl) rfl) rfl; clear hl; have hl := hl2; clear hl2
              refine then_normal ?_
              refine c_condF hl rfl ?_
              refine wp_skip ?_
              refine blk_normal ?_
              first | (exfalso; omega) | (have he9 := sent_1 (s := s) (st := st) (bn := bn) (k := k) (off := off) (n := n) ⟨by omega, by omega, by omega⟩; refine f_end0 (F' := [(mp, C (encM (sentM s k off n) st sk bp) 69), (bp, C (bdL bu (sentN s st bn k off n) bv) 85)]) hl (has_two (bn := bn) hh (keeps_cons (b := mp) (by repeat (first | exact find_head | apply find_tail)) rfl (keeps_cons (b := bp) (by repeat (first | exact find_head | apply find_tail)) rfl keeps_nil)) he9) rfl keeps_self ⟨rfl, rfl⟩) | (have he9 := sent_2 (s := s) (st := st) (bn := bn) (k := k) (off := off) (n := n) (by omega) ⟨by omega, by omega, by omega⟩; refine f_end0 (F' := [(mp, C (encM (sentM s k off n) st sk bp) 69), (bp, C (bdL bu (sentN s st bn k off n) bv) 85)]) hl (has_two (bn := bn) hh (keeps_cons (b := mp) (by repeat (first | exact find_head | apply find_tail)) rfl (keeps_cons (b := bp) (by repeat (first | exact find_head | apply find_tail)) rfl keeps_nil)) he9) rfl keeps_self ⟨rfl, rfl⟩) | (have he9 := sent_3a (s := s) (st := st) (bn := bn) (k := k) (off := off) (n := n) (f := f9) (by omega) ⟨by omega, by omega, by omega⟩ (by omega) (by assumption); refine f_end0 (F' := [(mp, C (encM (sentM s k off n) st sk bp) 69), (bp, C (bdL bu (sentN s st bn k off n) bv) 85)]) hl (has_two (bn := bn) hh (keeps_cons (b := mp) (by repeat (first | exact find_head | apply find_tail)) rfl (keeps_cons (b := bp) (by repeat (first | exact find_head | apply find_tail)) rfl keeps_nil)) he9) rfl keeps_self ⟨rfl, rfl⟩) | (have he9 := sent_3b (s := s) (st := st) (bn := bn) (k := k) (off := off) (n := n) (f := f9) (by omega) ⟨by omega, by omega, by omega⟩ (by omega) (by assumption); refine f_end0 (F' := [(mp, C (encM (sentM s k off n) st sk bp) 69), (bp, C (bdL bu (sentN s st bn k off n) bv) 85)]) hl (has_two (bn := bn) hh (keeps_cons (b := mp) (by repeat (first | exact find_head | apply find_tail)) rfl (keeps_cons (b := bp) (by repeat (first | exact find_head | apply find_tail)) rfl keeps_nil)) he9) rfl keeps_self ⟨rfl, rfl⟩) | (have he9 := sent_4 (s := s) (st := st) (bn := bn) (k := k) (off := off) (n := n) (by omega) (by omega) (by omega); refine f_end0 (F' := [(mp, C (encM (sentM s k off n) st sk bp) 69), (bp, C (bdL bu (sentN s st bn k off n) bv) 85)]) hl (has_two (bn := bn) hh (keeps_cons (b := mp) (by repeat (first | exact find_head | apply find_tail)) rfl (keeps_cons (b := bp) (by repeat (first | exact find_head | apply find_tail)) rfl keeps_nil)) he9) rfl keeps_self ⟨rfl, rfl⟩) | (have he9 := sent_4 (s := s) (st := st) (bn := bn) (k := k) (off := off) (n := n) (by omega) (fun h9 => not_inF (by omega) h9.2) (fun h9 => not_inF (by omega) h9.2); refine f_end0 (F' := [(mp, C (encM (sentM s k off n) st sk bp) 69), (bp, C (bdL bu (sentN s st bn k off n) bv) 85)]) hl (has_two (bn := bn) hh (keeps_cons (b := mp) (by repeat (first | exact find_head | apply find_tail)) rfl (keeps_cons (b := bp) (by repeat (first | exact find_head | apply find_tail)) rfl keeps_nil)) he9) rfl keeps_self ⟨rfl, rfl⟩)
      · intro hg26; clear hl; intro hl
        try simp only [decide_eq_true_eq, decide_eq_false_iff_not, Bool.not_eq_true', Bool.not_eq_false', Bool.not_eq_true, Bool.not_eq_false, Bool.and_eq_true, Bool.or_eq_true, Bool.and_eq_false_iff, Bool.or_eq_false_iff, Bool.not_not, ne_eq, Int.not_lt, Int.not_le, Decidable.not_not, beq_iff_eq, bne_iff_ne] at hg26
        refine d_skip (i := 13) hl rfl (by kernel_rfl) (by kernel_rfl) (by kernel_rfl) (by kernel_rfl) (by kernel_rfl) rfl ⟨_, _, rfl, rfl, rfl⟩ (fun _ _ _ h => h) hM ?_
        clear hl a; intro a hl
        refine d_skip (i := 14) hl rfl (by kernel_rfl) (by kernel_rfl) (by kernel_rfl) (by kernel_rfl) (by kernel_rfl) rfl ⟨_, _, rfl, rfl, rfl⟩ (fun _ _ _ h => h) hM ?_
        clear hl a; intro a hl
        refine d_skip (i := 15) hl rfl (by kernel_rfl) (by kernel_rfl) (by kernel_rfl) (by kernel_rfl) (by kernel_rfl) rfl ⟨_, _, rfl, rfl, rfl⟩ (fun _ _ _ h => h) hM ?_
        clear hl a; intro a hl
        refine d_skip (i := 16) hl rfl (by kernel_rfl) (by kernel_rfl) (by kernel_rfl) (by kernel_rfl) (by kernel_rfl) rfl ⟨_, _, rfl, rfl, rfl⟩ (fun _ _ _ h => h) hM ?_
        clear hl a; intro a hl
        refine d_skip (i := 17) hl rfl (by kernel_rfl) (by kernel_rfl) (by kernel_rfl) (by kernel_rfl) (by kernel_rfl) rfl ⟨_, _, rfl, rfl, rfl⟩ (fun _ _ _ h => h) hM ?_
        clear hl a; intro a hl
        refine d_skip (i := 18) hl rfl (by kernel_rfl) (by kernel_rfl) (by kernel_rfl) (by kernel_rfl) (by kernel_rfl) rfl ⟨_, _, rfl, rfl, rfl⟩ (fun _ _ _ h => h) hM ?_
        clear hl a; intro a hl
        refine d_skip (i := 19) hl rfl (by kernel_rfl) (by kernel_rfl) (by kernel_rfl) (by kernel_rfl) (by kernel_rfl) rfl ⟨_, _, rfl, rfl, rfl⟩ (fun _ _ _ h => h) hM ?_
        clear hl a; intro a hl
        refine d_skip (i := 20) hl rfl (by kernel_rfl) (by kernel_rfl) (by kernel_rfl) (by kernel_rfl) (by kernel_rfl) rfl ⟨_, _, rfl, rfl, rfl⟩ (fun _ _ _ h => h) hM ?_
        clear hl a; intro a hl
        refine d_skip (i := 21) hl rfl (by kernel_rfl) (by kernel_rfl) (by kernel_rfl) (by kernel_rfl) (by kernel_rfl) rfl ⟨_, _, rfl, rfl, rfl⟩ (fun _ _ _ h => h) hM ?_
        clear hl a; intro a hl
        refine d_skip (i := 22) hl rfl (by kernel_rfl) (by kernel_rfl) (by kernel_rfl) (by kernel_rfl) (by kernel_rfl) rfl ⟨_, _, rfl, rfl, rfl⟩ (fun _ _ _ h => h) hM ?_
        clear hl a; intro a hl
        refine d_skip (i := 23) hl rfl (by kernel_rfl) (by kernel_rfl) (by kernel_rfl) (by kernel_rfl) (by kernel_rfl) rfl ⟨_, _, rfl, rfl, rfl⟩ (fun _ _ _ h => h) hM ?_
        clear hl a; intro a hl
        refine d_skip (i := 24) hl rfl (by kernel_rfl) (by kernel_rfl) (by kernel_rfl) (by kernel_rfl) (by kernel_rfl) rfl ⟨_, _, rfl, rfl, rfl⟩ (fun _ _ _ h => h) hM ?_
        clear hl a; intro a hl
        refine d_skip (i := 25) hl rfl (by kernel_rfl) (by kernel_rfl) (by kernel_rfl) (by kernel_rfl) (by kernel_rfl) rfl ⟨_, _, rfl, rfl, rfl⟩ (fun _ _ _ h => h) hM ?_
        clear hl a; intro a hl
        refine d_takeL (i := 26) hl rfl (by kernel_rfl) (by kernel_rfl) (by kernel_rfl) (by kernel_rfl) (by kernel_rfl) rfl trivial (fun _ _ _ h => h) (fun w => r_pickF hl rfl rfl) rfl ?_
        clear hl a; intro a hl
        refine d_takeL (i := 27) hl rfl (by kernel_rfl) (by kernel_rfl) (by kernel_rfl) (by kernel_rfl) (by kernel_rfl) rfl trivial (fun _ _ _ h => h) (fun w => r_assign hl rfl) rfl ?_
        clear hl a; intro a hl
        refine d_done (by kernel_rfl) ?_
        try clear hM
        have hl2 := hl.add (t := 0) (hl.add (t := 3) (hl.add (t := 4) (hl.add (t := 29) (hl.nil) rfl) rfl) rfl) rfl; clear hl; have hl := hl2; clear hl2
        refine then_normal ?_
        refine c_condF hl rfl ?_
        refine c_seq ?_
        refine c_region ?_
        refine wl (wl_val hl rfl trivial (r_field hl rfl fld42_0) ?_)
        clear hl a; intro a hl
        refine wl (w_load hl hh rfl trivial one38 rfl (by repeat (first | exact find_head | apply find_tail)) (by first | rfl) ?_)
        clear hl a; intro a hl
        refine wl (wl_val hl rfl trivial (r_eql hl rfl rfl) ?_)
        clear hl a; intro a hl
        refine wl (wl_val hl rfl trivial (r_move hl rfl) ?_)
        clear hl a; intro a hl
        refine sl_split (t := 81) hl rfl ?_ ?_
        · intro hg30; clear hl; intro hl
          try simp only [decide_eq_true_eq, decide_eq_false_iff_not, Bool.not_eq_true', Bool.not_eq_false', Bool.not_eq_true, Bool.not_eq_false, Bool.and_eq_true, Bool.or_eq_true, Bool.and_eq_false_iff, Bool.or_eq_false_iff, Bool.not_not, ne_eq, Int.not_lt, Int.not_le, Decidable.not_not, beq_iff_eq, bne_iff_ne] at hg30
          refine wl (wl_val hl rfl ⟨_, _, rfl, rfl, rfl⟩ (r_move hl rfl) ?_)
          clear hl a; intro a hl
          refine wl (wl_val hl rfl trivial (r_pickT hl rfl rfl) ?_)
          clear hl a; intro a hl
          refine wl (wl_val hl rfl trivial (r_assign hl rfl) ?_)
          clear hl a; intro a hl
          refine w_nil ?_
          have hl2 := hl.add (t := 0) (hl.add (t := 3) (hl.add (t := 4) (hl.add (t := 77) (hl.nil) rfl) rfl) rfl) rfl; clear hl; have hl := hl2; clear hl2
          refine then_normal ?_
          refine c_condF hl rfl ?_
          refine c_seq ?_
          refine c_region ?_
          refine wl (wl_val hl rfl trivial (r_field hl rfl fld42_0) ?_)
          clear hl a; intro a hl
          refine wl (w_load hl hh rfl trivial one38 rfl (by repeat (first | exact find_head | apply find_tail)) (by first | rfl) ?_)
          clear hl a; intro a hl
          refine wl (wl_val hl rfl trivial (r_eql hl rfl rfl) ?_)
          clear hl a; intro a hl
          refine wl (wl_val hl rfl trivial (r_move hl rfl) ?_)
          clear hl a; intro a hl
          refine sl_split (t := 91) hl rfl ?_ ?_
          · intro hg31; clear hl; intro hl
            try simp only [decide_eq_true_eq, decide_eq_false_iff_not, Bool.not_eq_true', Bool.not_eq_false', Bool.not_eq_true, Bool.not_eq_false, Bool.and_eq_true, Bool.or_eq_true, Bool.and_eq_false_iff, Bool.or_eq_false_iff, Bool.not_not, ne_eq, Int.not_lt, Int.not_le, Decidable.not_not, beq_iff_eq, bne_iff_ne] at hg31
            refine wl (wl_val hl rfl ⟨_, _, rfl, rfl, rfl⟩ (r_move hl rfl) ?_)
            clear hl a; intro a hl
            refine wl (wl_val hl rfl trivial (r_pickT hl rfl rfl) ?_)
            clear hl a; intro a hl
            refine wl (wl_val hl rfl trivial (r_assign hl rfl) ?_)
            clear hl a; intro a hl
            refine w_nil ?_
            have hl2 := hl.add (t := 0) (hl.add (t := 3) (hl.add (t := 87) (hl.nil) rfl) rfl) rfl; clear hl; have hl := hl2; clear hl2
            refine then_normal ?_
            refine c_condF hl rfl ?_
            refine wp_skip ?_
            refine blk_normal ?_
            first | (exfalso; omega) | (have he9 := sent_1 (s := s) (st := st) (bn := bn) (k := k) (off := off) (n := n) ⟨by omega, by omega, by omega⟩; refine f_end0 (F' := [(mp, C (encM (sentM s k off n) st sk bp) 69), (bp, C (bdL bu (sentN s st bn k off n) bv) 85)]) hl (has_two (bn := bn) hh (keeps_cons (b := mp) (by repeat (first | exact find_head | apply find_tail)) rfl (keeps_cons (b := bp) (by repeat (first | exact find_head | apply find_tail)) rfl keeps_nil)) he9) rfl keeps_self ⟨rfl, rfl⟩) | (have he9 := sent_2 (s := s) (st := st) (bn := bn) (k := k) (off := off) (n := n) (by omega) ⟨by omega, by omega, by omega⟩; refine f_end0 (F' := [(mp, C (encM (sentM s k off n) st sk bp) 69), (bp, C (bdL bu (sentN s st bn k off n) bv) 85)]) hl (has_two (bn := bn) hh (keeps_cons (b := mp) (by repeat (first | exact find_head | apply find_tail)) rfl (keeps_cons (b := bp) (by repeat (first | exact find_head | apply find_tail)) rfl keeps_nil)) he9) rfl keeps_self ⟨rfl, rfl⟩) | (have he9 := sent_3a (s := s) (st := st) (bn := bn) (k := k) (off := off) (n := n) (f := f9) (by omega) ⟨by omega, by omega, by omega⟩ (by omega) (by assumption); refine f_end0 (F' := [(mp, C (encM (sentM s k off n) st sk bp) 69), (bp, C (bdL bu (sentN s st bn k off n) bv) 85)]) hl (has_two (bn := bn) hh (keeps_cons (b := mp) (by repeat (first | exact find_head | apply find_tail)) rfl (keeps_cons (b := bp) (by repeat (first | exact find_head | apply find_tail)) rfl keeps_nil)) he9) rfl keeps_self ⟨rfl, rfl⟩) | (have he9 := sent_3b (s := s) (st := st) (bn := bn) (k := k) (off := off) (n := n) (f := f9) (by omega) ⟨by omega, by omega, by omega⟩ (by omega) (by assumption); refine f_end0 (F' := [(mp, C (encM (sentM s k off n) st sk bp) 69), (bp, C (bdL bu (sentN s st bn k off n) bv) 85)]) hl (has_two (bn := bn) hh (keeps_cons (b := mp) (by repeat (first | exact find_head | apply find_tail)) rfl (keeps_cons (b := bp) (by repeat (first | exact find_head | apply find_tail)) rfl keeps_nil)) he9) rfl keeps_self ⟨rfl, rfl⟩) | (have he9 := sent_4 (s := s) (st := st) (bn := bn) (k := k) (off := off) (n := n) (by omega) (by omega) (by omega); refine f_end0 (F' := [(mp, C (encM (sentM s k off n) st sk bp) 69), (bp, C (bdL bu (sentN s st bn k off n) bv) 85)]) hl (has_two (bn := bn) hh (keeps_cons (b := mp) (by repeat (first | exact find_head | apply find_tail)) rfl (keeps_cons (b := bp) (by repeat (first | exact find_head | apply find_tail)) rfl keeps_nil)) he9) rfl keeps_self ⟨rfl, rfl⟩) | (have he9 := sent_4 (s := s) (st := st) (bn := bn) (k := k) (off := off) (n := n) (by omega) (fun h9 => not_inF (by omega) h9.2) (fun h9 => not_inF (by omega) h9.2); refine f_end0 (F' := [(mp, C (encM (sentM s k off n) st sk bp) 69), (bp, C (bdL bu (sentN s st bn k off n) bv) 85)]) hl (has_two (bn := bn) hh (keeps_cons (b := mp) (by repeat (first | exact find_head | apply find_tail)) rfl (keeps_cons (b := bp) (by repeat (first | exact find_head | apply find_tail)) rfl keeps_nil)) he9) rfl keeps_self ⟨rfl, rfl⟩)
          · intro hg31; clear hl; intro hl
            try simp only [decide_eq_true_eq, decide_eq_false_iff_not, Bool.not_eq_true', Bool.not_eq_false', Bool.not_eq_true, Bool.not_eq_false, Bool.and_eq_true, Bool.or_eq_true, Bool.and_eq_false_iff, Bool.or_eq_false_iff, Bool.not_not, ne_eq, Int.not_lt, Int.not_le, Decidable.not_not, beq_iff_eq, bne_iff_ne] at hg31
            refine wl (wl_skip hl rfl ⟨_, _, rfl, rfl, rfl⟩ ?_)
            clear hl a; intro a hl
            refine wl (wl_val hl rfl trivial (r_pickF hl rfl rfl) ?_)
            clear hl a; intro a hl
            refine wl (wl_val hl rfl trivial (r_assign hl rfl) ?_)
            clear hl a; intro a hl
            refine w_nil ?_
            have hl2 := hl.add (t := 0) (hl.add (t := 3) (hl.add (t := 87) (hl.nil) rfl) rfl) rfl; clear hl; have hl := hl2; clear hl2
            refine then_normal ?_
            refine c_condF hl rfl ?_
            refine wp_skip ?_
            refine blk_normal ?_
            first | (exfalso; omega) | (have he9 := sent_1 (s := s) (st := st) (bn := bn) (k := k) (off := off) (n := n) ⟨by omega, by omega, by omega⟩; refine f_end0 (F' := [(mp, C (encM (sentM s k off n) st sk bp) 69), (bp, C (bdL bu (sentN s st bn k off n) bv) 85)]) hl (has_two (bn := bn) hh (keeps_cons (b := mp) (by repeat (first | exact find_head | apply find_tail)) rfl (keeps_cons (b := bp) (by repeat (first | exact find_head | apply find_tail)) rfl keeps_nil)) he9) rfl keeps_self ⟨rfl, rfl⟩) | (have he9 := sent_2 (s := s) (st := st) (bn := bn) (k := k) (off := off) (n := n) (by omega) ⟨by omega, by omega, by omega⟩; refine f_end0 (F' := [(mp, C (encM (sentM s k off n) st sk bp) 69), (bp, C (bdL bu (sentN s st bn k off n) bv) 85)]) hl (has_two (bn := bn) hh (keeps_cons (b := mp) (by repeat (first | exact find_head | apply find_tail)) rfl (keeps_cons (b := bp) (by repeat (first | exact find_head | apply find_tail)) rfl keeps_nil)) he9) rfl keeps_self ⟨rfl, rfl⟩) | (have he9 := sent_3a (s := s) (st := st) (bn := bn) (k := k) (off := off) (n := n) (f := f9) (by omega) ⟨by omega, by omega, by omega⟩ (by omega) (by assumption); refine f_end0 (F' := [(mp, C (encM (sentM s k off n) st sk bp) 69), (bp, C (bdL bu (sentN s st bn k off n) bv) 85)]) hl (has_two (bn := bn) hh (keeps_cons (b := mp) (by repeat (first | exact find_head | apply find_tail)) rfl (keeps_cons (b := bp) (by repeat (first | exact find_head | apply find_tail)) rfl keeps_nil)) he9) rfl keeps_self ⟨rfl, rfl⟩) | (have he9 := sent_3b (s := s) (st := st) (bn := bn) (k := k) (off := off) (n := n) (f := f9) (by omega) ⟨by omega, by omega, by omega⟩ (by omega) (by assumption); refine f_end0 (F' := [(mp, C (encM (sentM s k off n) st sk bp) 69), (bp, C (bdL bu (sentN s st bn k off n) bv) 85)]) hl (has_two (bn := bn) hh (keeps_cons (b := mp) (by repeat (first | exact find_head | apply find_tail)) rfl (keeps_cons (b := bp) (by repeat (first | exact find_head | apply find_tail)) rfl keeps_nil)) he9) rfl keeps_self ⟨rfl, rfl⟩) | (have he9 := sent_4 (s := s) (st := st) (bn := bn) (k := k) (off := off) (n := n) (by omega) (by omega) (by omega); refine f_end0 (F' := [(mp, C (encM (sentM s k off n) st sk bp) 69), (bp, C (bdL bu (sentN s st bn k off n) bv) 85)]) hl (has_two (bn := bn) hh (keeps_cons (b := mp) (by repeat (first | exact find_head | apply find_tail)) rfl (keeps_cons (b := bp) (by repeat (first | exact find_head | apply find_tail)) rfl keeps_nil)) he9) rfl keeps_self ⟨rfl, rfl⟩) | (have he9 := sent_4 (s := s) (st := st) (bn := bn) (k := k) (off := off) (n := n) (by omega) (fun h9 => not_inF (by omega) h9.2) (fun h9 => not_inF (by omega) h9.2); refine f_end0 (F' := [(mp, C (encM (sentM s k off n) st sk bp) 69), (bp, C (bdL bu (sentN s st bn k off n) bv) 85)]) hl (has_two (bn := bn) hh (keeps_cons (b := mp) (by repeat (first | exact find_head | apply find_tail)) rfl (keeps_cons (b := bp) (by repeat (first | exact find_head | apply find_tail)) rfl keeps_nil)) he9) rfl keeps_self ⟨rfl, rfl⟩)
        · intro hg30; clear hl; intro hl
          try simp only [decide_eq_true_eq, decide_eq_false_iff_not, Bool.not_eq_true', Bool.not_eq_false', Bool.not_eq_true, Bool.not_eq_false, Bool.and_eq_true, Bool.or_eq_true, Bool.and_eq_false_iff, Bool.or_eq_false_iff, Bool.not_not, ne_eq, Int.not_lt, Int.not_le, Decidable.not_not, beq_iff_eq, bne_iff_ne] at hg30
          refine wl (wl_skip hl rfl ⟨_, _, rfl, rfl, rfl⟩ ?_)
          clear hl a; intro a hl
          refine wl (wl_val hl rfl trivial (r_pickF hl rfl rfl) ?_)
          clear hl a; intro a hl
          refine wl (wl_val hl rfl trivial (r_assign hl rfl) ?_)
          clear hl a; intro a hl
          refine w_nil ?_
          have hl2 := hl.add (t := 0) (hl.add (t := 3) (hl.add (t := 4) (hl.add (t := 77) (hl.nil) rfl) rfl) rfl) rfl; clear hl; have hl := hl2; clear hl2
          refine then_normal ?_
          refine c_condF hl rfl ?_
          refine c_seq ?_
          refine c_region ?_
          refine wl (wl_val hl rfl trivial (r_field hl rfl fld42_0) ?_)
          clear hl a; intro a hl
          refine wl (w_load hl hh rfl trivial one38 rfl (by repeat (first | exact find_head | apply find_tail)) (by first | rfl) ?_)
          clear hl a; intro a hl
          refine wl (wl_val hl rfl trivial (r_eql hl rfl rfl) ?_)
          clear hl a; intro a hl
          refine wl (wl_val hl rfl trivial (r_move hl rfl) ?_)
          clear hl a; intro a hl
          refine sl_split (t := 91) hl rfl ?_ ?_
          · intro hg32; clear hl; intro hl
            try simp only [decide_eq_true_eq, decide_eq_false_iff_not, Bool.not_eq_true', Bool.not_eq_false', Bool.not_eq_true, Bool.not_eq_false, Bool.and_eq_true, Bool.or_eq_true, Bool.and_eq_false_iff, Bool.or_eq_false_iff, Bool.not_not, ne_eq, Int.not_lt, Int.not_le, Decidable.not_not, beq_iff_eq, bne_iff_ne] at hg32
            refine wl (wl_val hl rfl ⟨_, _, rfl, rfl, rfl⟩ (r_move hl rfl) ?_)
            clear hl a; intro a hl
            refine wl (wl_val hl rfl trivial (r_pickT hl rfl rfl) ?_)
            clear hl a; intro a hl
            refine wl (wl_val hl rfl trivial (r_assign hl rfl) ?_)
            clear hl a; intro a hl
            refine w_nil ?_
            have hl2 := hl.add (t := 0) (hl.add (t := 3) (hl.add (t := 87) (hl.nil) rfl) rfl) rfl; clear hl; have hl := hl2; clear hl2
            refine then_normal ?_
            refine c_condF hl rfl ?_
            refine wp_skip ?_
            refine blk_normal ?_
            first | (exfalso; omega) | (have he9 := sent_1 (s := s) (st := st) (bn := bn) (k := k) (off := off) (n := n) ⟨by omega, by omega, by omega⟩; refine f_end0 (F' := [(mp, C (encM (sentM s k off n) st sk bp) 69), (bp, C (bdL bu (sentN s st bn k off n) bv) 85)]) hl (has_two (bn := bn) hh (keeps_cons (b := mp) (by repeat (first | exact find_head | apply find_tail)) rfl (keeps_cons (b := bp) (by repeat (first | exact find_head | apply find_tail)) rfl keeps_nil)) he9) rfl keeps_self ⟨rfl, rfl⟩) | (have he9 := sent_2 (s := s) (st := st) (bn := bn) (k := k) (off := off) (n := n) (by omega) ⟨by omega, by omega, by omega⟩; refine f_end0 (F' := [(mp, C (encM (sentM s k off n) st sk bp) 69), (bp, C (bdL bu (sentN s st bn k off n) bv) 85)]) hl (has_two (bn := bn) hh (keeps_cons (b := mp) (by repeat (first | exact find_head | apply find_tail)) rfl (keeps_cons (b := bp) (by repeat (first | exact find_head | apply find_tail)) rfl keeps_nil)) he9) rfl keeps_self ⟨rfl, rfl⟩) | (have he9 := sent_3a (s := s) (st := st) (bn := bn) (k := k) (off := off) (n := n) (f := f9) (by omega) ⟨by omega, by omega, by omega⟩ (by omega) (by assumption); refine f_end0 (F' := [(mp, C (encM (sentM s k off n) st sk bp) 69), (bp, C (bdL bu (sentN s st bn k off n) bv) 85)]) hl (has_two (bn := bn) hh (keeps_cons (b := mp) (by repeat (first | exact find_head | apply find_tail)) rfl (keeps_cons (b := bp) (by repeat (first | exact find_head | apply find_tail)) rfl keeps_nil)) he9) rfl keeps_self ⟨rfl, rfl⟩) | (have he9 := sent_3b (s := s) (st := st) (bn := bn) (k := k) (off := off) (n := n) (f := f9) (by omega) ⟨by omega, by omega, by omega⟩ (by omega) (by assumption); refine f_end0 (F' := [(mp, C (encM (sentM s k off n) st sk bp) 69), (bp, C (bdL bu (sentN s st bn k off n) bv) 85)]) hl (has_two (bn := bn) hh (keeps_cons (b := mp) (by repeat (first | exact find_head | apply find_tail)) rfl (keeps_cons (b := bp) (by repeat (first | exact find_head | apply find_tail)) rfl keeps_nil)) he9) rfl keeps_self ⟨rfl, rfl⟩) | (have he9 := sent_4 (s := s) (st := st) (bn := bn) (k := k) (off := off) (n := n) (by omega) (by omega) (by omega); refine f_end0 (F' := [(mp, C (encM (sentM s k off n) st sk bp) 69), (bp, C (bdL bu (sentN s st bn k off n) bv) 85)]) hl (has_two (bn := bn) hh (keeps_cons (b := mp) (by repeat (first | exact find_head | apply find_tail)) rfl (keeps_cons (b := bp) (by repeat (first | exact find_head | apply find_tail)) rfl keeps_nil)) he9) rfl keeps_self ⟨rfl, rfl⟩) | (have he9 := sent_4 (s := s) (st := st) (bn := bn) (k := k) (off := off) (n := n) (by omega) (fun h9 => not_inF (by omega) h9.2) (fun h9 => not_inF (by omega) h9.2); refine f_end0 (F' := [(mp, C (encM (sentM s k off n) st sk bp) 69), (bp, C (bdL bu (sentN s st bn k off n) bv) 85)]) hl (has_two (bn := bn) hh (keeps_cons (b := mp) (by repeat (first | exact find_head | apply find_tail)) rfl (keeps_cons (b := bp) (by repeat (first | exact find_head | apply find_tail)) rfl keeps_nil)) he9) rfl keeps_self ⟨rfl, rfl⟩)
          · intro hg32; clear hl; intro hl
            try simp only [decide_eq_true_eq, decide_eq_false_iff_not, Bool.not_eq_true', Bool.not_eq_false', Bool.not_eq_true, Bool.not_eq_false, Bool.and_eq_true, Bool.or_eq_true, Bool.and_eq_false_iff, Bool.or_eq_false_iff, Bool.not_not, ne_eq, Int.not_lt, Int.not_le, Decidable.not_not, beq_iff_eq, bne_iff_ne] at hg32
            refine wl (wl_skip hl rfl ⟨_, _, rfl, rfl, rfl⟩ ?_)
            clear hl a; intro a hl
            refine wl (wl_val hl rfl trivial (r_pickF hl rfl rfl) ?_)
            clear hl a; intro a hl
            refine wl (wl_val hl rfl trivial (r_assign hl rfl) ?_)
            clear hl a; intro a hl
            refine w_nil ?_
            have hl2 := hl.add (t := 0) (hl.add (t := 3) (hl.add (t := 87) (hl.nil) rfl) rfl) rfl; clear hl; have hl := hl2; clear hl2
            refine then_normal ?_
            refine c_condF hl rfl ?_
            refine wp_skip ?_
            refine blk_normal ?_
            first | (exfalso; omega) | (have he9 := sent_1 (s := s) (st := st) (bn := bn) (k := k) (off := off) (n := n) ⟨by omega, by omega, by omega⟩; refine f_end0 (F' := [(mp, C (encM (sentM s k off n) st sk bp) 69), (bp, C (bdL bu (sentN s st bn k off n) bv) 85)]) hl (has_two (bn := bn) hh (keeps_cons (b := mp) (by repeat (first | exact find_head | apply find_tail)) rfl (keeps_cons (b := bp) (by repeat (first | exact find_head | apply find_tail)) rfl keeps_nil)) he9) rfl keeps_self ⟨rfl, rfl⟩) | (have he9 := sent_2 (s := s) (st := st) (bn := bn) (k := k) (off := off) (n := n) (by omega) ⟨by omega, by omega, by omega⟩; refine f_end0 (F' := [(mp, C (encM (sentM s k off n) st sk bp) 69), (bp, C (bdL bu (sentN s st bn k off n) bv) 85)]) hl (has_two (bn := bn) hh (keeps_cons (b := mp) (by repeat (first | exact find_head | apply find_tail)) rfl (keeps_cons (b := bp) (by repeat (first | exact find_head | apply find_tail)) rfl keeps_nil)) he9) rfl keeps_self ⟨rfl, rfl⟩) | (have he9 := sent_3a (s := s) (st := st) (bn := bn) (k := k) (off := off) (n := n) (f := f9) (by omega) ⟨by omega, by omega, by omega⟩ (by omega) (by assumption); refine f_end0 (F' := [(mp, C (encM (sentM s k off n) st sk bp) 69), (bp, C (bdL bu (sentN s st bn k off n) bv) 85)]) hl (has_two (bn := bn) hh (keeps_cons (b := mp) (by repeat (first | exact find_head | apply find_tail)) rfl (keeps_cons (b := bp) (by repeat (first | exact find_head | apply find_tail)) rfl keeps_nil)) he9) rfl keeps_self ⟨rfl, rfl⟩) | (have he9 := sent_3b (s := s) (st := st) (bn := bn) (k := k) (off := off) (n := n) (f := f9) (by omega) ⟨by omega, by omega, by omega⟩ (by omega) (by assumption); refine f_end0 (F' := [(mp, C (encM (sentM s k off n) st sk bp) 69), (bp, C (bdL bu (sentN s st bn k off n) bv) 85)]) hl (has_two (bn := bn) hh (keeps_cons (b := mp) (by repeat (first | exact find_head | apply find_tail)) rfl (keeps_cons (b := bp) (by repeat (first | exact find_head | apply find_tail)) rfl keeps_nil)) he9) rfl keeps_self ⟨rfl, rfl⟩) | (have he9 := sent_4 (s := s) (st := st) (bn := bn) (k := k) (off := off) (n := n) (by omega) (by omega) (by omega); refine f_end0 (F' := [(mp, C (encM (sentM s k off n) st sk bp) 69), (bp, C (bdL bu (sentN s st bn k off n) bv) 85)]) hl (has_two (bn := bn) hh (keeps_cons (b := mp) (by repeat (first | exact find_head | apply find_tail)) rfl (keeps_cons (b := bp) (by repeat (first | exact find_head | apply find_tail)) rfl keeps_nil)) he9) rfl keeps_self ⟨rfl, rfl⟩) | (have he9 := sent_4 (s := s) (st := st) (bn := bn) (k := k) (off := off) (n := n) (by omega) (fun h9 => not_inF (by omega) h9.2) (fun h9 => not_inF (by omega) h9.2); refine f_end0 (F' := [(mp, C (encM (sentM s k off n) st sk bp) 69), (bp, C (bdL bu (sentN s st bn k off n) bv) 85)]) hl (has_two (bn := bn) hh (keeps_cons (b := mp) (by repeat (first | exact find_head | apply find_tail)) rfl (keeps_cons (b := bp) (by repeat (first | exact find_head | apply find_tail)) rfl keeps_nil)) he9) rfl keeps_self ⟨rfl, rfl⟩)
    · intro hg25; clear hl; intro hl
      try simp only [decide_eq_true_eq, decide_eq_false_iff_not, Bool.not_eq_true', Bool.not_eq_false', Bool.not_eq_true, Bool.not_eq_false, Bool.and_eq_true, Bool.or_eq_true, Bool.and_eq_false_iff, Bool.or_eq_false_iff, Bool.not_not, ne_eq, Int.not_lt, Int.not_le, Decidable.not_not, beq_iff_eq, bne_iff_ne] at hg25
      refine d_skip (i := 4) hl rfl (by kernel_rfl) (by kernel_rfl) (by kernel_rfl) (by kernel_rfl) (by kernel_rfl) rfl ⟨_, _, rfl, rfl, rfl⟩ (fun _ _ _ h => h) hM ?_
      clear hl a; intro a hl
      refine d_skip (i := 5) hl rfl (by kernel_rfl) (by kernel_rfl) (by kernel_rfl) (by kernel_rfl) (by kernel_rfl) rfl ⟨_, _, rfl, rfl, rfl⟩ (fun _ _ _ h => h) hM ?_
      clear hl a; intro a hl
      refine d_skip (i := 6) hl rfl (by kernel_rfl) (by kernel_rfl) (by kernel_rfl) (by kernel_rfl) (by kernel_rfl) rfl ⟨_, _, rfl, rfl, rfl⟩ (fun _ _ _ h => h) hM ?_
      clear hl a; intro a hl
      refine d_skip (i := 7) hl rfl (by kernel_rfl) (by kernel_rfl) (by kernel_rfl) (by kernel_rfl) (by kernel_rfl) rfl ⟨_, _, rfl, rfl, rfl⟩ (fun _ _ _ h => h) hM ?_
      clear hl a; intro a hl
      refine d_skip (i := 8) hl rfl (by kernel_rfl) (by kernel_rfl) (by kernel_rfl) (by kernel_rfl) (by kernel_rfl) rfl ⟨_, _, rfl, rfl, rfl⟩ (fun _ _ _ h => h) hM ?_
      clear hl a; intro a hl
      refine d_skip (i := 9) hl rfl (by kernel_rfl) (by kernel_rfl) (by kernel_rfl) (by kernel_rfl) (by kernel_rfl) rfl ⟨_, _, rfl, rfl, rfl⟩ (fun _ _ _ h => h) hM ?_
      clear hl a; intro a hl
      refine d_skip (i := 10) hl rfl (by kernel_rfl) (by kernel_rfl) (by kernel_rfl) (by kernel_rfl) (by kernel_rfl) rfl ⟨_, _, rfl, rfl, rfl⟩ (fun _ _ _ h => h) hM ?_
      clear hl a; intro a hl
      refine d_take (i := 11) hl rfl (by kernel_rfl) (by kernel_rfl) (by kernel_rfl) (by kernel_rfl) (by kernel_rfl) rfl trivial (fun _ _ _ h => h) hM (fun w hC => r_pickF hl rfl rfl) rfl ?_
      clear hl a; intro a hl
      refine d_take (i := 12) hl rfl (by kernel_rfl) (by kernel_rfl) (by kernel_rfl) (by kernel_rfl) (by kernel_rfl) rfl trivial (fun _ _ _ h => h) hM (fun w hC => r_move hl rfl) rfl ?_
      clear hl a; intro a hl
      refine d_skip (i := 13) hl rfl (by kernel_rfl) (by kernel_rfl) (by kernel_rfl) (by kernel_rfl) (by kernel_rfl) rfl ⟨_, _, rfl, rfl, rfl⟩ (fun _ _ _ h => h) hM ?_
      clear hl a; intro a hl
      refine d_skip (i := 14) hl rfl (by kernel_rfl) (by kernel_rfl) (by kernel_rfl) (by kernel_rfl) (by kernel_rfl) rfl ⟨_, _, rfl, rfl, rfl⟩ (fun _ _ _ h => h) hM ?_
      clear hl a; intro a hl
      refine d_skip (i := 15) hl rfl (by kernel_rfl) (by kernel_rfl) (by kernel_rfl) (by kernel_rfl) (by kernel_rfl) rfl ⟨_, _, rfl, rfl, rfl⟩ (fun _ _ _ h => h) hM ?_
      clear hl a; intro a hl
      refine d_skip (i := 16) hl rfl (by kernel_rfl) (by kernel_rfl) (by kernel_rfl) (by kernel_rfl) (by kernel_rfl) rfl ⟨_, _, rfl, rfl, rfl⟩ (fun _ _ _ h => h) hM ?_
      clear hl a; intro a hl
      refine d_skip (i := 17) hl rfl (by kernel_rfl) (by kernel_rfl) (by kernel_rfl) (by kernel_rfl) (by kernel_rfl) rfl ⟨_, _, rfl, rfl, rfl⟩ (fun _ _ _ h => h) hM ?_
      clear hl a; intro a hl
      refine d_skip (i := 18) hl rfl (by kernel_rfl) (by kernel_rfl) (by kernel_rfl) (by kernel_rfl) (by kernel_rfl) rfl ⟨_, _, rfl, rfl, rfl⟩ (fun _ _ _ h => h) hM ?_
      clear hl a; intro a hl
      refine d_skip (i := 19) hl rfl (by kernel_rfl) (by kernel_rfl) (by kernel_rfl) (by kernel_rfl) (by kernel_rfl) rfl ⟨_, _, rfl, rfl, rfl⟩ (fun _ _ _ h => h) hM ?_
      clear hl a; intro a hl
      refine d_skip (i := 20) hl rfl (by kernel_rfl) (by kernel_rfl) (by kernel_rfl) (by kernel_rfl) (by kernel_rfl) rfl ⟨_, _, rfl, rfl, rfl⟩ (fun _ _ _ h => h) hM ?_
      clear hl a; intro a hl
      refine d_skip (i := 21) hl rfl (by kernel_rfl) (by kernel_rfl) (by kernel_rfl) (by kernel_rfl) (by kernel_rfl) rfl ⟨_, _, rfl, rfl, rfl⟩ (fun _ _ _ h => h) hM ?_
      clear hl a; intro a hl
      refine d_skip (i := 22) hl rfl (by kernel_rfl) (by kernel_rfl) (by kernel_rfl) (by kernel_rfl) (by kernel_rfl) rfl ⟨_, _, rfl, rfl, rfl⟩ (fun _ _ _ h => h) hM ?_
      clear hl a; intro a hl
      refine d_skip (i := 23) hl rfl (by kernel_rfl) (by kernel_rfl) (by kernel_rfl) (by kernel_rfl) (by kernel_rfl) rfl ⟨_, _, rfl, rfl, rfl⟩ (fun _ _ _ h => h) hM ?_
      clear hl a; intro a hl
      refine d_skip (i := 24) hl rfl (by kernel_rfl) (by kernel_rfl) (by kernel_rfl) (by kernel_rfl) (by kernel_rfl) rfl ⟨_, _, rfl, rfl, rfl⟩ (fun _ _ _ h => h) hM ?_
      clear hl a; intro a hl
      refine d_skip (i := 25) hl rfl (by kernel_rfl) (by kernel_rfl) (by kernel_rfl) (by kernel_rfl) (by kernel_rfl) rfl ⟨_, _, rfl, rfl, rfl⟩ (fun _ _ _ h => h) hM ?_
      clear hl a; intro a hl
      refine d_takeL (i := 26) hl rfl (by kernel_rfl) (by kernel_rfl) (by kernel_rfl) (by kernel_rfl) (by kernel_rfl) rfl trivial (fun _ _ _ h => h) (fun w => r_pickF hl rfl rfl) rfl ?_
      clear hl a; intro a hl
      refine d_takeL (i := 27) hl rfl (by kernel_rfl) (by kernel_rfl) (by kernel_rfl) (by kernel_rfl) (by kernel_rfl) rfl trivial (fun _ _ _ h => h) (fun w => r_assign hl rfl) rfl ?_
      clear hl a; intro a hl
      refine d_done (by kernel_rfl) ?_
      try clear hM
      have hl2 := hl.add (t := 0) (hl.add (t := 3) (hl.add (t := 4) (hl.add (t := 29) (hl.nil) rfl) rfl) rfl) rfl; clear hl; have hl := hl2; clear hl2
      refine then_normal ?_
      refine c_condF hl rfl ?_
      refine c_seq ?_
      refine c_region ?_
      refine wl (wl_val hl rfl trivial (r_field hl rfl fld42_0) ?_)
      clear hl a; intro a hl
      refine wl (w_load hl hh rfl trivial one38 rfl (by repeat (first | exact find_head | apply find_tail)) (by first | rfl) ?_)
      clear hl a; intro a hl
      refine wl (wl_val hl rfl trivial (r_eql hl rfl rfl) ?_)
      clear hl a; intro a hl
      refine wl (wl_val hl rfl trivial (r_move hl rfl) ?_)
      clear hl a; intro a hl
      refine sl_split (t := 81) hl rfl ?_ ?_
      · intro hg33; clear hl; intro hl
        try simp only [decide_eq_true_eq, decide_eq_false_iff_not, Bool.not_eq_true', Bool.not_eq_false', Bool.not_eq_true, Bool.not_eq_false, Bool.and_eq_true, Bool.or_eq_true, Bool.and_eq_false_iff, Bool.or_eq_false_iff, Bool.not_not, ne_eq, Int.not_lt, Int.not_le, Decidable.not_not, beq_iff_eq, bne_iff_ne] at hg33
        refine wl (wl_val hl rfl ⟨_, _, rfl, rfl, rfl⟩ (r_move hl rfl) ?_)
        clear hl a; intro a hl
        refine wl (wl_val hl rfl trivial (r_pickT hl rfl rfl) ?_)
        clear hl a; intro a hl
        refine wl (wl_val hl rfl trivial (r_assign hl rfl) ?_)
        clear hl a; intro a hl
        refine w_nil ?_
        have hl2 := hl.add (t := 0) (hl.add (t := 3) (hl.add (t := 4) (hl.add (t := 77) (hl.nil) rfl) rfl) rfl) rfl; clear hl; have hl := hl2; clear hl2
        refine then_normal ?_
        refine c_condF hl rfl ?_
        refine c_seq ?_
        refine c_region ?_
        refine wl (wl_val hl rfl trivial (r_field hl rfl fld42_0) ?_)
        clear hl a; intro a hl
        refine wl (w_load hl hh rfl trivial one38 rfl (by repeat (first | exact find_head | apply find_tail)) (by first | rfl) ?_)
        clear hl a; intro a hl
        refine wl (wl_val hl rfl trivial (r_eql hl rfl rfl) ?_)
        clear hl a; intro a hl
        refine wl (wl_val hl rfl trivial (r_move hl rfl) ?_)
        clear hl a; intro a hl
        refine sl_split (t := 91) hl rfl ?_ ?_
        · intro hg34; clear hl; intro hl
          try simp only [decide_eq_true_eq, decide_eq_false_iff_not, Bool.not_eq_true', Bool.not_eq_false', Bool.not_eq_true, Bool.not_eq_false, Bool.and_eq_true, Bool.or_eq_true, Bool.and_eq_false_iff, Bool.or_eq_false_iff, Bool.not_not, ne_eq, Int.not_lt, Int.not_le, Decidable.not_not, beq_iff_eq, bne_iff_ne] at hg34
          refine wl (wl_val hl rfl ⟨_, _, rfl, rfl, rfl⟩ (r_move hl rfl) ?_)
          clear hl a; intro a hl
          refine wl (wl_val hl rfl trivial (r_pickT hl rfl rfl) ?_)
          clear hl a; intro a hl
          refine wl (wl_val hl rfl trivial (r_assign hl rfl) ?_)
          clear hl a; intro a hl
          refine w_nil ?_
          have hl2 := hl.add (t := 0) (hl.add (t := 3) (hl.add (t := 87) (hl.nil) rfl) rfl) rfl; clear hl; have hl := hl2; clear hl2
          refine then_normal ?_
          refine c_condF hl rfl ?_
          refine wp_skip ?_
          refine blk_normal ?_
          first | (exfalso; omega) | (have he9 := sent_1 (s := s) (st := st) (bn := bn) (k := k) (off := off) (n := n) ⟨by omega, by omega, by omega⟩; refine f_end0 (F' := [(mp, C (encM (sentM s k off n) st sk bp) 69), (bp, C (bdL bu (sentN s st bn k off n) bv) 85)]) hl (has_two (bn := bn) hh (keeps_cons (b := mp) (by repeat (first | exact find_head | apply find_tail)) rfl (keeps_cons (b := bp) (by repeat (first | exact find_head | apply find_tail)) rfl keeps_nil)) he9) rfl keeps_self ⟨rfl, rfl⟩) | (have he9 := sent_2 (s := s) (st := st) (bn := bn) (k := k) (off := off) (n := n) (by omega) ⟨by omega, by omega, by omega⟩; refine f_end0 (F' := [(mp, C (encM (sentM s k off n) st sk bp) 69), (bp, C (bdL bu (sentN s st bn k off n) bv) 85)]) hl (has_two (bn := bn) hh (keeps_cons (b := mp) (by repeat (first | exact find_head | apply find_tail)) rfl (keeps_cons (b := bp) (by repeat (first | exact find_head | apply find_tail)) rfl keeps_nil)) he9) rfl keeps_self ⟨rfl, rfl⟩) | (have he9 := sent_3a (s := s) (st := st) (bn := bn) (k := k) (off := off) (n := n) (f := f9) (by omega) ⟨by omega, by omega, by omega⟩ (by omega) (by assumption); refine f_end0 (F' := [(mp, C (encM (sentM s k off n) st sk bp) 69), (bp, C (bdL bu (sentN s st bn k off n) bv) 85)]) hl (has_two (bn := bn) hh (keeps_cons (b := mp) (by repeat (first | exact find_head | apply find_tail)) rfl (keeps_cons (b := bp) (by repeat (first | exact find_head | apply find_tail)) rfl keeps_nil)) he9) rfl keeps_self ⟨rfl, rfl⟩) | (have he9 := sent_3b (s := s) (st := st) (bn := bn) (k := k) (off := off) (n := n) (f := f9) (by omega) ⟨by omega, by omega, by omega⟩ (by omega) (by assumption); refine f_end0 (F' := [(mp, C (encM (sentM s k off n) st sk bp) 69), (bp, C (bdL bu (sentN s st bn k off n) bv) 85)]) hl (has_two (bn := bn) hh (keeps_cons (b := mp) (by repeat (first | exact find_head | apply find_tail)) rfl (keeps_cons (b := bp) (by repeat (first | exact find_head | apply find_tail)) rfl keeps_nil)) he9) rfl keeps_self ⟨rfl, rfl⟩) | (have he9 := sent_4 (s := s) (st := st) (bn := bn) (k := k) (off := off) (n := n) (by omega) (by omega) (by omega); refine f_end0 (F' := [(mp, C (encM (sentM s k off n) st sk bp) 69), (bp, C (bdL bu (sentN s st bn k off n) bv) 85)]) hl (has_two (bn := bn) hh (keeps_cons (b := mp) (by repeat (first | exact find_head | apply find_tail)) rfl (keeps_cons (b := bp) (by repeat (first | exact find_head | apply find_tail)) rfl keeps_nil)) he9) rfl keeps_self ⟨rfl, rfl⟩) | (have he9 := sent_4 (s := s) (st := st) (bn := bn) (k := k) (off := off) (n := n) (by omega) (fun h9 => not_inF (by omega) h9.2) (fun h9 => not_inF (by omega) h9.2); refine f_end0 (F' := [(mp, C (encM (sentM s k off n) st sk bp) 69), (bp, C (bdL bu (sentN s st bn k off n) bv) 85)]) hl (has_two (bn := bn) hh (keeps_cons (b := mp) (by repeat (first | exact find_head | apply find_tail)) rfl (keeps_cons (b := bp) (by repeat (first | exact find_head | apply find_tail)) rfl keeps_nil)) he9) rfl keeps_self ⟨rfl, rfl⟩)
        · intro hg34; clear hl; intro hl
          try simp only [decide_eq_true_eq, decide_eq_false_iff_not, Bool.not_eq_true', Bool.not_eq_false', Bool.not_eq_true, Bool.not_eq_false, Bool.and_eq_true, Bool.or_eq_true, Bool.and_eq_false_iff, Bool.or_eq_false_iff, Bool.not_not, ne_eq, Int.not_lt, Int.not_le, Decidable.not_not, beq_iff_eq, bne_iff_ne] at hg34
          refine wl (wl_skip hl rfl ⟨_, _, rfl, rfl, rfl⟩ ?_)
          clear hl a; intro a hl
          refine wl (wl_val hl rfl trivial (r_pickF hl rfl rfl) ?_)
          clear hl a; intro a hl
          refine wl (wl_val hl rfl trivial (r_assign hl rfl) ?_)
          clear hl a; intro a hl
          refine w_nil ?_
          have hl2 := hl.add (t := 0) (hl.add (t := 3) (hl.add (t := 87) (hl.nil) rfl) rfl) rfl; clear hl; have hl := hl2; clear hl2
          refine then_normal ?_
          refine c_condF hl rfl ?_
          refine wp_skip ?_
          refine blk_normal ?_
          first | (exfalso; omega) | (have he9 := sent_1 (s := s) (st := st) (bn := bn) (k := k) (off := off) (n := n) ⟨by omega, by omega, by omega⟩; refine f_end0 (F' := [(mp, C (encM (sentM s k off n) st sk bp) 69), (bp, C (bdL bu (sentN s st bn k off n) bv) 85)]) hl (has_two (bn := bn) hh (keeps_cons (b := mp) (by repeat (first | exact find_head | apply find_tail)) rfl (keeps_cons (b := bp) (by repeat (first | exact find_head | apply find_tail)) rfl keeps_nil)) he9) rfl keeps_self ⟨rfl, rfl⟩) | (have he9 := sent_2 (s := s) (st := st) (bn := bn) (k := k) (off := off) (n := n) (by omega) ⟨by omega, by omega, by omega⟩; refine f_end0 (F' := [(mp, C (encM (sentM s k off n) st sk bp) 69), (bp, C (bdL bu (sentN s st bn k off n) bv) 85)]) hl (has_two (bn := bn) hh (keeps_cons (b := mp) (by repeat (first | exact find_head | apply find_tail)) rfl (keeps_cons (b := bp) (by repeat (first | exact find_head | apply find_tail)) rfl keeps_nil)) he9) rfl keeps_self ⟨rfl, rfl⟩) | (have he9 := sent_3a (s := s) (st := st) (bn := bn) (k := k) (off := off) (n := n) (f := f9) (by omega) ⟨by omega, by omega, by omega⟩ (by omega) (by assumption); refine f_end0 (F' := [(mp, C (encM (sentM s k off n) st sk bp) 69), (bp, C (bdL bu (sentN s st bn k off n) bv) 85)]) hl (has_two (bn := bn) hh (keeps_cons (b := mp) (by repeat (first | exact find_head | apply find_tail)) rfl (keeps_cons (b := bp) (by repeat (first | exact find_head | apply find_tail)) rfl keeps_nil)) he9) rfl keeps_self ⟨rfl, rfl⟩) | (have he9 := sent_3b (s := s) (st := st) (bn := bn) (k := k) (off := off) (n := n) (f := f9) (by omega) ⟨by omega, by omega, by omega⟩ (by omega) (by assumption); refine f_end0 (F' := [(mp, C (encM (sentM s k off n) st sk bp) 69), (bp, C (bdL bu (sentN s st bn k off n) bv) 85)]) hl (has_two (bn := bn) hh (keeps_cons (b := mp) (by repeat (first | exact find_head | apply find_tail)) rfl (keeps_cons (b := bp) (by repeat (first | exact find_head | apply find_tail)) rfl keeps_nil)) he9) rfl keeps_self ⟨rfl, rfl⟩) | (have he9 := sent_4 (s := s) (st := st) (bn := bn) (k := k) (off := off) (n := n) (by omega) (by omega) (by omega); refine f_end0 (F' := [(mp, C (encM (sentM s k off n) st sk bp) 69), (bp, C (bdL bu (sentN s st bn k off n) bv) 85)]) hl (has_two (bn := bn) hh (keeps_cons (b := mp) (by repeat (first | exact find_head | apply find_tail)) rfl (keeps_cons (b := bp) (by repeat (first | exact find_head | apply find_tail)) rfl keeps_nil)) he9) rfl keeps_self ⟨rfl, rfl⟩) | (have he9 := sent_4 (s := s) (st := st) (bn := bn) (k := k) (off := off) (n := n) (by omega) (fun h9 => not_inF (by omega) h9.2) (fun h9 => not_inF (by omega) h9.2); refine f_end0 (F' := [(mp, C (encM (sentM s k off n) st sk bp) 69), (bp, C (bdL bu (sentN s st bn k off n) bv) 85)]) hl (has_two (bn := bn) hh (keeps_cons (b := mp) (by repeat (first | exact find_head | apply find_tail)) rfl (keeps_cons (b := bp) (by repeat (first | exact find_head | apply find_tail)) rfl keeps_nil)) he9) rfl keeps_self ⟨rfl, rfl⟩)
      · intro hg33; clear hl; intro hl
        try simp only [decide_eq_true_eq, decide_eq_false_iff_not, Bool.not_eq_true', Bool.not_eq_false', Bool.not_eq_true, Bool.not_eq_false, Bool.and_eq_true, Bool.or_eq_true, Bool.and_eq_false_iff, Bool.or_eq_false_iff, Bool.not_not, ne_eq, Int.not_lt, Int.not_le, Decidable.not_not, beq_iff_eq, bne_iff_ne] at hg33
        refine wl (wl_skip hl rfl ⟨_, _, rfl, rfl, rfl⟩ ?_)
        clear hl a; intro a hl
        refine wl (wl_val hl rfl trivial (r_pickF hl rfl rfl) ?_)
        clear hl a; intro a hl
        refine wl (wl_val hl rfl trivial (r_assign hl rfl) ?_)
        clear hl a; intro a hl
        refine w_nil ?_
        have hl2 := hl.add (t := 0) (hl.add (t := 3) (hl.add (t := 4) (hl.add (t := 77) (hl.nil) rfl) rfl) rfl) rfl; clear hl; have hl := hl2; clear hl2
        refine then_normal ?_
        refine c_condF hl rfl ?_
        refine c_seq ?_
        refine c_region ?_
        refine wl (wl_val hl rfl trivial (r_field hl rfl fld42_0) ?_)
        clear hl a; intro a hl
        refine wl (w_load hl hh rfl trivial one38 rfl (by repeat (first | exact find_head | apply find_tail)) (by first | rfl) ?_)
        clear hl a; intro a hl
        refine wl (wl_val hl rfl trivial (r_eql hl rfl rfl) ?_)
        clear hl a; intro a hl
        refine wl (wl_val hl rfl trivial (r_move hl rfl) ?_)
        clear hl a; intro a hl
        refine sl_split (t := 91) hl rfl ?_ ?_
        · intro hg35; clear hl; intro hl
          try simp only [decide_eq_true_eq, decide_eq_false_iff_not, Bool.not_eq_true', Bool.not_eq_false', Bool.not_eq_true, Bool.not_eq_false, Bool.and_eq_true, Bool.or_eq_true, Bool.and_eq_false_iff, Bool.or_eq_false_iff, Bool.not_not, ne_eq, Int.not_lt, Int.not_le, Decidable.not_not, beq_iff_eq, bne_iff_ne] at hg35
          refine wl (wl_val hl rfl ⟨_, _, rfl, rfl, rfl⟩ (r_move hl rfl) ?_)
          clear hl a; intro a hl
          refine wl (wl_val hl rfl trivial (r_pickT hl rfl rfl) ?_)
          clear hl a; intro a hl
          refine wl (wl_val hl rfl trivial (r_assign hl rfl) ?_)
          clear hl a; intro a hl
          refine w_nil ?_
          have hl2 := hl.add (t := 0) (hl.add (t := 3) (hl.add (t := 87) (hl.nil) rfl) rfl) rfl; clear hl; have hl := hl2; clear hl2
          refine then_normal ?_
          refine c_condF hl rfl ?_
          refine wp_skip ?_
          refine blk_normal ?_
          first | (exfalso; omega) | (have he9 := sent_1 (s := s) (st := st) (bn := bn) (k := k) (off := off) (n := n) ⟨by omega, by omega, by omega⟩; refine f_end0 (F' := [(mp, C (encM (sentM s k off n) st sk bp) 69), (bp, C (bdL bu (sentN s st bn k off n) bv) 85)]) hl (has_two (bn := bn) hh (keeps_cons (b := mp) (by repeat (first | exact find_head | apply find_tail)) rfl (keeps_cons (b := bp) (by repeat (first | exact find_head | apply find_tail)) rfl keeps_nil)) he9) rfl keeps_self ⟨rfl, rfl⟩) | (have he9 := sent_2 (s := s) (st := st) (bn := bn) (k := k) (off := off) (n := n) (by omega) ⟨by omega, by omega, by omega⟩; refine f_end0 (F' := [(mp, C (encM (sentM s k off n) st sk bp) 69), (bp, C (bdL bu (sentN s st bn k off n) bv) 85)]) hl (has_two (bn := bn) hh (keeps_cons (b := mp) (by repeat (first | exact find_head | apply find_tail)) rfl (keeps_cons (b := bp) (by repeat (first | exact find_head | apply find_tail)) rfl keeps_nil)) he9) rfl keeps_self ⟨rfl, rfl⟩) | (have he9 := sent_3a (s := s) (st := st) (bn := bn) (k := k) (off := off) (n := n) (f := f9) (by omega) ⟨by omega, by omega, by omega⟩ (by omega) (by assumption); refine f_end0 (F' := [(mp, C (encM (sentM s k off n) st sk bp) 69), (bp, C (bdL bu (sentN s st bn k off n) bv) 85)]) hl (has_two (bn := bn) hh (keeps_cons (b := mp) (by repeat (first | exact find_head | apply find_tail)) rfl (keeps_cons (b := bp) (by repeat (first | exact find_head | apply find_tail)) rfl keeps_nil)) he9) rfl keeps_self ⟨rfl, rfl⟩) | (have he9 := sent_3b (s := s) (st := st) (bn := bn) (k := k) (off := off) (n := n) (f := f9) (by omega) ⟨by omega, by omega, by omega⟩ (by omega) (by assumption); refine f_end0 (F' := [(mp, C (encM (sentM s k off n) st sk bp) 69), (bp, C (bdL bu (sentN s st bn k off n) bv) 85)]) hl (has_two (bn := bn) hh (keeps_cons (b := mp) (by repeat (first | exact find_head | apply find_tail)) rfl (keeps_cons (b := bp) (by repeat (first | exact find_head | apply find_tail)) rfl keeps_nil)) he9) rfl keeps_self ⟨rfl, rfl⟩) | (have he9 := sent_4 (s := s) (st := st) (bn := bn) (k := k) (off := off) (n := n) (by omega) (by omega) (by omega); refine f_end0 (F' := [(mp, C (encM (sentM s k off n) st sk bp) 69), (bp, C (bdL bu (sentN s st bn k off n) bv) 85)]) hl (has_two (bn := bn) hh (keeps_cons (b := mp) (by repeat (first | exact find_head | apply find_tail)) rfl (keeps_cons (b := bp) (by repeat (first | exact find_head | apply find_tail)) rfl keeps_nil)) he9) rfl keeps_self ⟨rfl, rfl⟩) | (have he9 := sent_4 (s := s) (st := st) (bn := bn) (k := k) (off := off) (n := n) (by omega) (fun h9 => not_inF (by omega) h9.2) (fun h9 => not_inF (by omega) h9.2); refine f_end0 (F' := [(mp, C (encM (sentM s k off n) st sk bp) 69), (bp, C (bdL bu (sentN s st bn k off n) bv) 85)]) hl (has_two (bn := bn) hh (keeps_cons (b := mp) (by repeat (first | exact find_head | apply find_tail)) rfl (keeps_cons (b := bp) (by repeat (first | exact find_head | apply find_tail)) rfl keeps_nil)) he9) rfl keeps_self ⟨rfl, rfl⟩)
        · intro hg35; clear hl; intro hl
          try simp only [decide_eq_true_eq, decide_eq_false_iff_not, Bool.not_eq_true', Bool.not_eq_false', Bool.not_eq_true, Bool.not_eq_false, Bool.and_eq_true, Bool.or_eq_true, Bool.and_eq_false_iff, Bool.or_eq_false_iff, Bool.not_not, ne_eq, Int.not_lt, Int.not_le, Decidable.not_not, beq_iff_eq, bne_iff_ne] at hg35
          refine wl (wl_skip hl rfl ⟨_, _, rfl, rfl, rfl⟩ ?_)
          clear hl a; intro a hl
          refine wl (wl_val hl rfl trivial (r_pickF hl rfl rfl) ?_)
          clear hl a; intro a hl
          refine wl (wl_val hl rfl trivial (r_assign hl rfl) ?_)
          clear hl a; intro a hl
          refine w_nil ?_
          have hl2 := hl.add (t := 0) (hl.add (t := 3) (hl.add (t := 87) (hl.nil) rfl) rfl) rfl; clear hl; have hl := hl2; clear hl2
          refine then_normal ?_
          refine c_condF hl rfl ?_
          refine wp_skip ?_
          refine blk_normal ?_
          first | (exfalso; omega) | (have he9 := sent_1 (s := s) (st := st) (bn := bn) (k := k) (off := off) (n := n) ⟨by omega, by omega, by omega⟩; refine f_end0 (F' := [(mp, C (encM (sentM s k off n) st sk bp) 69), (bp, C (bdL bu (sentN s st bn k off n) bv) 85)]) hl (has_two (bn := bn) hh (keeps_cons (b := mp) (by repeat (first | exact find_head | apply find_tail)) rfl (keeps_cons (b := bp) (by repeat (first | exact find_head | apply find_tail)) rfl keeps_nil)) he9) rfl keeps_self ⟨rfl, rfl⟩) | (have he9 := sent_2 (s := s) (st := st) (bn := bn) (k := k) (off := off) (n := n) (by omega) ⟨by omega, by omega, by omega⟩; refine f_end0 (F' := [(mp, C (encM (sentM s k off n) st sk bp) 69), (bp, C (bdL bu (sentN s st bn k off n) bv) 85)]) hl (has_two (bn := bn) hh (keeps_cons (b := mp) (by repeat (first | exact find_head | apply find_tail)) rfl (keeps_cons (b := bp) (by repeat (first | exact find_head | apply find_tail)) rfl keeps_nil)) he9) rfl keeps_self ⟨rfl, rfl⟩) | (have he9 := sent_3a (s := s) (st := st) (bn := bn) (k := k) (off := off) (n := n) (f := f9) (by omega) ⟨by omega, by omega, by omega⟩ (by omega) (by assumption); refine f_end0 (F' := [(mp, C (encM (sentM s k off n) st sk bp) 69), (bp, C (bdL bu (sentN s st bn k off n) bv) 85)]) hl (has_two (bn := bn) hh (keeps_cons (b := mp) (by repeat (first | exact find_head | apply find_tail)) rfl (keeps_cons (b := bp) (by repeat (first | exact find_head | apply find_tail)) rfl keeps_nil)) he9) rfl keeps_self ⟨rfl, rfl⟩) | (have he9 := sent_3b (s := s) (st := st) (bn := bn) (k := k) (off := off) (n := n) (f := f9) (by omega) ⟨by omega, by omega, by omega⟩ (by omega) (by assumption); refine f_end0 (F' := [(mp, C (encM (sentM s k off n) st sk bp) 69), (bp, C (bdL bu (sentN s st bn k off n) bv) 85)]) hl (has_two (bn := bn) hh (keeps_cons (b := mp) (by repeat (first | exact find_head | apply find_tail)) rfl (keeps_cons (b := bp) (by repeat (first | exact find_head | apply find_tail)) rfl keeps_nil)) he9) rfl keeps_self ⟨rfl, rfl⟩) | (have he9 := sent_4 (s := s) (st := st) (bn := bn) (k := k) (off := off) (n := n) (by omega) (by omega) (by omega); refine f_end0 (F' := [(mp, C (encM (sentM s k off n) st sk bp) 69), (bp, C (bdL bu (sentN s st bn k off n) bv) 85)]) hl (has_two (bn := bn) hh (keeps_cons (b := mp) (by repeat (first | exact find_head | apply find_tail)) rfl (keeps_cons (b := bp) (by repeat (first | exact find_head | apply find_tail)) rfl keeps_nil)) he9) rfl keeps_self ⟨rfl, rfl⟩) | (have he9 := sent_4 (s := s) (st := st) (bn := bn) (k := k) (off := off) (n := n) (by omega) (fun h9 => not_inF (by omega) h9.2) (fun h9 => not_inF (by omega) h9.2); refine f_end0 (F' := [(mp, C (encM (sentM s k off n) st sk bp) 69), (bp, C (bdL bu (sentN s st bn k off n) bv) 85)]) hl (has_two (bn := bn) hh (keeps_cons (b := mp) (by repeat (first | exact find_head | apply find_tail)) rfl (keeps_cons (b := bp) (by repeat (first | exact find_head | apply find_tail)) rfl keeps_nil)) he9) rfl keeps_self ⟨rfl, rfl⟩)
end Go.Proofs.Qxb6500912aGreatDoor

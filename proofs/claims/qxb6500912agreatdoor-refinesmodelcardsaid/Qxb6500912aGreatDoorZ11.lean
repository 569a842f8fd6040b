import Derived.Test.Qxb6500912aGreatDoorZ10
namespace Go.Proofs.Qxb6500912aGreatDoor
open Go.Eng
set_option linter.unusedVariables false
set_option linter.unusedSimpArgs false
theorem cal36 : callable Tryz.prog 36 = true := by kernel_rfl
theorem cal37 : callable Tryz.prog 37 = true := by kernel_rfl
theorem NxR.rng {s : CS} (hs : Mk s) {sk : Bool} {f hi : Nat} {g l : Nat → Bool} {fresh k off n : Int} (hf : 0 ≤ fresh) (h : NxR s sk f hi g l fresh k off n) : 0 ≤ n ∧ n ≤ 65535 := by
  have hm := hs.mss
  rcases h with ⟨q, m, _, _, _, _, _, _, h, _, _, rfl⟩ | ⟨_, ⟨h0, _, _, rfl⟩ | ⟨_, _, _, _, rfl⟩ | ⟨_, _, ⟨q, m, t, _, _, _, _, _, _, h, _, _, rfl⟩ | ⟨_, ⟨q, m, _, _, _, _, h, _, _, rfl⟩ | ⟨_, _, _, rfl⟩⟩⟩⟩
  · have := h.2.1; omega
  · unfold freshN at h0 ⊢; omega
  · omega
  · have := h.2.1; omega
  · have := h.2.2.1; omega
  · omega
def NwR (s : CS) (sk : Bool) (os : List Bk) (f hi : Nat) (fresh k off n : Int) : Prop :=
  (s.forced = true ∧ k = 2 ∧ off = s.una ∧ n = min s.mss (s.nxt - s.una)) ∨
  (s.forced = false ∧ ∃ k' off' n', NxR s sk f hi (skG sk os) (lsG s f (skG sk os)) fresh k' off' n' ∧ ((s.cwnd < pipeW s sk os f + n' ∧ zeroG k off n) ∨ (¬ s.cwnd < pipeW s sk os f + n' ∧ k = k' ∧ off = off' ∧ n = n')))
def NnR (s : CS) (fresh k off n : Int) : Prop :=
  (s.forced = true ∧ k = 2 ∧ off = s.una ∧ n = min s.mss (s.nxt - s.una)) ∨
  (s.forced = false ∧ ∃ k' off' n', ((0 < min (min fresh s.mss) (2147483647 - (s.nxt - s.una)) ∧ k' = 1 ∧ off' = s.nxt ∧ n' = min (min fresh s.mss) (2147483647 - (s.nxt - s.una))) ∨ (¬ 0 < min (min fresh s.mss) (2147483647 - (s.nxt - s.una)) ∧ zeroG k' off' n')) ∧
    ((s.cwnd < pipeN s + n' ∧ zeroG k off n) ∨ (¬ s.cwnd < pipeN s + n' ∧ k = k' ∧ off = off' ∧ n = n')))
theorem next_n2 (mp : Nat) (s : CS) (st : Int) (sk : Bool) (bp : Nat) (hs : Mk s) (hk : sk = false) (hph : ¬ s.phase = 2) (fresh : Int) (hfr : 0 ≤ fresh ∧ fresh ≤ 4294967295) : SpK Tryz.prog 36 #[.pointer (some ⟨mp, 0, none⟩), .int .i64 fresh] (fun w => w.heap[mp]? = some (C (encM s st sk bp) 69)) []
    (fun v F' => ∃ k off n, v = .agg ⟨[.int .u8 k, .int .i64 off, .int .i64 n]⟩ ∧ ((0 < min (min fresh s.mss) (2147483647 - (s.nxt - s.una)) ∧ k = 1 ∧ off = s.nxt ∧ n = min (min fresh s.mss) (2147483647 - (s.nxt - s.una))) ∨ (¬ 0 < min (min fresh s.mss) (2147483647 - (s.nxt - s.una)) ∧ zeroG k off n)) ∧ F' = []) := by
  intro w h1 h2 h3
  refine (next_n mp s st sk bp hs hk hph fresh hfr w h1 h2 h3).mono fun e w' he => ?_
  cases e with
  | returned v =>
    obtain ⟨F', ⟨hv, hF⟩, hh⟩ := he
    refine ⟨F', ?_, hh⟩
    rcases hv with ⟨h5, h6⟩ | ⟨h5, h6⟩
    · exact ⟨1, s.nxt, _, h6, .inl ⟨h5, rfl, rfl, rfl⟩, hF⟩
    · exact ⟨0, 0, 0, h6, .inr ⟨h5, rfl, rfl, rfl⟩, hF⟩
  | _ => exact he
theorem pipeN_le {s : CS} (hs : Mk s) : 0 ≤ pipeN s ∧ pipeN s ≤ 2147483647 := by
  have h1 := hs.una; have h2 := hs.fl; have h3 := hs.dups; have h4 := hs.dupt; have h5 := hs.mss
  have hmb := prod_bd (a := min s.dups (s.dupt - 1)) (b := s.mss) (A := 15) (B := 65535) (by omega) (by omega)
  unfold pipeN
  split <;> omega
theorem pipeW_le (s : CS) (sk : Bool) (os : List Bk) (f : Nat) (hf : f ≤ 262144) : 0 ≤ pipeW s sk os f ∧ pipeW s sk os f ≤ 524288 := by
  have := pcn_le s (skG sk os) (lsG s f (skG sk os)) f
  unfold pipeW; omega


set_option maxHeartbeats 4000000 in
theorem nxt_w (mp : Nat) (s : CS) (st : Int) (sk : Bool) (bp : Nat) (hs : Mk s) (f : Nat) (hf : s.nxt - s.una = (f : Int)) (hf9 : f ≤ 262144) (os : List Bk) (hos : BInv f os) (hl16 : os.length ≤ 16) (bn : Int) (p : Option Addr) (c : Nat) (E : List (Nat × Obj)) (hR : Row (.slice p os.length c) os.length (fl (bkc (seqM st s.una)) os) 2 73 E) (hi : Nat) (hhi : s.high - s.una = (hi : Int)) (hwk : sk = true ∨ s.phase = 2) (fresh : Int) (hfr : 0 ≤ fresh ∧ fresh ≤ 4294967295) : SpK Tryz.prog 13 #[.pointer (some ⟨mp, 0, none⟩), .int .i64 fresh] (fun w => w.heap[mp]? = some (C (encM s st sk bp) 69) ∧ (sk = true → w.heap[bp]? = some (C (bdL (seqM st s.una) bn (.slice p os.length c)) 85)) ∧ Mem E w) [] (fun v F' => (∃ k off n, v = .agg ⟨[.int .u8 (k), .int .i64 (off), .int .i64 (n)]⟩ ∧ NwR s sk os f hi fresh k off n) ∧ F' = []) := by
  refine f_enter (args := [.pointer (some ⟨mp, 0, none⟩), .int .i64 fresh]) Tryz.func13 rfl Tryz.ntmps13 rfl ?_
  intro w0 w a hpre hl hh
  have o1 := hs.init; have o2 := hs.maxc; have o3 := hs.bn; have o4 := hs.bd; have o5 := hs.abc; have o6 := hs.dupt; have o7 := hs.mss; have o8 := hs.cwnd; have o9 := hs.ssth; have o10 := hs.credit; have o11 := hs.una; have o12 := hs.nxt; have o13 := hs.phase; have o14 := hs.recov; have o15 := hs.high; have o16 := hs.dups; have o17 := hs.fl
  have hpm := hpre.1; have hpb := hpre.2.1; have hpE := hpre.2.2
  have hpl := pipeW_le s sk os f hf9
  simp only [slotsFrom, Nat.reduceAdd] at hl
  refine c_seq ?_
  refine c_region ?_
  refine wl (w_alloc hl hh rfl trivial zero42 rfl ?_)
  clear hl hh a w; intro k4 a w hl hh
  refine w_nil ?_
  have hl2 := hl.add (t := 0) (hl.add (t := 1) (hl.add (t := 4) (hl.nil) rfl) rfl) rfl; clear hl; have hl := hl2; clear hl2
  refine then_normal ?_
  refine c_seq ?_
  refine c_seq ?_
  refine c_region ?_
  refine wl (wl_val hl rfl trivial (r_move hl rfl) ?_)
  clear hl a; intro a hl
  refine wl (wl_val hl rfl trivial (r_nilCheck hl rfl) ?_)
  clear hl a; intro a hl
  refine wl (wl_val hl rfl trivial (r_field hl rfl fld69_14) ?_)
  clear hl a; intro a hl
  first | refine wl (w_load hl hh rfl trivial one4 rfl (by repeat (first | exact find_head | apply find_tail)) (by first | rfl) ?_) | refine wl (w_loadR hl hh rfl trivial one4 rfl hpm (by simp) rfl ?_)
  clear hl a; intro a hl
  refine w_nil ?_
  have hl2 := hl.add (t := 0) (hl.add (t := 1) (hl.add (t := 4) (hl.add (t := 9) (hl.nil) rfl) rfl) rfl) rfl; clear hl; have hl := hl2; clear hl2
  refine then_normal ?_
  refine c_cond hl rfl ?_ ?_
  · intro hc0
    try simp only [decide_eq_true_eq, decide_eq_false_iff_not, Bool.not_eq_true', Bool.not_eq_false', Bool.not_eq_true, Bool.not_eq_false, Bool.and_eq_true, Bool.or_eq_true, Bool.and_eq_false_iff, Bool.or_eq_false_iff, Bool.not_not, ne_eq, Int.not_lt, Int.not_le, Decidable.not_not, beq_iff_eq, bne_iff_ne] at hc0
    refine c_seq ?_
    refine c_draw [(mp, C (encM (s) st sk bp) 69)] [18, 19] mixed hh ?_
    clear hh w; intro w hh
    have hM : Mem [(mp, C (encM (s) st sk bp) 69)] w := (by (repeat (first | exact Mem.nil | refine Mem.consR hh (by assumption) (by simp) ?_ | refine Mem.cons hh.mem (by (repeat (first | exact find_head | apply find_tail)); done) ?_ | fail)); done)
    refine d_take (i := 0) hl rfl (by kernel_rfl) (by kernel_rfl) (by kernel_rfl) (by kernel_rfl) (by kernel_rfl) rfl trivial (fun _ _ _ h => h) hM (fun w hC => r_move hl rfl) rfl ?_
    clear hl a; intro a hl
    refine d_take (i := 1) hl rfl (by kernel_rfl) (by kernel_rfl) (by kernel_rfl) (by kernel_rfl) (by kernel_rfl) rfl trivial (fun _ _ _ h => h) hM (fun w hC => r_nilCheck hl rfl) rfl ?_
    clear hl a; intro a hl
    refine d_take (i := 2) hl rfl (by kernel_rfl) (by kernel_rfl) (by kernel_rfl) (by kernel_rfl) (by kernel_rfl) rfl trivial (fun _ _ _ h => h) hM (fun w hC => r_field hl rfl fld69_8) rfl ?_
    clear hl a; intro a hl
    refine d_take (i := 3) hl rfl (by kernel_rfl) (by kernel_rfl) (by kernel_rfl) (by kernel_rfl) (by kernel_rfl) rfl trivial (fun _ _ _ h => h) hM (fun w hC => r_loadC hl rfl one2 hC (by repeat (first | exact find_head | apply find_tail)) (by first | rfl)) rfl ?_
    clear hl a; intro a hl
    refine d_take (i := 4) hl rfl (by kernel_rfl) (by kernel_rfl) (by kernel_rfl) (by kernel_rfl) (by kernel_rfl) rfl trivial (fun _ _ _ h => h) hM (fun w hC => r_move hl rfl) rfl ?_
    clear hl a; intro a hl
    refine d_take (i := 5) hl rfl (by kernel_rfl) (by kernel_rfl) (by kernel_rfl) (by kernel_rfl) (by kernel_rfl) rfl trivial (fun _ _ _ h => h) hM (fun w hC => r_nilCheck hl rfl) rfl ?_
    clear hl a; intro a hl
    refine d_take (i := 6) hl rfl (by kernel_rfl) (by kernel_rfl) (by kernel_rfl) (by kernel_rfl) (by kernel_rfl) rfl trivial (fun _ _ _ h => h) hM (fun w hC => r_field hl rfl fld69_1) rfl ?_
    clear hl a; intro a hl
    refine d_take (i := 7) hl rfl (by kernel_rfl) (by kernel_rfl) (by kernel_rfl) (by kernel_rfl) (by kernel_rfl) rfl trivial (fun _ _ _ h => h) hM (fun w hC => r_loadC hl rfl one2 hC (by repeat (first | exact find_head | apply find_tail)) (by first | rfl)) rfl ?_
    clear hl a; intro a hl
    refine d_take (i := 8) hl rfl (by kernel_rfl) (by kernel_rfl) (by kernel_rfl) (by kernel_rfl) (by kernel_rfl) rfl trivial (fun _ _ _ h => h) hM (fun w hC => r_move hl rfl) rfl ?_
    clear hl a; intro a hl
    refine d_take (i := 9) hl rfl (by kernel_rfl) (by kernel_rfl) (by kernel_rfl) (by kernel_rfl) (by kernel_rfl) rfl trivial (fun _ _ _ h => h) hM (fun w hC => r_nilCheck hl rfl) rfl ?_
    clear hl a; intro a hl
    refine d_take (i := 10) hl rfl (by kernel_rfl) (by kernel_rfl) (by kernel_rfl) (by kernel_rfl) (by kernel_rfl) rfl trivial (fun _ _ _ h => h) hM (fun w hC => r_field hl rfl fld69_9) rfl ?_
    clear hl a; intro a hl
    refine d_take (i := 11) hl rfl (by kernel_rfl) (by kernel_rfl) (by kernel_rfl) (by kernel_rfl) (by kernel_rfl) rfl trivial (fun _ _ _ h => h) hM (fun w hC => r_loadC hl rfl one2 hC (by repeat (first | exact find_head | apply find_tail)) (by first | rfl)) rfl ?_
    clear hl a; intro a hl
    refine d_take (i := 12) hl rfl (by kernel_rfl) (by kernel_rfl) (by kernel_rfl) (by kernel_rfl) (by kernel_rfl) rfl trivial (fun _ _ _ h => h) hM (fun w hC => r_move hl rfl) rfl ?_
    clear hl a; intro a hl
    refine d_take (i := 13) hl rfl (by kernel_rfl) (by kernel_rfl) (by kernel_rfl) (by kernel_rfl) (by kernel_rfl) rfl trivial (fun _ _ _ h => h) hM (fun w hC => r_nilCheck hl rfl) rfl ?_
    clear hl a; intro a hl
    refine d_take (i := 14) hl rfl (by kernel_rfl) (by kernel_rfl) (by kernel_rfl) (by kernel_rfl) (by kernel_rfl) rfl trivial (fun _ _ _ h => h) hM (fun w hC => r_field hl rfl fld69_8) rfl ?_
    clear hl a; intro a hl
    refine d_take (i := 15) hl rfl (by kernel_rfl) (by kernel_rfl) (by kernel_rfl) (by kernel_rfl) (by kernel_rfl) rfl trivial (fun _ _ _ h => h) hM (fun w hC => r_loadC hl rfl one2 hC (by repeat (first | exact find_head | apply find_tail)) (by first | rfl)) rfl ?_
    clear hl a; intro a hl
    first | refine d_take (i := 16) hl rfl (by kernel_rfl) (by kernel_rfl) (by kernel_rfl) (by kernel_rfl) (by kernel_rfl) rfl trivial (fun _ _ _ h => h) hM (fun w hC => r_sub hl rfl rfl (by simp only [Fits]; omega)) rfl ?_ | refine d_take (i := 16) hl rfl (by kernel_rfl) (by kernel_rfl) (by kernel_rfl) (by kernel_rfl) (by kernel_rfl) rfl trivial (fun _ _ _ h => h) hM (fun w hC => r_subW hl rfl rfl) rfl ?_
    clear hl a; intro a hl
    refine d_take (i := 17) hl rfl (by kernel_rfl) (by kernel_rfl) (by kernel_rfl) (by kernel_rfl) (by kernel_rfl) rfl trivial (fun _ _ _ h => h) hM (fun w hC => r_minI hl rfl rfl) rfl ?_
    clear hl a; intro a hl
    refine d_takeL (i := 18) hl rfl (by kernel_rfl) (by kernel_rfl) (by kernel_rfl) (by kernel_rfl) (by kernel_rfl) rfl trivial (fun _ _ _ h => h) (fun w => r_build hl rfl zero42 bld42 (by simp only [fillL, setL, List.getElem?_cons_zero, List.getElem?_cons_succ, Value.cells, List.take_zero, List.take_succ_cons, List.take_nil, List.drop_zero, List.drop_succ_cons, List.drop_nil, List.length_cons, List.length_nil, List.cons_append, List.nil_append, List.append_nil, Nat.zero_add, Nat.add_zero, Nat.reduceAdd, Nat.reduceBEq, Nat.reduceEqDiff, Nat.ble, BEq.rfl, Bool.and_true, Bool.and_self, cond_true, beq_self_eq_true]; rfl)) rfl ?_
    clear hl a; intro a hl
    refine d_one (i := 19) (by kernel_rfl) rfl ?_
    try clear hM
    refine id (w_storeA hl hh trivial agg42 rfl rfl (by repeat (first | exact find_head | apply find_tail)) (by first | rfl | (simp; done)) (by first | (simp; done) | (simp; omega)) (by first | rfl | (simp; done)) (by first | (simp only [encM, setL, List.getElem?_cons_zero, List.getElem?_cons_succ, Value.cells, List.take_zero, List.take_succ_cons, List.take_nil, List.drop_zero, List.drop_succ_cons, List.drop_nil, List.length_cons, List.length_nil, List.cons_append, List.nil_append, List.append_nil, Nat.zero_add, Nat.add_zero, Nat.reduceAdd, Nat.reduceBEq, Nat.reduceEqDiff, Nat.ble, BEq.rfl, Bool.and_true, Bool.and_self, cond_true, beq_self_eq_true]; rfl) | (simp only [setL, List.getElem?_cons_zero, List.getElem?_cons_succ, Value.cells, List.take_zero, List.take_succ_cons, List.take_nil, List.drop_zero, List.drop_succ_cons, List.drop_nil, List.length_cons, List.length_nil, List.cons_append, List.nil_append, List.append_nil, Nat.zero_add, Nat.add_zero, Nat.reduceAdd, Nat.reduceBEq, Nat.reduceEqDiff, Nat.ble, BEq.rfl, Bool.and_true, Bool.and_self, cond_true, beq_self_eq_true]; rfl)) ?_)
    clear hh w; intro w hh
    refine d_step (fun h => absurd h (by decide)) ?_
    refine d_done (by kernel_rfl) ?_
    try clear hM
    have hl2 := hl.add (t := 4) (hl.nil) rfl; clear hl; have hl := hl2; clear hl2
    refine then_normal ?_
    refine wp_ret ?_
    refine then_ret ?_
    refine f_retC (F' := []) hl hh rfl rfl agg42 (by repeat (first | exact find_head | apply find_tail)) (by first | rfl | exact arrL_length _ _ | (simp; done)) (by repeat (first | exact keeps_nil | apply keeps_cons (by repeat (first | exact find_head | apply find_tail)) (by first  | rfl) | exact keeps_self | apply keeps_mv)) ?_
    exact ⟨⟨2, s.una, _, rfl, .inl ⟨by assumption, rfl, rfl, rfl⟩⟩, rfl⟩
  · intro hc0
    try simp only [decide_eq_true_eq, decide_eq_false_iff_not, Bool.not_eq_true', Bool.not_eq_false', Bool.not_eq_true, Bool.not_eq_false, Bool.and_eq_true, Bool.or_eq_true, Bool.and_eq_false_iff, Bool.or_eq_false_iff, Bool.not_not, ne_eq, Int.not_lt, Int.not_le, Decidable.not_not, beq_iff_eq, bne_iff_ne] at hc0
    refine wp_skip ?_
    refine then_normal ?_
    refine c_seq ?_
    refine c_region ?_
    refine wl (wl_val hl rfl trivial (r_move hl rfl) ?_)
    clear hl a; intro a hl
    refine wl (wl_val hl rfl trivial (r_move hl rfl) ?_)
    clear hl a; intro a hl
    refine wl (w_call hl hh rfl trivial rfl cal36 rfl (next_w mp s st sk bp hs f hf hf9 os hos hl16 bn p c E hR hi hhi hwk fresh hfr) (by repeat (first | exact keeps_nil | apply keeps_cons (by repeat (first | exact find_head | apply find_tail)) (by first  | rfl) | exact keeps_self | apply keeps_mv)) ⟨heap_keep hh hpm, fun h9 => heap_keep hh (hpb h9), mem_keep hh hpE⟩ ?_)
    clear hl hh a w; intro vc Fc a w hR hl hh
    obtain ⟨⟨k9, o9, n9, rfl, hnx⟩, rfl⟩ := hR
    try simp only [List.cons_append, List.nil_append] at hh
    have hnr := hnx.rng hs hfr.1
    refine wl (w_alloc hl hh rfl trivial zero42 rfl ?_)
    clear hl hh a w; intro k5 a w hl hh
    refine wl (w_storeA hl hh trivial agg42 rfl rfl (by repeat (first | exact find_head | apply find_tail)) (by first | rfl | (simp; done)) (by first | (simp; done) | (simp; omega)) (by first | rfl | (simp; done)) (by first | (simp only [encM, setL, List.getElem?_cons_zero, List.getElem?_cons_succ, Value.cells, List.take_zero, List.take_succ_cons, List.take_nil, List.drop_zero, List.drop_succ_cons, List.drop_nil, List.length_cons, List.length_nil, List.cons_append, List.nil_append, List.append_nil, Nat.zero_add, Nat.add_zero, Nat.reduceAdd, Nat.reduceBEq, Nat.reduceEqDiff, Nat.ble, BEq.rfl, Bool.and_true, Bool.and_self, cond_true, beq_self_eq_true]; rfl) | (simp only [setL, List.getElem?_cons_zero, List.getElem?_cons_succ, Value.cells, List.take_zero, List.take_succ_cons, List.take_nil, List.drop_zero, List.drop_succ_cons, List.drop_nil, List.length_cons, List.length_nil, List.cons_append, List.nil_append, List.append_nil, Nat.zero_add, Nat.add_zero, Nat.reduceAdd, Nat.reduceBEq, Nat.reduceEqDiff, Nat.ble, BEq.rfl, Bool.and_true, Bool.and_self, cond_true, beq_self_eq_true]; rfl)) ?_)
    clear hh w; intro w hh
    refine w_nil ?_
    have hl2 := hl.add (t := 0) (hl.add (t := 4) (hl.add (t := 5) (hl.nil) rfl) rfl) rfl; clear hl; have hl := hl2; clear hl2
    refine then_normal ?_
    refine c_seq ?_
    refine c_seq ?_
    refine c_draw [(k5, C [.int .u8 k9, .int .i64 o9, .int .i64 n9] 42), (mp, C (encM (s) st sk bp) 69)] [9] mixed hh ?_
    clear hh w; intro w hh
    have hM : Mem [(k5, C [.int .u8 k9, .int .i64 o9, .int .i64 n9] 42), (mp, C (encM (s) st sk bp) 69)] w := (by (repeat (first | exact Mem.nil | refine Mem.consR hh (by assumption) (by simp) ?_ | refine Mem.cons hh.mem (by (repeat (first | exact find_head | apply find_tail)); done) ?_ | fail)); done)
    refine d_take (i := 0) hl rfl (by kernel_rfl) (by kernel_rfl) (by kernel_rfl) (by kernel_rfl) (by kernel_rfl) rfl trivial (fun _ _ _ h => h) hM (fun w hC => r_move hl rfl) rfl ?_
    clear hl a; intro a hl
    refine d_take (i := 2) hl rfl (by kernel_rfl) (by kernel_rfl) (by kernel_rfl) (by kernel_rfl) (by kernel_rfl) rfl trivial (fun _ _ _ h => h) hM (fun w hC => r_field hl rfl fld42_2) rfl ?_
    clear hl a; intro a hl
    refine d_take (i := 3) hl rfl (by kernel_rfl) (by kernel_rfl) (by kernel_rfl) (by kernel_rfl) (by kernel_rfl) rfl trivial (fun _ _ _ h => h) hM (fun w hC => r_loadC hl rfl one2 hC (by repeat (first | exact find_head | apply find_tail)) (by first | rfl)) rfl ?_
    clear hl a; intro a hl
    refine d_take (i := 5) hl rfl (by kernel_rfl) (by kernel_rfl) (by kernel_rfl) (by kernel_rfl) (by kernel_rfl) rfl trivial (fun _ _ _ h => h) hM (fun w hC => r_move hl rfl) rfl ?_
    clear hl a; intro a hl
    refine d_take (i := 6) hl rfl (by kernel_rfl) (by kernel_rfl) (by kernel_rfl) (by kernel_rfl) (by kernel_rfl) rfl trivial (fun _ _ _ h => h) hM (fun w hC => r_nilCheck hl rfl) rfl ?_
    clear hl a; intro a hl
    refine d_take (i := 7) hl rfl (by kernel_rfl) (by kernel_rfl) (by kernel_rfl) (by kernel_rfl) (by kernel_rfl) rfl trivial (fun _ _ _ h => h) hM (fun w hC => r_field hl rfl fld69_5) rfl ?_
    clear hl a; intro a hl
    refine d_take (i := 8) hl rfl (by kernel_rfl) (by kernel_rfl) (by kernel_rfl) (by kernel_rfl) (by kernel_rfl) rfl trivial (fun _ _ _ h => h) hM (fun w hC => r_loadC hl rfl one2 hC (by repeat (first | exact find_head | apply find_tail)) (by first | rfl)) rfl ?_
    clear hl a; intro a hl
    refine d_one (i := 1) (by kernel_rfl) rfl ?_
    try clear hM
    refine id (w_call hl hh rfl trivial rfl cal37 rfl (pipe_w mp s st sk bp hs f hf hf9 os hos hl16 bn p c E hR hwk) (by repeat (first | exact keeps_nil | apply keeps_cons (by repeat (first | exact find_head | apply find_tail)) (by first  | rfl) | exact keeps_self | apply keeps_mv)) ⟨heap_keep hh hpm, fun h9 => heap_keep hh (hpb h9), mem_keep hh hpE⟩ ?_)
    clear hl hh a w; intro vc Fc a w hR hl hh
    obtain ⟨rfl, rfl⟩ := hR
    try simp only [List.cons_append, List.nil_append] at hh
    have hM : Mem [(k5, C [.int .u8 k9, .int .i64 o9, .int .i64 n9] 42), (mp, C (encM (s) st sk bp) 69)] w := (by (repeat (first | exact Mem.nil | refine Mem.consR hh (by assumption) (by simp) ?_ | refine Mem.cons hh.mem (by (repeat (first | exact find_head | apply find_tail)); done) ?_ | fail)); done)
    refine d_step (fun _ => hM) ?_
    first | refine d_take (i := 4) hl rfl (by kernel_rfl) (by kernel_rfl) (by kernel_rfl) (by kernel_rfl) (by kernel_rfl) rfl trivial (fun _ _ _ h => h) hM (fun w hC => r_add hl rfl rfl (by simp only [Fits]; omega)) rfl ?_ | refine d_take (i := 4) hl rfl (by kernel_rfl) (by kernel_rfl) (by kernel_rfl) (by kernel_rfl) (by kernel_rfl) rfl trivial (fun _ _ _ h => h) hM (fun w hC => r_addW hl rfl rfl) rfl ?_
    clear hl a; intro a hl
    refine d_takeL (i := 9) hl rfl (by kernel_rfl) (by kernel_rfl) (by kernel_rfl) (by kernel_rfl) (by kernel_rfl) rfl trivial (fun _ _ _ h => h) (fun w => r_gtr hl rfl rfl) rfl ?_
    clear hl a; intro a hl
    refine d_done (by kernel_rfl) ?_
    try clear hM
    have hl2 := hl.add (t := 4) (hl.add (t := 5) (hl.add (t := 41) (hl.nil) rfl) rfl) rfl; clear hl; have hl := hl2; clear hl2
    refine then_normal ?_
    refine c_cond hl rfl ?_ ?_
    · intro hc1
      try simp only [decide_eq_true_eq, decide_eq_false_iff_not, Bool.not_eq_true', Bool.not_eq_false', Bool.not_eq_true, Bool.not_eq_false, Bool.and_eq_true, Bool.or_eq_true, Bool.and_eq_false_iff, Bool.or_eq_false_iff, Bool.not_not, ne_eq, Int.not_lt, Int.not_le, Decidable.not_not, beq_iff_eq, bne_iff_ne] at hc1
      refine c_seq ?_
      refine c_region ?_
      refine wl (wl_val hl rfl trivial (r_build hl rfl zero42 bld42 (by simp only [fillL, setL, List.getElem?_cons_zero, List.getElem?_cons_succ, Value.cells, List.take_zero, List.take_succ_cons, List.take_nil, List.drop_zero, List.drop_succ_cons, List.drop_nil, List.length_cons, List.length_nil, List.cons_append, List.nil_append, List.append_nil, Nat.zero_add, Nat.add_zero, Nat.reduceAdd, Nat.reduceBEq, Nat.reduceEqDiff, Nat.ble, BEq.rfl, Bool.and_true, Bool.and_self, cond_true, beq_self_eq_true]; rfl)) ?_)
      clear hl a; intro a hl
      refine wl (w_storeA hl hh trivial agg42 rfl rfl (by repeat (first | exact find_head | apply find_tail)) (by first | rfl | (simp; done)) (by first | (simp; done) | (simp; omega)) (by first | rfl | (simp; done)) (by first | (simp only [encM, setL, List.getElem?_cons_zero, List.getElem?_cons_succ, Value.cells, List.take_zero, List.take_succ_cons, List.take_nil, List.drop_zero, List.drop_succ_cons, List.drop_nil, List.length_cons, List.length_nil, List.cons_append, List.nil_append, List.append_nil, Nat.zero_add, Nat.add_zero, Nat.reduceAdd, Nat.reduceBEq, Nat.reduceEqDiff, Nat.ble, BEq.rfl, Bool.and_true, Bool.and_self, cond_true, beq_self_eq_true]; rfl) | (simp only [setL, List.getElem?_cons_zero, List.getElem?_cons_succ, Value.cells, List.take_zero, List.take_succ_cons, List.take_nil, List.drop_zero, List.drop_succ_cons, List.drop_nil, List.length_cons, List.length_nil, List.cons_append, List.nil_append, List.append_nil, Nat.zero_add, Nat.add_zero, Nat.reduceAdd, Nat.reduceBEq, Nat.reduceEqDiff, Nat.ble, BEq.rfl, Bool.and_true, Bool.and_self, cond_true, beq_self_eq_true]; rfl)) ?_)
      clear hh w; intro w hh
      refine w_nil ?_
      have hl2 := hl.add (t := 4) (hl.nil) rfl; clear hl; have hl := hl2; clear hl2
      refine then_normal ?_
      refine wp_ret ?_
      refine then_ret ?_
      refine f_retC (F' := []) hl hh rfl rfl agg42 (by repeat (first | exact find_head | apply find_tail)) (by first | rfl | exact arrL_length _ _ | (simp; done)) (by repeat (first | exact keeps_nil | apply keeps_cons (by repeat (first | exact find_head | apply find_tail)) (by first  | rfl) | exact keeps_self | apply keeps_mv)) ?_
      exact ⟨⟨0, 0, 0, rfl, .inr ⟨by assumption, k9, o9, n9, hnx, .inl ⟨hc1, rfl, rfl, rfl⟩⟩⟩, rfl⟩
    · intro hc1
      try simp only [decide_eq_true_eq, decide_eq_false_iff_not, Bool.not_eq_true', Bool.not_eq_false', Bool.not_eq_true, Bool.not_eq_false, Bool.and_eq_true, Bool.or_eq_true, Bool.and_eq_false_iff, Bool.or_eq_false_iff, Bool.not_not, ne_eq, Int.not_lt, Int.not_le, Decidable.not_not, beq_iff_eq, bne_iff_ne] at hc1
      refine wp_skip ?_
      refine then_normal ?_
      refine c_seq ?_
      refine c_region ?_
      refine wl (w_loadA hl hh rfl trivial agg42 rfl (by repeat (first | exact find_head | apply find_tail)) (by first | (simp only [List.getElem?_cons_zero, List.getElem?_cons_succ, Value.cells, List.take_zero, List.take_succ_cons, List.take_nil, List.drop_zero, List.drop_succ_cons, List.drop_nil, List.length_cons, List.length_nil, List.cons_append, List.nil_append, List.append_nil, Nat.zero_add, Nat.add_zero, Nat.reduceAdd, Nat.reduceBEq, Nat.reduceEqDiff, Nat.ble, BEq.rfl, Bool.and_true, Bool.and_self, cond_true, beq_self_eq_true]; rfl)) (by first | rfl | (simp; done)) ?_)
      clear hl a; intro a hl
      refine wl (w_storeA hl hh trivial agg42 rfl rfl (by repeat (first | exact find_head | apply find_tail)) (by first | rfl | (simp; done)) (by first | (simp; done) | (simp; omega)) (by first | rfl | (simp; done)) (by first | (simp only [encM, setL, List.getElem?_cons_zero, List.getElem?_cons_succ, Value.cells, List.take_zero, List.take_succ_cons, List.take_nil, List.drop_zero, List.drop_succ_cons, List.drop_nil, List.length_cons, List.length_nil, List.cons_append, List.nil_append, List.append_nil, Nat.zero_add, Nat.add_zero, Nat.reduceAdd, Nat.reduceBEq, Nat.reduceEqDiff, Nat.ble, BEq.rfl, Bool.and_true, Bool.and_self, cond_true, beq_self_eq_true]; rfl) | (simp only [setL, List.getElem?_cons_zero, List.getElem?_cons_succ, Value.cells, List.take_zero, List.take_succ_cons, List.take_nil, List.drop_zero, List.drop_succ_cons, List.drop_nil, List.length_cons, List.length_nil, List.cons_append, List.nil_append, List.append_nil, Nat.zero_add, Nat.add_zero, Nat.reduceAdd, Nat.reduceBEq, Nat.reduceEqDiff, Nat.ble, BEq.rfl, Bool.and_true, Bool.and_self, cond_true, beq_self_eq_true]; rfl)) ?_)
      clear hh w; intro w hh
      refine w_nil ?_
      have hl2 := hl.add (t := 4) (hl.nil) rfl; clear hl; have hl := hl2; clear hl2
      refine then_normal ?_
      refine wp_ret ?_
      refine f_retC (F' := []) hl hh rfl rfl agg42 (by repeat (first | exact find_head | apply find_tail)) (by first | rfl | exact arrL_length _ _ | (simp; done)) (by repeat (first | exact keeps_nil | apply keeps_cons (by repeat (first | exact find_head | apply find_tail)) (by first  | rfl) | exact keeps_self | apply keeps_mv)) ?_
      exact ⟨⟨k9, o9, n9, rfl, .inr ⟨by assumption, k9, o9, n9, hnx, .inr ⟨by omega, rfl, rfl, rfl⟩⟩⟩, rfl⟩

set_option maxHeartbeats 4000000 in
theorem nxt_n (mp : Nat) (s : CS) (st : Int) (sk : Bool) (bp : Nat) (hs : Mk s) (hk : sk = false) (hph : ¬ s.phase = 2) (fresh : Int) (hfr : 0 ≤ fresh ∧ fresh ≤ 4294967295) : SpK Tryz.prog 13 #[.pointer (some ⟨mp, 0, none⟩), .int .i64 fresh] (fun w => w.heap[mp]? = some (C (encM s st sk bp) 69)) [] (fun v F' => (∃ k off n, v = .agg ⟨[.int .u8 (k), .int .i64 (off), .int .i64 (n)]⟩ ∧ NnR s fresh k off n) ∧ F' = []) := by
  refine f_enter (args := [.pointer (some ⟨mp, 0, none⟩), .int .i64 fresh]) Tryz.func13 rfl Tryz.ntmps13 rfl ?_
  intro w0 w a hpre hl hh
  have o1 := hs.init; have o2 := hs.maxc; have o3 := hs.bn; have o4 := hs.bd; have o5 := hs.abc; have o6 := hs.dupt; have o7 := hs.mss; have o8 := hs.cwnd; have o9 := hs.ssth; have o10 := hs.credit; have o11 := hs.una; have o12 := hs.nxt; have o13 := hs.phase; have o14 := hs.recov; have o15 := hs.high; have o16 := hs.dups; have o17 := hs.fl
  have hpl := pipeN_le hs
  simp only [slotsFrom, Nat.reduceAdd] at hl
  refine c_seq ?_
  refine c_region ?_
  refine wl (w_alloc hl hh rfl trivial zero42 rfl ?_)
  clear hl hh a w; intro k4 a w hl hh
  refine w_nil ?_
  have hl2 := hl.add (t := 0) (hl.add (t := 1) (hl.add (t := 4) (hl.nil) rfl) rfl) rfl; clear hl; have hl := hl2; clear hl2
  refine then_normal ?_
  refine c_seq ?_
  refine c_seq ?_
  refine c_region ?_
  refine wl (wl_val hl rfl trivial (r_move hl rfl) ?_)
  clear hl a; intro a hl
  refine wl (wl_val hl rfl trivial (r_nilCheck hl rfl) ?_)
  clear hl a; intro a hl
  refine wl (wl_val hl rfl trivial (r_field hl rfl fld69_14) ?_)
  clear hl a; intro a hl
  first | refine wl (w_load hl hh rfl trivial one4 rfl (by repeat (first | exact find_head | apply find_tail)) (by first | rfl) ?_) | refine wl (w_loadR hl hh rfl trivial one4 rfl hpre (by simp) rfl ?_)
  clear hl a; intro a hl
  refine w_nil ?_
  have hl2 := hl.add (t := 0) (hl.add (t := 1) (hl.add (t := 4) (hl.add (t := 9) (hl.nil) rfl) rfl) rfl) rfl; clear hl; have hl := hl2; clear hl2
  refine then_normal ?_
  refine c_cond hl rfl ?_ ?_
  · intro hc0
    try simp only [decide_eq_true_eq, decide_eq_false_iff_not, Bool.not_eq_true', Bool.not_eq_false', Bool.not_eq_true, Bool.not_eq_false, Bool.and_eq_true, Bool.or_eq_true, Bool.and_eq_false_iff, Bool.or_eq_false_iff, Bool.not_not, ne_eq, Int.not_lt, Int.not_le, Decidable.not_not, beq_iff_eq, bne_iff_ne] at hc0
    refine c_seq ?_
    refine c_draw [(mp, C (encM (s) st sk bp) 69)] [18, 19] mixed hh ?_
    clear hh w; intro w hh
    have hM : Mem [(mp, C (encM (s) st sk bp) 69)] w := (by (repeat (first | exact Mem.nil | refine Mem.consR hh (by assumption) (by simp) ?_ | refine Mem.cons hh.mem (by (repeat (first | exact find_head | apply find_tail)); done) ?_ | fail)); done)
    refine d_take (i := 0) hl rfl (by kernel_rfl) (by kernel_rfl) (by kernel_rfl) (by kernel_rfl) (by kernel_rfl) rfl trivial (fun _ _ _ h => h) hM (fun w hC => r_move hl rfl) rfl ?_
    clear hl a; intro a hl
    refine d_take (i := 1) hl rfl (by kernel_rfl) (by kernel_rfl) (by kernel_rfl) (by kernel_rfl) (by kernel_rfl) rfl trivial (fun _ _ _ h => h) hM (fun w hC => r_nilCheck hl rfl) rfl ?_
    clear hl a; intro a hl
    refine d_take (i := 2) hl rfl (by kernel_rfl) (by kernel_rfl) (by kernel_rfl) (by kernel_rfl) (by kernel_rfl) rfl trivial (fun _ _ _ h => h) hM (fun w hC => r_field hl rfl fld69_8) rfl ?_
    clear hl a; intro a hl
    refine d_take (i := 3) hl rfl (by kernel_rfl) (by kernel_rfl) (by kernel_rfl) (by kernel_rfl) (by kernel_rfl) rfl trivial (fun _ _ _ h => h) hM (fun w hC => r_loadC hl rfl one2 hC (by repeat (first | exact find_head | apply find_tail)) (by first | rfl)) rfl ?_
    clear hl a; intro a hl
    refine d_take (i := 4) hl rfl (by kernel_rfl) (by kernel_rfl) (by kernel_rfl) (by kernel_rfl) (by kernel_rfl) rfl trivial (fun _ _ _ h => h) hM (fun w hC => r_move hl rfl) rfl ?_
    clear hl a; intro a hl
    refine d_take (i := 5) hl rfl (by kernel_rfl) (by kernel_rfl) (by kernel_rfl) (by kernel_rfl) (by kernel_rfl) rfl trivial (fun _ _ _ h => h) hM (fun w hC => r_nilCheck hl rfl) rfl ?_
    clear hl a; intro a hl
    refine d_take (i := 6) hl rfl (by kernel_rfl) (by kernel_rfl) (by kernel_rfl) (by kernel_rfl) (by kernel_rfl) rfl trivial (fun _ _ _ h => h) hM (fun w hC => r_field hl rfl fld69_1) rfl ?_
    clear hl a; intro a hl
    refine d_take (i := 7) hl rfl (by kernel_rfl) (by kernel_rfl) (by kernel_rfl) (by kernel_rfl) (by kernel_rfl) rfl trivial (fun _ _ _ h => h) hM (fun w hC => r_loadC hl rfl one2 hC (by repeat (first | exact find_head | apply find_tail)) (by first | rfl)) rfl ?_
    clear hl a; intro a hl
    refine d_take (i := 8) hl rfl (by kernel_rfl) (by kernel_rfl) (by kernel_rfl) (by kernel_rfl) (by kernel_rfl) rfl trivial (fun _ _ _ h => h) hM (fun w hC => r_move hl rfl) rfl ?_
    clear hl a; intro a hl
    refine d_take (i := 9) hl rfl (by kernel_rfl) (by kernel_rfl) (by kernel_rfl) (by kernel_rfl) (by kernel_rfl) rfl trivial (fun _ _ _ h => h) hM (fun w hC => r_nilCheck hl rfl) rfl ?_
    clear hl a; intro a hl
    refine d_take (i := 10) hl rfl (by kernel_rfl) (by kernel_rfl) (by kernel_rfl) (by kernel_rfl) (by kernel_rfl) rfl trivial (fun _ _ _ h => h) hM (fun w hC => r_field hl rfl fld69_9) rfl ?_
    clear hl a; intro a hl
    refine d_take (i := 11) hl rfl (by kernel_rfl) (by kernel_rfl) (by kernel_rfl) (by kernel_rfl) (by kernel_rfl) rfl trivial (fun _ _ _ h => h) hM (fun w hC => r_loadC hl rfl one2 hC (by repeat (first | exact find_head | apply find_tail)) (by first | rfl)) rfl ?_
    clear hl a; intro a hl
    refine d_take (i := 12) hl rfl (by kernel_rfl) (by kernel_rfl) (by kernel_rfl) (by kernel_rfl) (by kernel_rfl) rfl trivial (fun _ _ _ h => h) hM (fun w hC => r_move hl rfl) rfl ?_
    clear hl a; intro a hl
    refine d_take (i := 13) hl rfl (by kernel_rfl) (by kernel_rfl) (by kernel_rfl) (by kernel_rfl) (by kernel_rfl) rfl trivial (fun _ _ _ h => h) hM (fun w hC => r_nilCheck hl rfl) rfl ?_
    clear hl a; intro a hl
    refine d_take (i := 14) hl rfl (by kernel_rfl) (by kernel_rfl) (by kernel_rfl) (by kernel_rfl) (by kernel_rfl) rfl trivial (fun _ _ _ h => h) hM (fun w hC => r_field hl rfl fld69_8) rfl ?_
    clear hl a; intro a hl
    refine d_take (i := 15) hl rfl (by kernel_rfl) (by kernel_rfl) (by kernel_rfl) (by kernel_rfl) (by kernel_rfl) rfl trivial (fun _ _ _ h => h) hM (fun w hC => r_loadC hl rfl one2 hC (by repeat (first | exact find_head | apply find_tail)) (by first | rfl)) rfl ?_
    clear hl a; intro a hl
    first | refine d_take (i := 16) hl rfl (by kernel_rfl) (by kernel_rfl) (by kernel_rfl) (by kernel_rfl) (by kernel_rfl) rfl trivial (fun _ _ _ h => h) hM (fun w hC => r_sub hl rfl rfl (by simp only [Fits]; omega)) rfl ?_ | refine d_take (i := 16) hl rfl (by kernel_rfl) (by kernel_rfl) (by kernel_rfl) (by kernel_rfl) (by kernel_rfl) rfl trivial (fun _ _ _ h => h) hM (fun w hC => r_subW hl rfl rfl) rfl ?_
    clear hl a; intro a hl
    refine d_take (i := 17) hl rfl (by kernel_rfl) (by kernel_rfl) (by kernel_rfl) (by kernel_rfl) (by kernel_rfl) rfl trivial (fun _ _ _ h => h) hM (fun w hC => r_minI hl rfl rfl) rfl ?_
    clear hl a; intro a hl
    refine d_takeL (i := 18) hl rfl (by kernel_rfl) (by kernel_rfl) (by kernel_rfl) (by kernel_rfl) (by kernel_rfl) rfl trivial (fun _ _ _ h => h) (fun w => r_build hl rfl zero42 bld42 (by simp only [fillL, setL, List.getElem?_cons_zero, List.getElem?_cons_succ, Value.cells, List.take_zero, List.take_succ_cons, List.take_nil, List.drop_zero, List.drop_succ_cons, List.drop_nil, List.length_cons, List.length_nil, List.cons_append, List.nil_append, List.append_nil, Nat.zero_add, Nat.add_zero, Nat.reduceAdd, Nat.reduceBEq, Nat.reduceEqDiff, Nat.ble, BEq.rfl, Bool.and_true, Bool.and_self, cond_true, beq_self_eq_true]; rfl)) rfl ?_
    clear hl a; intro a hl
    refine d_one (i := 19) (by kernel_rfl) rfl ?_
    try clear hM
    refine id (w_storeA hl hh trivial agg42 rfl rfl (by repeat (first | exact find_head | apply find_tail)) (by first | rfl | (simp; done)) (by first | (simp; done) | (simp; omega)) (by first | rfl | (simp; done)) (by first | (simp only [encM, setL, List.getElem?_cons_zero, List.getElem?_cons_succ, Value.cells, List.take_zero, List.take_succ_cons, List.take_nil, List.drop_zero, List.drop_succ_cons, List.drop_nil, List.length_cons, List.length_nil, List.cons_append, List.nil_append, List.append_nil, Nat.zero_add, Nat.add_zero, Nat.reduceAdd, Nat.reduceBEq, Nat.reduceEqDiff, Nat.ble, BEq.rfl, Bool.and_true, Bool.and_self, cond_true, beq_self_eq_true]; rfl) | (simp only [setL, List.getElem?_cons_zero, List.getElem?_cons_succ, Value.cells, List.take_zero, List.take_succ_cons, List.take_nil, List.drop_zero, List.drop_succ_cons, List.drop_nil, List.length_cons, List.length_nil, List.cons_append, List.nil_append, List.append_nil, Nat.zero_add, Nat.add_zero, Nat.reduceAdd, Nat.reduceBEq, Nat.reduceEqDiff, Nat.ble, BEq.rfl, Bool.and_true, Bool.and_self, cond_true, beq_self_eq_true]; rfl)) ?_)
    clear hh w; intro w hh
    refine d_step (fun h => absurd h (by decide)) ?_
    refine d_done (by kernel_rfl) ?_
    try clear hM
    have hl2 := hl.add (t := 4) (hl.nil) rfl; clear hl; have hl := hl2; clear hl2
    refine then_normal ?_
    refine wp_ret ?_
    refine then_ret ?_
    refine f_retC (F' := []) hl hh rfl rfl agg42 (by repeat (first | exact find_head | apply find_tail)) (by first | rfl | exact arrL_length _ _ | (simp; done)) (by repeat (first | exact keeps_nil | apply keeps_cons (by repeat (first | exact find_head | apply find_tail)) (by first  | rfl) | exact keeps_self | apply keeps_mv)) ?_
    exact ⟨⟨2, s.una, _, rfl, .inl ⟨by assumption, rfl, rfl, rfl⟩⟩, rfl⟩
  · intro hc0
    try simp only [decide_eq_true_eq, decide_eq_false_iff_not, Bool.not_eq_true', Bool.not_eq_false', Bool.not_eq_true, Bool.not_eq_false, Bool.and_eq_true, Bool.or_eq_true, Bool.and_eq_false_iff, Bool.or_eq_false_iff, Bool.not_not, ne_eq, Int.not_lt, Int.not_le, Decidable.not_not, beq_iff_eq, bne_iff_ne] at hc0
    refine wp_skip ?_
    refine then_normal ?_
    refine c_seq ?_
    refine c_region ?_
    refine wl (wl_val hl rfl trivial (r_move hl rfl) ?_)
    clear hl a; intro a hl
    refine wl (wl_val hl rfl trivial (r_move hl rfl) ?_)
    clear hl a; intro a hl
    refine wl (w_call hl hh rfl trivial rfl cal36 rfl (next_n2 mp s st sk bp hs hk hph fresh hfr) (by repeat (first | exact keeps_nil | apply keeps_cons (by repeat (first | exact find_head | apply find_tail)) (by first  | rfl) | exact keeps_self | apply keeps_mv)) (heap_keep hh hpre) ?_)
    clear hl hh a w; intro vc Fc a w hR hl hh
    obtain ⟨k9, o9, n9, rfl, hnx, rfl⟩ := hR
    try simp only [List.cons_append, List.nil_append] at hh
    have hnr : 0 ≤ n9 ∧ n9 ≤ 65535 := by rcases hnx with ⟨_, _, _, h9⟩ | ⟨_, _, _, h9⟩ <;> omega
    refine wl (w_alloc hl hh rfl trivial zero42 rfl ?_)
    clear hl hh a w; intro k5 a w hl hh
    refine wl (w_storeA hl hh trivial agg42 rfl rfl (by repeat (first | exact find_head | apply find_tail)) (by first | rfl | (simp; done)) (by first | (simp; done) | (simp; omega)) (by first | rfl | (simp; done)) (by first | (simp only [encM, setL, List.getElem?_cons_zero, List.getElem?_cons_succ, Value.cells, List.take_zero, List.take_succ_cons, List.take_nil, List.drop_zero, List.drop_succ_cons, List.drop_nil, List.length_cons, List.length_nil, List.cons_append, List.nil_append, List.append_nil, Nat.zero_add, Nat.add_zero, Nat.reduceAdd, Nat.reduceBEq, Nat.reduceEqDiff, Nat.ble, BEq.rfl, Bool.and_true, Bool.and_self, cond_true, beq_self_eq_true]; rfl) | (simp only [setL, List.getElem?_cons_zero, List.getElem?_cons_succ, Value.cells, List.take_zero, List.take_succ_cons, List.take_nil, List.drop_zero, List.drop_succ_cons, List.drop_nil, List.length_cons, List.length_nil, List.cons_append, List.nil_append, List.append_nil, Nat.zero_add, Nat.add_zero, Nat.reduceAdd, Nat.reduceBEq, Nat.reduceEqDiff, Nat.ble, BEq.rfl, Bool.and_true, Bool.and_self, cond_true, beq_self_eq_true]; rfl)) ?_)
    clear hh w; intro w hh
    refine w_nil ?_
    have hl2 := hl.add (t := 0) (hl.add (t := 4) (hl.add (t := 5) (hl.nil) rfl) rfl) rfl; clear hl; have hl := hl2; clear hl2
    refine then_normal ?_
    refine c_seq ?_
    refine c_seq ?_
    refine c_draw [(k5, C [.int .u8 k9, .int .i64 o9, .int .i64 n9] 42), (mp, C (encM (s) st sk bp) 69)] [9] mixed hh ?_
    clear hh w; intro w hh
    have hM : Mem [(k5, C [.int .u8 k9, .int .i64 o9, .int .i64 n9] 42), (mp, C (encM (s) st sk bp) 69)] w := (by (repeat (first | exact Mem.nil | refine Mem.consR hh (by assumption) (by simp) ?_ | refine Mem.cons hh.mem (by (repeat (first | exact find_head | apply find_tail)); done) ?_ | fail)); done)
    refine d_take (i := 0) hl rfl (by kernel_rfl) (by kernel_rfl) (by kernel_rfl) (by kernel_rfl) (by kernel_rfl) rfl trivial (fun _ _ _ h => h) hM (fun w hC => r_move hl rfl) rfl ?_
    clear hl a; intro a hl
    refine d_take (i := 2) hl rfl (by kernel_rfl) (by kernel_rfl) (by kernel_rfl) (by kernel_rfl) (by kernel_rfl) rfl trivial (fun _ _ _ h => h) hM (fun w hC => r_field hl rfl fld42_2) rfl ?_
    clear hl a; intro a hl
    refine d_take (i := 3) hl rfl (by kernel_rfl) (by kernel_rfl) (by kernel_rfl) (by kernel_rfl) (by kernel_rfl) rfl trivial (fun _ _ _ h => h) hM (fun w hC => r_loadC hl rfl one2 hC (by repeat (first | exact find_head | apply find_tail)) (by first | rfl)) rfl ?_
    clear hl a; intro a hl
    refine d_take (i := 5) hl rfl (by kernel_rfl) (by kernel_rfl) (by kernel_rfl) (by kernel_rfl) (by kernel_rfl) rfl trivial (fun _ _ _ h => h) hM (fun w hC => r_move hl rfl) rfl ?_
    clear hl a; intro a hl
    refine d_take (i := 6) hl rfl (by kernel_rfl) (by kernel_rfl) (by kernel_rfl) (by kernel_rfl) (by kernel_rfl) rfl trivial (fun _ _ _ h => h) hM (fun w hC => r_nilCheck hl rfl) rfl ?_
    clear hl a; intro a hl
    refine d_take (i := 7) hl rfl (by kernel_rfl) (by kernel_rfl) (by kernel_rfl) (by kernel_rfl) (by kernel_rfl) rfl trivial (fun _ _ _ h => h) hM (fun w hC => r_field hl rfl fld69_5) rfl ?_
    clear hl a; intro a hl
    refine d_take (i := 8) hl rfl (by kernel_rfl) (by kernel_rfl) (by kernel_rfl) (by kernel_rfl) (by kernel_rfl) rfl trivial (fun _ _ _ h => h) hM (fun w hC => r_loadC hl rfl one2 hC (by repeat (first | exact find_head | apply find_tail)) (by first | rfl)) rfl ?_
    clear hl a; intro a hl
    refine d_one (i := 1) (by kernel_rfl) rfl ?_
    try clear hM
    refine id (w_call hl hh rfl trivial rfl cal37 rfl (pipe_n mp s st sk bp hs hk hph) (by repeat (first | exact keeps_nil | apply keeps_cons (by repeat (first | exact find_head | apply find_tail)) (by first  | rfl) | exact keeps_self | apply keeps_mv)) (heap_keep hh hpre) ?_)
    clear hl hh a w; intro vc Fc a w hR hl hh
    obtain ⟨rfl, rfl⟩ := hR
    try simp only [List.cons_append, List.nil_append] at hh
    have hM : Mem [(k5, C [.int .u8 k9, .int .i64 o9, .int .i64 n9] 42), (mp, C (encM (s) st sk bp) 69)] w := (by (repeat (first | exact Mem.nil | refine Mem.consR hh (by assumption) (by simp) ?_ | refine Mem.cons hh.mem (by (repeat (first | exact find_head | apply find_tail)); done) ?_ | fail)); done)
    refine d_step (fun _ => hM) ?_
    first | refine d_take (i := 4) hl rfl (by kernel_rfl) (by kernel_rfl) (by kernel_rfl) (by kernel_rfl) (by kernel_rfl) rfl trivial (fun _ _ _ h => h) hM (fun w hC => r_add hl rfl rfl (by simp only [Fits]; omega)) rfl ?_ | refine d_take (i := 4) hl rfl (by kernel_rfl) (by kernel_rfl) (by kernel_rfl) (by kernel_rfl) (by kernel_rfl) rfl trivial (fun _ _ _ h => h) hM (fun w hC => r_addW hl rfl rfl) rfl ?_
    clear hl a; intro a hl
    refine d_takeL (i := 9) hl rfl (by kernel_rfl) (by kernel_rfl) (by kernel_rfl) (by kernel_rfl) (by kernel_rfl) rfl trivial (fun _ _ _ h => h) (fun w => r_gtr hl rfl rfl) rfl ?_
    clear hl a; intro a hl
    refine d_done (by kernel_rfl) ?_
    try clear hM
    have hl2 := hl.add (t := 4) (hl.add (t := 5) (hl.add (t := 41) (hl.nil) rfl) rfl) rfl; clear hl; have hl := hl2; clear hl2
    refine then_normal ?_
    refine c_cond hl rfl ?_ ?_
    · intro hc1
      try simp only [decide_eq_true_eq, decide_eq_false_iff_not, Bool.not_eq_true', Bool.not_eq_false', Bool.not_eq_true, Bool.not_eq_false, Bool.and_eq_true, Bool.or_eq_true, Bool.and_eq_false_iff, Bool.or_eq_false_iff, Bool.not_not, ne_eq, Int.not_lt, Int.not_le, Decidable.not_not, beq_iff_eq, bne_iff_ne] at hc1
      refine c_seq ?_
      refine c_region ?_
      refine wl (wl_val hl rfl trivial (r_build hl rfl zero42 bld42 (by simp only [fillL, setL, List.getElem?_cons_zero, List.getElem?_cons_succ, Value.cells, List.take_zero, List.take_succ_cons, List.take_nil, List.drop_zero, List.drop_succ_cons, List.drop_nil, List.length_cons, List.length_nil, List.cons_append, List.nil_append, List.append_nil, Nat.zero_add, Nat.add_zero, Nat.reduceAdd, Nat.reduceBEq, Nat.reduceEqDiff, Nat.ble, BEq.rfl, Bool.and_true, Bool.and_self, cond_true, beq_self_eq_true]; rfl)) ?_)
      clear hl a; intro a hl
      refine wl (w_storeA hl hh trivial agg42 rfl rfl (by repeat (first | exact find_head | apply find_tail)) (by first | rfl | (simp; done)) (by first | (simp; done) | (simp; omega)) (by first | rfl | (simp; done)) (by first | (simp only [encM, setL, List.getElem?_cons_zero, List.getElem?_cons_succ, Value.cells, List.take_zero, List.take_succ_cons, List.take_nil, List.drop_zero, List.drop_succ_cons, List.drop_nil, List.length_cons, List.length_nil, List.cons_append, List.nil_append, List.append_nil, Nat.zero_add, Nat.add_zero, Nat.reduceAdd, Nat.reduceBEq, Nat.reduceEqDiff, Nat.ble, BEq.rfl, Bool.and_true, Bool.and_self, cond_true, beq_self_eq_true]; rfl) | (simp only [setL, List.getElem?_cons_zero, List.getElem?_cons_succ, Value.cells, List.take_zero, List.take_succ_cons, List.take_nil, List.drop_zero, List.drop_succ_cons, List.drop_nil, List.length_cons, List.length_nil, List.cons_append, List.nil_append, List.append_nil, Nat.zero_add, Nat.add_zero, Nat.reduceAdd, Nat.reduceBEq, Nat.reduceEqDiff, Nat.ble, BEq.rfl, Bool.and_true, Bool.and_self, cond_true, beq_self_eq_true]; rfl)) ?_)
      clear hh w; intro w hh
      refine w_nil ?_
      have hl2 := hl.add (t := 4) (hl.nil) rfl; clear hl; have hl := hl2; clear hl2
      refine then_normal ?_
      refine wp_ret ?_
      refine then_ret ?_
      refine f_retC (F' := []) hl hh rfl rfl agg42 (by repeat (first | exact find_head | apply find_tail)) (by first | rfl | exact arrL_length _ _ | (simp; done)) (by repeat (first | exact keeps_nil | apply keeps_cons (by repeat (first | exact find_head | apply find_tail)) (by first  | rfl) | exact keeps_self | apply keeps_mv)) ?_
      exact ⟨⟨0, 0, 0, rfl, .inr ⟨by assumption, k9, o9, n9, hnx, .inl ⟨hc1, rfl, rfl, rfl⟩⟩⟩, rfl⟩
    · intro hc1
      try simp only [decide_eq_true_eq, decide_eq_false_iff_not, Bool.not_eq_true', Bool.not_eq_false', Bool.not_eq_true, Bool.not_eq_false, Bool.and_eq_true, Bool.or_eq_true, Bool.and_eq_false_iff, Bool.or_eq_false_iff, Bool.not_not, ne_eq, Int.not_lt, Int.not_le, Decidable.not_not, beq_iff_eq, bne_iff_ne] at hc1
      refine wp_skip ?_
      refine then_normal ?_
      refine c_seq ?_
      refine c_region ?_
      refine wl (w_loadA hl hh rfl trivial agg42 rfl (by repeat (first | exact find_head | apply find_tail)) (by first | (simp only [List.getElem?_cons_zero, List.getElem?_cons_succ, Value.cells, List.take_zero, List.take_succ_cons, List.take_nil, List.drop_zero, List.drop_succ_cons, List.drop_nil, List.length_cons, List.length_nil, List.cons_append, List.nil_append, List.append_nil, Nat.zero_add, Nat.add_zero, Nat.reduceAdd, Nat.reduceBEq, Nat.reduceEqDiff, Nat.ble, BEq.rfl, Bool.and_true, Bool.and_self, cond_true, beq_self_eq_true]; rfl)) (by first | rfl | (simp; done)) ?_)
      clear hl a; intro a hl
      refine wl (w_storeA hl hh trivial agg42 rfl rfl (by repeat (first | exact find_head | apply find_tail)) (by first | rfl | (simp; done)) (by first | (simp; done) | (simp; omega)) (by first | rfl | (simp; done)) (by first | (simp only [encM, setL, List.getElem?_cons_zero, List.getElem?_cons_succ, Value.cells, List.take_zero, List.take_succ_cons, List.take_nil, List.drop_zero, List.drop_succ_cons, List.drop_nil, List.length_cons, List.length_nil, List.cons_append, List.nil_append, List.append_nil, Nat.zero_add, Nat.add_zero, Nat.reduceAdd, Nat.reduceBEq, Nat.reduceEqDiff, Nat.ble, BEq.rfl, Bool.and_true, Bool.and_self, cond_true, beq_self_eq_true]; rfl) | (simp only [setL, List.getElem?_cons_zero, List.getElem?_cons_succ, Value.cells, List.take_zero, List.take_succ_cons, List.take_nil, List.drop_zero, List.drop_succ_cons, List.drop_nil, List.length_cons, List.length_nil, List.cons_append, List.nil_append, List.append_nil, Nat.zero_add, Nat.add_zero, Nat.reduceAdd, Nat.reduceBEq, Nat.reduceEqDiff, Nat.ble, BEq.rfl, Bool.and_true, Bool.and_self, cond_true, beq_self_eq_true]; rfl)) ?_)
      clear hh w; intro w hh
      refine w_nil ?_
      have hl2 := hl.add (t := 4) (hl.nil) rfl; clear hl; have hl := hl2; clear hl2
      refine then_normal ?_
      refine wp_ret ?_
      refine f_retC (F' := []) hl hh rfl rfl agg42 (by repeat (first | exact find_head | apply find_tail)) (by first | rfl | exact arrL_length _ _ | (simp; done)) (by repeat (first | exact keeps_nil | apply keeps_cons (by repeat (first | exact find_head | apply find_tail)) (by first  | rfl) | exact keeps_self | apply keeps_mv)) ?_
      exact ⟨⟨k9, o9, n9, rfl, .inr ⟨by assumption, k9, o9, n9, hnx, .inr ⟨by omega, rfl, rfl, rfl⟩⟩⟩, rfl⟩

set_option maxHeartbeats 4000000 in
theorem view_w (mp : Nat) (s : CS) (st : Int) (sk : Bool) (bp : Nat) (hs : Mk s) (f : Nat) (hf : s.nxt - s.una = (f : Int)) (hf9 : f ≤ 262144) (os : List Bk) (hos : BInv f os) (hl16 : os.length ≤ 16) (bn : Int) (p : Option Addr) (c : Nat) (E : List (Nat × Obj)) (hR : Row (.slice p os.length c) os.length (fl (bkc (seqM st s.una)) os) 2 73 E) (hwk : sk = true ∨ s.phase = 2) (hdp : s.dups < 4294967296) : SpK Tryz.prog 27 #[.pointer (some ⟨mp, 0, none⟩)] (fun w => w.heap[mp]? = some (C (encM s st sk bp) 69) ∧ (sk = true → w.heap[bp]? = some (C (bdL (seqM st s.una) bn (.slice p os.length c)) 85)) ∧ Mem E w) [] (fun v F' => v = .agg ⟨[.int .u32 s.cwnd, .int .u32 s.ssth, .int .u32 (s.nxt - s.una), .int .u32 (pipeW s sk os f), .int .u32 s.dups, .int .u8 s.phase, .bool s.forced]⟩ ∧ F' = []) := by
  refine f_enter (args := [.pointer (some ⟨mp, 0, none⟩)]) Tryz.func27 rfl Tryz.ntmps27 rfl ?_
  intro w0 w a hpre hl hh
  have o1 := hs.init; have o2 := hs.maxc; have o3 := hs.bn; have o4 := hs.bd; have o5 := hs.abc; have o6 := hs.dupt; have o7 := hs.mss; have o8 := hs.cwnd; have o9 := hs.ssth; have o10 := hs.credit; have o11 := hs.una; have o12 := hs.nxt; have o13 := hs.phase; have o14 := hs.recov; have o15 := hs.high; have o16 := hs.dups; have o17 := hs.fl
  have hpm := hpre.1; have hpb := hpre.2.1; have hpE := hpre.2.2
  have hpl := pipeW_le s sk os f hf9
  simp only [slotsFrom, Nat.reduceAdd] at hl
  refine c_seq ?_
  refine c_region ?_
  refine wl (w_alloc hl hh rfl trivial zero61 rfl ?_)
  clear hl hh a w; intro k2 a w hl hh
  refine w_nil ?_
  have hl2 := hl.add (t := 0) (hl.add (t := 2) (hl.nil) rfl) rfl; clear hl; have hl := hl2; clear hl2
  refine then_normal ?_
  refine c_seq ?_
  refine c_draw [(mp, C (encM (s) st sk bp) 69)] [36, 37] mixed hh ?_
  clear hh w; intro w hh
  have hM : Mem [(mp, C (encM (s) st sk bp) 69)] w := (by (repeat (first | exact Mem.nil | refine Mem.consR hh (by assumption) (by simp) ?_ | refine Mem.cons hh.mem (by (repeat (first | exact find_head | apply find_tail)); done) ?_ | fail)); done)
  refine d_take (i := 0) hl rfl (by kernel_rfl) (by kernel_rfl) (by kernel_rfl) (by kernel_rfl) (by kernel_rfl) rfl trivial (fun _ _ _ h => h) hM (fun w hC => r_move hl rfl) rfl ?_
  clear hl a; intro a hl
  refine d_take (i := 1) hl rfl (by kernel_rfl) (by kernel_rfl) (by kernel_rfl) (by kernel_rfl) (by kernel_rfl) rfl trivial (fun _ _ _ h => h) hM (fun w hC => r_nilCheck hl rfl) rfl ?_
  clear hl a; intro a hl
  refine d_take (i := 2) hl rfl (by kernel_rfl) (by kernel_rfl) (by kernel_rfl) (by kernel_rfl) (by kernel_rfl) rfl trivial (fun _ _ _ h => h) hM (fun w hC => r_field hl rfl fld69_5) rfl ?_
  clear hl a; intro a hl
  refine d_take (i := 3) hl rfl (by kernel_rfl) (by kernel_rfl) (by kernel_rfl) (by kernel_rfl) (by kernel_rfl) rfl trivial (fun _ _ _ h => h) hM (fun w hC => r_loadC hl rfl one2 hC (by repeat (first | exact find_head | apply find_tail)) (by first | rfl)) rfl ?_
  clear hl a; intro a hl
  first | refine d_take (i := 4) hl rfl (by kernel_rfl) (by kernel_rfl) (by kernel_rfl) (by kernel_rfl) (by kernel_rfl) rfl trivial (fun _ _ _ h => h) hM (fun w hC => r_conv hl rfl Tryz.underlying2 Tryz.underlying29 (by simp only [Fits]; omega)) rfl ?_ | refine d_take (i := 4) hl rfl (by kernel_rfl) (by kernel_rfl) (by kernel_rfl) (by kernel_rfl) (by kernel_rfl) rfl trivial (fun _ _ _ h => h) hM (fun w hC => r_convM wm_u32 hl rfl Tryz.underlying2 Tryz.underlying29) rfl ?_
  clear hl a; intro a hl
  refine d_take (i := 5) hl rfl (by kernel_rfl) (by kernel_rfl) (by kernel_rfl) (by kernel_rfl) (by kernel_rfl) rfl trivial (fun _ _ _ h => h) hM (fun w hC => r_move hl rfl) rfl ?_
  clear hl a; intro a hl
  refine d_take (i := 6) hl rfl (by kernel_rfl) (by kernel_rfl) (by kernel_rfl) (by kernel_rfl) (by kernel_rfl) rfl trivial (fun _ _ _ h => h) hM (fun w hC => r_nilCheck hl rfl) rfl ?_
  clear hl a; intro a hl
  refine d_take (i := 7) hl rfl (by kernel_rfl) (by kernel_rfl) (by kernel_rfl) (by kernel_rfl) (by kernel_rfl) rfl trivial (fun _ _ _ h => h) hM (fun w hC => r_field hl rfl fld69_6) rfl ?_
  clear hl a; intro a hl
  refine d_take (i := 8) hl rfl (by kernel_rfl) (by kernel_rfl) (by kernel_rfl) (by kernel_rfl) (by kernel_rfl) rfl trivial (fun _ _ _ h => h) hM (fun w hC => r_loadC hl rfl one2 hC (by repeat (first | exact find_head | apply find_tail)) (by first | rfl)) rfl ?_
  clear hl a; intro a hl
  first | refine d_take (i := 9) hl rfl (by kernel_rfl) (by kernel_rfl) (by kernel_rfl) (by kernel_rfl) (by kernel_rfl) rfl trivial (fun _ _ _ h => h) hM (fun w hC => r_conv hl rfl Tryz.underlying2 Tryz.underlying29 (by simp only [Fits]; omega)) rfl ?_ | refine d_take (i := 9) hl rfl (by kernel_rfl) (by kernel_rfl) (by kernel_rfl) (by kernel_rfl) (by kernel_rfl) rfl trivial (fun _ _ _ h => h) hM (fun w hC => r_convM wm_u32 hl rfl Tryz.underlying2 Tryz.underlying29) rfl ?_
  clear hl a; intro a hl
  refine d_take (i := 10) hl rfl (by kernel_rfl) (by kernel_rfl) (by kernel_rfl) (by kernel_rfl) (by kernel_rfl) rfl trivial (fun _ _ _ h => h) hM (fun w hC => r_move hl rfl) rfl ?_
  clear hl a; intro a hl
  refine d_take (i := 11) hl rfl (by kernel_rfl) (by kernel_rfl) (by kernel_rfl) (by kernel_rfl) (by kernel_rfl) rfl trivial (fun _ _ _ h => h) hM (fun w hC => r_nilCheck hl rfl) rfl ?_
  clear hl a; intro a hl
  refine d_take (i := 12) hl rfl (by kernel_rfl) (by kernel_rfl) (by kernel_rfl) (by kernel_rfl) (by kernel_rfl) rfl trivial (fun _ _ _ h => h) hM (fun w hC => r_field hl rfl fld69_9) rfl ?_
  clear hl a; intro a hl
  refine d_take (i := 13) hl rfl (by kernel_rfl) (by kernel_rfl) (by kernel_rfl) (by kernel_rfl) (by kernel_rfl) rfl trivial (fun _ _ _ h => h) hM (fun w hC => r_loadC hl rfl one2 hC (by repeat (first | exact find_head | apply find_tail)) (by first | rfl)) rfl ?_
  clear hl a; intro a hl
  refine d_take (i := 14) hl rfl (by kernel_rfl) (by kernel_rfl) (by kernel_rfl) (by kernel_rfl) (by kernel_rfl) rfl trivial (fun _ _ _ h => h) hM (fun w hC => r_move hl rfl) rfl ?_
  clear hl a; intro a hl
  refine d_take (i := 15) hl rfl (by kernel_rfl) (by kernel_rfl) (by kernel_rfl) (by kernel_rfl) (by kernel_rfl) rfl trivial (fun _ _ _ h => h) hM (fun w hC => r_nilCheck hl rfl) rfl ?_
  clear hl a; intro a hl
  refine d_take (i := 16) hl rfl (by kernel_rfl) (by kernel_rfl) (by kernel_rfl) (by kernel_rfl) (by kernel_rfl) rfl trivial (fun _ _ _ h => h) hM (fun w hC => r_field hl rfl fld69_8) rfl ?_
  clear hl a; intro a hl
  refine d_take (i := 17) hl rfl (by kernel_rfl) (by kernel_rfl) (by kernel_rfl) (by kernel_rfl) (by kernel_rfl) rfl trivial (fun _ _ _ h => h) hM (fun w hC => r_loadC hl rfl one2 hC (by repeat (first | exact find_head | apply find_tail)) (by first | rfl)) rfl ?_
  clear hl a; intro a hl
  first | refine d_take (i := 18) hl rfl (by kernel_rfl) (by kernel_rfl) (by kernel_rfl) (by kernel_rfl) (by kernel_rfl) rfl trivial (fun _ _ _ h => h) hM (fun w hC => r_sub hl rfl rfl (by simp only [Fits]; omega)) rfl ?_ | refine d_take (i := 18) hl rfl (by kernel_rfl) (by kernel_rfl) (by kernel_rfl) (by kernel_rfl) (by kernel_rfl) rfl trivial (fun _ _ _ h => h) hM (fun w hC => r_subW hl rfl rfl) rfl ?_
  clear hl a; intro a hl
  first | refine d_take (i := 19) hl rfl (by kernel_rfl) (by kernel_rfl) (by kernel_rfl) (by kernel_rfl) (by kernel_rfl) rfl trivial (fun _ _ _ h => h) hM (fun w hC => r_conv hl rfl Tryz.underlying2 Tryz.underlying29 (by simp only [Fits]; omega)) rfl ?_ | refine d_take (i := 19) hl rfl (by kernel_rfl) (by kernel_rfl) (by kernel_rfl) (by kernel_rfl) (by kernel_rfl) rfl trivial (fun _ _ _ h => h) hM (fun w hC => r_convM wm_u32 hl rfl Tryz.underlying2 Tryz.underlying29) rfl ?_
  clear hl a; intro a hl
  refine d_take (i := 20) hl rfl (by kernel_rfl) (by kernel_rfl) (by kernel_rfl) (by kernel_rfl) (by kernel_rfl) rfl trivial (fun _ _ _ h => h) hM (fun w hC => r_move hl rfl) rfl ?_
  clear hl a; intro a hl
  refine d_take (i := 23) hl rfl (by kernel_rfl) (by kernel_rfl) (by kernel_rfl) (by kernel_rfl) (by kernel_rfl) rfl trivial (fun _ _ _ h => h) hM (fun w hC => r_move hl rfl) rfl ?_
  clear hl a; intro a hl
  refine d_take (i := 24) hl rfl (by kernel_rfl) (by kernel_rfl) (by kernel_rfl) (by kernel_rfl) (by kernel_rfl) rfl trivial (fun _ _ _ h => h) hM (fun w hC => r_nilCheck hl rfl) rfl ?_
  clear hl a; intro a hl
  refine d_take (i := 25) hl rfl (by kernel_rfl) (by kernel_rfl) (by kernel_rfl) (by kernel_rfl) (by kernel_rfl) rfl trivial (fun _ _ _ h => h) hM (fun w hC => r_field hl rfl fld69_13) rfl ?_
  clear hl a; intro a hl
  refine d_take (i := 26) hl rfl (by kernel_rfl) (by kernel_rfl) (by kernel_rfl) (by kernel_rfl) (by kernel_rfl) rfl trivial (fun _ _ _ h => h) hM (fun w hC => r_loadC hl rfl one2 hC (by repeat (first | exact find_head | apply find_tail)) (by first | rfl)) rfl ?_
  clear hl a; intro a hl
  first | refine d_take (i := 27) hl rfl (by kernel_rfl) (by kernel_rfl) (by kernel_rfl) (by kernel_rfl) (by kernel_rfl) rfl trivial (fun _ _ _ h => h) hM (fun w hC => r_conv hl rfl Tryz.underlying2 Tryz.underlying29 (by simp only [Fits]; omega)) rfl ?_ | refine d_take (i := 27) hl rfl (by kernel_rfl) (by kernel_rfl) (by kernel_rfl) (by kernel_rfl) (by kernel_rfl) rfl trivial (fun _ _ _ h => h) hM (fun w hC => r_convM wm_u32 hl rfl Tryz.underlying2 Tryz.underlying29) rfl ?_
  clear hl a; intro a hl
  refine d_take (i := 28) hl rfl (by kernel_rfl) (by kernel_rfl) (by kernel_rfl) (by kernel_rfl) (by kernel_rfl) rfl trivial (fun _ _ _ h => h) hM (fun w hC => r_move hl rfl) rfl ?_
  clear hl a; intro a hl
  refine d_take (i := 29) hl rfl (by kernel_rfl) (by kernel_rfl) (by kernel_rfl) (by kernel_rfl) (by kernel_rfl) rfl trivial (fun _ _ _ h => h) hM (fun w hC => r_nilCheck hl rfl) rfl ?_
  clear hl a; intro a hl
  refine d_take (i := 30) hl rfl (by kernel_rfl) (by kernel_rfl) (by kernel_rfl) (by kernel_rfl) (by kernel_rfl) rfl trivial (fun _ _ _ h => h) hM (fun w hC => r_field hl rfl fld69_10) rfl ?_
  clear hl a; intro a hl
  refine d_take (i := 31) hl rfl (by kernel_rfl) (by kernel_rfl) (by kernel_rfl) (by kernel_rfl) (by kernel_rfl) rfl trivial (fun _ _ _ h => h) hM (fun w hC => r_loadC hl rfl one59 hC (by repeat (first | exact find_head | apply find_tail)) (by first | rfl)) rfl ?_
  clear hl a; intro a hl
  refine d_take (i := 32) hl rfl (by kernel_rfl) (by kernel_rfl) (by kernel_rfl) (by kernel_rfl) (by kernel_rfl) rfl trivial (fun _ _ _ h => h) hM (fun w hC => r_move hl rfl) rfl ?_
  clear hl a; intro a hl
  refine d_take (i := 33) hl rfl (by kernel_rfl) (by kernel_rfl) (by kernel_rfl) (by kernel_rfl) (by kernel_rfl) rfl trivial (fun _ _ _ h => h) hM (fun w hC => r_nilCheck hl rfl) rfl ?_
  clear hl a; intro a hl
  refine d_take (i := 34) hl rfl (by kernel_rfl) (by kernel_rfl) (by kernel_rfl) (by kernel_rfl) (by kernel_rfl) rfl trivial (fun _ _ _ h => h) hM (fun w hC => r_field hl rfl fld69_14) rfl ?_
  clear hl a; intro a hl
  refine d_take (i := 35) hl rfl (by kernel_rfl) (by kernel_rfl) (by kernel_rfl) (by kernel_rfl) (by kernel_rfl) rfl trivial (fun _ _ _ h => h) hM (fun w hC => r_loadC hl rfl one4 hC (by repeat (first | exact find_head | apply find_tail)) (by first | rfl)) rfl ?_
  clear hl a; intro a hl
  refine d_one (i := 21) (by kernel_rfl) rfl ?_
  try clear hM
  refine id (w_call hl hh rfl trivial rfl cal37 rfl (pipe_w mp s st sk bp hs f hf hf9 os hos hl16 bn p c E hR hwk) (by repeat (first | exact keeps_nil | apply keeps_cons (by repeat (first | exact find_head | apply find_tail)) (by first  | rfl) | exact keeps_self | apply keeps_mv)) ⟨heap_keep hh hpm, fun h9 => heap_keep hh (hpb h9), mem_keep hh hpE⟩ ?_)
  clear hl hh a w; intro vc Fc a w hR hl hh
  obtain ⟨rfl, rfl⟩ := hR
  try simp only [List.cons_append, List.nil_append] at hh
  have hM : Mem [(mp, C (encM (s) st sk bp) 69)] w := (by (repeat (first | exact Mem.nil | refine Mem.consR hh (by assumption) (by simp) ?_ | refine Mem.cons hh.mem (by (repeat (first | exact find_head | apply find_tail)); done) ?_ | fail)); done)
  refine d_step (fun _ => hM) ?_
  first | refine d_take (i := 22) hl rfl (by kernel_rfl) (by kernel_rfl) (by kernel_rfl) (by kernel_rfl) (by kernel_rfl) rfl trivial (fun _ _ _ h => h) hM (fun w hC => r_conv hl rfl Tryz.underlying2 Tryz.underlying29 (by simp only [Fits]; omega)) rfl ?_ | refine d_take (i := 22) hl rfl (by kernel_rfl) (by kernel_rfl) (by kernel_rfl) (by kernel_rfl) (by kernel_rfl) rfl trivial (fun _ _ _ h => h) hM (fun w hC => r_convM wm_u32 hl rfl Tryz.underlying2 Tryz.underlying29) rfl ?_
  clear hl a; intro a hl
  refine d_takeL (i := 36) hl rfl (by kernel_rfl) (by kernel_rfl) (by kernel_rfl) (by kernel_rfl) (by kernel_rfl) rfl trivial (fun _ _ _ h => h) (fun w => r_build hl rfl zero61 bld61 (by simp only [fillL, setL, List.getElem?_cons_zero, List.getElem?_cons_succ, Value.cells, List.take_zero, List.take_succ_cons, List.take_nil, List.drop_zero, List.drop_succ_cons, List.drop_nil, List.length_cons, List.length_nil, List.cons_append, List.nil_append, List.append_nil, Nat.zero_add, Nat.add_zero, Nat.reduceAdd, Nat.reduceBEq, Nat.reduceEqDiff, Nat.ble, BEq.rfl, Bool.and_true, Bool.and_self, cond_true, beq_self_eq_true]; rfl)) rfl ?_
  clear hl a; intro a hl
  refine d_one (i := 37) (by kernel_rfl) rfl ?_
  try clear hM
  refine id (w_storeA hl hh trivial agg61 rfl rfl (by repeat (first | exact find_head | apply find_tail)) (by first | rfl | (simp; done)) (by first | (simp; done) | (simp; omega)) (by first | rfl | (simp; done)) (by first | (simp only [encM, setL, List.getElem?_cons_zero, List.getElem?_cons_succ, Value.cells, List.take_zero, List.take_succ_cons, List.take_nil, List.drop_zero, List.drop_succ_cons, List.drop_nil, List.length_cons, List.length_nil, List.cons_append, List.nil_append, List.append_nil, Nat.zero_add, Nat.add_zero, Nat.reduceAdd, Nat.reduceBEq, Nat.reduceEqDiff, Nat.ble, BEq.rfl, Bool.and_true, Bool.and_self, cond_true, beq_self_eq_true]; rfl) | (simp only [setL, List.getElem?_cons_zero, List.getElem?_cons_succ, Value.cells, List.take_zero, List.take_succ_cons, List.take_nil, List.drop_zero, List.drop_succ_cons, List.drop_nil, List.length_cons, List.length_nil, List.cons_append, List.nil_append, List.append_nil, Nat.zero_add, Nat.add_zero, Nat.reduceAdd, Nat.reduceBEq, Nat.reduceEqDiff, Nat.ble, BEq.rfl, Bool.and_true, Bool.and_self, cond_true, beq_self_eq_true]; rfl)) ?_)
  clear hh w; intro w hh
  refine d_step (fun h => absurd h (by decide)) ?_
  refine d_done (by kernel_rfl) ?_
  try clear hM
  have hl2 := hl.add (t := 2) (hl.nil) rfl; clear hl; have hl := hl2; clear hl2
  refine then_normal ?_
  refine wp_ret ?_
  refine f_retC (F' := []) hl hh rfl rfl agg61 (by repeat (first | exact find_head | apply find_tail)) (by first | rfl | exact arrL_length _ _ | (simp; done)) (by repeat (first | exact keeps_nil | apply keeps_cons (by repeat (first | exact find_head | apply find_tail)) (by first  | rfl) | exact keeps_self | apply keeps_mv)) ?_
  exact ⟨rfl, rfl⟩

set_option maxHeartbeats 4000000 in
theorem view_n (mp : Nat) (s : CS) (st : Int) (sk : Bool) (bp : Nat) (hs : Mk s) (hk : sk = false) (hph : ¬ s.phase = 2) (hdp : s.dups < 4294967296) : SpK Tryz.prog 27 #[.pointer (some ⟨mp, 0, none⟩)] (fun w => w.heap[mp]? = some (C (encM s st sk bp) 69)) [] (fun v F' => v = .agg ⟨[.int .u32 s.cwnd, .int .u32 s.ssth, .int .u32 (s.nxt - s.una), .int .u32 (pipeN s), .int .u32 s.dups, .int .u8 s.phase, .bool s.forced]⟩ ∧ F' = []) := by
  refine f_enter (args := [.pointer (some ⟨mp, 0, none⟩)]) Tryz.func27 rfl Tryz.ntmps27 rfl ?_
  intro w0 w a hpre hl hh
  have o1 := hs.init; have o2 := hs.maxc; have o3 := hs.bn; have o4 := hs.bd; have o5 := hs.abc; have o6 := hs.dupt; have o7 := hs.mss; have o8 := hs.cwnd; have o9 := hs.ssth; have o10 := hs.credit; have o11 := hs.una; have o12 := hs.nxt; have o13 := hs.phase; have o14 := hs.recov; have o15 := hs.high; have o16 := hs.dups; have o17 := hs.fl
  have hpl := pipeN_le hs
  simp only [slotsFrom, Nat.reduceAdd] at hl
  refine c_seq ?_
  refine c_region ?_
  refine wl (w_alloc hl hh rfl trivial zero61 rfl ?_)
  clear hl hh a w; intro k2 a w hl hh
  refine w_nil ?_
  have hl2 := hl.add (t := 0) (hl.add (t := 2) (hl.nil) rfl) rfl; clear hl; have hl := hl2; clear hl2
  refine then_normal ?_
  refine c_seq ?_
  refine c_draw [(mp, C (encM (s) st sk bp) 69)] [36, 37] mixed hh ?_
  clear hh w; intro w hh
  have hM : Mem [(mp, C (encM (s) st sk bp) 69)] w := (by (repeat (first | exact Mem.nil | refine Mem.consR hh (by assumption) (by simp) ?_ | refine Mem.cons hh.mem (by (repeat (first | exact find_head | apply find_tail)); done) ?_ | fail)); done)
  refine d_take (i := 0) hl rfl (by kernel_rfl) (by kernel_rfl) (by kernel_rfl) (by kernel_rfl) (by kernel_rfl) rfl trivial (fun _ _ _ h => h) hM (fun w hC => r_move hl rfl) rfl ?_
  clear hl a; intro a hl
  refine d_take (i := 1) hl rfl (by kernel_rfl) (by kernel_rfl) (by kernel_rfl) (by kernel_rfl) (by kernel_rfl) rfl trivial (fun _ _ _ h => h) hM (fun w hC => r_nilCheck hl rfl) rfl ?_
  clear hl a; intro a hl
  refine d_take (i := 2) hl rfl (by kernel_rfl) (by kernel_rfl) (by kernel_rfl) (by kernel_rfl) (by kernel_rfl) rfl trivial (fun _ _ _ h => h) hM (fun w hC => r_field hl rfl fld69_5) rfl ?_
  clear hl a; intro a hl
  refine d_take (i := 3) hl rfl (by kernel_rfl) (by kernel_rfl) (by kernel_rfl) (by kernel_rfl) (by kernel_rfl) rfl trivial (fun _ _ _ h => h) hM (fun w hC => r_loadC hl rfl one2 hC (by repeat (first | exact find_head | apply find_tail)) (by first | rfl)) rfl ?_
  clear hl a; intro a hl
  first | refine d_take (i := 4) hl rfl (by kernel_rfl) (by kernel_rfl) (by kernel_rfl) (by kernel_rfl) (by kernel_rfl) rfl trivial (fun _ _ _ h => h) hM (fun w hC => r_conv hl rfl Tryz.underlying2 Tryz.underlying29 (by simp only [Fits]; omega)) rfl ?_ | refine d_take (i := 4) hl rfl (by kernel_rfl) (by kernel_rfl) (by kernel_rfl) (by kernel_rfl) (by kernel_rfl) rfl trivial (fun _ _ _ h => h) hM (fun w hC => r_convM wm_u32 hl rfl Tryz.underlying2 Tryz.underlying29) rfl ?_
  clear hl a; intro a hl
  refine d_take (i := 5) hl rfl (by kernel_rfl) (by kernel_rfl) (by kernel_rfl) (by kernel_rfl) (by kernel_rfl) rfl trivial (fun _ _ _ h => h) hM (fun w hC => r_move hl rfl) rfl ?_
  clear hl a; intro a hl
  refine d_take (i := 6) hl rfl (by kernel_rfl) (by kernel_rfl) (by kernel_rfl) (by kernel_rfl) (by kernel_rfl) rfl trivial (fun _ _ _ h => h) hM (fun w hC => r_nilCheck hl rfl) rfl ?_
  clear hl a; intro a hl
  refine d_take (i := 7) hl rfl (by kernel_rfl) (by kernel_rfl) (by kernel_rfl) (by kernel_rfl) (by kernel_rfl) rfl trivial (fun _ _ _ h => h) hM (fun w hC => r_field hl rfl fld69_6) rfl ?_
  clear hl a; intro a hl
  refine d_take (i := 8) hl rfl (by kernel_rfl) (by kernel_rfl) (by kernel_rfl) (by kernel_rfl) (by kernel_rfl) rfl trivial (fun _ _ _ h => h) hM (fun w hC => r_loadC hl rfl one2 hC (by repeat (first | exact find_head | apply find_tail)) (by first | rfl)) rfl ?_
  clear hl a; intro a hl
  first | refine d_take (i := 9) hl rfl (by kernel_rfl) (by kernel_rfl) (by kernel_rfl) (by kernel_rfl) (by kernel_rfl) rfl trivial (fun _ _ _ h => h) hM (fun w hC => r_conv hl rfl Tryz.underlying2 Tryz.underlying29 (by simp only [Fits]; omega)) rfl ?_ | refine d_take (i := 9) hl rfl (by kernel_rfl) (by kernel_rfl) (by kernel_rfl) (by kernel_rfl) (by kernel_rfl) rfl trivial (fun _ _ _ h => h) hM (fun w hC => r_convM wm_u32 hl rfl Tryz.underlying2 Tryz.underlying29) rfl ?_
  clear hl a; intro a hl
  refine d_take (i := 10) hl rfl (by kernel_rfl) (by kernel_rfl) (by kernel_rfl) (by kernel_rfl) (by kernel_rfl) rfl trivial (fun _ _ _ h => h) hM (fun w hC => r_move hl rfl) rfl ?_
  clear hl a; intro a hl
  refine d_take (i := 11) hl rfl (by kernel_rfl) (by kernel_rfl) (by kernel_rfl) (by kernel_rfl) (by kernel_rfl) rfl trivial (fun _ _ _ h => h) hM (fun w hC => r_nilCheck hl rfl) rfl ?_
  clear hl a; intro a hl
  refine d_take (i := 12) hl rfl (by kernel_rfl) (by kernel_rfl) (by kernel_rfl) (by kernel_rfl) (by kernel_rfl) rfl trivial (fun _ _ _ h => h) hM (fun w hC => r_field hl rfl fld69_9) rfl ?_
  clear hl a; intro a hl
  refine d_take (i := 13) hl rfl (by kernel_rfl) (by kernel_rfl) (by kernel_rfl) (by kernel_rfl) (by kernel_rfl) rfl trivial (fun _ _ _ h => h) hM (fun w hC => r_loadC hl rfl one2 hC (by repeat (first | exact find_head | apply find_tail)) (by first | rfl)) rfl ?_
  clear hl a; intro a hl
  refine d_take (i := 14) hl rfl (by kernel_rfl) (by kernel_rfl) (by kernel_rfl) (by kernel_rfl) (by kernel_rfl) rfl trivial (fun _ _ _ h => h) hM (fun w hC => r_move hl rfl) rfl ?_
  clear hl a; intro a hl
  refine d_take (i := 15) hl rfl (by kernel_rfl) (by kernel_rfl) (by kernel_rfl) (by kernel_rfl) (by kernel_rfl) rfl trivial (fun _ _ _ h => h) hM (fun w hC => r_nilCheck hl rfl) rfl ?_
  clear hl a; intro a hl
  refine d_take (i := 16) hl rfl (by kernel_rfl) (by kernel_rfl) (by kernel_rfl) (by kernel_rfl) (by kernel_rfl) rfl trivial (fun _ _ _ h => h) hM (fun w hC => r_field hl rfl fld69_8) rfl ?_
  clear hl a; intro a hl
  refine d_take (i := 17) hl rfl (by kernel_rfl) (by kernel_rfl) (by kernel_rfl) (by kernel_rfl) (by kernel_rfl) rfl trivial (fun _ _ _ h => h) hM (fun w hC => r_loadC hl rfl one2 hC (by repeat (first | exact find_head | apply find_tail)) (by first | rfl)) rfl ?_
  clear hl a; intro a hl
  first | refine d_take (i := 18) hl rfl (by kernel_rfl) (by kernel_rfl) (by kernel_rfl) (by kernel_rfl) (by kernel_rfl) rfl trivial (fun _ _ _ h => h) hM (fun w hC => r_sub hl rfl rfl (by simp only [Fits]; omega)) rfl ?_ | refine d_take (i := 18) hl rfl (by kernel_rfl) (by kernel_rfl) (by kernel_rfl) (by kernel_rfl) (by kernel_rfl) rfl trivial (fun _ _ _ h => h) hM (fun w hC => r_subW hl rfl rfl) rfl ?_
  clear hl a; intro a hl
  first | refine d_take (i := 19) hl rfl (by kernel_rfl) (by kernel_rfl) (by kernel_rfl) (by kernel_rfl) (by kernel_rfl) rfl trivial (fun _ _ _ h => h) hM (fun w hC => r_conv hl rfl Tryz.underlying2 Tryz.underlying29 (by simp only [Fits]; omega)) rfl ?_ | refine d_take (i := 19) hl rfl (by kernel_rfl) (by kernel_rfl) (by kernel_rfl) (by kernel_rfl) (by kernel_rfl) rfl trivial (fun _ _ _ h => h) hM (fun w hC => r_convM wm_u32 hl rfl Tryz.underlying2 Tryz.underlying29) rfl ?_
  clear hl a; intro a hl
  refine d_take (i := 20) hl rfl (by kernel_rfl) (by kernel_rfl) (by kernel_rfl) (by kernel_rfl) (by kernel_rfl) rfl trivial (fun _ _ _ h => h) hM (fun w hC => r_move hl rfl) rfl ?_
  clear hl a; intro a hl
  refine d_take (i := 23) hl rfl (by kernel_rfl) (by kernel_rfl) (by kernel_rfl) (by kernel_rfl) (by kernel_rfl) rfl trivial (fun _ _ _ h => h) hM (fun w hC => r_move hl rfl) rfl ?_
  clear hl a; intro a hl
  refine d_take (i := 24) hl rfl (by kernel_rfl) (by kernel_rfl) (by kernel_rfl) (by kernel_rfl) (by kernel_rfl) rfl trivial (fun _ _ _ h => h) hM (fun w hC => r_nilCheck hl rfl) rfl ?_
  clear hl a; intro a hl
  refine d_take (i := 25) hl rfl (by kernel_rfl) (by kernel_rfl) (by kernel_rfl) (by kernel_rfl) (by kernel_rfl) rfl trivial (fun _ _ _ h => h) hM (fun w hC => r_field hl rfl fld69_13) rfl ?_
  clear hl a; intro a hl
  refine d_take (i := 26) hl rfl (by kernel_rfl) (by kernel_rfl) (by kernel_rfl) (by kernel_rfl) (by kernel_rfl) rfl trivial (fun _ _ _ h => h) hM (fun w hC => r_loadC hl rfl one2 hC (by repeat (first | exact find_head | apply find_tail)) (by first | rfl)) rfl ?_
  clear hl a; intro a hl
  first | refine d_take (i := 27) hl rfl (by kernel_rfl) (by kernel_rfl) (by kernel_rfl) (by kernel_rfl) (by kernel_rfl) rfl trivial (fun _ _ _ h => h) hM (fun w hC => r_conv hl rfl Tryz.underlying2 Tryz.underlying29 (by simp only [Fits]; omega)) rfl ?_ | refine d_take (i := 27) hl rfl (by kernel_rfl) (by kernel_rfl) (by kernel_rfl) (by kernel_rfl) (by kernel_rfl) rfl trivial (fun _ _ _ h => h) hM (fun w hC => r_convM wm_u32 hl rfl Tryz.underlying2 Tryz.underlying29) rfl ?_
  clear hl a; intro a hl
  refine d_take (i := 28) hl rfl (by kernel_rfl) (by kernel_rfl) (by kernel_rfl) (by kernel_rfl) (by kernel_rfl) rfl trivial (fun _ _ _ h => h) hM (fun w hC => r_move hl rfl) rfl ?_
  clear hl a; intro a hl
  refine d_take (i := 29) hl rfl (by kernel_rfl) (by kernel_rfl) (by kernel_rfl) (by kernel_rfl) (by kernel_rfl) rfl trivial (fun _ _ _ h => h) hM (fun w hC => r_nilCheck hl rfl) rfl ?_
  clear hl a; intro a hl
  refine d_take (i := 30) hl rfl (by kernel_rfl) (by kernel_rfl) (by kernel_rfl) (by kernel_rfl) (by kernel_rfl) rfl trivial (fun _ _ _ h => h) hM (fun w hC => r_field hl rfl fld69_10) rfl ?_
  clear hl a; intro a hl
  refine d_take (i := 31) hl rfl (by kernel_rfl) (by kernel_rfl) (by kernel_rfl) (by kernel_rfl) (by kernel_rfl) rfl trivial (fun _ _ _ h => h) hM (fun w hC => r_loadC hl rfl one59 hC (by repeat (first | exact find_head | apply find_tail)) (by first | rfl)) rfl ?_
  clear hl a; intro a hl
  refine d_take (i := 32) hl rfl (by kernel_rfl) (by kernel_rfl) (by kernel_rfl) (by kernel_rfl) (by kernel_rfl) rfl trivial (fun _ _ _ h => h) hM (fun w hC => r_move hl rfl) rfl ?_
  clear hl a; intro a hl
  refine d_take (i := 33) hl rfl (by kernel_rfl) (by kernel_rfl) (by kernel_rfl) (by kernel_rfl) (by kernel_rfl) rfl trivial (fun _ _ _ h => h) hM (fun w hC => r_nilCheck hl rfl) rfl ?_
  clear hl a; intro a hl
  refine d_take (i := 34) hl rfl (by kernel_rfl) (by kernel_rfl) (by kernel_rfl) (by kernel_rfl) (by kernel_rfl) rfl trivial (fun _ _ _ h => h) hM (fun w hC => r_field hl rfl fld69_14) rfl ?_
  clear hl a; intro a hl
  refine d_take (i := 35) hl rfl (by kernel_rfl) (by kernel_rfl) (by kernel_rfl) (by kernel_rfl) (by kernel_rfl) rfl trivial (fun _ _ _ h => h) hM (fun w hC => r_loadC hl rfl one4 hC (by repeat (first | exact find_head | apply find_tail)) (by first | rfl)) rfl ?_
  clear hl a; intro a hl
  refine d_one (i := 21) (by kernel_rfl) rfl ?_
  try clear hM
  refine id (w_call hl hh rfl trivial rfl cal37 rfl (pipe_n mp s st sk bp hs hk hph) (by repeat (first | exact keeps_nil | apply keeps_cons (by repeat (first | exact find_head | apply find_tail)) (by first  | rfl) | exact keeps_self | apply keeps_mv)) (heap_keep hh hpre) ?_)
  clear hl hh a w; intro vc Fc a w hR hl hh
  obtain ⟨rfl, rfl⟩ := hR
  try simp only [List.cons_append, List.nil_append] at hh
  have hM : Mem [(mp, C (encM (s) st sk bp) 69)] w := (by (repeat (first | exact Mem.nil | refine Mem.consR hh (by assumption) (by simp) ?_ | refine Mem.cons hh.mem (by (repeat (first | exact find_head | apply find_tail)); done) ?_ | fail)); done)
  refine d_step (fun _ => hM) ?_
  first | refine d_take (i := 22) hl rfl (by kernel_rfl) (by kernel_rfl) (by kernel_rfl) (by kernel_rfl) (by kernel_rfl) rfl trivial (fun _ _ _ h => h) hM (fun w hC => r_conv hl rfl Tryz.underlying2 Tryz.underlying29 (by simp only [Fits]; omega)) rfl ?_ | refine d_take (i := 22) hl rfl (by kernel_rfl) (by kernel_rfl) (by kernel_rfl) (by kernel_rfl) (by kernel_rfl) rfl trivial (fun _ _ _ h => h) hM (fun w hC => r_convM wm_u32 hl rfl Tryz.underlying2 Tryz.underlying29) rfl ?_
  clear hl a; intro a hl
  refine d_takeL (i := 36) hl rfl (by kernel_rfl) (by kernel_rfl) (by kernel_rfl) (by kernel_rfl) (by kernel_rfl) rfl trivial (fun _ _ _ h => h) (fun w => r_build hl rfl zero61 bld61 (by simp only [fillL, setL, List.getElem?_cons_zero, List.getElem?_cons_succ, Value.cells, List.take_zero, List.take_succ_cons, List.take_nil, List.drop_zero, List.drop_succ_cons, List.drop_nil, List.length_cons, List.length_nil, List.cons_append, List.nil_append, List.append_nil, Nat.zero_add, Nat.add_zero, Nat.reduceAdd, Nat.reduceBEq, Nat.reduceEqDiff, Nat.ble, BEq.rfl, Bool.and_true, Bool.and_self, cond_true, beq_self_eq_true]; rfl)) rfl ?_
  clear hl a; intro a hl
  refine d_one (i := 37) (by kernel_rfl) rfl ?_
  try clear hM
  refine id (w_storeA hl hh trivial agg61 rfl rfl (by repeat (first | exact find_head | apply find_tail)) (by first | rfl | (simp; done)) (by first | (simp; done) | (simp; omega)) (by first | rfl | (simp; done)) (by first | (simp only [encM, setL, List.getElem?_cons_zero, List.getElem?_cons_succ, Value.cells, List.take_zero, List.take_succ_cons, List.take_nil, List.drop_zero, List.drop_succ_cons, List.drop_nil, List.length_cons, List.length_nil, List.cons_append, List.nil_append, List.append_nil, Nat.zero_add, Nat.add_zero, Nat.reduceAdd, Nat.reduceBEq, Nat.reduceEqDiff, Nat.ble, BEq.rfl, Bool.and_true, Bool.and_self, cond_true, beq_self_eq_true]; rfl) | (simp only [setL, List.getElem?_cons_zero, List.getElem?_cons_succ, Value.cells, List.take_zero, List.take_succ_cons, List.take_nil, List.drop_zero, List.drop_succ_cons, List.drop_nil, List.length_cons, List.length_nil, List.cons_append, List.nil_append, List.append_nil, Nat.zero_add, Nat.add_zero, Nat.reduceAdd, Nat.reduceBEq, Nat.reduceEqDiff, Nat.ble, BEq.rfl, Bool.and_true, Bool.and_self, cond_true, beq_self_eq_true]; rfl)) ?_)
  clear hh w; intro w hh
  refine d_step (fun h => absurd h (by decide)) ?_
  refine d_done (by kernel_rfl) ?_
  try clear hM
  have hl2 := hl.add (t := 2) (hl.nil) rfl; clear hl; have hl := hl2; clear hl2
  refine then_normal ?_
  refine wp_ret ?_
  refine f_retC (F' := []) hl hh rfl rfl agg61 (by repeat (first | exact find_head | apply find_tail)) (by first | rfl | exact arrL_length _ _ | (simp; done)) (by repeat (first | exact keeps_nil | apply keeps_cons (by repeat (first | exact find_head | apply find_tail)) (by first  | rfl) | exact keeps_self | apply keeps_mv)) ?_
  exact ⟨rfl, rfl⟩
end Go.Proofs.Qxb6500912aGreatDoor

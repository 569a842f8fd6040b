import Derived.Test.Qxb6500914aFmtJ0
namespace Go.Proofs.Qxb6500914aFmt
open Go.Eng
set_option linter.unusedVariables false
set_option linter.unusedSimpArgs false
theorem cal59 : callable Tryf.prog 59 = true := by kernel_rfl
theorem agg110 : aggOk Tryf.prog 110 4096 = true := by kernel_rfl
theorem arrT110 : arrTOk Tryf.prog 110 4096 1 4 = true := by kernel_rfl
theorem cal63 : callable Tryf.prog 63 = true := by kernel_rfl
theorem cal56 : callable Tryf.prog 56 = true := by kernel_rfl
theorem cal48 : callable Tryf.prog 48 = true := by kernel_rfl
theorem cal57 : callable Tryf.prog 57 = true := by kernel_rfl
theorem agg51 : aggOk Tryf.prog 51 7 = true := by kernel_rfl
theorem arrT51 : arrTOk Tryf.prog 51 7 1 50 = true := by kernel_rfl
theorem cal39 : callable Tryf.prog 39 = true := by kernel_rfl
attribute [local irreducible] encM encP

theorem arrL_takeN {N : Nat} (f : Nat → Value) (o n : Nat) (h : o + n ≤ N) : ((arrL N f).drop o).take n = arrL n (fun i => f (o + i)) := by
  apply List.ext_getElem?
  intro j
  rw [List.getElem?_take]
  by_cases hj : j < n
  · rw [if_pos hj, List.getElem?_drop, arrL_get (by omega), arrL_get hj]
  · rw [if_neg hj, List.getElem?_eq_none (by rw [arrL_length]; omega)]
theorem ld_lives (m : MS) : ((arrL 16391 (encM m)).drop (0 + 8192)).take 4096 = arrL 4096 (fun i => .bool (m.live i)) := by
  rw [arrL_takeN _ _ _ (by omega)]
  refine arrL_congr fun i hi => ?_
  have h := ld_live m i hi
  rw [show 0 + 8192 + i * 1 = 0 + 8192 + i by omega, arrL_get (by omega)] at h
  exact Option.some.inj h
def lcN (lo hi i : Nat) : Nat := min i hi - lo
/-- the memory as the boxes' nodes are given back, from the lowest on -/
structure DP (m : MS) (lo : Nat) : Prop where
  live : ∀ c, c < 4096 → m.live c = decide (lo ≤ c ∧ c < 214)
  gen : ∀ c, 2 ≤ c → c < 214 → m.gen c = 1
  size : ∀ c, lo ≤ c → c < 214 → m.size c = (SZ c : Int)
theorem DP.start {m : MS} (h : PreL m 214) : DP m 2 := ⟨h.live, h.gen1, fun c h1 h2 => by rw [h.size c, if_pos h2]⟩
def deadTo (m : MS) (a c : Nat) : MS := { m with live := fun i => if a ≤ i ∧ i < c then false else m.live i }
theorem deadTo_zero (m : MS) (a : Nat) : deadTo m a a = m := by
  unfold deadTo
  have h1 : (fun i => if a ≤ i ∧ i < a then false else m.live i) = m.live := by funext i; rw [if_neg (by omega)]
  rw [h1]
theorem deadTo_succ (m : MS) (a c : Nat) (h : a ≤ c) : (deadTo m a c).s_live c false = deadTo m a (c + 1) := by
  unfold deadTo MS.s_live
  have h1 : updF (fun i => if a ≤ i ∧ i < c then false else m.live i) c false = (fun i => if a ≤ i ∧ i < c + 1 then false else m.live i) := by
    funext i; unfold updF; dsimp only
    by_cases e : i = c
    · rw [if_pos e, if_pos (by omega)]
    · rw [if_neg e]
      by_cases e2 : a ≤ i ∧ i < c
      · rw [if_pos e2, if_pos (by omega)]
      · rw [if_neg e2, if_neg (by omega)]
  simp only [h1]
def freeM (m : MS) (a : Nat) : MS := (m.s_cnt (IntKind.i64.wrap (m.cnt + 1))).setLast 5 a 4 false 0 0
def freeF (m : MS) (a s : Nat) : MS := ((deadTo (freeM m a) a (a + s)).s_size a 0).setLast 5 a 0 true 0 0
theorem DP.free {m : MS} {lo s : Nat} (h : DP m lo) (hs : 0 < s) : DP (freeF m lo s) (lo + s) := by
  refine ⟨fun c hc => ?_, h.gen, fun c h1 h2 => ?_⟩
  · show (if lo ≤ c ∧ c < lo + s then false else m.live c) = _
    by_cases e : lo ≤ c ∧ c < lo + s
    · rw [if_pos e, decide_eq_false (by omega)]
    · rw [if_neg e, h.live c hc]
      exact decide_eq_decide.2 (by omega)
  · show updF m.size lo 0 c = _
    rw [updF_ne _ _ (by omega)]
    exact h.size c (by omega) h2
theorem gen_one (x : Nat) (hx : x < 65536) : Int.fdiv ((65536 + x : Nat) : Int) (2 ^ (min (Int.toNat 16) IntKind.u64.bits)) = 1 := by
  show Int.fdiv ((65536 + x : Nat) : Int) 65536 = 1
  rw [Int.fdiv_eq_ediv_of_nonneg _ (by decide)]
  omega

set_option maxHeartbeats 1000000 in
theorem refGen_spec (x : Nat) (hx : x < 65536) : Sp Tryf.prog 59 #[.int .u64 ((65536 + x : Nat) : Int)] [] (fun v F' => v = .int .u64 1 ∧ F' = []) := by
  refine f_enter (args := [.int .u64 ((65536 + x : Nat) : Int)]) Tryf.func59 rfl Tryf.ntmps59 rfl ?_
  intro w0 w a hpre hl hh
  simp only [slotsFrom, Nat.reduceAdd] at hl
  refine c_seq ?_
  refine c_region ?_
  refine wl (wl_val hl rfl trivial (r_assign hl rfl) ?_)
  clear hl a; intro a hl
  refine w_nil ?_
  have hl2 := hl.add (t := 0) (hl.nil) rfl; clear hl; have hl := hl2; clear hl2
  refine then_normal ?_
  refine c_seq ?_
  refine c_region ?_
  refine wl (wl_val hl rfl trivial (r_move hl rfl) ?_)
  clear hl a; intro a hl
  refine wl (wl_val hl rfl trivial (r_shr hl rfl rfl (by omega)) ?_)
  clear hl a; intro a hl
  refine wl (wl_val hl rfl trivial (r_assign hl rfl) ?_)
  clear hl a; intro a hl
  refine w_nil ?_
  have hl2 := hl.add (t := 2) (hl.nil) rfl; clear hl; have hl := hl2; clear hl2
  refine then_normal ?_
  refine wp_ret ?_
  refine f_ret1 (F' := []) hl hh rfl rfl (by repeat (first | exact keeps_nil | apply keeps_cons (by repeat (first | exact find_head | apply find_tail)) (by first  | rfl) | exact keeps_self | apply keeps_mv)) ?_
  exact ⟨congrArg (Value.int .u64) (gen_one x hx), rfl⟩

set_option maxHeartbeats 1000000 in
theorem isLive_spec (b : Nat) (m : MS) (ad : Nat) (ha : ad < 4096) (hs : 0 < m.size ad) (hg : m.gen ad = 1) : Sp Tryf.prog 48 #[.pointer (some ⟨b, 0, none⟩), .int .u64 ((65536 + ad : Nat) : Int)] [(b, C (arrL 16391 (encM (m))) 119)] (fun v F' => v = .bool true ∧ F' = [(b, C (arrL 16391 (encM (m))) 119)]) := by
  refine f_enter (args := [.pointer (some ⟨b, 0, none⟩), .int .u64 ((65536 + ad : Nat) : Int)]) Tryf.func48 rfl Tryf.ntmps48 rfl ?_
  intro w0 w a hpre hl hh
  simp only [slotsFrom, Nat.reduceAdd] at hl
  refine c_seq ?_
  refine c_region ?_
  refine wl (wl_val hl rfl trivial (r_assign hl rfl) ?_)
  clear hl a; intro a hl
  refine w_nil ?_
  have hl2 := hl.add (t := 0) (hl.add (t := 1) (hl.nil) rfl) rfl; clear hl; have hl := hl2; clear hl2
  refine then_normal ?_
  refine c_seq ?_
  refine c_region ?_
  refine wl (wl_val hl rfl trivial (r_move hl rfl) ?_)
  clear hl a; intro a hl
  refine wl (w_call hl hh rfl trivial rfl cal52 rfl (refAddr_spec _) (by repeat (first | exact keeps_nil | apply keeps_cons (by repeat (first | exact find_head | apply find_tail)) (by first  | rfl) | exact keeps_self | apply keeps_mv)) trivial ?_)
  clear hl hh a w; intro vc Fc a w hR hl hh
  obtain ⟨rfl, rfl⟩ := hR
  try simp only [List.cons_append, List.nil_append] at hh
  rw [ref_mod _ (by omega)] at hl
  refine wl (wl_val hl rfl trivial (r_assign hl rfl) ?_)
  clear hl a; intro a hl
  refine w_nil ?_
  have hl2 := hl.add (t := 0) (hl.add (t := 1) (hl.add (t := 5) (hl.nil) rfl) rfl) rfl; clear hl; have hl := hl2; clear hl2
  refine then_normal ?_
  refine c_seq ?_
  refine c_draw [(b, C (arrL 16391 (encM (m))) 119)] [20, 21, 22] mixed hh ?_
  clear hh w; intro w hh
  have hM : Mem [(b, C (arrL 16391 (encM (m))) 119)] w := (by repeat (first | exact Mem.nil | refine Mem.cons hh.mem (by repeat (first | exact find_head | apply find_tail)) ?_ | refine Mem.consR hh (by assumption) (by simp) ?_))
  refine d_take (i := 0) hl rfl (by kernel_rfl) (by kernel_rfl) (by kernel_rfl) (by kernel_rfl) (by kernel_rfl) rfl trivial (fun _ _ _ h => h) hM (fun w hC => r_move hl rfl) rfl ?_
  clear hl a; intro a hl
  refine d_take (i := 1) hl rfl (by kernel_rfl) (by kernel_rfl) (by kernel_rfl) (by kernel_rfl) (by kernel_rfl) rfl trivial (fun _ _ _ h => h) hM (fun w hC => r_lss hl rfl rfl) rfl ?_
  clear hl a; intro a hl
  refine d_take (i := 2) hl rfl (by kernel_rfl) (by kernel_rfl) (by kernel_rfl) (by kernel_rfl) (by kernel_rfl) rfl trivial (fun _ _ _ h => h) hM (fun w hC => r_move hl rfl) rfl ?_
  clear hl a; intro a hl
  refine sl_split (t := 10) hl rfl ?_ ?_
  · intro hg1; clear hl; intro hl
    try simp only [decide_eq_true_eq, decide_eq_false_iff_not, Bool.not_eq_true', Bool.not_eq_false', Bool.not_eq_true, Bool.not_eq_false, Bool.and_eq_true, Bool.or_eq_true, Bool.and_eq_false_iff, Bool.or_eq_false_iff, Bool.not_not, ne_eq, Int.not_lt, Int.not_le, Decidable.not_not, beq_iff_eq, bne_iff_ne] at hg1
    refine d_take (i := 3) hl rfl (by kernel_rfl) (by kernel_rfl) (by kernel_rfl) (by kernel_rfl) (by kernel_rfl) rfl ⟨_, _, rfl, rfl, rfl⟩ (fun _ _ _ h => h) hM (fun w hC => r_move hl rfl) rfl ?_
    clear hl a; intro a hl
    refine d_take (i := 4) hl rfl (by kernel_rfl) (by kernel_rfl) (by kernel_rfl) (by kernel_rfl) (by kernel_rfl) rfl ⟨_, _, rfl, rfl, rfl⟩ (fun _ _ _ h => h) hM (fun w hC => r_move hl rfl) rfl ?_
    clear hl a; intro a hl
    refine d_take (i := 5) hl rfl (by kernel_rfl) (by kernel_rfl) (by kernel_rfl) (by kernel_rfl) (by kernel_rfl) rfl ⟨_, _, rfl, rfl, rfl⟩ (fun _ _ _ h => h) hM (fun w hC => r_nilCheck hl rfl) rfl ?_
    clear hl a; intro a hl
    refine d_take (i := 6) hl rfl (by kernel_rfl) (by kernel_rfl) (by kernel_rfl) (by kernel_rfl) (by kernel_rfl) rfl ⟨_, _, rfl, rfl, rfl⟩ (fun _ _ _ h => h) hM (fun w hC => r_field hl rfl fld119_3) rfl ?_
    clear hl a; intro a hl
    refine d_take (i := 7) hl rfl (by kernel_rfl) (by kernel_rfl) (by kernel_rfl) (by kernel_rfl) (by kernel_rfl) rfl ⟨_, _, rfl, rfl, rfl⟩ (fun _ _ _ h => h) hM (fun w hC => r_indexA hl rfl rfl arr111 (by omega) (by omega) (by first | (simp only [Int.reduceToNat]; rfl) | exact toNat_add1 _ | exact toNat_add2 _ _ | exact toNat_emod _ _ | exact Int.toNat_natCast _ | rfl)) rfl ?_
    clear hl a; intro a hl
    refine d_take (i := 8) hl rfl (by kernel_rfl) (by kernel_rfl) (by kernel_rfl) (by kernel_rfl) (by kernel_rfl) rfl ⟨_, _, rfl, rfl, rfl⟩ (fun _ _ _ h => h) hM (fun w hC => r_loadC hl rfl one3 hC (by repeat (first | exact find_head | apply find_tail)) (by exact ld_size _ _ (by omega))) rfl ?_
    clear hl a; intro a hl
    try rw [hg] at hl
    refine d_take (i := 9) hl rfl (by kernel_rfl) (by kernel_rfl) (by kernel_rfl) (by kernel_rfl) (by kernel_rfl) rfl ⟨_, _, rfl, rfl, rfl⟩ (fun _ _ _ h => h) hM (fun w hC => r_gtr hl rfl rfl) rfl ?_
    clear hl a; intro a hl
    refine d_take (i := 10) hl rfl (by kernel_rfl) (by kernel_rfl) (by kernel_rfl) (by kernel_rfl) (by kernel_rfl) rfl trivial (fun _ _ _ h => h) hM (fun w hC => r_pickT hl rfl rfl) rfl ?_
    clear hl a; intro a hl
    refine d_take (i := 11) hl rfl (by kernel_rfl) (by kernel_rfl) (by kernel_rfl) (by kernel_rfl) (by kernel_rfl) rfl trivial (fun _ _ _ h => h) hM (fun w hC => r_move hl rfl) rfl ?_
    clear hl a; intro a hl
    refine sl_split (t := 19) hl rfl ?_ ?_
    · intro hg2; clear hl; intro hl
      try simp only [decide_eq_true_eq, decide_eq_false_iff_not, Bool.not_eq_true', Bool.not_eq_false', Bool.not_eq_true, Bool.not_eq_false, Bool.and_eq_true, Bool.or_eq_true, Bool.and_eq_false_iff, Bool.or_eq_false_iff, Bool.not_not, ne_eq, Int.not_lt, Int.not_le, Decidable.not_not, beq_iff_eq, bne_iff_ne] at hg2
      refine d_take (i := 12) hl rfl (by kernel_rfl) (by kernel_rfl) (by kernel_rfl) (by kernel_rfl) (by kernel_rfl) rfl ⟨_, _, rfl, rfl, rfl⟩ (fun _ _ _ h => h) hM (fun w hC => r_move hl rfl) rfl ?_
      clear hl a; intro a hl
      refine d_take (i := 13) hl rfl (by kernel_rfl) (by kernel_rfl) (by kernel_rfl) (by kernel_rfl) (by kernel_rfl) rfl ⟨_, _, rfl, rfl, rfl⟩ (fun _ _ _ h => h) hM (fun w hC => r_move hl rfl) rfl ?_
      clear hl a; intro a hl
      refine d_take (i := 14) hl rfl (by kernel_rfl) (by kernel_rfl) (by kernel_rfl) (by kernel_rfl) (by kernel_rfl) rfl ⟨_, _, rfl, rfl, rfl⟩ (fun _ _ _ h => h) hM (fun w hC => r_nilCheck hl rfl) rfl ?_
      clear hl a; intro a hl
      refine d_take (i := 15) hl rfl (by kernel_rfl) (by kernel_rfl) (by kernel_rfl) (by kernel_rfl) (by kernel_rfl) rfl ⟨_, _, rfl, rfl, rfl⟩ (fun _ _ _ h => h) hM (fun w hC => r_field hl rfl fld119_1) rfl ?_
      clear hl a; intro a hl
      refine d_take (i := 16) hl rfl (by kernel_rfl) (by kernel_rfl) (by kernel_rfl) (by kernel_rfl) (by kernel_rfl) rfl ⟨_, _, rfl, rfl, rfl⟩ (fun _ _ _ h => h) hM (fun w hC => r_indexA hl rfl rfl arr109 (by omega) (by omega) (by first | (simp only [Int.reduceToNat]; rfl) | exact toNat_add1 _ | exact toNat_add2 _ _ | exact toNat_emod _ _ | exact Int.toNat_natCast _ | rfl)) rfl ?_
      clear hl a; intro a hl
      refine d_take (i := 17) hl rfl (by kernel_rfl) (by kernel_rfl) (by kernel_rfl) (by kernel_rfl) (by kernel_rfl) rfl ⟨_, _, rfl, rfl, rfl⟩ (fun _ _ _ h => h) hM (fun w hC => r_loadC hl rfl one32 hC (by repeat (first | exact find_head | apply find_tail)) (by exact ld_gen _ _ (by omega))) rfl ?_
      clear hl a; intro a hl
      try rw [hg] at hl
      refine d_take (i := 18) hl rfl (by kernel_rfl) (by kernel_rfl) (by kernel_rfl) (by kernel_rfl) (by kernel_rfl) rfl ⟨_, _, rfl, rfl, rfl⟩ (fun _ _ _ h => h) hM (fun w hC => r_move hl rfl) rfl ?_
      clear hl a; intro a hl
      refine d_one (i := 19) (by kernel_rfl) rfl ?_
      try clear hM
      refine id (w_call hl hh rfl ⟨_, _, rfl, rfl, rfl⟩ rfl cal59 rfl (refGen_spec ad (by omega)) (by repeat (first | exact keeps_nil | apply keeps_cons (by repeat (first | exact find_head | apply find_tail)) (by first  | rfl) | exact keeps_self | apply keeps_mv)) trivial ?_)
      clear hl hh a w; intro vc Fc a w hR hl hh
      obtain ⟨rfl, rfl⟩ := hR
      try simp only [List.cons_append, List.nil_append] at hh
      have hM : Mem [(b, C (arrL 16391 (encM (m))) 119)] w := (by repeat (first | exact Mem.nil | refine Mem.cons hh.mem (by repeat (first | exact find_head | apply find_tail)) ?_ | refine Mem.consR hh (by assumption) (by simp) ?_))
      refine d_step (fun _ => hM) ?_
      refine d_takeL (i := 20) hl rfl (by kernel_rfl) (by kernel_rfl) (by kernel_rfl) (by kernel_rfl) (by kernel_rfl) rfl ⟨_, _, rfl, rfl, rfl⟩ (fun _ _ _ h => h) (fun w => r_eql hl rfl rfl) rfl ?_
      clear hl a; intro a hl
      refine d_takeL (i := 21) hl rfl (by kernel_rfl) (by kernel_rfl) (by kernel_rfl) (by kernel_rfl) (by kernel_rfl) rfl trivial (fun _ _ _ h => h) (fun w => r_pickT hl rfl rfl) rfl ?_
      clear hl a; intro a hl
      refine d_takeL (i := 22) hl rfl (by kernel_rfl) (by kernel_rfl) (by kernel_rfl) (by kernel_rfl) (by kernel_rfl) rfl trivial (fun _ _ _ h => h) (fun w => r_assign hl rfl) rfl ?_
      clear hl a; intro a hl
      refine d_done (by kernel_rfl) ?_
      try clear hM
      have hl2 := hl.add (t := 4) (hl.nil) rfl; clear hl; have hl := hl2; clear hl2
      refine then_normal ?_
      refine wp_ret ?_
      refine f_ret1 (F' := [(b, C (arrL 16391 (encM (m))) 119)]) hl hh rfl rfl (by repeat (first | exact keeps_nil | apply keeps_cons (by repeat (first | exact find_head | apply find_tail)) (by first  | rfl) | exact keeps_self | apply keeps_mv)) ?_
      exact ⟨rfl, rfl⟩
    · intro hg2; clear hl; intro hl
      try simp only [decide_eq_true_eq, decide_eq_false_iff_not, Bool.not_eq_true', Bool.not_eq_false', Bool.not_eq_true, Bool.not_eq_false, Bool.and_eq_true, Bool.or_eq_true, Bool.and_eq_false_iff, Bool.or_eq_false_iff, Bool.not_not, ne_eq, Int.not_lt, Int.not_le, Decidable.not_not, beq_iff_eq, bne_iff_ne] at hg2
      exfalso; omega
  · intro hg1; clear hl; intro hl
    try simp only [decide_eq_true_eq, decide_eq_false_iff_not, Bool.not_eq_true', Bool.not_eq_false', Bool.not_eq_true, Bool.not_eq_false, Bool.and_eq_true, Bool.or_eq_true, Bool.and_eq_false_iff, Bool.or_eq_false_iff, Bool.not_not, ne_eq, Int.not_lt, Int.not_le, Decidable.not_not, beq_iff_eq, bne_iff_ne] at hg1
    exfalso; omega

set_option maxHeartbeats 1000000 in
theorem liveCells_spec (b : Nat) (m : MS) (lo hi : Nat) (hlo : lo ≤ hi) (hhi : hi ≤ 4096) (hlv : ∀ c, c < 4096 → m.live c = decide (lo ≤ c ∧ c < hi)) : Sp Tryf.prog 22 #[.pointer (some ⟨b, 0, none⟩)] [(b, C (arrL 16391 (encM (m))) 119)] (fun v F' => v = .int .i64 ((hi - lo : Nat) : Int) ∧ F' = [(b, C (arrL 16391 (encM (m))) 119)]) := by
  refine f_enter (args := [.pointer (some ⟨b, 0, none⟩)]) Tryf.func22 rfl Tryf.ntmps22 rfl ?_
  intro w0 w a hpre hl hh
  simp only [slotsFrom, Nat.reduceAdd] at hl
  refine c_seq ?_
  refine c_region ?_
  refine wl (wl_val hl rfl trivial (r_assign hl rfl) ?_)
  clear hl a; intro a hl
  refine w_nil ?_
  have hl2 := hl.add (t := 0) (hl.nil) rfl; clear hl; have hl := hl2; clear hl2
  refine then_normal ?_
  refine c_seq ?_
  refine c_region ?_
  refine wl (wl_val hl rfl trivial (r_assign hl rfl) ?_)
  clear hl a; intro a hl
  refine w_nil ?_
  have hl2 := hl.add (t := 0) (hl.add (t := 3) (hl.nil) rfl) rfl; clear hl; have hl := hl2; clear hl2
  refine then_normal ?_
  refine c_seq ?_
  refine c_seq ?_
  refine c_region ?_
  refine wl (wl_val hl rfl trivial (r_move hl rfl) ?_)
  clear hl a; intro a hl
  refine wl (wl_val hl rfl trivial (r_nilCheck hl rfl) ?_)
  clear hl a; intro a hl
  refine wl (wl_val hl rfl trivial (r_field hl rfl fld119_2) ?_)
  clear hl a; intro a hl
  refine wl (w_loadA hl hh rfl trivial agg110 rfl (by repeat (first | exact find_head | apply find_tail)) (by exact ld_lives _) (by rw [arrL_length]) ?_)
  clear hl a; intro a hl
  refine wl (wl_val hl rfl trivial (r_move hl rfl) ?_)
  clear hl a; intro a hl
  refine w_nil ?_
  have hl2 := hl.add (t := 3) (hl.add (t := 9) (hl.add (t := 10) (hl.nil) rfl) rfl) rfl; clear hl; have hl := hl2; clear hl2
  refine then_normal ?_
  refine wp_block ?_
  obtain ⟨KS0, hKS0, hk⟩ := (hl.add (t := 9) (hl.nil) rfl).name
  obtain ⟨HS0, hHS0, hh2⟩ := hh.name (keeps_nil)
  refine c_loop (α := Nat) (fun i => 4096 - i) (fun i a w => (i ≤ 4096) ∧ Sl 18 ([(10, .int .i64 i), (3, .int .i64 (lcN lo hi i : Nat))] ++ KS0) a ∧ Has _ w0 ([] ++ HS0) w) 0 ⟨Nat.zero_le _, hl.addE (t := 10) (hl.addE (t := 3) (hk) rfl (by first | exact congrArg (fun z : Nat => Value.int .i64 (z : Int)) (show 0 = lcN lo hi 0 by unfold lcN; omega) | rfl)) rfl (by first | exact congrArg (fun z : Nat => Value.int .i64 (z : Int)) (show 0 = lcN lo hi 0 by unfold lcN; omega) | rfl), hh2⟩ ?_
  clear hk hh2 hl hh a w
  intro i a w hI
  obtain ⟨hi9, hl, hh⟩ := hI
  subst hKS0; subst hHS0
  simp only [List.cons_append, List.nil_append, List.append_nil] at hl hh
  have hle9 : lcN lo hi i ≤ 4096 := by (unfold lcN; omega)
  refine c_seq ?_
  refine c_region ?_
  refine wl (wl_val hl rfl trivial (r_lss hl rfl rfl) ?_)
  clear hl a; intro a hl
  refine w_nil ?_
  have hl2 := hl.add (t := 3) (hl.add (t := 9) (hl.add (t := 10) (hl.add (t := 11) (hl.nil) rfl) rfl) rfl) rfl; clear hl; have hl := hl2; clear hl2
  refine then_normal ?_
  refine c_seq ?_
  refine c_cond hl rfl ?_ ?_
  · intro hc0
    try simp only [decide_eq_true_eq, decide_eq_false_iff_not, Bool.not_eq_true', Bool.not_eq_false', Bool.not_eq_true, Bool.not_eq_false, Bool.and_eq_true, Bool.or_eq_true, Bool.and_eq_false_iff, Bool.or_eq_false_iff, Bool.not_not, ne_eq, Int.not_lt, Int.not_le, Decidable.not_not, beq_iff_eq, bne_iff_ne] at hc0
    refine wp_skip ?_
    refine then_normal ?_
    refine c_seq ?_
    refine wp_block ?_
    refine c_seq ?_
    refine c_region ?_
    refine wl (wl_val hl rfl trivial (r_indexAgg hl rfl rfl arrT110 one4 (by omega) (by omega) (by first | (simp only [Int.reduceToNat]; rfl) | exact toNat_add1 _ | exact toNat_add2 _ _ | exact toNat_emod _ _ | exact Int.toNat_natCast _ | rfl) (by rw [Nat.mul_one]; exact (arrL_get (by omega)))) ?_)
    clear hl a; intro a hl
    refine wl (wl_val hl rfl trivial (r_assign hl rfl) ?_)
    clear hl a; intro a hl
    refine w_nil ?_
    have hl2 := hl.add (t := 3) (hl.add (t := 5) (hl.add (t := 9) (hl.add (t := 10) (hl.nil) rfl) rfl) rfl) rfl; clear hl; have hl := hl2; clear hl2
    refine then_normal ?_
    refine c_seq ?_
    refine c_region ?_
    refine wl (wl_val hl rfl trivial (r_move hl rfl) ?_)
    clear hl a; intro a hl
    refine w_nil ?_
    have hl2 := hl.add (t := 3) (hl.add (t := 9) (hl.add (t := 10) (hl.add (t := 13) (hl.nil) rfl) rfl) rfl) rfl; clear hl; have hl := hl2; clear hl2
    refine then_normal ?_
    refine c_cond hl rfl ?_ ?_
    · intro hc1
      try simp only [decide_eq_true_eq, decide_eq_false_iff_not, Bool.not_eq_true', Bool.not_eq_false', Bool.not_eq_true, Bool.not_eq_false, Bool.and_eq_true, Bool.or_eq_true, Bool.and_eq_false_iff, Bool.or_eq_false_iff, Bool.not_not, ne_eq, Int.not_lt, Int.not_le, Decidable.not_not, beq_iff_eq, bne_iff_ne] at hc1
      rw [hlv i (by omega)] at hc1
      have hcd := of_decide_eq_true hc1
      have hcn : ((lcN lo hi i : Nat) : Int) + 1 = ((lcN lo hi (i + 1) : Nat) : Int) := by (unfold lcN; omega)
      refine c_region ?_
      refine wl (wl_val hl rfl trivial (r_move hl rfl) ?_)
      clear hl a; intro a hl
      first | refine wl (wl_val hl rfl trivial (r_add hl rfl rfl (by simp only [Fits]; omega)) ?_) | refine wl (wl_val hl rfl trivial (r_addW hl rfl rfl) ?_)
      clear hl a; intro a hl
      refine wl (wl_val hl rfl trivial (r_assign hl rfl) ?_)
      clear hl a; intro a hl
      refine w_nil ?_
      have hl2 := hl.add (t := 3) (hl.add (t := 9) (hl.add (t := 10) (hl.nil) rfl) rfl) rfl; clear hl; have hl := hl2; clear hl2
      refine blk_normal ?_
      refine then_normal ?_
      refine c_region ?_
      first | refine wl (wl_val hl rfl trivial (r_add hl rfl rfl (by simp only [Fits]; omega)) ?_) | refine wl (wl_val hl rfl trivial (r_addW hl rfl rfl) ?_)
      clear hl a; intro a hl
      refine wl (wl_val hl rfl trivial (r_move hl rfl) ?_)
      clear hl a; intro a hl
      refine w_nil ?_
      have hl2 := hl.add (t := 3) (hl.add (t := 9) (hl.add (t := 10) (hl.nil) rfl) rfl) rfl; clear hl; have hl := hl2; clear hl2
      refine then_normal ?_
      refine ⟨i + 1, (by omega), (by omega), hl.addE (t := 10) (hl.addE (t := 3) (hl.addE (t := 9) (hl.nil) rfl (by first | rfl | rfl | (rw [hcn]) | exact congrArg (Value.int .i64) hcn)) rfl (by first | rfl | rfl | (rw [hcn]) | exact congrArg (Value.int .i64) hcn)) rfl (by first | rfl | rfl | (rw [hcn]) | exact congrArg (Value.int .i64) hcn), hh.keep (by repeat (first | exact keeps_nil | apply keeps_cons (by repeat (first | exact find_head | apply find_tail)) (by first  | rfl) | exact keeps_self | apply keeps_mv))⟩
    · intro hc1
      try simp only [decide_eq_true_eq, decide_eq_false_iff_not, Bool.not_eq_true', Bool.not_eq_false', Bool.not_eq_true, Bool.not_eq_false, Bool.and_eq_true, Bool.or_eq_true, Bool.and_eq_false_iff, Bool.or_eq_false_iff, Bool.not_not, ne_eq, Int.not_lt, Int.not_le, Decidable.not_not, beq_iff_eq, bne_iff_ne] at hc1
      rw [hlv i (by omega)] at hc1
      have hcd := of_decide_eq_false hc1
      have hcn : ((lcN lo hi i : Nat) : Int) = ((lcN lo hi (i + 1) : Nat) : Int) := by (unfold lcN; omega)
      refine wp_skip ?_
      refine blk_normal ?_
      refine then_normal ?_
      refine c_region ?_
      first | refine wl (wl_val hl rfl trivial (r_add hl rfl rfl (by simp only [Fits]; omega)) ?_) | refine wl (wl_val hl rfl trivial (r_addW hl rfl rfl) ?_)
      clear hl a; intro a hl
      refine wl (wl_val hl rfl trivial (r_move hl rfl) ?_)
      clear hl a; intro a hl
      refine w_nil ?_
      have hl2 := hl.add (t := 3) (hl.add (t := 9) (hl.add (t := 10) (hl.nil) rfl) rfl) rfl; clear hl; have hl := hl2; clear hl2
      refine then_normal ?_
      refine ⟨i + 1, (by omega), (by omega), hl.addE (t := 10) (hl.addE (t := 3) (hl.addE (t := 9) (hl.nil) rfl (by first | rfl | rfl | (rw [hcn]) | exact congrArg (Value.int .i64) hcn)) rfl (by first | rfl | rfl | (rw [hcn]) | exact congrArg (Value.int .i64) hcn)) rfl (by first | rfl | rfl | (rw [hcn]) | exact congrArg (Value.int .i64) hcn), hh.keep (by repeat (first | exact keeps_nil | apply keeps_cons (by repeat (first | exact find_head | apply find_tail)) (by first  | rfl) | exact keeps_self | apply keeps_mv))⟩
  · intro hc0
    try simp only [decide_eq_true_eq, decide_eq_false_iff_not, Bool.not_eq_true', Bool.not_eq_false', Bool.not_eq_true, Bool.not_eq_false, Bool.and_eq_true, Bool.or_eq_true, Bool.and_eq_false_iff, Bool.or_eq_false_iff, Bool.not_not, ne_eq, Int.not_lt, Int.not_le, Decidable.not_not, beq_iff_eq, bne_iff_ne] at hc0
    have hfin : lcN lo hi i = hi - lo := by (unfold lcN; omega)
    refine wp_exit ?_
    refine then_exit ?_
    refine then_exit ?_
    refine blk_exit ?_
    refine then_normal ?_
    refine c_seq ?_
    refine c_region ?_
    refine wl (wl_val hl rfl trivial (r_move hl rfl) ?_)
    clear hl a; intro a hl
    refine wl (wl_val hl rfl trivial (r_assign hl rfl) ?_)
    clear hl a; intro a hl
    refine w_nil ?_
    have hl2 := hl.add (t := 2) (hl.nil) rfl; clear hl; have hl := hl2; clear hl2
    refine then_normal ?_
    refine wp_ret ?_
    refine f_ret1 (F' := [(b, C (arrL 16391 (encM (m))) 119)]) hl hh rfl rfl (by repeat (first | exact keeps_nil | apply keeps_cons (by repeat (first | exact find_head | apply find_tail)) (by first  | rfl) | exact keeps_self | apply keeps_mv)) ?_
    exact ⟨by rw [hfin], rfl⟩

set_option maxHeartbeats 1000000 in
theorem even_spec (n : Nat) (hn : n ≤ 1000) : Sp Tryf.prog 63 #[.int .i64 n] [] (fun v F' => v = .int .i64 ((n + n % 2 : Nat) : Int) ∧ F' = []) := by
  refine f_enter (args := [.int .i64 n]) Tryf.func63 rfl Tryf.ntmps63 rfl ?_
  intro w0 w a hpre hl hh
  simp only [slotsFrom, Nat.reduceAdd] at hl
  refine c_seq ?_
  refine c_region ?_
  refine wl (wl_val hl rfl trivial (r_assign hl rfl) ?_)
  clear hl a; intro a hl
  refine w_nil ?_
  have hl2 := hl.add (t := 0) (hl.nil) rfl; clear hl; have hl := hl2; clear hl2
  refine then_normal ?_
  refine c_seq ?_
  refine c_region ?_
  refine wl (wl_val hl rfl trivial (r_move hl rfl) ?_)
  clear hl a; intro a hl
  refine wl (wl_val hl rfl trivial (r_move hl rfl) ?_)
  clear hl a; intro a hl
  first | refine wl (wl_val hl rfl trivial (r_rem hl rfl rfl (by omega) (by omega)) ?_) | refine wl (wl_val hl rfl trivial (r_remT hl rfl rfl (by omega)) ?_)
  clear hl a; intro a hl
  first | refine wl (wl_val hl rfl trivial (r_add hl rfl rfl (by simp only [Fits]; omega)) ?_) | refine wl (wl_val hl rfl trivial (r_addW hl rfl rfl) ?_)
  clear hl a; intro a hl
  refine wl (wl_val hl rfl trivial (r_assign hl rfl) ?_)
  clear hl a; intro a hl
  refine w_nil ?_
  have hl2 := hl.add (t := 2) (hl.nil) rfl; clear hl; have hl := hl2; clear hl2
  refine then_normal ?_
  refine wp_ret ?_
  refine f_ret1 (F' := []) hl hh rfl rfl (by repeat (first | exact keeps_nil | apply keeps_cons (by repeat (first | exact find_head | apply find_tail)) (by first  | rfl) | exact keeps_self | apply keeps_mv)) ?_
  exact ⟨congrArg (Value.int .i64) (by omega), rfl⟩

set_option maxHeartbeats 1000000 in
theorem cells_spec (k : Bool) : Sp Tryf.prog 56 #[.agg ⟨[.int .u64 ((65536 + hd k : Nat) : Int), .int .u64 ((65536 + nd k 0 : Nat) : Int), .int .u64 ((65536 + nd k 1 : Nat) : Int), .int .u64 ((65536 + nd k 2 : Nat) : Int), .int .u64 ((65536 + nd k 3 : Nat) : Int), .int .u64 ((65536 + nd k 4 : Nat) : Int), .int .u64 ((65536 + nd k 5 : Nat) : Int), .int .u64 ((65536 + nd k 6 : Nat) : Int), .int .i64 (wd k : Int)]⟩] [] (fun v F' => v = .int .i64 ((8 + 7 * ((1 + 8 * wd k) + (1 + 8 * wd k) % 2) : Nat) : Int) ∧ F' = []) := by
  refine f_enter (args := [.agg ⟨[.int .u64 ((65536 + hd k : Nat) : Int), .int .u64 ((65536 + nd k 0 : Nat) : Int), .int .u64 ((65536 + nd k 1 : Nat) : Int), .int .u64 ((65536 + nd k 2 : Nat) : Int), .int .u64 ((65536 + nd k 3 : Nat) : Int), .int .u64 ((65536 + nd k 4 : Nat) : Int), .int .u64 ((65536 + nd k 5 : Nat) : Int), .int .u64 ((65536 + nd k 6 : Nat) : Int), .int .i64 (wd k : Int)]⟩]) Tryf.func56 rfl Tryf.ntmps56 rfl ?_
  intro w0 w a hpre hl hh
  have hwl := wd_le k
  simp only [slotsFrom, Nat.reduceAdd] at hl
  refine c_seq ?_
  refine c_region ?_
  refine wl (w_box hl hh rfl trivial rfl rfl ?_)
  clear hl hh a w; intro k1 a w hl hh
  refine wl (wl_val hl rfl trivial (r_assign hl rfl) ?_)
  clear hl a; intro a hl
  refine w_nil ?_
  have hl2 := hl.add (t := 1) (hl.nil) rfl; clear hl; have hl := hl2; clear hl2
  refine then_normal ?_
  refine c_seq ?_
  refine c_region ?_
  refine wl (wl_val hl rfl trivial (r_assign hl rfl) ?_)
  clear hl a; intro a hl
  refine w_nil ?_
  have hl2 := hl.add (t := 1) (hl.add (t := 3) (hl.nil) rfl) rfl; clear hl; have hl := hl2; clear hl2
  refine then_normal ?_
  refine c_seq ?_
  refine c_draw [(k1, C [.int .u64 ((65536 + hd k : Nat) : Int), .int .u64 ((65536 + nd k 0 : Nat) : Int), .int .u64 ((65536 + nd k 1 : Nat) : Int), .int .u64 ((65536 + nd k 2 : Nat) : Int), .int .u64 ((65536 + nd k 3 : Nat) : Int), .int .u64 ((65536 + nd k 4 : Nat) : Int), .int .u64 ((65536 + nd k 5 : Nat) : Int), .int .u64 ((65536 + nd k 6 : Nat) : Int), .int .i64 (wd k : Int)] 53)] [6, 7, 8, 9] mixed hh ?_
  clear hh w; intro w hh
  have hM : Mem [(k1, C [.int .u64 ((65536 + hd k : Nat) : Int), .int .u64 ((65536 + nd k 0 : Nat) : Int), .int .u64 ((65536 + nd k 1 : Nat) : Int), .int .u64 ((65536 + nd k 2 : Nat) : Int), .int .u64 ((65536 + nd k 3 : Nat) : Int), .int .u64 ((65536 + nd k 4 : Nat) : Int), .int .u64 ((65536 + nd k 5 : Nat) : Int), .int .u64 ((65536 + nd k 6 : Nat) : Int), .int .i64 (wd k : Int)] 53)] w := (by repeat (first | exact Mem.nil | refine Mem.cons hh.mem (by repeat (first | exact find_head | apply find_tail)) ?_ | refine Mem.consR hh (by assumption) (by simp) ?_))
  refine d_take (i := 0) hl rfl (by kernel_rfl) (by kernel_rfl) (by kernel_rfl) (by kernel_rfl) (by kernel_rfl) rfl trivial (fun _ _ _ h => h) hM (fun w hC => r_move hl rfl) rfl ?_
  clear hl a; intro a hl
  refine d_take (i := 2) hl rfl (by kernel_rfl) (by kernel_rfl) (by kernel_rfl) (by kernel_rfl) (by kernel_rfl) rfl trivial (fun _ _ _ h => h) hM (fun w hC => r_move hl rfl) rfl ?_
  clear hl a; intro a hl
  refine d_take (i := 3) hl rfl (by kernel_rfl) (by kernel_rfl) (by kernel_rfl) (by kernel_rfl) (by kernel_rfl) rfl trivial (fun _ _ _ h => h) hM (fun w hC => r_field hl rfl fld53_2) rfl ?_
  clear hl a; intro a hl
  refine d_take (i := 4) hl rfl (by kernel_rfl) (by kernel_rfl) (by kernel_rfl) (by kernel_rfl) (by kernel_rfl) rfl trivial (fun _ _ _ h => h) hM (fun w hC => r_loadC hl rfl one3 hC (by repeat (first | exact find_head | apply find_tail)) (by first | rfl)) rfl ?_
  clear hl a; intro a hl
  refine d_one (i := 1) (by kernel_rfl) rfl ?_
  try clear hM
  refine id (w_call hl hh rfl trivial rfl cal63 rfl (even_spec 7 (by omega)) (by repeat (first | exact keeps_nil | apply keeps_cons (by repeat (first | exact find_head | apply find_tail)) (by first  | rfl) | exact keeps_self | apply keeps_mv)) trivial ?_)
  clear hl hh a w; intro vc Fc a w hR hl hh
  obtain ⟨rfl, rfl⟩ := hR
  try simp only [List.cons_append, List.nil_append] at hh
  have hM : Mem [(k1, C [.int .u64 ((65536 + hd k : Nat) : Int), .int .u64 ((65536 + nd k 0 : Nat) : Int), .int .u64 ((65536 + nd k 1 : Nat) : Int), .int .u64 ((65536 + nd k 2 : Nat) : Int), .int .u64 ((65536 + nd k 3 : Nat) : Int), .int .u64 ((65536 + nd k 4 : Nat) : Int), .int .u64 ((65536 + nd k 5 : Nat) : Int), .int .u64 ((65536 + nd k 6 : Nat) : Int), .int .i64 (wd k : Int)] 53)] w := (by repeat (first | exact Mem.nil | refine Mem.cons hh.mem (by repeat (first | exact find_head | apply find_tail)) ?_ | refine Mem.consR hh (by assumption) (by simp) ?_))
  refine d_step (fun _ => hM) ?_
  refine d_one (i := 5) (by kernel_rfl) rfl ?_
  try clear hM
  refine id (w_call hl hh rfl trivial rfl cal61 rfl (nodeCells_spec (wd k) hwl.2) (by repeat (first | exact keeps_nil | apply keeps_cons (by repeat (first | exact find_head | apply find_tail)) (by first  | rfl) | exact keeps_self | apply keeps_mv)) trivial ?_)
  clear hl hh a w; intro vc Fc a w hR hl hh
  obtain ⟨rfl, rfl⟩ := hR
  try simp only [List.cons_append, List.nil_append] at hh
  have hM : Mem [(k1, C [.int .u64 ((65536 + hd k : Nat) : Int), .int .u64 ((65536 + nd k 0 : Nat) : Int), .int .u64 ((65536 + nd k 1 : Nat) : Int), .int .u64 ((65536 + nd k 2 : Nat) : Int), .int .u64 ((65536 + nd k 3 : Nat) : Int), .int .u64 ((65536 + nd k 4 : Nat) : Int), .int .u64 ((65536 + nd k 5 : Nat) : Int), .int .u64 ((65536 + nd k 6 : Nat) : Int), .int .i64 (wd k : Int)] 53)] w := (by repeat (first | exact Mem.nil | refine Mem.cons hh.mem (by repeat (first | exact find_head | apply find_tail)) ?_ | refine Mem.consR hh (by assumption) (by simp) ?_))
  refine d_step (fun _ => hM) ?_
  refine d_one (i := 6) (by kernel_rfl) rfl ?_
  try clear hM
  refine id (w_call hl hh rfl trivial rfl cal63 rfl (even_spec (1 + 8 * wd k) (by omega)) (by repeat (first | exact keeps_nil | apply keeps_cons (by repeat (first | exact find_head | apply find_tail)) (by first  | rfl) | exact keeps_self | apply keeps_mv)) trivial ?_)
  clear hl hh a w; intro vc Fc a w hR hl hh
  obtain ⟨rfl, rfl⟩ := hR
  try simp only [List.cons_append, List.nil_append] at hh
  refine d_step (fun h => absurd h (by decide)) ?_
  first | refine d_takeL (i := 7) hl rfl (by kernel_rfl) (by kernel_rfl) (by kernel_rfl) (by kernel_rfl) (by kernel_rfl) rfl trivial (fun _ _ _ h => h) (fun w => r_mul hl rfl rfl (by simp only [Fits]; omega)) rfl ?_ | refine d_takeL (i := 7) hl rfl (by kernel_rfl) (by kernel_rfl) (by kernel_rfl) (by kernel_rfl) (by kernel_rfl) rfl trivial (fun _ _ _ h => h) (fun w => r_mulW hl rfl rfl) rfl ?_
  clear hl a; intro a hl
  first | refine d_takeL (i := 8) hl rfl (by kernel_rfl) (by kernel_rfl) (by kernel_rfl) (by kernel_rfl) (by kernel_rfl) rfl trivial (fun _ _ _ h => h) (fun w => r_add hl rfl rfl (by simp only [Fits]; omega)) rfl ?_ | refine d_takeL (i := 8) hl rfl (by kernel_rfl) (by kernel_rfl) (by kernel_rfl) (by kernel_rfl) (by kernel_rfl) rfl trivial (fun _ _ _ h => h) (fun w => r_addW hl rfl rfl) rfl ?_
  clear hl a; intro a hl
  refine d_takeL (i := 9) hl rfl (by kernel_rfl) (by kernel_rfl) (by kernel_rfl) (by kernel_rfl) (by kernel_rfl) rfl trivial (fun _ _ _ h => h) (fun w => r_assign hl rfl) rfl ?_
  clear hl a; intro a hl
  refine d_done (by kernel_rfl) ?_
  try clear hM
  have hl2 := hl.add (t := 2) (hl.nil) rfl; clear hl; have hl := hl2; clear hl2
  refine then_normal ?_
  refine wp_ret ?_
  refine f_ret1 (F' := []) hl hh rfl rfl (by repeat (first | exact keeps_nil | apply keeps_cons (by repeat (first | exact find_head | apply find_tail)) (by first  | rfl) | exact keeps_self | apply keeps_mv)) ?_
  exact ⟨congrArg (Value.int .i64) (by omega), rfl⟩

set_option maxHeartbeats 1000000 in
theorem cellsD_spec : Sp Tryf.prog 37 #[.agg ⟨[.int .u64 ((65536 + hd false : Nat) : Int), .int .u64 ((65536 + nd false 0 : Nat) : Int), .int .u64 ((65536 + nd false 1 : Nat) : Int), .int .u64 ((65536 + nd false 2 : Nat) : Int), .int .u64 ((65536 + nd false 3 : Nat) : Int), .int .u64 ((65536 + nd false 4 : Nat) : Int), .int .u64 ((65536 + nd false 5 : Nat) : Int), .int .u64 ((65536 + nd false 6 : Nat) : Int), .int .i64 (wd false : Int)]⟩] [] (fun v F' => v = .int .i64 78 ∧ F' = []) := by
  refine f_enter (args := [.agg ⟨[.int .u64 ((65536 + hd false : Nat) : Int), .int .u64 ((65536 + nd false 0 : Nat) : Int), .int .u64 ((65536 + nd false 1 : Nat) : Int), .int .u64 ((65536 + nd false 2 : Nat) : Int), .int .u64 ((65536 + nd false 3 : Nat) : Int), .int .u64 ((65536 + nd false 4 : Nat) : Int), .int .u64 ((65536 + nd false 5 : Nat) : Int), .int .u64 ((65536 + nd false 6 : Nat) : Int), .int .i64 (wd false : Int)]⟩]) Tryf.func37 rfl Tryf.ntmps37 rfl ?_
  intro w0 w a hpre hl hh
  simp only [slotsFrom, Nat.reduceAdd] at hl
  refine c_seq ?_
  refine c_region ?_
  refine wl (w_box hl hh rfl trivial rfl rfl ?_)
  clear hl hh a w; intro k1 a w hl hh
  refine wl (wl_val hl rfl trivial (r_assign hl rfl) ?_)
  clear hl a; intro a hl
  refine w_nil ?_
  have hl2 := hl.add (t := 1) (hl.nil) rfl; clear hl; have hl := hl2; clear hl2
  refine then_normal ?_
  refine c_seq ?_
  refine c_region ?_
  refine wl (wl_val hl rfl trivial (r_field hl rfl fld55_0) ?_)
  clear hl a; intro a hl
  refine wl (w_loadA hl hh rfl trivial agg53 rfl (by repeat (first | exact find_head | apply find_tail)) (by first | (simp only [List.getElem?_cons_zero, List.getElem?_cons_succ, Value.cells, List.take_zero, List.take_succ_cons, List.take_nil, List.drop_zero, List.drop_succ_cons, List.drop_nil, List.length_cons, List.length_nil, List.cons_append, List.nil_append, List.append_nil, Nat.zero_add, Nat.add_zero, Nat.reduceAdd, Nat.reduceBEq, Nat.reduceEqDiff, Nat.ble, BEq.rfl, Bool.and_true, Bool.and_self, cond_true, beq_self_eq_true]; rfl)) (by first | rfl | (simp; done)) ?_)
  clear hl a; intro a hl
  refine wl (w_call hl hh rfl trivial rfl cal56 rfl (cells_spec false) (by repeat (first | exact keeps_nil | apply keeps_cons (by repeat (first | exact find_head | apply find_tail)) (by first  | rfl) | exact keeps_self | apply keeps_mv)) trivial ?_)
  clear hl hh a w; intro vc Fc a w hR hl hh
  obtain ⟨rfl, rfl⟩ := hR
  try simp only [List.cons_append, List.nil_append] at hh
  refine wl (wl_val hl rfl trivial (r_assign hl rfl) ?_)
  clear hl a; intro a hl
  refine w_nil ?_
  have hl2 := hl.add (t := 2) (hl.nil) rfl; clear hl; have hl := hl2; clear hl2
  refine then_normal ?_
  refine wp_ret ?_
  refine f_ret1 (F' := []) hl hh rfl rfl (by repeat (first | exact keeps_nil | apply keeps_cons (by repeat (first | exact find_head | apply find_tail)) (by first  | rfl) | exact keeps_self | apply keeps_mv)) ?_
  exact ⟨rfl, rfl⟩

set_option maxHeartbeats 1000000 in
theorem cellsB_spec : Sp Tryf.prog 38 #[.agg ⟨[.int .u64 ((65536 + hd true : Nat) : Int), .int .u64 ((65536 + nd true 0 : Nat) : Int), .int .u64 ((65536 + nd true 1 : Nat) : Int), .int .u64 ((65536 + nd true 2 : Nat) : Int), .int .u64 ((65536 + nd true 3 : Nat) : Int), .int .u64 ((65536 + nd true 4 : Nat) : Int), .int .u64 ((65536 + nd true 5 : Nat) : Int), .int .u64 ((65536 + nd true 6 : Nat) : Int), .int .i64 (wd true : Int)]⟩] [] (fun v F' => v = .int .i64 134 ∧ F' = []) := by
  refine f_enter (args := [.agg ⟨[.int .u64 ((65536 + hd true : Nat) : Int), .int .u64 ((65536 + nd true 0 : Nat) : Int), .int .u64 ((65536 + nd true 1 : Nat) : Int), .int .u64 ((65536 + nd true 2 : Nat) : Int), .int .u64 ((65536 + nd true 3 : Nat) : Int), .int .u64 ((65536 + nd true 4 : Nat) : Int), .int .u64 ((65536 + nd true 5 : Nat) : Int), .int .u64 ((65536 + nd true 6 : Nat) : Int), .int .i64 (wd true : Int)]⟩]) Tryf.func38 rfl Tryf.ntmps38 rfl ?_
  intro w0 w a hpre hl hh
  simp only [slotsFrom, Nat.reduceAdd] at hl
  refine c_seq ?_
  refine c_region ?_
  refine wl (w_box hl hh rfl trivial rfl rfl ?_)
  clear hl hh a w; intro k1 a w hl hh
  refine wl (wl_val hl rfl trivial (r_assign hl rfl) ?_)
  clear hl a; intro a hl
  refine w_nil ?_
  have hl2 := hl.add (t := 1) (hl.nil) rfl; clear hl; have hl := hl2; clear hl2
  refine then_normal ?_
  refine c_seq ?_
  refine c_region ?_
  refine wl (wl_val hl rfl trivial (r_field hl rfl fld56_0) ?_)
  clear hl a; intro a hl
  refine wl (w_loadA hl hh rfl trivial agg53 rfl (by repeat (first | exact find_head | apply find_tail)) (by first | (simp only [List.getElem?_cons_zero, List.getElem?_cons_succ, Value.cells, List.take_zero, List.take_succ_cons, List.take_nil, List.drop_zero, List.drop_succ_cons, List.drop_nil, List.length_cons, List.length_nil, List.cons_append, List.nil_append, List.append_nil, Nat.zero_add, Nat.add_zero, Nat.reduceAdd, Nat.reduceBEq, Nat.reduceEqDiff, Nat.ble, BEq.rfl, Bool.and_true, Bool.and_self, cond_true, beq_self_eq_true]; rfl)) (by first | rfl | (simp; done)) ?_)
  clear hl a; intro a hl
  refine wl (w_call hl hh rfl trivial rfl cal56 rfl (cells_spec true) (by repeat (first | exact keeps_nil | apply keeps_cons (by repeat (first | exact find_head | apply find_tail)) (by first  | rfl) | exact keeps_self | apply keeps_mv)) trivial ?_)
  clear hl hh a w; intro vc Fc a w hR hl hh
  obtain ⟨rfl, rfl⟩ := hR
  try simp only [List.cons_append, List.nil_append] at hh
  refine wl (wl_val hl rfl trivial (r_assign hl rfl) ?_)
  clear hl a; intro a hl
  refine w_nil ?_
  have hl2 := hl.add (t := 2) (hl.nil) rfl; clear hl; have hl := hl2; clear hl2
  refine then_normal ?_
  refine wp_ret ?_
  refine f_ret1 (F' := []) hl hh rfl rfl (by repeat (first | exact keeps_nil | apply keeps_cons (by repeat (first | exact find_head | apply find_tail)) (by first  | rfl) | exact keeps_self | apply keeps_mv)) ?_
  exact ⟨rfl, rfl⟩

set_option maxHeartbeats 1000000 in
theorem free_spec (b : Nat) (m : MS) (ad s : Nat) (hs : m.size ad = (s : Int)) (h0 : 0 < s) (h4 : ad + s ≤ 4096) (hg : m.gen ad = 1) : Sp Tryf.prog 57 #[.pointer (some ⟨b, 0, none⟩), .int .u64 ((65536 + ad : Nat) : Int)] [(b, C (arrL 16391 (encM (m))) 119)] (fun v F' => v = .int .u8 0 ∧ F' = [(b, C (arrL 16391 (encM (freeF m ad s))) 119)]) := by
  refine f_enter (args := [.pointer (some ⟨b, 0, none⟩), .int .u64 ((65536 + ad : Nat) : Int)]) Tryf.func57 rfl Tryf.ntmps57 rfl ?_
  intro w0 w a hpre hl hh
  simp only [slotsFrom, Nat.reduceAdd] at hl
  refine c_seq ?_
  refine c_region ?_
  refine wl (wl_val hl rfl trivial (r_assign hl rfl) ?_)
  clear hl a; intro a hl
  refine w_nil ?_
  have hl2 := hl.add (t := 0) (hl.add (t := 1) (hl.nil) rfl) rfl; clear hl; have hl := hl2; clear hl2
  refine then_normal ?_
  refine c_seq ?_
  refine c_region ?_
  refine wl (wl_val hl rfl trivial (r_move hl rfl) ?_)
  clear hl a; intro a hl
  refine wl (wl_val hl rfl trivial (r_nilCheck hl rfl) ?_)
  clear hl a; intro a hl
  refine wl (wl_val hl rfl trivial (r_field hl rfl fld119_4) ?_)
  clear hl a; intro a hl
  refine wl (w_load hl hh rfl trivial one3 rfl (by repeat (first | exact find_head | apply find_tail)) (by exact ld_cnt _) ?_)
  clear hl a; intro a hl
  try (have hs2 : (deadTo (freeM m ad) ad c).size ad = (s : Int) := hs; rw [hs2] at hl)
  refine wl (wl_val hl rfl trivial (r_addW hl rfl rfl) ?_)
  clear hl a; intro a hl
  refine wl (wl_val hl rfl trivial (r_nilCheck hl rfl) ?_)
  clear hl a; intro a hl
  refine wl (wl_val hl rfl trivial (r_field hl rfl fld119_4) ?_)
  clear hl a; intro a hl
  refine wl (w_store hl hh trivial one3 rfl rfl (by repeat (first | exact find_head | apply find_tail)) (by rw [arrL_length]; omega) (by first | rfl | assumption | (apply Row.one; assumption)) (by exact st_cnt _ _) ?_)
  clear hh w; intro w hh
  refine w_nil ?_
  have hl2 := hl.add (t := 0) (hl.add (t := 1) (hl.nil) rfl) rfl; clear hl; have hl := hl2; clear hl2
  refine then_normal ?_
  refine c_seq ?_
  refine c_region ?_
  refine wl (wl_val hl rfl trivial (r_move hl rfl) ?_)
  clear hl a; intro a hl
  refine wl (wl_val hl rfl trivial (r_move hl rfl) ?_)
  clear hl a; intro a hl
  refine wl (w_call hl hh rfl trivial rfl cal52 rfl (refAddr_spec _) (by repeat (first | exact keeps_nil | apply keeps_cons (by repeat (first | exact find_head | apply find_tail)) (by first  | rfl) | exact keeps_self | apply keeps_mv)) trivial ?_)
  clear hl hh a w; intro vc Fc a w hR hl hh
  obtain ⟨rfl, rfl⟩ := hR
  try simp only [List.cons_append, List.nil_append] at hh
  rw [ref_mod _ (by omega)] at hl
  refine wl (wl_val hl rfl trivial (r_build hl rfl zero117 bld117 (by simp only [fillL, setL, List.getElem?_cons_zero, List.getElem?_cons_succ, Value.cells, List.take_zero, List.take_succ_cons, List.take_nil, List.drop_zero, List.drop_succ_cons, List.drop_nil, List.length_cons, List.length_nil, List.cons_append, List.nil_append, List.append_nil, Nat.zero_add, Nat.add_zero, Nat.reduceAdd, Nat.reduceBEq, Nat.reduceEqDiff, Nat.ble, BEq.rfl, Bool.and_true, Bool.and_self, cond_true, beq_self_eq_true]; rfl)) ?_)
  clear hl a; intro a hl
  refine wl (wl_val hl rfl trivial (r_nilCheck hl rfl) ?_)
  clear hl a; intro a hl
  refine wl (wl_val hl rfl trivial (r_field hl rfl fld119_5) ?_)
  clear hl a; intro a hl
  refine wl (w_storeA hl hh trivial agg117 rfl rfl (by repeat (first | exact find_head | apply find_tail)) (by first | rfl | (simp; done)) (by rw [arrL_length]; decide) (by first | rfl | (simp; done)) (by exact st_last _ _ _ _ _ _ _) ?_)
  clear hh w; intro w hh
  refine w_nil ?_
  have hl2 := hl.add (t := 0) (hl.add (t := 1) (hl.nil) rfl) rfl; clear hl; have hl := hl2; clear hl2
  refine then_normal ?_
  refine c_seq ?_
  refine c_seq ?_
  refine c_region ?_
  refine wl (wl_val hl rfl trivial (r_move hl rfl) ?_)
  clear hl a; intro a hl
  refine wl (wl_val hl rfl trivial (r_move hl rfl) ?_)
  clear hl a; intro a hl
  refine wl (w_call hl hh rfl trivial rfl cal48 rfl (isLive_spec b (freeM m ad) ad (by omega) (by show 0 < m.size ad; omega) hg) (by repeat (first | exact keeps_nil | apply keeps_cons (by repeat (first | exact find_head | apply find_tail)) (by first  | rfl) | exact keeps_self | apply keeps_mv)) trivial ?_)
  clear hl hh a w; intro vc Fc a w hR hl hh
  obtain ⟨rfl, rfl⟩ := hR
  try simp only [List.cons_append, List.nil_append] at hh
  refine wl (wl_val hl rfl trivial (r_not hl rfl) ?_)
  clear hl a; intro a hl
  refine w_nil ?_
  have hl2 := hl.add (t := 0) (hl.add (t := 1) (hl.add (t := 23) (hl.nil) rfl) rfl) rfl; clear hl; have hl := hl2; clear hl2
  refine then_normal ?_
  refine c_cond hl rfl ?_ ?_
  · intro hc0
    try simp only [decide_eq_true_eq, decide_eq_false_iff_not, Bool.not_eq_true', Bool.not_eq_false', Bool.not_eq_true, Bool.not_eq_false, Bool.and_eq_true, Bool.or_eq_true, Bool.and_eq_false_iff, Bool.or_eq_false_iff, Bool.not_not, ne_eq, Int.not_lt, Int.not_le, Decidable.not_not, beq_iff_eq, bne_iff_ne] at hc0
    exfalso; first | omega | (simp at *; done)
  · intro hc0
    try simp only [decide_eq_true_eq, decide_eq_false_iff_not, Bool.not_eq_true', Bool.not_eq_false', Bool.not_eq_true, Bool.not_eq_false, Bool.and_eq_true, Bool.or_eq_true, Bool.and_eq_false_iff, Bool.or_eq_false_iff, Bool.not_not, ne_eq, Int.not_lt, Int.not_le, Decidable.not_not, beq_iff_eq, bne_iff_ne] at hc0
    refine wp_skip ?_
    refine then_normal ?_
    refine c_seq ?_
    refine c_region ?_
    refine wl (wl_val hl rfl trivial (r_move hl rfl) ?_)
    clear hl a; intro a hl
    refine wl (w_call hl hh rfl trivial rfl cal52 rfl (refAddr_spec _) (by repeat (first | exact keeps_nil | apply keeps_cons (by repeat (first | exact find_head | apply find_tail)) (by first  | rfl) | exact keeps_self | apply keeps_mv)) trivial ?_)
    clear hl hh a w; intro vc Fc a w hR hl hh
    obtain ⟨rfl, rfl⟩ := hR
    try simp only [List.cons_append, List.nil_append] at hh
    rw [ref_mod _ (by omega)] at hl
    first | refine wl (wl_val hl rfl trivial (r_conv hl rfl Tryf.underlying114 Tryf.underlying3 (by simp only [Fits]; omega)) ?_) | refine wl (wl_val hl rfl trivial (r_convW hl rfl Tryf.underlying114 Tryf.underlying3) ?_)
    clear hl a; intro a hl
    refine wl (wl_val hl rfl trivial (r_assign hl rfl) ?_)
    clear hl a; intro a hl
    refine w_nil ?_
    have hl2 := hl.add (t := 0) (hl.add (t := 1) (hl.add (t := 5) (hl.nil) rfl) rfl) rfl; clear hl; have hl := hl2; clear hl2
    refine then_normal ?_
    refine c_seq ?_
    refine c_seq ?_
    refine c_region ?_
    refine wl (wl_val hl rfl trivial (r_move hl rfl) ?_)
    clear hl a; intro a hl
    refine wl (wl_val hl rfl trivial (r_assign hl rfl) ?_)
    clear hl a; intro a hl
    refine w_nil ?_
    have hl2 := hl.add (t := 0) (hl.add (t := 1) (hl.add (t := 5) (hl.add (t := 6) (hl.nil) rfl) rfl) rfl) rfl; clear hl; have hl := hl2; clear hl2
    refine then_normal ?_
    refine wp_block ?_
    obtain ⟨KS0, hKS0, hk⟩ := (hl.add (t := 0) (hl.add (t := 1) (hl.add (t := 5) (hl.nil) rfl) rfl) rfl).name
    obtain ⟨HS0, hHS0, hh2⟩ := hh.name (keeps_cons (b := b) (o' := C (arrL 16391 (encM (deadTo (freeM m ad) ad ad))) 119) (by repeat (first | exact find_head | apply find_tail)) (by first | (rw [deadTo_zero]) | rfl) (keeps_nil))
    refine c_loop (α := Nat) (fun c => ad + s - c) (fun c a w => (ad ≤ c ∧ c ≤ ad + s) ∧ Sl 56 ([(6, .int .i64 c)] ++ KS0) a ∧ Has _ w0 ([(b, C (arrL 16391 (encM (deadTo (freeM m ad) ad c))) 119)] ++ HS0) w) ad ⟨⟨by omega, by omega⟩, hl.addE (t := 6) (hk) rfl (by first | rfl), hh2⟩ ?_
    clear hk hh2 hl hh a w
    intro c a w hI
    obtain ⟨⟨hcA, hcB⟩, hl, hh⟩ := hI
    subst hKS0; subst hHS0
    simp only [List.cons_append, List.nil_append, List.append_nil] at hl hh
    refine c_seq ?_
    refine c_seq ?_
    refine c_region ?_
    refine wl (wl_val hl rfl trivial (r_move hl rfl) ?_)
    clear hl a; intro a hl
    refine wl (wl_val hl rfl trivial (r_move hl rfl) ?_)
    clear hl a; intro a hl
    refine wl (wl_val hl rfl trivial (r_move hl rfl) ?_)
    clear hl a; intro a hl
    refine wl (wl_val hl rfl trivial (r_move hl rfl) ?_)
    clear hl a; intro a hl
    refine wl (wl_val hl rfl trivial (r_nilCheck hl rfl) ?_)
    clear hl a; intro a hl
    refine wl (wl_val hl rfl trivial (r_field hl rfl fld119_3) ?_)
    clear hl a; intro a hl
    refine wl (wl_val hl rfl trivial (r_indexA hl rfl rfl arr111 (by omega) (by omega) (by first | (simp only [Int.reduceToNat]; rfl) | exact toNat_add1 _ | exact toNat_add2 _ _ | exact toNat_emod _ _ | exact Int.toNat_natCast _ | rfl)) ?_)
    clear hl a; intro a hl
    refine wl (w_load hl hh rfl trivial one3 rfl (by repeat (first | exact find_head | apply find_tail)) (by exact ld_size _ _ (by omega)) ?_)
    clear hl a; intro a hl
    try (have hs2 : (deadTo (freeM m ad) ad c).size ad = (s : Int) := hs; rw [hs2] at hl)
    first | refine wl (wl_val hl rfl trivial (r_add hl rfl rfl (by simp only [Fits]; omega)) ?_) | refine wl (wl_val hl rfl trivial (r_addW hl rfl rfl) ?_)
    clear hl a; intro a hl
    refine wl (wl_val hl rfl trivial (r_lss hl rfl rfl) ?_)
    clear hl a; intro a hl
    refine w_nil ?_
    have hl2 := hl.add (t := 0) (hl.add (t := 1) (hl.add (t := 5) (hl.add (t := 6) (hl.add (t := 37) (hl.nil) rfl) rfl) rfl) rfl) rfl; clear hl; have hl := hl2; clear hl2
    refine then_normal ?_
    refine c_cond hl rfl ?_ ?_
    · intro hc1
      try simp only [decide_eq_true_eq, decide_eq_false_iff_not, Bool.not_eq_true', Bool.not_eq_false', Bool.not_eq_true, Bool.not_eq_false, Bool.and_eq_true, Bool.or_eq_true, Bool.and_eq_false_iff, Bool.or_eq_false_iff, Bool.not_not, ne_eq, Int.not_lt, Int.not_le, Decidable.not_not, beq_iff_eq, bne_iff_ne] at hc1
      refine wp_skip ?_
      refine then_normal ?_
      refine c_seq ?_
      refine wp_block ?_
      refine c_region ?_
      refine wl (wl_val hl rfl trivial (r_move hl rfl) ?_)
      clear hl a; intro a hl
      refine wl (wl_val hl rfl trivial (r_move hl rfl) ?_)
      clear hl a; intro a hl
      refine wl (wl_val hl rfl trivial (r_nilCheck hl rfl) ?_)
      clear hl a; intro a hl
      refine wl (wl_val hl rfl trivial (r_field hl rfl fld119_2) ?_)
      clear hl a; intro a hl
      refine wl (wl_val hl rfl trivial (r_indexA hl rfl rfl arr110 (by omega) (by omega) (by first | (simp only [Int.reduceToNat]; rfl) | exact toNat_add1 _ | exact toNat_add2 _ _ | exact toNat_emod _ _ | exact Int.toNat_natCast _ | rfl)) ?_)
      clear hl a; intro a hl
      refine wl (w_store hl hh trivial one4 rfl rfl (by repeat (first | exact find_head | apply find_tail)) (by rw [arrL_length]; omega) (by first | rfl | assumption | (apply Row.one; assumption)) (by exact st_live _ _ _ (by omega)) ?_)
      clear hh w; intro w hh
      refine w_nil ?_
      have hl2 := hl.add (t := 0) (hl.add (t := 1) (hl.add (t := 5) (hl.add (t := 6) (hl.nil) rfl) rfl) rfl) rfl; clear hl; have hl := hl2; clear hl2
      refine blk_normal ?_
      refine then_normal ?_
      refine c_region ?_
      refine wl (wl_val hl rfl trivial (r_move hl rfl) ?_)
      clear hl a; intro a hl
      first | refine wl (wl_val hl rfl trivial (r_add hl rfl rfl (by simp only [Fits]; omega)) ?_) | refine wl (wl_val hl rfl trivial (r_addW hl rfl rfl) ?_)
      clear hl a; intro a hl
      refine wl (wl_val hl rfl trivial (r_assign hl rfl) ?_)
      clear hl a; intro a hl
      refine w_nil ?_
      have hl2 := hl.add (t := 0) (hl.add (t := 1) (hl.add (t := 5) (hl.add (t := 6) (hl.nil) rfl) rfl) rfl) rfl; clear hl; have hl := hl2; clear hl2
      refine then_normal ?_
      refine ⟨c + 1, (by omega), ⟨by omega, by omega⟩, hl.addE (t := 6) (hl.addE (t := 0) (hl.addE (t := 1) (hl.addE (t := 5) (hl.nil) rfl (by first | rfl | rfl)) rfl (by first | rfl | rfl)) rfl (by first | rfl | rfl)) rfl (by first | rfl | rfl), hh.keep (by repeat (first | exact keeps_nil | apply keeps_cons (by repeat (first | exact find_head | apply find_tail)) (by first  | exact congrArg (fun q => C (arrL 16391 (encM q)) 119) (deadTo_succ _ _ _ hcA) | rfl) | exact keeps_self | apply keeps_mv))⟩
    · intro hc1
      try simp only [decide_eq_true_eq, decide_eq_false_iff_not, Bool.not_eq_true', Bool.not_eq_false', Bool.not_eq_true, Bool.not_eq_false, Bool.and_eq_true, Bool.or_eq_true, Bool.and_eq_false_iff, Bool.or_eq_false_iff, Bool.not_not, ne_eq, Int.not_lt, Int.not_le, Decidable.not_not, beq_iff_eq, bne_iff_ne] at hc1
      obtain rfl : c = ad + s := by omega
      refine wp_exit ?_
      refine then_exit ?_
      refine then_exit ?_
      refine blk_exit ?_
      refine then_normal ?_
      refine c_seq ?_
      refine c_region ?_
      refine wl (wl_val hl rfl trivial (r_move hl rfl) ?_)
      clear hl a; intro a hl
      refine wl (wl_val hl rfl trivial (r_move hl rfl) ?_)
      clear hl a; intro a hl
      refine wl (wl_val hl rfl trivial (r_nilCheck hl rfl) ?_)
      clear hl a; intro a hl
      refine wl (wl_val hl rfl trivial (r_field hl rfl fld119_3) ?_)
      clear hl a; intro a hl
      refine wl (wl_val hl rfl trivial (r_indexA hl rfl rfl arr111 (by omega) (by omega) (by first | (simp only [Int.reduceToNat]; rfl) | exact toNat_add1 _ | exact toNat_add2 _ _ | exact toNat_emod _ _ | exact Int.toNat_natCast _ | rfl)) ?_)
      clear hl a; intro a hl
      refine wl (w_store hl hh trivial one3 rfl rfl (by repeat (first | exact find_head | apply find_tail)) (by rw [arrL_length]; omega) (by first | rfl | assumption | (apply Row.one; assumption)) (by exact st_size _ _ _ (by omega)) ?_)
      clear hh w; intro w hh
      refine w_nil ?_
      have hl2 := hl.add (t := 0) (hl.add (t := 1) (hl.nil) rfl) rfl; clear hl; have hl := hl2; clear hl2
      refine then_normal ?_
      refine c_seq ?_
      refine c_region ?_
      refine wl (wl_val hl rfl trivial (r_move hl rfl) ?_)
      clear hl a; intro a hl
      refine wl (wl_val hl rfl trivial (r_move hl rfl) ?_)
      clear hl a; intro a hl
      refine wl (w_call hl hh rfl trivial rfl cal52 rfl (refAddr_spec _) (by repeat (first | exact keeps_nil | apply keeps_cons (by repeat (first | exact find_head | apply find_tail)) (by first  | rfl) | exact keeps_self | apply keeps_mv)) trivial ?_)
      clear hl hh a w; intro vc Fc a w hR hl hh
      obtain ⟨rfl, rfl⟩ := hR
      try simp only [List.cons_append, List.nil_append] at hh
      rw [ref_mod _ (by omega)] at hl
      refine wl (wl_val hl rfl trivial (r_build hl rfl zero117 bld117 (by simp only [fillL, setL, List.getElem?_cons_zero, List.getElem?_cons_succ, Value.cells, List.take_zero, List.take_succ_cons, List.take_nil, List.drop_zero, List.drop_succ_cons, List.drop_nil, List.length_cons, List.length_nil, List.cons_append, List.nil_append, List.append_nil, Nat.zero_add, Nat.add_zero, Nat.reduceAdd, Nat.reduceBEq, Nat.reduceEqDiff, Nat.ble, BEq.rfl, Bool.and_true, Bool.and_self, cond_true, beq_self_eq_true]; rfl)) ?_)
      clear hl a; intro a hl
      refine wl (wl_val hl rfl trivial (r_nilCheck hl rfl) ?_)
      clear hl a; intro a hl
      refine wl (wl_val hl rfl trivial (r_field hl rfl fld119_5) ?_)
      clear hl a; intro a hl
      refine wl (w_storeA hl hh trivial agg117 rfl rfl (by repeat (first | exact find_head | apply find_tail)) (by first | rfl | (simp; done)) (by rw [arrL_length]; decide) (by first | rfl | (simp; done)) (by exact st_last _ _ _ _ _ _ _) ?_)
      clear hh w; intro w hh
      refine w_nil ?_
      have hl2 := hl.nil; clear hl; have hl := hl2; clear hl2
      refine then_normal ?_
      refine c_seq ?_
      refine c_region ?_
      refine wl (wl_val hl rfl trivial (r_assign hl rfl) ?_)
      clear hl a; intro a hl
      refine w_nil ?_
      have hl2 := hl.add (t := 4) (hl.nil) rfl; clear hl; have hl := hl2; clear hl2
      refine then_normal ?_
      refine wp_ret ?_
      refine f_ret1 (F' := [(b, C (arrL 16391 (encM (freeF m ad s))) 119)]) hl hh rfl rfl (by repeat (first | exact keeps_nil | apply keeps_cons (by repeat (first | exact find_head | apply find_tail)) (by first  | rfl) | exact keeps_self | apply keeps_mv)) ?_
      exact ⟨rfl, rfl⟩

theorem box_nd (k : Bool) (n : Nat) (h : n < 7) : ([.int .u64 ((65536 + nd k 0 : Nat) : Int), .int .u64 ((65536 + nd k 1 : Nat) : Int), .int .u64 ((65536 + nd k 2 : Nat) : Int), .int .u64 ((65536 + nd k 3 : Nat) : Int), .int .u64 ((65536 + nd k 4 : Nat) : Int), .int .u64 ((65536 + nd k 5 : Nat) : Int), .int .u64 ((65536 + nd k 6 : Nat) : Int)] : List Value)[n * 1]? = some (.int .u64 ((65536 + nd k n : Nat) : Int)) := by
  rw [Nat.mul_one]
  match n, h with
  | 0, _ => rfl
  | 1, _ => rfl
  | 2, _ => rfl
  | 3, _ => rfl
  | 4, _ => rfl
  | 5, _ => rfl
  | 6, _ => rfl

set_option maxHeartbeats 1000000 in
theorem dispose_spec (b : Nat) (m : MS) (k : Bool) (hp : DP m (hd k)) : Sp Tryf.prog 39 #[.agg ⟨[.int .u64 ((65536 + hd k : Nat) : Int), .int .u64 ((65536 + nd k 0 : Nat) : Int), .int .u64 ((65536 + nd k 1 : Nat) : Int), .int .u64 ((65536 + nd k 2 : Nat) : Int), .int .u64 ((65536 + nd k 3 : Nat) : Int), .int .u64 ((65536 + nd k 4 : Nat) : Int), .int .u64 ((65536 + nd k 5 : Nat) : Int), .int .u64 ((65536 + nd k 6 : Nat) : Int), .int .i64 (wd k : Int)]⟩, .pointer (some ⟨b, 0, none⟩)] [(b, C (arrL 16391 (encM (m))) 119)] (fun v F' => v = .bool true ∧ ∃ m', DP m' (en k) ∧ F' = [(b, C (arrL 16391 (encM (m'))) 119)]) := by
  refine f_enter (args := [.agg ⟨[.int .u64 ((65536 + hd k : Nat) : Int), .int .u64 ((65536 + nd k 0 : Nat) : Int), .int .u64 ((65536 + nd k 1 : Nat) : Int), .int .u64 ((65536 + nd k 2 : Nat) : Int), .int .u64 ((65536 + nd k 3 : Nat) : Int), .int .u64 ((65536 + nd k 4 : Nat) : Int), .int .u64 ((65536 + nd k 5 : Nat) : Int), .int .u64 ((65536 + nd k 6 : Nat) : Int), .int .i64 (wd k : Int)]⟩, .pointer (some ⟨b, 0, none⟩)]) Tryf.func39 rfl Tryf.ntmps39 rfl ?_
  intro w0 w a hpre hl hh
  have hle := hd_le k
  have hzh := SZ_hd k
  have hn7 := nd_le k 7 (by omega)
  have hn0 := nd_zero k
  have hen : en k = nd k 7 := (nd_seven k).symm
  simp only [slotsFrom, Nat.reduceAdd] at hl
  refine c_seq ?_
  refine c_region ?_
  refine wl (w_box hl hh rfl trivial rfl rfl ?_)
  clear hl hh a w; intro k2 a w hl hh
  refine wl (wl_val hl rfl trivial (r_assign hl rfl) ?_)
  clear hl a; intro a hl
  refine w_nil ?_
  have hl2 := hl.add (t := 1) (hl.add (t := 2) (hl.nil) rfl) rfl; clear hl; have hl := hl2; clear hl2
  refine then_normal ?_
  refine c_seq ?_
  refine c_region ?_
  refine wl (wl_val hl rfl trivial (r_move hl rfl) ?_)
  clear hl a; intro a hl
  refine wl (wl_val hl rfl trivial (r_field hl rfl fld53_0) ?_)
  clear hl a; intro a hl
  refine wl (w_load hl hh rfl trivial one50 rfl (by repeat (first | exact find_head | apply find_tail)) (by first | rfl) ?_)
  clear hl a; intro a hl
  refine wl (w_call hl hh rfl trivial rfl cal57 rfl (free_spec b m (hd k) 8 (by rw [hp.size _ (Nat.le_refl _) (by omega), hzh.1]) (by omega) (by omega) (hp.gen _ (by omega) (by omega))) (by repeat (first | exact keeps_nil | apply keeps_cons (by repeat (first | exact find_head | apply find_tail)) (by first  | rfl) | exact keeps_self | apply keeps_mv)) trivial ?_)
  clear hl hh a w; intro vc Fc a w hR hl hh
  obtain ⟨rfl, rfl⟩ := hR
  try simp only [List.cons_append, List.nil_append] at hh
  have hp1 := hp.free (s := 8) (by omega)
  rw [show hd k + 8 = nd k 0 by omega] at hp1
  generalize freeF m (hd k) 8 = m1 at hh hp1
  refine wl (wl_val hl rfl trivial (r_eql hl rfl rfl) ?_)
  clear hl a; intro a hl
  refine wl (wl_val hl rfl trivial (r_assign hl rfl) ?_)
  clear hl a; intro a hl
  refine w_nil ?_
  have hl2 := hl.add (t := 1) (hl.add (t := 2) (hl.add (t := 5) (hl.nil) rfl) rfl) rfl; clear hl; have hl := hl2; clear hl2
  refine then_normal ?_
  refine c_seq ?_
  refine c_seq ?_
  refine c_region ?_
  refine wl (wl_val hl rfl trivial (r_field hl rfl fld53_1) ?_)
  clear hl a; intro a hl
  refine wl (w_loadA hl hh rfl trivial agg51 rfl (by repeat (first | exact find_head | apply find_tail)) (by first | (simp only [List.getElem?_cons_zero, List.getElem?_cons_succ, Value.cells, List.take_zero, List.take_succ_cons, List.take_nil, List.drop_zero, List.drop_succ_cons, List.drop_nil, List.length_cons, List.length_nil, List.cons_append, List.nil_append, List.append_nil, Nat.zero_add, Nat.add_zero, Nat.reduceAdd, Nat.reduceBEq, Nat.reduceEqDiff, Nat.ble, BEq.rfl, Bool.and_true, Bool.and_self, cond_true, beq_self_eq_true]; rfl)) (by first | rfl | (simp; done)) ?_)
  clear hl a; intro a hl
  refine wl (wl_val hl rfl trivial (r_move hl rfl) ?_)
  clear hl a; intro a hl
  refine w_nil ?_
  have hl2 := hl.add (t := 1) (hl.add (t := 5) (hl.add (t := 14) (hl.add (t := 15) (hl.nil) rfl) rfl) rfl) rfl; clear hl; have hl := hl2; clear hl2
  refine then_normal ?_
  refine wp_block ?_
  obtain ⟨KS0, hKS0, hk⟩ := (hl.add (t := 1) (hl.add (t := 14) (hl.nil) rfl) rfl).name
  obtain ⟨HS0, hHS0, hh2⟩ := hh.name (keeps_cons (b := b) (o' := C (arrL 16391 (encM m1)) 119) (by repeat (first | exact find_head | apply find_tail)) (by first | rfl) (keeps_nil))
  refine c_loop (α := Nat × MS) (fun s => 7 - s.1) (fun s a w => (s.1 ≤ 7 ∧ DP s.2 (nd k s.1)) ∧ Sl 27 ([(15, .int .i64 s.1), (5, .bool true)] ++ KS0) a ∧ Has _ w0 ([(b, C (arrL 16391 (encM s.2)) 119)] ++ HS0) w) (0, m1) ⟨⟨by simp, hp1⟩, hl.addE (t := 15) (hl.addE (t := 5) (hk) rfl (by first | rfl)) rfl (by first | rfl), hh2⟩ ?_
  clear hk hh2 hl hh a w
  intro s a w hI
  obtain ⟨⟨hi, hps⟩, hl, hh⟩ := hI
  subst hKS0; subst hHS0
  simp only [List.cons_append, List.nil_append, List.append_nil] at hl hh
  have hns := nd_le k s.1 hi
  have hnx : s.1 < 7 → nd k s.1 < 214 := fun h => by have := nd_le k (s.1 + 1) h; rw [nd_succ] at this; omega
  refine c_seq ?_
  refine c_region ?_
  refine wl (wl_val hl rfl trivial (r_lss hl rfl rfl) ?_)
  clear hl a; intro a hl
  refine w_nil ?_
  have hl2 := hl.add (t := 1) (hl.add (t := 5) (hl.add (t := 14) (hl.add (t := 15) (hl.add (t := 16) (hl.nil) rfl) rfl) rfl) rfl) rfl; clear hl; have hl := hl2; clear hl2
  refine then_normal ?_
  refine c_seq ?_
  refine c_cond hl rfl ?_ ?_
  · intro hc0
    try simp only [decide_eq_true_eq, decide_eq_false_iff_not, Bool.not_eq_true', Bool.not_eq_false', Bool.not_eq_true, Bool.not_eq_false, Bool.and_eq_true, Bool.or_eq_true, Bool.and_eq_false_iff, Bool.or_eq_false_iff, Bool.not_not, ne_eq, Int.not_lt, Int.not_le, Decidable.not_not, beq_iff_eq, bne_iff_ne] at hc0
    have hlt := hnx (by omega)
    refine wp_skip ?_
    refine then_normal ?_
    refine c_seq ?_
    refine wp_block ?_
    refine c_seq ?_
    refine c_region ?_
    refine wl (wl_val hl rfl trivial (r_indexAgg hl rfl rfl arrT51 one50 (by omega) (by omega) (by first | (simp only [Int.reduceToNat]; rfl) | exact toNat_add1 _ | exact toNat_add2 _ _ | exact toNat_emod _ _ | exact Int.toNat_natCast _ | rfl) (by exact box_nd k s.1 (by omega))) ?_)
    clear hl a; intro a hl
    refine wl (wl_val hl rfl trivial (r_assign hl rfl) ?_)
    clear hl a; intro a hl
    refine w_nil ?_
    have hl2 := hl.add (t := 1) (hl.add (t := 5) (hl.add (t := 7) (hl.add (t := 14) (hl.add (t := 15) (hl.nil) rfl) rfl) rfl) rfl) rfl; clear hl; have hl := hl2; clear hl2
    refine then_normal ?_
    refine c_region ?_
    refine wl (wl_val hl rfl trivial (r_move hl rfl) ?_)
    clear hl a; intro a hl
    refine wl (wl_val hl rfl trivial (r_move hl rfl) ?_)
    clear hl a; intro a hl
    refine wl (w_call hl hh rfl trivial rfl cal57 rfl (free_spec b s.2 (nd k s.1) ((1 + 8 * wd k) + (1 + 8 * wd k) % 2) (by rw [hps.size _ (Nat.le_refl _) (by omega), (SZ_nd k s.1 (by omega)).1]) (by omega) (by have := nd_succ k s.1; have := nd_le k (s.1 + 1) (by omega); omega) (hps.gen _ (by omega) (by omega))) (by repeat (first | exact keeps_nil | apply keeps_cons (by repeat (first | exact find_head | apply find_tail)) (by first  | rfl) | exact keeps_self | apply keeps_mv)) trivial ?_)
    clear hl hh a w; intro vc Fc a w hR hl hh
    obtain ⟨rfl, rfl⟩ := hR
    try simp only [List.cons_append, List.nil_append] at hh
    have hp2 := hps.free (s := ((1 + 8 * wd k) + (1 + 8 * wd k) % 2)) (by omega)
    rw [← nd_succ] at hp2
    generalize freeF s.2 (nd k s.1) ((1 + 8 * wd k) + (1 + 8 * wd k) % 2) = m2 at hh hp2
    refine wl (wl_val hl rfl trivial (r_eql hl rfl rfl) ?_)
    clear hl a; intro a hl
    refine wl (wl_val hl rfl trivial (r_move hl rfl) ?_)
    clear hl a; intro a hl
    refine sl_split (t := 22) hl rfl ?_ ?_
    · intro hg1; clear hl; intro hl
      try simp only [decide_eq_true_eq, decide_eq_false_iff_not, Bool.not_eq_true', Bool.not_eq_false', Bool.not_eq_true, Bool.not_eq_false, Bool.and_eq_true, Bool.or_eq_true, Bool.and_eq_false_iff, Bool.or_eq_false_iff, Bool.not_not, ne_eq, Int.not_lt, Int.not_le, Decidable.not_not, beq_iff_eq, bne_iff_ne] at hg1
      refine wl (wl_val hl rfl ⟨_, _, rfl, rfl, rfl⟩ (r_move hl rfl) ?_)
      clear hl a; intro a hl
      refine wl (wl_val hl rfl trivial (r_pickT hl rfl rfl) ?_)
      clear hl a; intro a hl
      refine wl (wl_val hl rfl trivial (r_assign hl rfl) ?_)
      clear hl a; intro a hl
      refine w_nil ?_
      have hl2 := hl.add (t := 1) (hl.add (t := 5) (hl.add (t := 14) (hl.add (t := 15) (hl.nil) rfl) rfl) rfl) rfl; clear hl; have hl := hl2; clear hl2
      refine blk_normal ?_
      refine then_normal ?_
      refine c_region ?_
      first | refine wl (wl_val hl rfl trivial (r_add hl rfl rfl (by simp only [Fits]; omega)) ?_) | refine wl (wl_val hl rfl trivial (r_addW hl rfl rfl) ?_)
      clear hl a; intro a hl
      refine wl (wl_val hl rfl trivial (r_move hl rfl) ?_)
      clear hl a; intro a hl
      refine w_nil ?_
      have hl2 := hl.add (t := 1) (hl.add (t := 5) (hl.add (t := 14) (hl.add (t := 15) (hl.nil) rfl) rfl) rfl) rfl; clear hl; have hl := hl2; clear hl2
      refine then_normal ?_
      refine ⟨(s.1 + 1, m2), (by simp only; omega), ⟨by simp only; omega, hp2⟩, hl.addE (t := 15) (hl.addE (t := 5) (hl.addE (t := 1) (hl.addE (t := 14) (hl.nil) rfl (by first | rfl | rfl)) rfl (by first | rfl | rfl)) rfl (by first | rfl | rfl)) rfl (by first | rfl | rfl), hh.keep (by repeat (first | exact keeps_nil | apply keeps_cons (by repeat (first | exact find_head | apply find_tail)) (by first  | rfl) | exact keeps_self | apply keeps_mv))⟩
    · intro hg1; clear hl; intro hl
      try simp only [decide_eq_true_eq, decide_eq_false_iff_not, Bool.not_eq_true', Bool.not_eq_false', Bool.not_eq_true, Bool.not_eq_false, Bool.and_eq_true, Bool.or_eq_true, Bool.and_eq_false_iff, Bool.or_eq_false_iff, Bool.not_not, ne_eq, Int.not_lt, Int.not_le, Decidable.not_not, beq_iff_eq, bne_iff_ne] at hg1
      exfalso; first | omega | (simp at *; done)
  · intro hc0
    try simp only [decide_eq_true_eq, decide_eq_false_iff_not, Bool.not_eq_true', Bool.not_eq_false', Bool.not_eq_true, Bool.not_eq_false, Bool.and_eq_true, Bool.or_eq_true, Bool.and_eq_false_iff, Bool.or_eq_false_iff, Bool.not_not, ne_eq, Int.not_lt, Int.not_le, Decidable.not_not, beq_iff_eq, bne_iff_ne] at hc0
    have hs7 : s.1 = 7 := by omega
    rw [hs7, ← hen] at hps
    refine wp_exit ?_
    refine then_exit ?_
    refine then_exit ?_
    refine blk_exit ?_
    refine then_normal ?_
    refine c_seq ?_
    refine c_region ?_
    refine wl (wl_val hl rfl trivial (r_move hl rfl) ?_)
    clear hl a; intro a hl
    refine wl (wl_val hl rfl trivial (r_assign hl rfl) ?_)
    clear hl a; intro a hl
    refine w_nil ?_
    have hl2 := hl.add (t := 4) (hl.nil) rfl; clear hl; have hl := hl2; clear hl2
    refine then_normal ?_
    refine wp_ret ?_
    refine f_ret1 (F' := [(b, C (arrL 16391 (encM (s.2))) 119)]) hl hh rfl rfl (by repeat (first | exact keeps_nil | apply keeps_cons (by repeat (first | exact find_head | apply find_tail)) (by first  | rfl) | exact keeps_self | apply keeps_mv)) ?_
    exact ⟨rfl, s.2, hps, rfl⟩

set_option maxHeartbeats 1000000 in
theorem disposeD_spec (b : Nat) (m : MS) (hp : DP m (hd false)) : Sp Tryf.prog 20 #[.agg ⟨[.int .u64 ((65536 + hd false : Nat) : Int), .int .u64 ((65536 + nd false 0 : Nat) : Int), .int .u64 ((65536 + nd false 1 : Nat) : Int), .int .u64 ((65536 + nd false 2 : Nat) : Int), .int .u64 ((65536 + nd false 3 : Nat) : Int), .int .u64 ((65536 + nd false 4 : Nat) : Int), .int .u64 ((65536 + nd false 5 : Nat) : Int), .int .u64 ((65536 + nd false 6 : Nat) : Int), .int .i64 (wd false : Int)]⟩, .pointer (some ⟨b, 0, none⟩)] [(b, C (arrL 16391 (encM (m))) 119)] (fun v F' => v = .bool true ∧ ∃ m', DP m' (en false) ∧ F' = [(b, C (arrL 16391 (encM (m'))) 119)]) := by
  refine f_enter (args := [.agg ⟨[.int .u64 ((65536 + hd false : Nat) : Int), .int .u64 ((65536 + nd false 0 : Nat) : Int), .int .u64 ((65536 + nd false 1 : Nat) : Int), .int .u64 ((65536 + nd false 2 : Nat) : Int), .int .u64 ((65536 + nd false 3 : Nat) : Int), .int .u64 ((65536 + nd false 4 : Nat) : Int), .int .u64 ((65536 + nd false 5 : Nat) : Int), .int .u64 ((65536 + nd false 6 : Nat) : Int), .int .i64 (wd false : Int)]⟩, .pointer (some ⟨b, 0, none⟩)]) Tryf.func20 rfl Tryf.ntmps20 rfl ?_
  intro w0 w a hpre hl hh
  simp only [slotsFrom, Nat.reduceAdd] at hl
  refine c_seq ?_
  refine c_region ?_
  refine wl (w_box hl hh rfl trivial rfl rfl ?_)
  clear hl hh a w; intro k2 a w hl hh
  refine wl (wl_val hl rfl trivial (r_assign hl rfl) ?_)
  clear hl a; intro a hl
  refine w_nil ?_
  have hl2 := hl.add (t := 1) (hl.add (t := 2) (hl.nil) rfl) rfl; clear hl; have hl := hl2; clear hl2
  refine then_normal ?_
  refine c_seq ?_
  refine c_region ?_
  refine wl (wl_val hl rfl trivial (r_field hl rfl fld55_0) ?_)
  clear hl a; intro a hl
  refine wl (w_loadA hl hh rfl trivial agg53 rfl (by repeat (first | exact find_head | apply find_tail)) (by first | (simp only [List.getElem?_cons_zero, List.getElem?_cons_succ, Value.cells, List.take_zero, List.take_succ_cons, List.take_nil, List.drop_zero, List.drop_succ_cons, List.drop_nil, List.length_cons, List.length_nil, List.cons_append, List.nil_append, List.append_nil, Nat.zero_add, Nat.add_zero, Nat.reduceAdd, Nat.reduceBEq, Nat.reduceEqDiff, Nat.ble, BEq.rfl, Bool.and_true, Bool.and_self, cond_true, beq_self_eq_true]; rfl)) (by first | rfl | (simp; done)) ?_)
  clear hl a; intro a hl
  refine wl (wl_val hl rfl trivial (r_move hl rfl) ?_)
  clear hl a; intro a hl
  refine wl (w_call hl hh rfl trivial rfl cal39 rfl (dispose_spec b m false hp) (by repeat (first | exact keeps_nil | apply keeps_cons (by repeat (first | exact find_head | apply find_tail)) (by first  | rfl) | exact keeps_self | apply keeps_mv)) trivial ?_)
  clear hl hh a w; intro vc Fc a w hR hl hh
  obtain ⟨rfl, m9, hp9, rfl⟩ := hR
  try simp only [List.cons_append, List.nil_append] at hh
  refine wl (wl_val hl rfl trivial (r_assign hl rfl) ?_)
  clear hl a; intro a hl
  refine w_nil ?_
  have hl2 := hl.add (t := 4) (hl.nil) rfl; clear hl; have hl := hl2; clear hl2
  refine then_normal ?_
  refine wp_ret ?_
  refine f_ret1 (F' := [(b, C (arrL 16391 (encM (m9))) 119)]) hl hh rfl rfl (by repeat (first | exact keeps_nil | apply keeps_cons (by repeat (first | exact find_head | apply find_tail)) (by first  | rfl) | exact keeps_self | apply keeps_mv)) ?_
  exact ⟨rfl, m9, hp9, rfl⟩

set_option maxHeartbeats 1000000 in
theorem disposeB_spec (b : Nat) (m : MS) (hp : DP m (hd true)) : Sp Tryf.prog 21 #[.agg ⟨[.int .u64 ((65536 + hd true : Nat) : Int), .int .u64 ((65536 + nd true 0 : Nat) : Int), .int .u64 ((65536 + nd true 1 : Nat) : Int), .int .u64 ((65536 + nd true 2 : Nat) : Int), .int .u64 ((65536 + nd true 3 : Nat) : Int), .int .u64 ((65536 + nd true 4 : Nat) : Int), .int .u64 ((65536 + nd true 5 : Nat) : Int), .int .u64 ((65536 + nd true 6 : Nat) : Int), .int .i64 (wd true : Int)]⟩, .pointer (some ⟨b, 0, none⟩)] [(b, C (arrL 16391 (encM (m))) 119)] (fun v F' => v = .bool true ∧ ∃ m', DP m' (en true) ∧ F' = [(b, C (arrL 16391 (encM (m'))) 119)]) := by
  refine f_enter (args := [.agg ⟨[.int .u64 ((65536 + hd true : Nat) : Int), .int .u64 ((65536 + nd true 0 : Nat) : Int), .int .u64 ((65536 + nd true 1 : Nat) : Int), .int .u64 ((65536 + nd true 2 : Nat) : Int), .int .u64 ((65536 + nd true 3 : Nat) : Int), .int .u64 ((65536 + nd true 4 : Nat) : Int), .int .u64 ((65536 + nd true 5 : Nat) : Int), .int .u64 ((65536 + nd true 6 : Nat) : Int), .int .i64 (wd true : Int)]⟩, .pointer (some ⟨b, 0, none⟩)]) Tryf.func21 rfl Tryf.ntmps21 rfl ?_
  intro w0 w a hpre hl hh
  simp only [slotsFrom, Nat.reduceAdd] at hl
  refine c_seq ?_
  refine c_region ?_
  refine wl (w_box hl hh rfl trivial rfl rfl ?_)
  clear hl hh a w; intro k2 a w hl hh
  refine wl (wl_val hl rfl trivial (r_assign hl rfl) ?_)
  clear hl a; intro a hl
  refine w_nil ?_
  have hl2 := hl.add (t := 1) (hl.add (t := 2) (hl.nil) rfl) rfl; clear hl; have hl := hl2; clear hl2
  refine then_normal ?_
  refine c_seq ?_
  refine c_region ?_
  refine wl (wl_val hl rfl trivial (r_field hl rfl fld56_0) ?_)
  clear hl a; intro a hl
  refine wl (w_loadA hl hh rfl trivial agg53 rfl (by repeat (first | exact find_head | apply find_tail)) (by first | (simp only [List.getElem?_cons_zero, List.getElem?_cons_succ, Value.cells, List.take_zero, List.take_succ_cons, List.take_nil, List.drop_zero, List.drop_succ_cons, List.drop_nil, List.length_cons, List.length_nil, List.cons_append, List.nil_append, List.append_nil, Nat.zero_add, Nat.add_zero, Nat.reduceAdd, Nat.reduceBEq, Nat.reduceEqDiff, Nat.ble, BEq.rfl, Bool.and_true, Bool.and_self, cond_true, beq_self_eq_true]; rfl)) (by first | rfl | (simp; done)) ?_)
  clear hl a; intro a hl
  refine wl (wl_val hl rfl trivial (r_move hl rfl) ?_)
  clear hl a; intro a hl
  refine wl (w_call hl hh rfl trivial rfl cal39 rfl (dispose_spec b m true hp) (by repeat (first | exact keeps_nil | apply keeps_cons (by repeat (first | exact find_head | apply find_tail)) (by first  | rfl) | exact keeps_self | apply keeps_mv)) trivial ?_)
  clear hl hh a w; intro vc Fc a w hR hl hh
  obtain ⟨rfl, m9, hp9, rfl⟩ := hR
  try simp only [List.cons_append, List.nil_append] at hh
  refine wl (wl_val hl rfl trivial (r_assign hl rfl) ?_)
  clear hl a; intro a hl
  refine w_nil ?_
  have hl2 := hl.add (t := 4) (hl.nil) rfl; clear hl; have hl := hl2; clear hl2
  refine then_normal ?_
  refine wp_ret ?_
  refine f_ret1 (F' := [(b, C (arrL 16391 (encM (m9))) 119)]) hl hh rfl rfl (by repeat (first | exact keeps_nil | apply keeps_cons (by repeat (first | exact find_head | apply find_tail)) (by first  | rfl) | exact keeps_self | apply keeps_mv)) ?_
  exact ⟨rfl, m9, hp9, rfl⟩
end Go.Proofs.Qxb6500914aFmt

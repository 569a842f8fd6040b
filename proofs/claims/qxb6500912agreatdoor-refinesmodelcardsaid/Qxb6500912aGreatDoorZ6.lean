import Derived.Test.Qxb6500912aGreatDoorZ5
namespace Go.Proofs.Qxb6500912aGreatDoor
open Go.Eng
set_option linter.unusedVariables false
set_option linter.unusedSimpArgs false
theorem cal47 : callable Tryz.prog 47 = true := by kernel_rfl
/-! ## what lies above a byte -/
def cntA (g : Nat → Bool) : Nat → Nat → Nat
  | 0, _ => 0
  | f + 1, r => cntA g f r + (if r ≤ f ∧ g f = true then 1 else 0)
def pg (g : Nat → Bool) (j : Nat) : Bool := decide (1 ≤ j) && g (j - 1)
def runG (g : Nat → Bool) : Nat → Bool := fun j => g j && !pg g j
theorem cnt_le (g : Nat → Bool) : ∀ (f r : Nat), cntA g f r ≤ f
  | 0, _ => Nat.le_refl _
  | f + 1, r => by have := cnt_le g f r; unfold cntA; split <;> omega
theorem cnt_top (g : Nat → Bool) : ∀ (f r : Nat), f ≤ r → cntA g f r = 0
  | 0, _, _ => rfl
  | f + 1, r, h => by unfold cntA; rw [cnt_top g f r (by omega), if_neg (by omega)]
theorem cnt_step (g : Nat → Bool) : ∀ (f q : Nat), q < f → cntA g f q = cntA g f (q + 1) + (if g q = true then 1 else 0)
  | f + 1, q, h => by
    unfold cntA
    by_cases e : q = f
    · subst e
      rw [cnt_top g q q (Nat.le_refl _), cnt_top g q (q + 1) (by omega)]
      by_cases hg : g q = true
      · rw [if_pos ⟨Nat.le_refl _, hg⟩, if_neg (by omega), if_pos hg]
      · rw [if_neg (fun c => hg c.2), if_neg (by omega), if_neg hg]
    · have e1 : (if q ≤ f ∧ g f = true then 1 else 0 : Nat) = (if q + 1 ≤ f ∧ g f = true then 1 else 0 : Nat) := by
        by_cases hg : g f = true
        · rw [if_pos ⟨by omega, hg⟩, if_pos ⟨by omega, hg⟩]
        · rw [if_neg (fun c => hg c.2), if_neg (fun c => hg c.2)]
      rw [cnt_step g f q (by omega), e1]
      omega
def lsG (s : CS) (f : Nat) (g : Nat → Bool) : Nat → Bool := fun k =>
  if s.phase = 2 then decide (s.una + (k : Int) < s.recov) else decide (s.dupt ≤ (cntA (runG g) f (k + 1) : Int)) || decide ((s.dupt - 1) * s.mss < (cntA g f (k + 1) : Int))
def lsP (s : CS) (f : Nat) (g : Nat → Bool) (r : Nat) : Nat → Bool := fun j => decide (r ≤ j) && lsG s f g j
theorem ls_set {s : CS} {f q : Nat} {g : Nat → Bool} {v : Bool} (h : q < f) (hv : v = lsG s f g q) : setL (arrL f (blF (lsP s f g (q + 1)))) (0 + q * 1) [.bool v] = arrL f (blF (lsP s f g q)) := by
  rw [bl_set h]
  refine bl_ext fun k hk => ?_
  unfold lsP
  by_cases e : k = q
  · rw [if_pos e, hv, e, decide_eq_true (Nat.le_refl _)]; rfl
  · rw [if_neg e, decide_eq_decide.2 (show q + 1 ≤ k ↔ q ≤ k by omega)]
theorem ls_top {s : CS} {f : Nat} {g : Nat → Bool} : arrL f (blF fun _ => false) = arrL f (blF (lsP s f g f)) := bl_ext fun k hk => by
  unfold lsP; rw [decide_eq_false (by omega)]; rfl
theorem ls_all {s : CS} {f : Nat} {g : Nat → Bool} : arrL f (blF (lsP s f g 0)) = arrL f (blF (lsG s f g)) := bl_ext fun k hk => by
  unfold lsP; rw [decide_eq_true (Nat.zero_le _)]; rfl
theorem lsG_2 {s : CS} {f q : Nat} {g : Nat → Bool} (h : s.phase = 2) : decide (s.una + (q : Int) < s.recov) = lsG s f g q := by unfold lsG; rw [if_pos h]
theorem lsG_a {s : CS} {f q : Nat} {g : Nat → Bool} (h : ¬ s.phase = 2) (h1 : s.dupt ≤ (cntA (runG g) f (q + 1) : Int)) : true = lsG s f g q := by unfold lsG; rw [if_neg h, decide_eq_true h1]; rfl
theorem lsG_b {s : CS} {f q : Nat} {g : Nat → Bool} (h : ¬ s.phase = 2) (h1 : ¬ s.dupt ≤ (cntA (runG g) f (q + 1) : Int)) : decide ((s.dupt - 1) * s.mss < (cntA g f (q + 1) : Int)) = lsG s f g q := by unfold lsG; rw [if_neg h, decide_eq_false h1]; rfl
theorem at_q {una : Int} {f q : Nat} {g : Nat → Bool} (h : q < f) : atM una f g (una + (q : Int)) = g q := by
  rw [at_in ⟨by omega, by omega⟩, show (una + (q : Int) - una).toNat = q by omega]
theorem at_p {una : Int} {f q : Nat} {g : Nat → Bool} (h : q < f) : atM una f g (una + (q : Int) - 1) = pg g q := by
  unfold pg
  by_cases c : 1 ≤ q
  · rw [at_in ⟨by omega, by omega⟩, show (una + (q : Int) - 1 - una).toNat = q - 1 by omega, decide_eq_true c]; rfl
  · rw [at_out (by omega), decide_eq_false c]; rfl
theorem cnt_1 {g : Nat → Bool} {f q : Nat} (h : q < f) (hg : g q = true) : (cntA g f q : Int) = (cntA g f (q + 1) : Int) + 1 := by rw [cnt_step g f q h, if_pos hg]; omega
theorem cnt_0 {g : Nat → Bool} {f q : Nat} (h : q < f) (hg : g q = false) : cntA g f q = cntA g f (q + 1) := by rw [cnt_step g f q h, if_neg (by rw [hg]; decide)]; omega
theorem run_1 {g : Nat → Bool} {q : Nat} (h : g q = true) (h2 : pg g q = false) : runG g q = true := by unfold runG; rw [h, h2]; rfl
theorem run_0 {g : Nat → Bool} {q : Nat} (h : g q = false ∨ pg g q = true) : runG g q = false := by
  unfold runG
  rcases h with h | h
  · rw [h]; rfl
  · rw [h]; simp


set_option maxHeartbeats 8000000 in
theorem lost_m (mp : Nat) (s : CS) (st : Int) (sk : Bool) (bp : Nat) (hs : Mk s) (f : Nat) (hf : s.nxt - s.una = (f : Int)) (hf9 : f ≤ 262144) (fb : Nat) (g : Nat → Bool) : SpK Tryz.prog 45 #[.pointer (some ⟨mp, 0, none⟩), .agg ⟨[.int .i64 (s.una), .slice (some ⟨fb, 0, none⟩) f f]⟩] (fun w => w.heap[mp]? = some (C (encM s st sk bp) 69) ∧ w.heap[fb]? = some (C (arrL f (blF g)) 4)) [] (fun v F' => ∃ lb, v = .agg ⟨[.int .i64 (s.una), .slice (some ⟨lb, 0, none⟩) f f]⟩ ∧ F' = [(lb, C (arrL f (blF (lsG s f g))) 4)]) := by
  refine f_enter (args := [.pointer (some ⟨mp, 0, none⟩), .agg ⟨[.int .i64 (s.una), .slice (some ⟨fb, 0, none⟩) f f]⟩]) Tryz.func45 rfl Tryz.ntmps45 rfl ?_
  intro w0 w a hpre hl hh
  have o1 := hs.init; have o2 := hs.maxc; have o3 := hs.bn; have o4 := hs.bd; have o5 := hs.abc; have o6 := hs.dupt; have o7 := hs.mss; have o8 := hs.cwnd; have o9 := hs.ssth; have o10 := hs.credit; have o11 := hs.una; have o12 := hs.nxt; have o13 := hs.phase; have o14 := hs.recov; have o15 := hs.high; have o16 := hs.dups; have o17 := hs.fl
  have hpm := hpre.1; have hpf := hpre.2
  have hdm := prod_bd (a := s.dupt - 1) (b := s.mss) (A := 15) (B := 65535) (by omega) (by omega)
  simp only [slotsFrom, Nat.reduceAdd] at hl
  refine c_seq ?_
  refine c_region ?_
  refine wl (w_box hl hh rfl trivial rfl rfl ?_)
  clear hl hh a w; intro k3 a w hl hh
  refine wl (w_alloc hl hh rfl trivial zero79 rfl ?_)
  clear hl hh a w; intro k4 a w hl hh
  refine w_nil ?_
  have hl2 := hl.add (t := 0) (hl.add (t := 3) (hl.add (t := 4) (hl.nil) rfl) rfl) rfl; clear hl; have hl := hl2; clear hl2
  refine then_normal ?_
  refine c_seq ?_
  refine c_draw [(mp, C (encM (s) st sk bp) 69)] [16] mixed hh ?_
  clear hh w; intro w hh
  have hM : Mem [(mp, C (encM (s) st sk bp) 69)] w := (by (repeat (first | exact Mem.nil | refine Mem.consR hh (by assumption) (by simp) ?_ | refine Mem.cons hh.mem (by (repeat (first | exact find_head | apply find_tail)); done) ?_ | fail)); done)
  refine d_take (i := 0) hl rfl (by kernel_rfl) (by kernel_rfl) (by kernel_rfl) (by kernel_rfl) (by kernel_rfl) rfl trivial (fun _ _ _ h => h) hM (fun w hC => r_move hl rfl) rfl ?_
  clear hl a; intro a hl
  refine d_take (i := 1) hl rfl (by kernel_rfl) (by kernel_rfl) (by kernel_rfl) (by kernel_rfl) (by kernel_rfl) rfl trivial (fun _ _ _ h => h) hM (fun w hC => r_nilCheck hl rfl) rfl ?_
  clear hl a; intro a hl
  refine d_take (i := 2) hl rfl (by kernel_rfl) (by kernel_rfl) (by kernel_rfl) (by kernel_rfl) (by kernel_rfl) rfl trivial (fun _ _ _ h => h) hM (fun w hC => r_field hl rfl fld69_8) rfl ?_
  clear hl a; intro a hl
  refine d_take (i := 3) hl rfl (by kernel_rfl) (by kernel_rfl) (by kernel_rfl) (by kernel_rfl) (by kernel_rfl) rfl trivial (fun _ _ _ h => h) hM (fun w hC => r_loadC hl rfl one2 hC (by repeat (first | exact find_head | apply find_tail)) (by first | rfl)) rfl ?_
  clear hl a; intro a hl
  refine d_take (i := 4) hl rfl (by kernel_rfl) (by kernel_rfl) (by kernel_rfl) (by kernel_rfl) (by kernel_rfl) rfl trivial (fun _ _ _ h => h) hM (fun w hC => r_move hl rfl) rfl ?_
  clear hl a; intro a hl
  refine d_take (i := 5) hl rfl (by kernel_rfl) (by kernel_rfl) (by kernel_rfl) (by kernel_rfl) (by kernel_rfl) rfl trivial (fun _ _ _ h => h) hM (fun w hC => r_nilCheck hl rfl) rfl ?_
  clear hl a; intro a hl
  refine d_take (i := 6) hl rfl (by kernel_rfl) (by kernel_rfl) (by kernel_rfl) (by kernel_rfl) (by kernel_rfl) rfl trivial (fun _ _ _ h => h) hM (fun w hC => r_field hl rfl fld69_9) rfl ?_
  clear hl a; intro a hl
  refine d_take (i := 7) hl rfl (by kernel_rfl) (by kernel_rfl) (by kernel_rfl) (by kernel_rfl) (by kernel_rfl) rfl trivial (fun _ _ _ h => h) hM (fun w hC => r_loadC hl rfl one2 hC (by repeat (first | exact find_head | apply find_tail)) (by first | rfl)) rfl ?_
  clear hl a; intro a hl
  refine d_take (i := 8) hl rfl (by kernel_rfl) (by kernel_rfl) (by kernel_rfl) (by kernel_rfl) (by kernel_rfl) rfl trivial (fun _ _ _ h => h) hM (fun w hC => r_move hl rfl) rfl ?_
  clear hl a; intro a hl
  refine d_take (i := 9) hl rfl (by kernel_rfl) (by kernel_rfl) (by kernel_rfl) (by kernel_rfl) (by kernel_rfl) rfl trivial (fun _ _ _ h => h) hM (fun w hC => r_nilCheck hl rfl) rfl ?_
  clear hl a; intro a hl
  refine d_take (i := 10) hl rfl (by kernel_rfl) (by kernel_rfl) (by kernel_rfl) (by kernel_rfl) (by kernel_rfl) rfl trivial (fun _ _ _ h => h) hM (fun w hC => r_field hl rfl fld69_8) rfl ?_
  clear hl a; intro a hl
  refine d_take (i := 11) hl rfl (by kernel_rfl) (by kernel_rfl) (by kernel_rfl) (by kernel_rfl) (by kernel_rfl) rfl trivial (fun _ _ _ h => h) hM (fun w hC => r_loadC hl rfl one2 hC (by repeat (first | exact find_head | apply find_tail)) (by first | rfl)) rfl ?_
  clear hl a; intro a hl
  first | refine d_take (i := 12) hl rfl (by kernel_rfl) (by kernel_rfl) (by kernel_rfl) (by kernel_rfl) (by kernel_rfl) rfl trivial (fun _ _ _ h => h) hM (fun w hC => r_sub hl rfl rfl (by simp only [Fits]; omega)) rfl ?_ | refine d_take (i := 12) hl rfl (by kernel_rfl) (by kernel_rfl) (by kernel_rfl) (by kernel_rfl) (by kernel_rfl) rfl trivial (fun _ _ _ h => h) hM (fun w hC => r_subW hl rfl rfl) rfl ?_
  clear hl a; intro a hl
  rw [hf] at hl
  refine d_two (i := 13) (j := 15) (by kernel_rfl) rfl rfl ?_ ?_
  ·
    try clear hM
    refine id (w_makeSliceN hl hh rfl trivial app77 zero4 rfl rfl (by omega) (by decide) ?_)
    clear hl hh a w; intro k23 jk23 a w hjk23 hl hh
    have hz9 := (bl_zero hjk23).trans (ls_top (s := s) (g := g))
    rw [hz9] at hh
    clear hz9
    have hM : Mem [(mp, C (encM (s) st sk bp) 69)] w := (by (repeat (first | exact Mem.nil | refine Mem.consR hh (by assumption) (by simp) ?_ | refine Mem.cons hh.mem (by (repeat (first | exact find_head | apply find_tail)); done) ?_ | fail)); done)
    refine d_step (fun _ => hM) ?_
    refine d_take (i := 14) hl rfl (by kernel_rfl) (by kernel_rfl) (by kernel_rfl) (by kernel_rfl) (by kernel_rfl) rfl trivial (fun _ _ _ h => h) hM (fun w hC => r_build hl rfl zero79 bld79 (by simp only [fillL, setL, List.getElem?_cons_zero, List.getElem?_cons_succ, Value.cells, List.take_zero, List.take_succ_cons, List.take_nil, List.drop_zero, List.drop_succ_cons, List.drop_nil, List.length_cons, List.length_nil, List.cons_append, List.nil_append, List.append_nil, Nat.zero_add, Nat.add_zero, Nat.reduceAdd, Nat.reduceBEq, Nat.reduceEqDiff, Nat.ble, BEq.rfl, Bool.and_true, Bool.and_self, cond_true, beq_self_eq_true]; rfl)) rfl ?_
    clear hl a; intro a hl
    refine d_one (i := 15) (by kernel_rfl) rfl ?_
    try clear hM
    refine id (w_alloc hl hh rfl trivial zero79 rfl ?_)
    clear hl hh a w; intro k5 a w hl hh
    have hM : Mem [(mp, C (encM (s) st sk bp) 69)] w := (by (repeat (first | exact Mem.nil | refine Mem.consR hh (by assumption) (by simp) ?_ | refine Mem.cons hh.mem (by (repeat (first | exact find_head | apply find_tail)); done) ?_ | fail)); done)
    refine d_step (fun _ => hM) ?_
    refine d_one (i := 16) (by kernel_rfl) rfl ?_
    try clear hM
    refine id (w_storeA hl hh trivial agg79 rfl rfl (by repeat (first | exact find_head | apply find_tail)) (by first | rfl | (simp; done)) (by first | (simp; done) | (simp; omega)) (by first | rfl | (simp; done)) (by first | (simp only [encM, setL, List.getElem?_cons_zero, List.getElem?_cons_succ, Value.cells, List.take_zero, List.take_succ_cons, List.take_nil, List.drop_zero, List.drop_succ_cons, List.drop_nil, List.length_cons, List.length_nil, List.cons_append, List.nil_append, List.append_nil, Nat.zero_add, Nat.add_zero, Nat.reduceAdd, Nat.reduceBEq, Nat.reduceEqDiff, Nat.ble, BEq.rfl, Bool.and_true, Bool.and_self, cond_true, beq_self_eq_true]; rfl) | (simp only [setL, List.getElem?_cons_zero, List.getElem?_cons_succ, Value.cells, List.take_zero, List.take_succ_cons, List.take_nil, List.drop_zero, List.drop_succ_cons, List.drop_nil, List.length_cons, List.length_nil, List.cons_append, List.nil_append, List.append_nil, Nat.zero_add, Nat.add_zero, Nat.reduceAdd, Nat.reduceBEq, Nat.reduceEqDiff, Nat.ble, BEq.rfl, Bool.and_true, Bool.and_self, cond_true, beq_self_eq_true]; rfl)) ?_)
    clear hh w; intro w hh
    refine d_step (fun h => absurd h (by decide)) ?_
    refine d_done (by kernel_rfl) ?_
    try clear hM
    have hl2 := hl.add (t := 0) (hl.add (t := 3) (hl.add (t := 4) (hl.add (t := 5) (hl.nil) rfl) rfl) rfl) rfl; clear hl; have hl := hl2; clear hl2
    refine then_normal ?_
    refine c_seq ?_
    refine c_region ?_
    refine wl (wl_val hl rfl trivial (r_move hl rfl) ?_)
    clear hl a; intro a hl
    refine wl (wl_val hl rfl trivial (r_nilCheck hl rfl) ?_)
    clear hl a; intro a hl
    refine wl (wl_val hl rfl trivial (r_field hl rfl fld69_0) ?_)
    clear hl a; intro a hl
    refine wl (wl_val hl rfl trivial (r_field hl rfl fld31_5) ?_)
    clear hl a; intro a hl
    first | refine wl (w_load hl hh rfl trivial one29 rfl (by repeat (first | exact find_head | apply find_tail)) (by first | rfl) ?_) | refine wl (w_loadR hl hh rfl trivial one29 rfl hpm (by simp) rfl ?_)
    clear hl a; intro a hl
    first | refine wl (wl_val hl rfl trivial (r_conv hl rfl Tryz.underlying29 Tryz.underlying2 (by simp only [Fits]; omega)) ?_) | refine wl (wl_val hl rfl trivial (r_convW hl rfl Tryz.underlying29 Tryz.underlying2) ?_)
    clear hl a; intro a hl
    refine wl (wl_val hl rfl trivial (r_assign hl rfl) ?_)
    clear hl a; intro a hl
    refine w_nil ?_
    have hl2 := hl.add (t := 0) (hl.add (t := 3) (hl.add (t := 4) (hl.add (t := 5) (hl.add (t := 6) (hl.nil) rfl) rfl) rfl) rfl) rfl; clear hl; have hl := hl2; clear hl2
    refine then_normal ?_
    refine c_seq ?_
    refine c_region ?_
    refine wl (wl_val hl rfl trivial (r_assign hl rfl) ?_)
    clear hl a; intro a hl
    refine wl (wl_val hl rfl trivial (r_assign hl rfl) ?_)
    clear hl a; intro a hl
    refine w_nil ?_
    have hl2 := hl.add (t := 0) (hl.add (t := 3) (hl.add (t := 4) (hl.add (t := 5) (hl.add (t := 6) (hl.add (t := 7) (hl.add (t := 8) (hl.nil) rfl) rfl) rfl) rfl) rfl) rfl) rfl; clear hl; have hl := hl2; clear hl2
    refine then_normal ?_
    refine c_seq ?_
    refine c_seq ?_
    refine c_region ?_
    refine wl (wl_val hl rfl trivial (r_move hl rfl) ?_)
    clear hl a; intro a hl
    refine wl (wl_val hl rfl trivial (r_nilCheck hl rfl) ?_)
    clear hl a; intro a hl
    refine wl (wl_val hl rfl trivial (r_field hl rfl fld69_9) ?_)
    clear hl a; intro a hl
    first | refine wl (w_load hl hh rfl trivial one2 rfl (by repeat (first | exact find_head | apply find_tail)) (by first | rfl) ?_) | refine wl (w_loadR hl hh rfl trivial one2 rfl hpm (by simp) rfl ?_)
    clear hl a; intro a hl
    first | refine wl (wl_val hl rfl trivial (r_sub hl rfl rfl (by simp only [Fits]; omega)) ?_) | refine wl (wl_val hl rfl trivial (r_subW hl rfl rfl) ?_)
    clear hl a; intro a hl
    refine wl (wl_val hl rfl trivial (r_assign hl rfl) ?_)
    clear hl a; intro a hl
    refine w_nil ?_
    have hl2 := hl.add (t := 0) (hl.add (t := 3) (hl.add (t := 4) (hl.add (t := 5) (hl.add (t := 6) (hl.add (t := 7) (hl.add (t := 8) (hl.add (t := 9) (hl.nil) rfl) rfl) rfl) rfl) rfl) rfl) rfl) rfl; clear hl; have hl := hl2; clear hl2
    refine then_normal ?_
    refine wp_block ?_
    obtain ⟨KS0, hKS0, hk⟩ := (hl.add (t := 0) (hl.add (t := 3) (hl.add (t := 4) (hl.add (t := 5) (hl.add (t := 6) (hl.nil) rfl) rfl) rfl) rfl) rfl).name
    obtain ⟨HS0, hHS0, hh2⟩ := hh.name (keeps_cons (b := k23) (o' := C (arrL f (blF (lsP s f g f))) 4) (by repeat (first | exact find_head | apply find_tail)) (by first | rfl) (keeps_nil))
    refine c_loop (α := Nat) (fun r => r) (fun r a w => (r ≤ f) ∧ Sl 100 ([(9, .int .i64 (s.una + (r : Int) - 1)), (7, .int .i64 (cntA (runG g) f r : Int)), (8, .int .i64 (cntA g f r : Int))] ++ KS0) a ∧ Has _ w0 ([(k23, C (arrL f (blF (lsP s f g r))) 4)] ++ HS0) w) f ⟨(Nat.le_refl _), hl.addE (t := 9) (hl.addE (t := 7) (hl.addE (t := 8) (hk) rfl (by first | (exact congrArg (Value.int .i64) (show s.nxt - 1 = s.una + (f : Int) - 1 by omega)) | (rw [cnt_top _ f f (Nat.le_refl _)]; rfl) | rfl)) rfl (by first | (exact congrArg (Value.int .i64) (show s.nxt - 1 = s.una + (f : Int) - 1 by omega)) | (rw [cnt_top _ f f (Nat.le_refl _)]; rfl) | rfl)) rfl (by first | (exact congrArg (Value.int .i64) (show s.nxt - 1 = s.una + (f : Int) - 1 by omega)) | (rw [cnt_top _ f f (Nat.le_refl _)]; rfl) | rfl), hh2⟩ ?_
    clear hk hh2 hl hh a w
    intro r a w hI
    obtain ⟨hr, hl, hh⟩ := hI
    subst hKS0; subst hHS0
    simp only [List.cons_append, List.nil_append, List.append_nil] at hl hh
    have hcl1 := cnt_le (runG g) f r
    have hcl2 := cnt_le g f r
    refine c_seq ?_
    refine c_seq ?_
    refine c_region ?_
    refine wl (wl_val hl rfl trivial (r_move hl rfl) ?_)
    clear hl a; intro a hl
    refine wl (wl_val hl rfl trivial (r_move hl rfl) ?_)
    clear hl a; intro a hl
    refine wl (wl_val hl rfl trivial (r_nilCheck hl rfl) ?_)
    clear hl a; intro a hl
    refine wl (wl_val hl rfl trivial (r_field hl rfl fld69_8) ?_)
    clear hl a; intro a hl
    first | refine wl (w_load hl hh rfl trivial one2 rfl (by repeat (first | exact find_head | apply find_tail)) (by first | rfl) ?_) | refine wl (w_loadR hl hh rfl trivial one2 rfl hpm (by simp) rfl ?_)
    clear hl a; intro a hl
    refine wl (wl_val hl rfl trivial (r_geq hl rfl rfl) ?_)
    clear hl a; intro a hl
    refine w_nil ?_
    have hl2 := hl.add (t := 0) (hl.add (t := 3) (hl.add (t := 4) (hl.add (t := 5) (hl.add (t := 6) (hl.add (t := 7) (hl.add (t := 8) (hl.add (t := 9) (hl.add (t := 41) (hl.nil) rfl) rfl) rfl) rfl) rfl) rfl) rfl) rfl) rfl; clear hl; have hl := hl2; clear hl2
    refine then_normal ?_
    refine c_cond hl rfl ?_ ?_
    · intro hc0
      try simp only [decide_eq_true_eq, decide_eq_false_iff_not, Bool.not_eq_true', Bool.not_eq_false', Bool.not_eq_true, Bool.not_eq_false, Bool.and_eq_true, Bool.or_eq_true, Bool.and_eq_false_iff, Bool.or_eq_false_iff, Bool.not_not, ne_eq, Int.not_lt, Int.not_le, Decidable.not_not, beq_iff_eq, bne_iff_ne] at hc0
      obtain ⟨q, rfl⟩ : ∃ q, r = q + 1 := ⟨r - 1, by omega⟩
      rw [show s.una + ((q + 1 : Nat) : Int) - 1 = s.una + (q : Int) by omega] at hl
      refine wp_skip ?_
      refine then_normal ?_
      refine c_seq ?_
      refine wp_block ?_
      refine c_seq ?_
      refine c_seq ?_
      refine c_region ?_
      refine wl (wl_val hl rfl trivial (r_move hl rfl) ?_)
      clear hl a; intro a hl
      refine wl (wl_val hl rfl trivial (r_nilCheck hl rfl) ?_)
      clear hl a; intro a hl
      refine wl (wl_val hl rfl trivial (r_field hl rfl fld69_10) ?_)
      clear hl a; intro a hl
      first | refine wl (w_load hl hh rfl trivial one59 rfl (by repeat (first | exact find_head | apply find_tail)) (by first | rfl) ?_) | refine wl (w_loadR hl hh rfl trivial one59 rfl hpm (by simp) rfl ?_)
      clear hl a; intro a hl
      refine wl (wl_val hl rfl trivial (r_eql hl rfl rfl) ?_)
      clear hl a; intro a hl
      refine w_nil ?_
      have hl2 := hl.add (t := 0) (hl.add (t := 3) (hl.add (t := 4) (hl.add (t := 5) (hl.add (t := 6) (hl.add (t := 7) (hl.add (t := 8) (hl.add (t := 9) (hl.add (t := 48) (hl.nil) rfl) rfl) rfl) rfl) rfl) rfl) rfl) rfl) rfl; clear hl; have hl := hl2; clear hl2
      refine then_normal ?_
      refine c_cond hl rfl ?_ ?_
      · intro hc1
        try simp only [decide_eq_true_eq, decide_eq_false_iff_not, Bool.not_eq_true', Bool.not_eq_false', Bool.not_eq_true, Bool.not_eq_false, Bool.and_eq_true, Bool.or_eq_true, Bool.and_eq_false_iff, Bool.or_eq_false_iff, Bool.not_not, ne_eq, Int.not_lt, Int.not_le, Decidable.not_not, beq_iff_eq, bne_iff_ne] at hc1
        refine c_draw [(k5, C [.int .i64 s.una, .slice (some ⟨k23, 0, none⟩) f f] 79), (mp, C (encM (s) st sk bp) 69)] [14, 15] mixed hh ?_
        clear hh w; intro w hh
        have hM : Mem [(k5, C [.int .i64 s.una, .slice (some ⟨k23, 0, none⟩) f f] 79), (mp, C (encM (s) st sk bp) 69)] w := (by (repeat (first | exact Mem.nil | refine Mem.consR hh (by assumption) (by simp) ?_ | refine Mem.cons hh.mem (by (repeat (first | exact find_head | apply find_tail)); done) ?_ | fail)); done)
        refine d_take (i := 0) hl rfl (by kernel_rfl) (by kernel_rfl) (by kernel_rfl) (by kernel_rfl) (by kernel_rfl) rfl trivial (fun _ _ _ h => h) hM (fun w hC => r_field hl rfl fld79_1) rfl ?_
        clear hl a; intro a hl
        refine d_take (i := 1) hl rfl (by kernel_rfl) (by kernel_rfl) (by kernel_rfl) (by kernel_rfl) (by kernel_rfl) rfl trivial (fun _ _ _ h => h) hM (fun w hC => r_loadC hl rfl one77 hC (by repeat (first | exact find_head | apply find_tail)) (by first | rfl)) rfl ?_
        clear hl a; intro a hl
        refine d_take (i := 2) hl rfl (by kernel_rfl) (by kernel_rfl) (by kernel_rfl) (by kernel_rfl) (by kernel_rfl) rfl trivial (fun _ _ _ h => h) hM (fun w hC => r_move hl rfl) rfl ?_
        clear hl a; intro a hl
        refine d_take (i := 3) hl rfl (by kernel_rfl) (by kernel_rfl) (by kernel_rfl) (by kernel_rfl) (by kernel_rfl) rfl trivial (fun _ _ _ h => h) hM (fun w hC => r_move hl rfl) rfl ?_
        clear hl a; intro a hl
        refine d_take (i := 4) hl rfl (by kernel_rfl) (by kernel_rfl) (by kernel_rfl) (by kernel_rfl) (by kernel_rfl) rfl trivial (fun _ _ _ h => h) hM (fun w hC => r_nilCheck hl rfl) rfl ?_
        clear hl a; intro a hl
        refine d_take (i := 5) hl rfl (by kernel_rfl) (by kernel_rfl) (by kernel_rfl) (by kernel_rfl) (by kernel_rfl) rfl trivial (fun _ _ _ h => h) hM (fun w hC => r_field hl rfl fld69_8) rfl ?_
        clear hl a; intro a hl
        refine d_take (i := 6) hl rfl (by kernel_rfl) (by kernel_rfl) (by kernel_rfl) (by kernel_rfl) (by kernel_rfl) rfl trivial (fun _ _ _ h => h) hM (fun w hC => r_loadC hl rfl one2 hC (by repeat (first | exact find_head | apply find_tail)) (by first | rfl)) rfl ?_
        clear hl a; intro a hl
        first | refine d_take (i := 7) hl rfl (by kernel_rfl) (by kernel_rfl) (by kernel_rfl) (by kernel_rfl) (by kernel_rfl) rfl trivial (fun _ _ _ h => h) hM (fun w hC => r_sub hl rfl rfl (by simp only [Fits]; omega)) rfl ?_ | refine d_take (i := 7) hl rfl (by kernel_rfl) (by kernel_rfl) (by kernel_rfl) (by kernel_rfl) (by kernel_rfl) rfl trivial (fun _ _ _ h => h) hM (fun w hC => r_subW hl rfl rfl) rfl ?_
        clear hl a; intro a hl
        rw [show s.una + (q : Int) - s.una = (q : Int) by omega] at hl
        refine d_take (i := 8) hl rfl (by kernel_rfl) (by kernel_rfl) (by kernel_rfl) (by kernel_rfl) (by kernel_rfl) rfl trivial (fun _ _ _ h => h) hM (fun w hC => r_move hl rfl) rfl ?_
        clear hl a; intro a hl
        refine d_take (i := 9) hl rfl (by kernel_rfl) (by kernel_rfl) (by kernel_rfl) (by kernel_rfl) (by kernel_rfl) rfl trivial (fun _ _ _ h => h) hM (fun w hC => r_move hl rfl) rfl ?_
        clear hl a; intro a hl
        refine d_take (i := 10) hl rfl (by kernel_rfl) (by kernel_rfl) (by kernel_rfl) (by kernel_rfl) (by kernel_rfl) rfl trivial (fun _ _ _ h => h) hM (fun w hC => r_nilCheck hl rfl) rfl ?_
        clear hl a; intro a hl
        refine d_take (i := 11) hl rfl (by kernel_rfl) (by kernel_rfl) (by kernel_rfl) (by kernel_rfl) (by kernel_rfl) rfl trivial (fun _ _ _ h => h) hM (fun w hC => r_field hl rfl fld69_11) rfl ?_
        clear hl a; intro a hl
        refine d_take (i := 12) hl rfl (by kernel_rfl) (by kernel_rfl) (by kernel_rfl) (by kernel_rfl) (by kernel_rfl) rfl trivial (fun _ _ _ h => h) hM (fun w hC => r_loadC hl rfl one2 hC (by repeat (first | exact find_head | apply find_tail)) (by first | rfl)) rfl ?_
        clear hl a; intro a hl
        refine d_take (i := 13) hl rfl (by kernel_rfl) (by kernel_rfl) (by kernel_rfl) (by kernel_rfl) (by kernel_rfl) rfl trivial (fun _ _ _ h => h) hM (fun w hC => r_lss hl rfl rfl) rfl ?_
        clear hl a; intro a hl
        refine d_takeL (i := 14) hl rfl (by kernel_rfl) (by kernel_rfl) (by kernel_rfl) (by kernel_rfl) (by kernel_rfl) rfl trivial (fun _ _ _ h => h) (fun w => r_indexS hl rfl rfl slc77 (by omega) (by omega) (by first | (simp only [Int.reduceToNat]; rfl) | exact toNat_add1 _ | exact toNat_add2 _ _ | exact toNat_emod _ _ | exact Int.toNat_natCast _ | rfl)) rfl ?_
        clear hl a; intro a hl
        refine d_one (i := 15) (by kernel_rfl) rfl ?_
        try clear hM
        refine id (w_store hl hh trivial one4 rfl rfl (by repeat (first | exact find_head | apply find_tail)) (by rw [arrL_length]; omega) (by first | rfl | assumption | (apply Row.one; assumption)) (by first | exact ls_set (by omega) (lsG_2 (by assumption)) | exact ls_set (by omega) (lsG_a (by assumption) (by assumption)) | exact ls_set (by omega) (lsG_b (by assumption) (by omega))) ?_)
        clear hh w; intro w hh
        refine d_step (fun h => absurd h (by decide)) ?_
        refine d_done (by kernel_rfl) ?_
        try clear hM
        have hl2 := hl.add (t := 0) (hl.add (t := 3) (hl.add (t := 4) (hl.add (t := 5) (hl.add (t := 6) (hl.add (t := 7) (hl.add (t := 8) (hl.add (t := 9) (hl.nil) rfl) rfl) rfl) rfl) rfl) rfl) rfl) rfl; clear hl; have hl := hl2; clear hl2
        refine then_normal ?_
        refine c_seq ?_
        refine c_region ?_
        refine wl (w_loadA hl hh rfl trivial agg79 rfl (by repeat (first | exact find_head | apply find_tail)) (by first | (simp only [List.getElem?_cons_zero, List.getElem?_cons_succ, Value.cells, List.take_zero, List.take_succ_cons, List.take_nil, List.drop_zero, List.drop_succ_cons, List.drop_nil, List.length_cons, List.length_nil, List.cons_append, List.nil_append, List.append_nil, Nat.zero_add, Nat.add_zero, Nat.reduceAdd, Nat.reduceBEq, Nat.reduceEqDiff, Nat.ble, BEq.rfl, Bool.and_true, Bool.and_self, cond_true, beq_self_eq_true]; rfl)) (by first | rfl | (simp; done)) ?_)
        clear hl a; intro a hl
        refine wl (wl_val hl rfl trivial (r_move hl rfl) ?_)
        clear hl a; intro a hl
        refine wl (w_call hl hh rfl trivial rfl cal47 rfl (at_m s.una f fb g _ (by omega) (by omega) (by omega)) (by repeat (first | exact keeps_nil | apply keeps_cons (by repeat (first | exact find_head | apply find_tail)) (by first  | rfl) | exact keeps_self | apply keeps_mv)) (heap_keep hh hpf) ?_)
        clear hl hh a w; intro vc Fc a w hR hl hh
        obtain ⟨rfl, rfl⟩ := hR
        try simp only [List.cons_append, List.nil_append] at hh
        rw [at_q (by omega)] at hl
        refine w_nil ?_
        have hl2 := hl.add (t := 0) (hl.add (t := 3) (hl.add (t := 4) (hl.add (t := 5) (hl.add (t := 6) (hl.add (t := 7) (hl.add (t := 8) (hl.add (t := 9) (hl.add (t := 89) (hl.nil) rfl) rfl) rfl) rfl) rfl) rfl) rfl) rfl) rfl; clear hl; have hl := hl2; clear hl2
        refine then_normal ?_
        refine c_cond hl rfl ?_ ?_
        · intro hc2
          try simp only [decide_eq_true_eq, decide_eq_false_iff_not, Bool.not_eq_true', Bool.not_eq_false', Bool.not_eq_true, Bool.not_eq_false, Bool.and_eq_true, Bool.or_eq_true, Bool.and_eq_false_iff, Bool.or_eq_false_iff, Bool.not_not, ne_eq, Int.not_lt, Int.not_le, Decidable.not_not, beq_iff_eq, bne_iff_ne] at hc2
          refine c_seq ?_
          refine c_region ?_
          refine wl (wl_val hl rfl trivial (r_move hl rfl) ?_)
          clear hl a; intro a hl
          first | refine wl (wl_val hl rfl trivial (r_add hl rfl rfl (by simp only [Fits]; omega)) ?_) | refine wl (wl_val hl rfl trivial (r_addW hl rfl rfl) ?_)
          clear hl a; intro a hl
          refine wl (wl_val hl rfl trivial (r_assign hl rfl) ?_)
          clear hl a; intro a hl
          refine w_nil ?_
          have hl2 := hl.add (t := 0) (hl.add (t := 3) (hl.add (t := 4) (hl.add (t := 5) (hl.add (t := 6) (hl.add (t := 7) (hl.add (t := 8) (hl.add (t := 9) (hl.nil) rfl) rfl) rfl) rfl) rfl) rfl) rfl) rfl; clear hl; have hl := hl2; clear hl2
          refine then_normal ?_
          refine c_seq ?_
          refine c_region ?_
          refine wl (w_loadA hl hh rfl trivial agg79 rfl (by repeat (first | exact find_head | apply find_tail)) (by first | (simp only [List.getElem?_cons_zero, List.getElem?_cons_succ, Value.cells, List.take_zero, List.take_succ_cons, List.take_nil, List.drop_zero, List.drop_succ_cons, List.drop_nil, List.length_cons, List.length_nil, List.cons_append, List.nil_append, List.append_nil, Nat.zero_add, Nat.add_zero, Nat.reduceAdd, Nat.reduceBEq, Nat.reduceEqDiff, Nat.ble, BEq.rfl, Bool.and_true, Bool.and_self, cond_true, beq_self_eq_true]; rfl)) (by first | rfl | (simp; done)) ?_)
          clear hl a; intro a hl
          refine wl (wl_val hl rfl trivial (r_move hl rfl) ?_)
          clear hl a; intro a hl
          first | refine wl (wl_val hl rfl trivial (r_sub hl rfl rfl (by simp only [Fits]; omega)) ?_) | refine wl (wl_val hl rfl trivial (r_subW hl rfl rfl) ?_)
          clear hl a; intro a hl
          refine wl (w_call hl hh rfl trivial rfl cal47 rfl (at_m s.una f fb g _ (by omega) (by omega) (by omega)) (by repeat (first | exact keeps_nil | apply keeps_cons (by repeat (first | exact find_head | apply find_tail)) (by first  | rfl) | exact keeps_self | apply keeps_mv)) (heap_keep hh hpf) ?_)
          clear hl hh a w; intro vc Fc a w hR hl hh
          obtain ⟨rfl, rfl⟩ := hR
          try simp only [List.cons_append, List.nil_append] at hh
          rw [at_p (by omega)] at hl
          refine wl (wl_val hl rfl trivial (r_not hl rfl) ?_)
          clear hl a; intro a hl
          refine w_nil ?_
          have hl2 := hl.add (t := 0) (hl.add (t := 3) (hl.add (t := 4) (hl.add (t := 5) (hl.add (t := 6) (hl.add (t := 7) (hl.add (t := 8) (hl.add (t := 9) (hl.add (t := 96) (hl.nil) rfl) rfl) rfl) rfl) rfl) rfl) rfl) rfl) rfl; clear hl; have hl := hl2; clear hl2
          refine then_normal ?_
          refine c_cond hl rfl ?_ ?_
          · intro hc3
            try simp only [decide_eq_true_eq, decide_eq_false_iff_not, Bool.not_eq_true', Bool.not_eq_false', Bool.not_eq_true, Bool.not_eq_false, Bool.and_eq_true, Bool.or_eq_true, Bool.and_eq_false_iff, Bool.or_eq_false_iff, Bool.not_not, ne_eq, Int.not_lt, Int.not_le, Decidable.not_not, beq_iff_eq, bne_iff_ne] at hc3
            refine c_region ?_
            refine wl (wl_val hl rfl trivial (r_move hl rfl) ?_)
            clear hl a; intro a hl
            first | refine wl (wl_val hl rfl trivial (r_add hl rfl rfl (by simp only [Fits]; omega)) ?_) | refine wl (wl_val hl rfl trivial (r_addW hl rfl rfl) ?_)
            clear hl a; intro a hl
            refine wl (wl_val hl rfl trivial (r_assign hl rfl) ?_)
            clear hl a; intro a hl
            refine w_nil ?_
            have hl2 := hl.add (t := 0) (hl.add (t := 3) (hl.add (t := 4) (hl.add (t := 5) (hl.add (t := 6) (hl.add (t := 7) (hl.add (t := 8) (hl.add (t := 9) (hl.nil) rfl) rfl) rfl) rfl) rfl) rfl) rfl) rfl; clear hl; have hl := hl2; clear hl2
            refine blk_normal ?_
            refine then_normal ?_
            refine c_region ?_
            refine wl (wl_val hl rfl trivial (r_move hl rfl) ?_)
            clear hl a; intro a hl
            first | refine wl (wl_val hl rfl trivial (r_sub hl rfl rfl (by simp only [Fits]; omega)) ?_) | refine wl (wl_val hl rfl trivial (r_subW hl rfl rfl) ?_)
            clear hl a; intro a hl
            refine wl (wl_val hl rfl trivial (r_assign hl rfl) ?_)
            clear hl a; intro a hl
            refine w_nil ?_
            have hl2 := hl.add (t := 0) (hl.add (t := 3) (hl.add (t := 4) (hl.add (t := 5) (hl.add (t := 6) (hl.add (t := 7) (hl.add (t := 8) (hl.add (t := 9) (hl.nil) rfl) rfl) rfl) rfl) rfl) rfl) rfl) rfl; clear hl; have hl := hl2; clear hl2
            refine then_normal ?_
            refine ⟨q, (by omega), (by omega), hl.addE (t := 9) (hl.addE (t := 7) (hl.addE (t := 8) (hl.addE (t := 0) (hl.addE (t := 3) (hl.addE (t := 4) (hl.addE (t := 5) (hl.addE (t := 6) (hl.nil) rfl (by first | rfl | (exact congrArg (Value.int .i64) (cnt_1 (by omega) (by assumption)).symm) | (exact congrArg (Value.int .i64) (cnt_1 (by omega) (run_1 (by assumption) (by assumption))).symm) | (exact congrArg (fun z : Nat => Value.int .i64 (z : Int)) (cnt_0 (by omega) (by assumption)).symm) | (exact congrArg (fun z : Nat => Value.int .i64 (z : Int)) (cnt_0 (by omega) (run_0 (.inl (by assumption)))).symm) | (exact congrArg (fun z : Nat => Value.int .i64 (z : Int)) (cnt_0 (by omega) (run_0 (.inr (by assumption)))).symm))) rfl (by first | rfl | (exact congrArg (Value.int .i64) (cnt_1 (by omega) (by assumption)).symm) | (exact congrArg (Value.int .i64) (cnt_1 (by omega) (run_1 (by assumption) (by assumption))).symm) | (exact congrArg (fun z : Nat => Value.int .i64 (z : Int)) (cnt_0 (by omega) (by assumption)).symm) | (exact congrArg (fun z : Nat => Value.int .i64 (z : Int)) (cnt_0 (by omega) (run_0 (.inl (by assumption)))).symm) | (exact congrArg (fun z : Nat => Value.int .i64 (z : Int)) (cnt_0 (by omega) (run_0 (.inr (by assumption)))).symm))) rfl (by first | rfl | (exact congrArg (Value.int .i64) (cnt_1 (by omega) (by assumption)).symm) | (exact congrArg (Value.int .i64) (cnt_1 (by omega) (run_1 (by assumption) (by assumption))).symm) | (exact congrArg (fun z : Nat => Value.int .i64 (z : Int)) (cnt_0 (by omega) (by assumption)).symm) | (exact congrArg (fun z : Nat => Value.int .i64 (z : Int)) (cnt_0 (by omega) (run_0 (.inl (by assumption)))).symm) | (exact congrArg (fun z : Nat => Value.int .i64 (z : Int)) (cnt_0 (by omega) (run_0 (.inr (by assumption)))).symm))) rfl (by first | rfl | (exact congrArg (Value.int .i64) (cnt_1 (by omega) (by assumption)).symm) | (exact congrArg (Value.int .i64) (cnt_1 (by omega) (run_1 (by assumption) (by assumption))).symm) | (exact congrArg (fun z : Nat => Value.int .i64 (z : Int)) (cnt_0 (by omega) (by assumption)).symm) | (exact congrArg (fun z : Nat => Value.int .i64 (z : Int)) (cnt_0 (by omega) (run_0 (.inl (by assumption)))).symm) | (exact congrArg (fun z : Nat => Value.int .i64 (z : Int)) (cnt_0 (by omega) (run_0 (.inr (by assumption)))).symm))) rfl (by first | rfl | (exact congrArg (Value.int .i64) (cnt_1 (by omega) (by assumption)).symm) | (exact congrArg (Value.int .i64) (cnt_1 (by omega) (run_1 (by assumption) (by assumption))).symm) | (exact congrArg (fun z : Nat => Value.int .i64 (z : Int)) (cnt_0 (by omega) (by assumption)).symm) | (exact congrArg (fun z : Nat => Value.int .i64 (z : Int)) (cnt_0 (by omega) (run_0 (.inl (by assumption)))).symm) | (exact congrArg (fun z : Nat => Value.int .i64 (z : Int)) (cnt_0 (by omega) (run_0 (.inr (by assumption)))).symm))) rfl (by first | rfl | (exact congrArg (Value.int .i64) (cnt_1 (by omega) (by assumption)).symm) | (exact congrArg (Value.int .i64) (cnt_1 (by omega) (run_1 (by assumption) (by assumption))).symm) | (exact congrArg (fun z : Nat => Value.int .i64 (z : Int)) (cnt_0 (by omega) (by assumption)).symm) | (exact congrArg (fun z : Nat => Value.int .i64 (z : Int)) (cnt_0 (by omega) (run_0 (.inl (by assumption)))).symm) | (exact congrArg (fun z : Nat => Value.int .i64 (z : Int)) (cnt_0 (by omega) (run_0 (.inr (by assumption)))).symm))) rfl (by first | rfl | (exact congrArg (Value.int .i64) (cnt_1 (by omega) (by assumption)).symm) | (exact congrArg (Value.int .i64) (cnt_1 (by omega) (run_1 (by assumption) (by assumption))).symm) | (exact congrArg (fun z : Nat => Value.int .i64 (z : Int)) (cnt_0 (by omega) (by assumption)).symm) | (exact congrArg (fun z : Nat => Value.int .i64 (z : Int)) (cnt_0 (by omega) (run_0 (.inl (by assumption)))).symm) | (exact congrArg (fun z : Nat => Value.int .i64 (z : Int)) (cnt_0 (by omega) (run_0 (.inr (by assumption)))).symm))) rfl (by first | rfl | (exact congrArg (Value.int .i64) (cnt_1 (by omega) (by assumption)).symm) | (exact congrArg (Value.int .i64) (cnt_1 (by omega) (run_1 (by assumption) (by assumption))).symm) | (exact congrArg (fun z : Nat => Value.int .i64 (z : Int)) (cnt_0 (by omega) (by assumption)).symm) | (exact congrArg (fun z : Nat => Value.int .i64 (z : Int)) (cnt_0 (by omega) (run_0 (.inl (by assumption)))).symm) | (exact congrArg (fun z : Nat => Value.int .i64 (z : Int)) (cnt_0 (by omega) (run_0 (.inr (by assumption)))).symm)), hh.keep (by repeat (first | exact keeps_nil | apply keeps_cons (by repeat (first | exact find_head | apply find_tail)) (by first  | rfl) | exact keeps_self | apply keeps_mv))⟩
          · intro hc3
            try simp only [decide_eq_true_eq, decide_eq_false_iff_not, Bool.not_eq_true', Bool.not_eq_false', Bool.not_eq_true, Bool.not_eq_false, Bool.and_eq_true, Bool.or_eq_true, Bool.and_eq_false_iff, Bool.or_eq_false_iff, Bool.not_not, ne_eq, Int.not_lt, Int.not_le, Decidable.not_not, beq_iff_eq, bne_iff_ne] at hc3
            refine wp_skip ?_
            refine blk_normal ?_
            refine then_normal ?_
            refine c_region ?_
            refine wl (wl_val hl rfl trivial (r_move hl rfl) ?_)
            clear hl a; intro a hl
            first | refine wl (wl_val hl rfl trivial (r_sub hl rfl rfl (by simp only [Fits]; omega)) ?_) | refine wl (wl_val hl rfl trivial (r_subW hl rfl rfl) ?_)
            clear hl a; intro a hl
            refine wl (wl_val hl rfl trivial (r_assign hl rfl) ?_)
            clear hl a; intro a hl
            refine w_nil ?_
            have hl2 := hl.add (t := 0) (hl.add (t := 3) (hl.add (t := 4) (hl.add (t := 5) (hl.add (t := 6) (hl.add (t := 7) (hl.add (t := 8) (hl.add (t := 9) (hl.nil) rfl) rfl) rfl) rfl) rfl) rfl) rfl) rfl; clear hl; have hl := hl2; clear hl2
            refine then_normal ?_
            refine ⟨q, (by omega), (by omega), hl.addE (t := 9) (hl.addE (t := 7) (hl.addE (t := 8) (hl.addE (t := 0) (hl.addE (t := 3) (hl.addE (t := 4) (hl.addE (t := 5) (hl.addE (t := 6) (hl.nil) rfl (by first | rfl | (exact congrArg (Value.int .i64) (cnt_1 (by omega) (by assumption)).symm) | (exact congrArg (Value.int .i64) (cnt_1 (by omega) (run_1 (by assumption) (by assumption))).symm) | (exact congrArg (fun z : Nat => Value.int .i64 (z : Int)) (cnt_0 (by omega) (by assumption)).symm) | (exact congrArg (fun z : Nat => Value.int .i64 (z : Int)) (cnt_0 (by omega) (run_0 (.inl (by assumption)))).symm) | (exact congrArg (fun z : Nat => Value.int .i64 (z : Int)) (cnt_0 (by omega) (run_0 (.inr (by assumption)))).symm))) rfl (by first | rfl | (exact congrArg (Value.int .i64) (cnt_1 (by omega) (by assumption)).symm) | (exact congrArg (Value.int .i64) (cnt_1 (by omega) (run_1 (by assumption) (by assumption))).symm) | (exact congrArg (fun z : Nat => Value.int .i64 (z : Int)) (cnt_0 (by omega) (by assumption)).symm) | (exact congrArg (fun z : Nat => Value.int .i64 (z : Int)) (cnt_0 (by omega) (run_0 (.inl (by assumption)))).symm) | (exact congrArg (fun z : Nat => Value.int .i64 (z : Int)) (cnt_0 (by omega) (run_0 (.inr (by assumption)))).symm))) rfl (by first | rfl | (exact congrArg (Value.int .i64) (cnt_1 (by omega) (by assumption)).symm) | (exact congrArg (Value.int .i64) (cnt_1 (by omega) (run_1 (by assumption) (by assumption))).symm) | (exact congrArg (fun z : Nat => Value.int .i64 (z : Int)) (cnt_0 (by omega) (by assumption)).symm) | (exact congrArg (fun z : Nat => Value.int .i64 (z : Int)) (cnt_0 (by omega) (run_0 (.inl (by assumption)))).symm) | (exact congrArg (fun z : Nat => Value.int .i64 (z : Int)) (cnt_0 (by omega) (run_0 (.inr (by assumption)))).symm))) rfl (by first | rfl | (exact congrArg (Value.int .i64) (cnt_1 (by omega) (by assumption)).symm) | (exact congrArg (Value.int .i64) (cnt_1 (by omega) (run_1 (by assumption) (by assumption))).symm) | (exact congrArg (fun z : Nat => Value.int .i64 (z : Int)) (cnt_0 (by omega) (by assumption)).symm) | (exact congrArg (fun z : Nat => Value.int .i64 (z : Int)) (cnt_0 (by omega) (run_0 (.inl (by assumption)))).symm) | (exact congrArg (fun z : Nat => Value.int .i64 (z : Int)) (cnt_0 (by omega) (run_0 (.inr (by assumption)))).symm))) rfl (by first | rfl | (exact congrArg (Value.int .i64) (cnt_1 (by omega) (by assumption)).symm) | (exact congrArg (Value.int .i64) (cnt_1 (by omega) (run_1 (by assumption) (by assumption))).symm) | (exact congrArg (fun z : Nat => Value.int .i64 (z : Int)) (cnt_0 (by omega) (by assumption)).symm) | (exact congrArg (fun z : Nat => Value.int .i64 (z : Int)) (cnt_0 (by omega) (run_0 (.inl (by assumption)))).symm) | (exact congrArg (fun z : Nat => Value.int .i64 (z : Int)) (cnt_0 (by omega) (run_0 (.inr (by assumption)))).symm))) rfl (by first | rfl | (exact congrArg (Value.int .i64) (cnt_1 (by omega) (by assumption)).symm) | (exact congrArg (Value.int .i64) (cnt_1 (by omega) (run_1 (by assumption) (by assumption))).symm) | (exact congrArg (fun z : Nat => Value.int .i64 (z : Int)) (cnt_0 (by omega) (by assumption)).symm) | (exact congrArg (fun z : Nat => Value.int .i64 (z : Int)) (cnt_0 (by omega) (run_0 (.inl (by assumption)))).symm) | (exact congrArg (fun z : Nat => Value.int .i64 (z : Int)) (cnt_0 (by omega) (run_0 (.inr (by assumption)))).symm))) rfl (by first | rfl | (exact congrArg (Value.int .i64) (cnt_1 (by omega) (by assumption)).symm) | (exact congrArg (Value.int .i64) (cnt_1 (by omega) (run_1 (by assumption) (by assumption))).symm) | (exact congrArg (fun z : Nat => Value.int .i64 (z : Int)) (cnt_0 (by omega) (by assumption)).symm) | (exact congrArg (fun z : Nat => Value.int .i64 (z : Int)) (cnt_0 (by omega) (run_0 (.inl (by assumption)))).symm) | (exact congrArg (fun z : Nat => Value.int .i64 (z : Int)) (cnt_0 (by omega) (run_0 (.inr (by assumption)))).symm))) rfl (by first | rfl | (exact congrArg (Value.int .i64) (cnt_1 (by omega) (by assumption)).symm) | (exact congrArg (Value.int .i64) (cnt_1 (by omega) (run_1 (by assumption) (by assumption))).symm) | (exact congrArg (fun z : Nat => Value.int .i64 (z : Int)) (cnt_0 (by omega) (by assumption)).symm) | (exact congrArg (fun z : Nat => Value.int .i64 (z : Int)) (cnt_0 (by omega) (run_0 (.inl (by assumption)))).symm) | (exact congrArg (fun z : Nat => Value.int .i64 (z : Int)) (cnt_0 (by omega) (run_0 (.inr (by assumption)))).symm)), hh.keep (by repeat (first | exact keeps_nil | apply keeps_cons (by repeat (first | exact find_head | apply find_tail)) (by first  | rfl) | exact keeps_self | apply keeps_mv))⟩
        · intro hc2
          try simp only [decide_eq_true_eq, decide_eq_false_iff_not, Bool.not_eq_true', Bool.not_eq_false', Bool.not_eq_true, Bool.not_eq_false, Bool.and_eq_true, Bool.or_eq_true, Bool.and_eq_false_iff, Bool.or_eq_false_iff, Bool.not_not, ne_eq, Int.not_lt, Int.not_le, Decidable.not_not, beq_iff_eq, bne_iff_ne] at hc2
          refine wp_skip ?_
          refine blk_normal ?_
          refine then_normal ?_
          refine c_region ?_
          refine wl (wl_val hl rfl trivial (r_move hl rfl) ?_)
          clear hl a; intro a hl
          first | refine wl (wl_val hl rfl trivial (r_sub hl rfl rfl (by simp only [Fits]; omega)) ?_) | refine wl (wl_val hl rfl trivial (r_subW hl rfl rfl) ?_)
          clear hl a; intro a hl
          refine wl (wl_val hl rfl trivial (r_assign hl rfl) ?_)
          clear hl a; intro a hl
          refine w_nil ?_
          have hl2 := hl.add (t := 0) (hl.add (t := 3) (hl.add (t := 4) (hl.add (t := 5) (hl.add (t := 6) (hl.add (t := 7) (hl.add (t := 8) (hl.add (t := 9) (hl.nil) rfl) rfl) rfl) rfl) rfl) rfl) rfl) rfl; clear hl; have hl := hl2; clear hl2
          refine then_normal ?_
          refine ⟨q, (by omega), (by omega), hl.addE (t := 9) (hl.addE (t := 7) (hl.addE (t := 8) (hl.addE (t := 0) (hl.addE (t := 3) (hl.addE (t := 4) (hl.addE (t := 5) (hl.addE (t := 6) (hl.nil) rfl (by first | rfl | (exact congrArg (Value.int .i64) (cnt_1 (by omega) (by assumption)).symm) | (exact congrArg (Value.int .i64) (cnt_1 (by omega) (run_1 (by assumption) (by assumption))).symm) | (exact congrArg (fun z : Nat => Value.int .i64 (z : Int)) (cnt_0 (by omega) (by assumption)).symm) | (exact congrArg (fun z : Nat => Value.int .i64 (z : Int)) (cnt_0 (by omega) (run_0 (.inl (by assumption)))).symm) | (exact congrArg (fun z : Nat => Value.int .i64 (z : Int)) (cnt_0 (by omega) (run_0 (.inr (by assumption)))).symm))) rfl (by first | rfl | (exact congrArg (Value.int .i64) (cnt_1 (by omega) (by assumption)).symm) | (exact congrArg (Value.int .i64) (cnt_1 (by omega) (run_1 (by assumption) (by assumption))).symm) | (exact congrArg (fun z : Nat => Value.int .i64 (z : Int)) (cnt_0 (by omega) (by assumption)).symm) | (exact congrArg (fun z : Nat => Value.int .i64 (z : Int)) (cnt_0 (by omega) (run_0 (.inl (by assumption)))).symm) | (exact congrArg (fun z : Nat => Value.int .i64 (z : Int)) (cnt_0 (by omega) (run_0 (.inr (by assumption)))).symm))) rfl (by first | rfl | (exact congrArg (Value.int .i64) (cnt_1 (by omega) (by assumption)).symm) | (exact congrArg (Value.int .i64) (cnt_1 (by omega) (run_1 (by assumption) (by assumption))).symm) | (exact congrArg (fun z : Nat => Value.int .i64 (z : Int)) (cnt_0 (by omega) (by assumption)).symm) | (exact congrArg (fun z : Nat => Value.int .i64 (z : Int)) (cnt_0 (by omega) (run_0 (.inl (by assumption)))).symm) | (exact congrArg (fun z : Nat => Value.int .i64 (z : Int)) (cnt_0 (by omega) (run_0 (.inr (by assumption)))).symm))) rfl (by first | rfl | (exact congrArg (Value.int .i64) (cnt_1 (by omega) (by assumption)).symm) | (exact congrArg (Value.int .i64) (cnt_1 (by omega) (run_1 (by assumption) (by assumption))).symm) | (exact congrArg (fun z : Nat => Value.int .i64 (z : Int)) (cnt_0 (by omega) (by assumption)).symm) | (exact congrArg (fun z : Nat => Value.int .i64 (z : Int)) (cnt_0 (by omega) (run_0 (.inl (by assumption)))).symm) | (exact congrArg (fun z : Nat => Value.int .i64 (z : Int)) (cnt_0 (by omega) (run_0 (.inr (by assumption)))).symm))) rfl (by first | rfl | (exact congrArg (Value.int .i64) (cnt_1 (by omega) (by assumption)).symm) | (exact congrArg (Value.int .i64) (cnt_1 (by omega) (run_1 (by assumption) (by assumption))).symm) | (exact congrArg (fun z : Nat => Value.int .i64 (z : Int)) (cnt_0 (by omega) (by assumption)).symm) | (exact congrArg (fun z : Nat => Value.int .i64 (z : Int)) (cnt_0 (by omega) (run_0 (.inl (by assumption)))).symm) | (exact congrArg (fun z : Nat => Value.int .i64 (z : Int)) (cnt_0 (by omega) (run_0 (.inr (by assumption)))).symm))) rfl (by first | rfl | (exact congrArg (Value.int .i64) (cnt_1 (by omega) (by assumption)).symm) | (exact congrArg (Value.int .i64) (cnt_1 (by omega) (run_1 (by assumption) (by assumption))).symm) | (exact congrArg (fun z : Nat => Value.int .i64 (z : Int)) (cnt_0 (by omega) (by assumption)).symm) | (exact congrArg (fun z : Nat => Value.int .i64 (z : Int)) (cnt_0 (by omega) (run_0 (.inl (by assumption)))).symm) | (exact congrArg (fun z : Nat => Value.int .i64 (z : Int)) (cnt_0 (by omega) (run_0 (.inr (by assumption)))).symm))) rfl (by first | rfl | (exact congrArg (Value.int .i64) (cnt_1 (by omega) (by assumption)).symm) | (exact congrArg (Value.int .i64) (cnt_1 (by omega) (run_1 (by assumption) (by assumption))).symm) | (exact congrArg (fun z : Nat => Value.int .i64 (z : Int)) (cnt_0 (by omega) (by assumption)).symm) | (exact congrArg (fun z : Nat => Value.int .i64 (z : Int)) (cnt_0 (by omega) (run_0 (.inl (by assumption)))).symm) | (exact congrArg (fun z : Nat => Value.int .i64 (z : Int)) (cnt_0 (by omega) (run_0 (.inr (by assumption)))).symm))) rfl (by first | rfl | (exact congrArg (Value.int .i64) (cnt_1 (by omega) (by assumption)).symm) | (exact congrArg (Value.int .i64) (cnt_1 (by omega) (run_1 (by assumption) (by assumption))).symm) | (exact congrArg (fun z : Nat => Value.int .i64 (z : Int)) (cnt_0 (by omega) (by assumption)).symm) | (exact congrArg (fun z : Nat => Value.int .i64 (z : Int)) (cnt_0 (by omega) (run_0 (.inl (by assumption)))).symm) | (exact congrArg (fun z : Nat => Value.int .i64 (z : Int)) (cnt_0 (by omega) (run_0 (.inr (by assumption)))).symm)), hh.keep (by repeat (first | exact keeps_nil | apply keeps_cons (by repeat (first | exact find_head | apply find_tail)) (by first  | rfl) | exact keeps_self | apply keeps_mv))⟩
      · intro hc1
        try simp only [decide_eq_true_eq, decide_eq_false_iff_not, Bool.not_eq_true', Bool.not_eq_false', Bool.not_eq_true, Bool.not_eq_false, Bool.and_eq_true, Bool.or_eq_true, Bool.and_eq_false_iff, Bool.or_eq_false_iff, Bool.not_not, ne_eq, Int.not_lt, Int.not_le, Decidable.not_not, beq_iff_eq, bne_iff_ne] at hc1
        refine c_draw [(k5, C [.int .i64 s.una, .slice (some ⟨k23, 0, none⟩) f f] 79), (mp, C (encM (s) st sk bp) 69)] [22, 23] mixed hh ?_
        clear hh w; intro w hh
        have hM : Mem [(k5, C [.int .i64 s.una, .slice (some ⟨k23, 0, none⟩) f f] 79), (mp, C (encM (s) st sk bp) 69)] w := (by (repeat (first | exact Mem.nil | refine Mem.consR hh (by assumption) (by simp) ?_ | refine Mem.cons hh.mem (by (repeat (first | exact find_head | apply find_tail)); done) ?_ | fail)); done)
        refine d_take (i := 0) hl rfl (by kernel_rfl) (by kernel_rfl) (by kernel_rfl) (by kernel_rfl) (by kernel_rfl) rfl trivial (fun _ _ _ h => h) hM (fun w hC => r_field hl rfl fld79_1) rfl ?_
        clear hl a; intro a hl
        refine d_take (i := 1) hl rfl (by kernel_rfl) (by kernel_rfl) (by kernel_rfl) (by kernel_rfl) (by kernel_rfl) rfl trivial (fun _ _ _ h => h) hM (fun w hC => r_loadC hl rfl one77 hC (by repeat (first | exact find_head | apply find_tail)) (by first | rfl)) rfl ?_
        clear hl a; intro a hl
        refine d_take (i := 2) hl rfl (by kernel_rfl) (by kernel_rfl) (by kernel_rfl) (by kernel_rfl) (by kernel_rfl) rfl trivial (fun _ _ _ h => h) hM (fun w hC => r_move hl rfl) rfl ?_
        clear hl a; intro a hl
        refine d_take (i := 3) hl rfl (by kernel_rfl) (by kernel_rfl) (by kernel_rfl) (by kernel_rfl) (by kernel_rfl) rfl trivial (fun _ _ _ h => h) hM (fun w hC => r_move hl rfl) rfl ?_
        clear hl a; intro a hl
        refine d_take (i := 4) hl rfl (by kernel_rfl) (by kernel_rfl) (by kernel_rfl) (by kernel_rfl) (by kernel_rfl) rfl trivial (fun _ _ _ h => h) hM (fun w hC => r_nilCheck hl rfl) rfl ?_
        clear hl a; intro a hl
        refine d_take (i := 5) hl rfl (by kernel_rfl) (by kernel_rfl) (by kernel_rfl) (by kernel_rfl) (by kernel_rfl) rfl trivial (fun _ _ _ h => h) hM (fun w hC => r_field hl rfl fld69_8) rfl ?_
        clear hl a; intro a hl
        refine d_take (i := 6) hl rfl (by kernel_rfl) (by kernel_rfl) (by kernel_rfl) (by kernel_rfl) (by kernel_rfl) rfl trivial (fun _ _ _ h => h) hM (fun w hC => r_loadC hl rfl one2 hC (by repeat (first | exact find_head | apply find_tail)) (by first | rfl)) rfl ?_
        clear hl a; intro a hl
        first | refine d_take (i := 7) hl rfl (by kernel_rfl) (by kernel_rfl) (by kernel_rfl) (by kernel_rfl) (by kernel_rfl) rfl trivial (fun _ _ _ h => h) hM (fun w hC => r_sub hl rfl rfl (by simp only [Fits]; omega)) rfl ?_ | refine d_take (i := 7) hl rfl (by kernel_rfl) (by kernel_rfl) (by kernel_rfl) (by kernel_rfl) (by kernel_rfl) rfl trivial (fun _ _ _ h => h) hM (fun w hC => r_subW hl rfl rfl) rfl ?_
        clear hl a; intro a hl
        rw [show s.una + (q : Int) - s.una = (q : Int) by omega] at hl
        refine d_take (i := 8) hl rfl (by kernel_rfl) (by kernel_rfl) (by kernel_rfl) (by kernel_rfl) (by kernel_rfl) rfl trivial (fun _ _ _ h => h) hM (fun w hC => r_move hl rfl) rfl ?_
        clear hl a; intro a hl
        refine d_take (i := 9) hl rfl (by kernel_rfl) (by kernel_rfl) (by kernel_rfl) (by kernel_rfl) (by kernel_rfl) rfl trivial (fun _ _ _ h => h) hM (fun w hC => r_move hl rfl) rfl ?_
        clear hl a; intro a hl
        refine d_take (i := 10) hl rfl (by kernel_rfl) (by kernel_rfl) (by kernel_rfl) (by kernel_rfl) (by kernel_rfl) rfl trivial (fun _ _ _ h => h) hM (fun w hC => r_geq hl rfl rfl) rfl ?_
        clear hl a; intro a hl
        refine d_take (i := 11) hl rfl (by kernel_rfl) (by kernel_rfl) (by kernel_rfl) (by kernel_rfl) (by kernel_rfl) rfl trivial (fun _ _ _ h => h) hM (fun w hC => r_move hl rfl) rfl ?_
        clear hl a; intro a hl
        refine sl_split (t := 75) hl rfl ?_ ?_
        · intro hg1; clear hl; intro hl
          try simp only [decide_eq_true_eq, decide_eq_false_iff_not, Bool.not_eq_true', Bool.not_eq_false', Bool.not_eq_true, Bool.not_eq_false, Bool.and_eq_true, Bool.or_eq_true, Bool.and_eq_false_iff, Bool.or_eq_false_iff, Bool.not_not, ne_eq, Int.not_lt, Int.not_le, Decidable.not_not, beq_iff_eq, bne_iff_ne] at hg1
          refine d_skip (i := 12) hl rfl (by kernel_rfl) (by kernel_rfl) (by kernel_rfl) (by kernel_rfl) (by kernel_rfl) rfl ⟨_, _, rfl, rfl, rfl⟩ (fun _ _ _ h => h) hM ?_
          clear hl a; intro a hl
          refine d_skip (i := 13) hl rfl (by kernel_rfl) (by kernel_rfl) (by kernel_rfl) (by kernel_rfl) (by kernel_rfl) rfl ⟨_, _, rfl, rfl, rfl⟩ (fun _ _ _ h => h) hM ?_
          clear hl a; intro a hl
          refine d_skip (i := 14) hl rfl (by kernel_rfl) (by kernel_rfl) (by kernel_rfl) (by kernel_rfl) (by kernel_rfl) rfl ⟨_, _, rfl, rfl, rfl⟩ (fun _ _ _ h => h) hM ?_
          clear hl a; intro a hl
          refine d_skip (i := 15) hl rfl (by kernel_rfl) (by kernel_rfl) (by kernel_rfl) (by kernel_rfl) (by kernel_rfl) rfl ⟨_, _, rfl, rfl, rfl⟩ (fun _ _ _ h => h) hM ?_
          clear hl a; intro a hl
          refine d_skip (i := 16) hl rfl (by kernel_rfl) (by kernel_rfl) (by kernel_rfl) (by kernel_rfl) (by kernel_rfl) rfl ⟨_, _, rfl, rfl, rfl⟩ (fun _ _ _ h => h) hM ?_
          clear hl a; intro a hl
          refine d_skip (i := 17) hl rfl (by kernel_rfl) (by kernel_rfl) (by kernel_rfl) (by kernel_rfl) (by kernel_rfl) rfl ⟨_, _, rfl, rfl, rfl⟩ (fun _ _ _ h => h) hM ?_
          clear hl a; intro a hl
          refine d_skip (i := 18) hl rfl (by kernel_rfl) (by kernel_rfl) (by kernel_rfl) (by kernel_rfl) (by kernel_rfl) rfl ⟨_, _, rfl, rfl, rfl⟩ (fun _ _ _ h => h) hM ?_
          clear hl a; intro a hl
          refine d_skip (i := 19) hl rfl (by kernel_rfl) (by kernel_rfl) (by kernel_rfl) (by kernel_rfl) (by kernel_rfl) rfl ⟨_, _, rfl, rfl, rfl⟩ (fun _ _ _ h => h) hM ?_
          clear hl a; intro a hl
          refine d_skip (i := 20) hl rfl (by kernel_rfl) (by kernel_rfl) (by kernel_rfl) (by kernel_rfl) (by kernel_rfl) rfl ⟨_, _, rfl, rfl, rfl⟩ (fun _ _ _ h => h) hM ?_
          clear hl a; intro a hl
          refine d_take (i := 21) hl rfl (by kernel_rfl) (by kernel_rfl) (by kernel_rfl) (by kernel_rfl) (by kernel_rfl) rfl trivial (fun _ _ _ h => h) hM (fun w hC => r_pickT hl rfl rfl) rfl ?_
          clear hl a; intro a hl
          refine d_takeL (i := 22) hl rfl (by kernel_rfl) (by kernel_rfl) (by kernel_rfl) (by kernel_rfl) (by kernel_rfl) rfl trivial (fun _ _ _ h => h) (fun w => r_indexS hl rfl rfl slc77 (by omega) (by omega) (by first | (simp only [Int.reduceToNat]; rfl) | exact toNat_add1 _ | exact toNat_add2 _ _ | exact toNat_emod _ _ | exact Int.toNat_natCast _ | rfl)) rfl ?_
          clear hl a; intro a hl
          refine d_one (i := 23) (by kernel_rfl) rfl ?_
          try clear hM
          refine id (w_store hl hh trivial one4 rfl rfl (by repeat (first | exact find_head | apply find_tail)) (by rw [arrL_length]; omega) (by first | rfl | assumption | (apply Row.one; assumption)) (by first | exact ls_set (by omega) (lsG_2 (by assumption)) | exact ls_set (by omega) (lsG_a (by assumption) (by assumption)) | exact ls_set (by omega) (lsG_b (by assumption) (by omega))) ?_)
          clear hh w; intro w hh
          refine d_step (fun h => absurd h (by decide)) ?_
          refine d_done (by kernel_rfl) ?_
          try clear hM
          have hl2 := hl.add (t := 0) (hl.add (t := 3) (hl.add (t := 4) (hl.add (t := 5) (hl.add (t := 6) (hl.add (t := 7) (hl.add (t := 8) (hl.add (t := 9) (hl.nil) rfl) rfl) rfl) rfl) rfl) rfl) rfl) rfl; clear hl; have hl := hl2; clear hl2
          refine then_normal ?_
          refine c_seq ?_
          refine c_region ?_
          refine wl (w_loadA hl hh rfl trivial agg79 rfl (by repeat (first | exact find_head | apply find_tail)) (by first | (simp only [List.getElem?_cons_zero, List.getElem?_cons_succ, Value.cells, List.take_zero, List.take_succ_cons, List.take_nil, List.drop_zero, List.drop_succ_cons, List.drop_nil, List.length_cons, List.length_nil, List.cons_append, List.nil_append, List.append_nil, Nat.zero_add, Nat.add_zero, Nat.reduceAdd, Nat.reduceBEq, Nat.reduceEqDiff, Nat.ble, BEq.rfl, Bool.and_true, Bool.and_self, cond_true, beq_self_eq_true]; rfl)) (by first | rfl | (simp; done)) ?_)
          clear hl a; intro a hl
          refine wl (wl_val hl rfl trivial (r_move hl rfl) ?_)
          clear hl a; intro a hl
          refine wl (w_call hl hh rfl trivial rfl cal47 rfl (at_m s.una f fb g _ (by omega) (by omega) (by omega)) (by repeat (first | exact keeps_nil | apply keeps_cons (by repeat (first | exact find_head | apply find_tail)) (by first  | rfl) | exact keeps_self | apply keeps_mv)) (heap_keep hh hpf) ?_)
          clear hl hh a w; intro vc Fc a w hR hl hh
          obtain ⟨rfl, rfl⟩ := hR
          try simp only [List.cons_append, List.nil_append] at hh
          rw [at_q (by omega)] at hl
          refine w_nil ?_
          have hl2 := hl.add (t := 0) (hl.add (t := 3) (hl.add (t := 4) (hl.add (t := 5) (hl.add (t := 6) (hl.add (t := 7) (hl.add (t := 8) (hl.add (t := 9) (hl.add (t := 89) (hl.nil) rfl) rfl) rfl) rfl) rfl) rfl) rfl) rfl) rfl; clear hl; have hl := hl2; clear hl2
          refine then_normal ?_
          refine c_cond hl rfl ?_ ?_
          · intro hc2
            try simp only [decide_eq_true_eq, decide_eq_false_iff_not, Bool.not_eq_true', Bool.not_eq_false', Bool.not_eq_true, Bool.not_eq_false, Bool.and_eq_true, Bool.or_eq_true, Bool.and_eq_false_iff, Bool.or_eq_false_iff, Bool.not_not, ne_eq, Int.not_lt, Int.not_le, Decidable.not_not, beq_iff_eq, bne_iff_ne] at hc2
            refine c_seq ?_
            refine c_region ?_
            refine wl (wl_val hl rfl trivial (r_move hl rfl) ?_)
            clear hl a; intro a hl
            first | refine wl (wl_val hl rfl trivial (r_add hl rfl rfl (by simp only [Fits]; omega)) ?_) | refine wl (wl_val hl rfl trivial (r_addW hl rfl rfl) ?_)
            clear hl a; intro a hl
            refine wl (wl_val hl rfl trivial (r_assign hl rfl) ?_)
            clear hl a; intro a hl
            refine w_nil ?_
            have hl2 := hl.add (t := 0) (hl.add (t := 3) (hl.add (t := 4) (hl.add (t := 5) (hl.add (t := 6) (hl.add (t := 7) (hl.add (t := 8) (hl.add (t := 9) (hl.nil) rfl) rfl) rfl) rfl) rfl) rfl) rfl) rfl; clear hl; have hl := hl2; clear hl2
            refine then_normal ?_
            refine c_seq ?_
            refine c_region ?_
            refine wl (w_loadA hl hh rfl trivial agg79 rfl (by repeat (first | exact find_head | apply find_tail)) (by first | (simp only [List.getElem?_cons_zero, List.getElem?_cons_succ, Value.cells, List.take_zero, List.take_succ_cons, List.take_nil, List.drop_zero, List.drop_succ_cons, List.drop_nil, List.length_cons, List.length_nil, List.cons_append, List.nil_append, List.append_nil, Nat.zero_add, Nat.add_zero, Nat.reduceAdd, Nat.reduceBEq, Nat.reduceEqDiff, Nat.ble, BEq.rfl, Bool.and_true, Bool.and_self, cond_true, beq_self_eq_true]; rfl)) (by first | rfl | (simp; done)) ?_)
            clear hl a; intro a hl
            refine wl (wl_val hl rfl trivial (r_move hl rfl) ?_)
            clear hl a; intro a hl
            first | refine wl (wl_val hl rfl trivial (r_sub hl rfl rfl (by simp only [Fits]; omega)) ?_) | refine wl (wl_val hl rfl trivial (r_subW hl rfl rfl) ?_)
            clear hl a; intro a hl
            refine wl (w_call hl hh rfl trivial rfl cal47 rfl (at_m s.una f fb g _ (by omega) (by omega) (by omega)) (by repeat (first | exact keeps_nil | apply keeps_cons (by repeat (first | exact find_head | apply find_tail)) (by first  | rfl) | exact keeps_self | apply keeps_mv)) (heap_keep hh hpf) ?_)
            clear hl hh a w; intro vc Fc a w hR hl hh
            obtain ⟨rfl, rfl⟩ := hR
            try simp only [List.cons_append, List.nil_append] at hh
            rw [at_p (by omega)] at hl
            refine wl (wl_val hl rfl trivial (r_not hl rfl) ?_)
            clear hl a; intro a hl
            refine w_nil ?_
            have hl2 := hl.add (t := 0) (hl.add (t := 3) (hl.add (t := 4) (hl.add (t := 5) (hl.add (t := 6) (hl.add (t := 7) (hl.add (t := 8) (hl.add (t := 9) (hl.add (t := 96) (hl.nil) rfl) rfl) rfl) rfl) rfl) rfl) rfl) rfl) rfl; clear hl; have hl := hl2; clear hl2
            refine then_normal ?_
            refine c_cond hl rfl ?_ ?_
            · intro hc3
              try simp only [decide_eq_true_eq, decide_eq_false_iff_not, Bool.not_eq_true', Bool.not_eq_false', Bool.not_eq_true, Bool.not_eq_false, Bool.and_eq_true, Bool.or_eq_true, Bool.and_eq_false_iff, Bool.or_eq_false_iff, Bool.not_not, ne_eq, Int.not_lt, Int.not_le, Decidable.not_not, beq_iff_eq, bne_iff_ne] at hc3
              refine c_region ?_
              refine wl (wl_val hl rfl trivial (r_move hl rfl) ?_)
              clear hl a; intro a hl
              first | refine wl (wl_val hl rfl trivial (r_add hl rfl rfl (by simp only [Fits]; omega)) ?_) | refine wl (wl_val hl rfl trivial (r_addW hl rfl rfl) ?_)
              clear hl a; intro a hl
              refine wl (wl_val hl rfl trivial (r_assign hl rfl) ?_)
              clear hl a; intro a hl
              refine w_nil ?_
              have hl2 := hl.add (t := 0) (hl.add (t := 3) (hl.add (t := 4) (hl.add (t := 5) (hl.add (t := 6) (hl.add (t := 7) (hl.add (t := 8) (hl.add (t := 9) (hl.nil) rfl) rfl) rfl) rfl) rfl) rfl) rfl) rfl; clear hl; have hl := hl2; clear hl2
              refine blk_normal ?_
              refine then_normal ?_
              refine c_region ?_
              refine wl (wl_val hl rfl trivial (r_move hl rfl) ?_)
              clear hl a; intro a hl
              first | refine wl (wl_val hl rfl trivial (r_sub hl rfl rfl (by simp only [Fits]; omega)) ?_) | refine wl (wl_val hl rfl trivial (r_subW hl rfl rfl) ?_)
              clear hl a; intro a hl
              refine wl (wl_val hl rfl trivial (r_assign hl rfl) ?_)
              clear hl a; intro a hl
              refine w_nil ?_
              have hl2 := hl.add (t := 0) (hl.add (t := 3) (hl.add (t := 4) (hl.add (t := 5) (hl.add (t := 6) (hl.add (t := 7) (hl.add (t := 8) (hl.add (t := 9) (hl.nil) rfl) rfl) rfl) rfl) rfl) rfl) rfl) rfl; clear hl; have hl := hl2; clear hl2
              refine then_normal ?_
              refine ⟨q, (by omega), (by omega), hl.addE (t := 9) (hl.addE (t := 7) (hl.addE (t := 8) (hl.addE (t := 0) (hl.addE (t := 3) (hl.addE (t := 4) (hl.addE (t := 5) (hl.addE (t := 6) (hl.nil) rfl (by first | rfl | (exact congrArg (Value.int .i64) (cnt_1 (by omega) (by assumption)).symm) | (exact congrArg (Value.int .i64) (cnt_1 (by omega) (run_1 (by assumption) (by assumption))).symm) | (exact congrArg (fun z : Nat => Value.int .i64 (z : Int)) (cnt_0 (by omega) (by assumption)).symm) | (exact congrArg (fun z : Nat => Value.int .i64 (z : Int)) (cnt_0 (by omega) (run_0 (.inl (by assumption)))).symm) | (exact congrArg (fun z : Nat => Value.int .i64 (z : Int)) (cnt_0 (by omega) (run_0 (.inr (by assumption)))).symm))) rfl (by first | rfl | (exact congrArg (Value.int .i64) (cnt_1 (by omega) (by assumption)).symm) | (exact congrArg (Value.int .i64) (cnt_1 (by omega) (run_1 (by assumption) (by assumption))).symm) | (exact congrArg (fun z : Nat => Value.int .i64 (z : Int)) (cnt_0 (by omega) (by assumption)).symm) | (exact congrArg (fun z : Nat => Value.int .i64 (z : Int)) (cnt_0 (by omega) (run_0 (.inl (by assumption)))).symm) | (exact congrArg (fun z : Nat => Value.int .i64 (z : Int)) (cnt_0 (by omega) (run_0 (.inr (by assumption)))).symm))) rfl (by first | rfl | (exact congrArg (Value.int .i64) (cnt_1 (by omega) (by assumption)).symm) | (exact congrArg (Value.int .i64) (cnt_1 (by omega) (run_1 (by assumption) (by assumption))).symm) | (exact congrArg (fun z : Nat => Value.int .i64 (z : Int)) (cnt_0 (by omega) (by assumption)).symm) | (exact congrArg (fun z : Nat => Value.int .i64 (z : Int)) (cnt_0 (by omega) (run_0 (.inl (by assumption)))).symm) | (exact congrArg (fun z : Nat => Value.int .i64 (z : Int)) (cnt_0 (by omega) (run_0 (.inr (by assumption)))).symm))) rfl (by first | rfl | (exact congrArg (Value.int .i64) (cnt_1 (by omega) (by assumption)).symm) | (exact congrArg (Value.int .i64) (cnt_1 (by omega) (run_1 (by assumption) (by assumption))).symm) | (exact congrArg (fun z : Nat => Value.int .i64 (z : Int)) (cnt_0 (by omega) (by assumption)).symm) | (exact congrArg (fun z : Nat => Value.int .i64 (z : Int)) (cnt_0 (by omega) (run_0 (.inl (by assumption)))).symm) | (exact congrArg (fun z : Nat => Value.int .i64 (z : Int)) (cnt_0 (by omega) (run_0 (.inr (by assumption)))).symm))) rfl (by first | rfl | (exact congrArg (Value.int .i64) (cnt_1 (by omega) (by assumption)).symm) | (exact congrArg (Value.int .i64) (cnt_1 (by omega) (run_1 (by assumption) (by assumption))).symm) | (exact congrArg (fun z : Nat => Value.int .i64 (z : Int)) (cnt_0 (by omega) (by assumption)).symm) | (exact congrArg (fun z : Nat => Value.int .i64 (z : Int)) (cnt_0 (by omega) (run_0 (.inl (by assumption)))).symm) | (exact congrArg (fun z : Nat => Value.int .i64 (z : Int)) (cnt_0 (by omega) (run_0 (.inr (by assumption)))).symm))) rfl (by first | rfl | (exact congrArg (Value.int .i64) (cnt_1 (by omega) (by assumption)).symm) | (exact congrArg (Value.int .i64) (cnt_1 (by omega) (run_1 (by assumption) (by assumption))).symm) | (exact congrArg (fun z : Nat => Value.int .i64 (z : Int)) (cnt_0 (by omega) (by assumption)).symm) | (exact congrArg (fun z : Nat => Value.int .i64 (z : Int)) (cnt_0 (by omega) (run_0 (.inl (by assumption)))).symm) | (exact congrArg (fun z : Nat => Value.int .i64 (z : Int)) (cnt_0 (by omega) (run_0 (.inr (by assumption)))).symm))) rfl (by first | rfl | (exact congrArg (Value.int .i64) (cnt_1 (by omega) (by assumption)).symm) | (exact congrArg (Value.int .i64) (cnt_1 (by omega) (run_1 (by assumption) (by assumption))).symm) | (exact congrArg (fun z : Nat => Value.int .i64 (z : Int)) (cnt_0 (by omega) (by assumption)).symm) | (exact congrArg (fun z : Nat => Value.int .i64 (z : Int)) (cnt_0 (by omega) (run_0 (.inl (by assumption)))).symm) | (exact congrArg (fun z : Nat => Value.int .i64 (z : Int)) (cnt_0 (by omega) (run_0 (.inr (by assumption)))).symm))) rfl (by first | rfl | (exact congrArg (Value.int .i64) (cnt_1 (by omega) (by assumption)).symm) | (exact congrArg (Value.int .i64) (cnt_1 (by omega) (run_1 (by assumption) (by assumption))).symm) | (exact congrArg (fun z : Nat => Value.int .i64 (z : Int)) (cnt_0 (by omega) (by assumption)).symm) | (exact congrArg (fun z : Nat => Value.int .i64 (z : Int)) (cnt_0 (by omega) (run_0 (.inl (by assumption)))).symm) | (exact congrArg (fun z : Nat => Value.int .i64 (z : Int)) (cnt_0 (by omega) (run_0 (.inr (by assumption)))).symm)), hh.keep (by repeat (first | exact keeps_nil | apply keeps_cons (by repeat (first | exact find_head | apply find_tail)) (by first  | rfl) | exact keeps_self | apply keeps_mv))⟩
            · intro hc3
              try simp only [decide_eq_true_eq, decide_eq_false_iff_not, Bool.not_eq_true', Bool.not_eq_false', Bool.not_eq_true, Bool.not_eq_false, Bool.and_eq_true, Bool.or_eq_true, Bool.and_eq_false_iff, Bool.or_eq_false_iff, Bool.not_not, ne_eq, Int.not_lt, Int.not_le, Decidable.not_not, beq_iff_eq, bne_iff_ne] at hc3
              refine wp_skip ?_
              refine blk_normal ?_
              refine then_normal ?_
              refine c_region ?_
              refine wl (wl_val hl rfl trivial (r_move hl rfl) ?_)
              clear hl a; intro a hl
              first | refine wl (wl_val hl rfl trivial (r_sub hl rfl rfl (by simp only [Fits]; omega)) ?_) | refine wl (wl_val hl rfl trivial (r_subW hl rfl rfl) ?_)
              clear hl a; intro a hl
              refine wl (wl_val hl rfl trivial (r_assign hl rfl) ?_)
              clear hl a; intro a hl
              refine w_nil ?_
              have hl2 := hl.add (t := 0) (hl.add (t := 3) (hl.add (t := 4) (hl.add (t := 5) (hl.add (t := 6) (hl.add (t := 7) (hl.add (t := 8) (hl.add (t := 9) (hl.nil) rfl) rfl) rfl) rfl) rfl) rfl) rfl) rfl; clear hl; have hl := hl2; clear hl2
              refine then_normal ?_
              refine ⟨q, (by omega), (by omega), hl.addE (t := 9) (hl.addE (t := 7) (hl.addE (t := 8) (hl.addE (t := 0) (hl.addE (t := 3) (hl.addE (t := 4) (hl.addE (t := 5) (hl.addE (t := 6) (hl.nil) rfl (by first | rfl | (exact congrArg (Value.int .i64) (cnt_1 (by omega) (by assumption)).symm) | (exact congrArg (Value.int .i64) (cnt_1 (by omega) (run_1 (by assumption) (by assumption))).symm) | (exact congrArg (fun z : Nat => Value.int .i64 (z : Int)) (cnt_0 (by omega) (by assumption)).symm) | (exact congrArg (fun z : Nat => Value.int .i64 (z : Int)) (cnt_0 (by omega) (run_0 (.inl (by assumption)))).symm) | (exact congrArg (fun z : Nat => Value.int .i64 (z : Int)) (cnt_0 (by omega) (run_0 (.inr (by assumption)))).symm))) rfl (by first | rfl | (exact congrArg (Value.int .i64) (cnt_1 (by omega) (by assumption)).symm) | (exact congrArg (Value.int .i64) (cnt_1 (by omega) (run_1 (by assumption) (by assumption))).symm) | (exact congrArg (fun z : Nat => Value.int .i64 (z : Int)) (cnt_0 (by omega) (by assumption)).symm) | (exact congrArg (fun z : Nat => Value.int .i64 (z : Int)) (cnt_0 (by omega) (run_0 (.inl (by assumption)))).symm) | (exact congrArg (fun z : Nat => Value.int .i64 (z : Int)) (cnt_0 (by omega) (run_0 (.inr (by assumption)))).symm))) rfl (by first | rfl | (exact congrArg (Value.int .i64) (cnt_1 (by omega) (by assumption)).symm) | (exact congrArg (Value.int .i64) (cnt_1 (by omega) (run_1 (by assumption) (by assumption))).symm) | (exact congrArg (fun z : Nat => Value.int .i64 (z : Int)) (cnt_0 (by omega) (by assumption)).symm) | (exact congrArg (fun z : Nat => Value.int .i64 (z : Int)) (cnt_0 (by omega) (run_0 (.inl (by assumption)))).symm) | (exact congrArg (fun z : Nat => Value.int .i64 (z : Int)) (cnt_0 (by omega) (run_0 (.inr (by assumption)))).symm))) rfl (by first | rfl | (exact congrArg (Value.int .i64) (cnt_1 (by omega) (by assumption)).symm) | (exact congrArg (Value.int .i64) (cnt_1 (by omega) (run_1 (by assumption) (by assumption))).symm) | (exact congrArg (fun z : Nat => Value.int .i64 (z : Int)) (cnt_0 (by omega) (by assumption)).symm) | (exact congrArg (fun z : Nat => Value.int .i64 (z : Int)) (cnt_0 (by omega) (run_0 (.inl (by assumption)))).symm) | (exact congrArg (fun z : Nat => Value.int .i64 (z : Int)) (cnt_0 (by omega) (run_0 (.inr (by assumption)))).symm))) rfl (by first | rfl | (exact congrArg (Value.int .i64) (cnt_1 (by omega) (by assumption)).symm) | (exact congrArg (Value.int .i64) (cnt_1 (by omega) (run_1 (by assumption) (by assumption))).symm) | (exact congrArg (fun z : Nat => Value.int .i64 (z : Int)) (cnt_0 (by omega) (by assumption)).symm) | (exact congrArg (fun z : Nat => Value.int .i64 (z : Int)) (cnt_0 (by omega) (run_0 (.inl (by assumption)))).symm) | (exact congrArg (fun z : Nat => Value.int .i64 (z : Int)) (cnt_0 (by omega) (run_0 (.inr (by assumption)))).symm))) rfl (by first | rfl | (exact congrArg (Value.int .i64) (cnt_1 (by omega) (by assumption)).symm) | (exact congrArg (Value.int .i64) (cnt_1 (by omega) (run_1 (by assumption) (by assumption))).symm) | (exact congrArg (fun z : Nat => Value.int .i64 (z : Int)) (cnt_0 (by omega) (by assumption)).symm) | (exact congrArg (fun z : Nat => Value.int .i64 (z : Int)) (cnt_0 (by omega) (run_0 (.inl (by assumption)))).symm) | (exact congrArg (fun z : Nat => Value.int .i64 (z : Int)) (cnt_0 (by omega) (run_0 (.inr (by assumption)))).symm))) rfl (by first | rfl | (exact congrArg (Value.int .i64) (cnt_1 (by omega) (by assumption)).symm) | (exact congrArg (Value.int .i64) (cnt_1 (by omega) (run_1 (by assumption) (by assumption))).symm) | (exact congrArg (fun z : Nat => Value.int .i64 (z : Int)) (cnt_0 (by omega) (by assumption)).symm) | (exact congrArg (fun z : Nat => Value.int .i64 (z : Int)) (cnt_0 (by omega) (run_0 (.inl (by assumption)))).symm) | (exact congrArg (fun z : Nat => Value.int .i64 (z : Int)) (cnt_0 (by omega) (run_0 (.inr (by assumption)))).symm))) rfl (by first | rfl | (exact congrArg (Value.int .i64) (cnt_1 (by omega) (by assumption)).symm) | (exact congrArg (Value.int .i64) (cnt_1 (by omega) (run_1 (by assumption) (by assumption))).symm) | (exact congrArg (fun z : Nat => Value.int .i64 (z : Int)) (cnt_0 (by omega) (by assumption)).symm) | (exact congrArg (fun z : Nat => Value.int .i64 (z : Int)) (cnt_0 (by omega) (run_0 (.inl (by assumption)))).symm) | (exact congrArg (fun z : Nat => Value.int .i64 (z : Int)) (cnt_0 (by omega) (run_0 (.inr (by assumption)))).symm)), hh.keep (by repeat (first | exact keeps_nil | apply keeps_cons (by repeat (first | exact find_head | apply find_tail)) (by first  | rfl) | exact keeps_self | apply keeps_mv))⟩
          · intro hc2
            try simp only [decide_eq_true_eq, decide_eq_false_iff_not, Bool.not_eq_true', Bool.not_eq_false', Bool.not_eq_true, Bool.not_eq_false, Bool.and_eq_true, Bool.or_eq_true, Bool.and_eq_false_iff, Bool.or_eq_false_iff, Bool.not_not, ne_eq, Int.not_lt, Int.not_le, Decidable.not_not, beq_iff_eq, bne_iff_ne] at hc2
            refine wp_skip ?_
            refine blk_normal ?_
            refine then_normal ?_
            refine c_region ?_
            refine wl (wl_val hl rfl trivial (r_move hl rfl) ?_)
            clear hl a; intro a hl
            first | refine wl (wl_val hl rfl trivial (r_sub hl rfl rfl (by simp only [Fits]; omega)) ?_) | refine wl (wl_val hl rfl trivial (r_subW hl rfl rfl) ?_)
            clear hl a; intro a hl
            refine wl (wl_val hl rfl trivial (r_assign hl rfl) ?_)
            clear hl a; intro a hl
            refine w_nil ?_
            have hl2 := hl.add (t := 0) (hl.add (t := 3) (hl.add (t := 4) (hl.add (t := 5) (hl.add (t := 6) (hl.add (t := 7) (hl.add (t := 8) (hl.add (t := 9) (hl.nil) rfl) rfl) rfl) rfl) rfl) rfl) rfl) rfl; clear hl; have hl := hl2; clear hl2
            refine then_normal ?_
            refine ⟨q, (by omega), (by omega), hl.addE (t := 9) (hl.addE (t := 7) (hl.addE (t := 8) (hl.addE (t := 0) (hl.addE (t := 3) (hl.addE (t := 4) (hl.addE (t := 5) (hl.addE (t := 6) (hl.nil) rfl (by first | rfl | (exact congrArg (Value.int .i64) (cnt_1 (by omega) (by assumption)).symm) | (exact congrArg (Value.int .i64) (cnt_1 (by omega) (run_1 (by assumption) (by assumption))).symm) | (exact congrArg (fun z : Nat => Value.int .i64 (z : Int)) (cnt_0 (by omega) (by assumption)).symm) | (exact congrArg (fun z : Nat => Value.int .i64 (z : Int)) (cnt_0 (by omega) (run_0 (.inl (by assumption)))).symm) | (exact congrArg (fun z : Nat => Value.int .i64 (z : Int)) (cnt_0 (by omega) (run_0 (.inr (by assumption)))).symm))) rfl (by first | rfl | (exact congrArg (Value.int .i64) (cnt_1 (by omega) (by assumption)).symm) | (exact congrArg (Value.int .i64) (cnt_1 (by omega) (run_1 (by assumption) (by assumption))).symm) | (exact congrArg (fun z : Nat => Value.int .i64 (z : Int)) (cnt_0 (by omega) (by assumption)).symm) | (exact congrArg (fun z : Nat => Value.int .i64 (z : Int)) (cnt_0 (by omega) (run_0 (.inl (by assumption)))).symm) | (exact congrArg (fun z : Nat => Value.int .i64 (z : Int)) (cnt_0 (by omega) (run_0 (.inr (by assumption)))).symm))) rfl (by first | rfl | (exact congrArg (Value.int .i64) (cnt_1 (by omega) (by assumption)).symm) | (exact congrArg (Value.int .i64) (cnt_1 (by omega) (run_1 (by assumption) (by assumption))).symm) | (exact congrArg (fun z : Nat => Value.int .i64 (z : Int)) (cnt_0 (by omega) (by assumption)).symm) | (exact congrArg (fun z : Nat => Value.int .i64 (z : Int)) (cnt_0 (by omega) (run_0 (.inl (by assumption)))).symm) | (exact congrArg (fun z : Nat => Value.int .i64 (z : Int)) (cnt_0 (by omega) (run_0 (.inr (by assumption)))).symm))) rfl (by first | rfl | (exact congrArg (Value.int .i64) (cnt_1 (by omega) (by assumption)).symm) | (exact congrArg (Value.int .i64) (cnt_1 (by omega) (run_1 (by assumption) (by assumption))).symm) | (exact congrArg (fun z : Nat => Value.int .i64 (z : Int)) (cnt_0 (by omega) (by assumption)).symm) | (exact congrArg (fun z : Nat => Value.int .i64 (z : Int)) (cnt_0 (by omega) (run_0 (.inl (by assumption)))).symm) | (exact congrArg (fun z : Nat => Value.int .i64 (z : Int)) (cnt_0 (by omega) (run_0 (.inr (by assumption)))).symm))) rfl (by first | rfl | (exact congrArg (Value.int .i64) (cnt_1 (by omega) (by assumption)).symm) | (exact congrArg (Value.int .i64) (cnt_1 (by omega) (run_1 (by assumption) (by assumption))).symm) | (exact congrArg (fun z : Nat => Value.int .i64 (z : Int)) (cnt_0 (by omega) (by assumption)).symm) | (exact congrArg (fun z : Nat => Value.int .i64 (z : Int)) (cnt_0 (by omega) (run_0 (.inl (by assumption)))).symm) | (exact congrArg (fun z : Nat => Value.int .i64 (z : Int)) (cnt_0 (by omega) (run_0 (.inr (by assumption)))).symm))) rfl (by first | rfl | (exact congrArg (Value.int .i64) (cnt_1 (by omega) (by assumption)).symm) | (exact congrArg (Value.int .i64) (cnt_1 (by omega) (run_1 (by assumption) (by assumption))).symm) | (exact congrArg (fun z : Nat => Value.int .i64 (z : Int)) (cnt_0 (by omega) (by assumption)).symm) | (exact congrArg (fun z : Nat => Value.int .i64 (z : Int)) (cnt_0 (by omega) (run_0 (.inl (by assumption)))).symm) | (exact congrArg (fun z : Nat => Value.int .i64 (z : Int)) (cnt_0 (by omega) (run_0 (.inr (by assumption)))).symm))) rfl (by first | rfl | (exact congrArg (Value.int .i64) (cnt_1 (by omega) (by assumption)).symm) | (exact congrArg (Value.int .i64) (cnt_1 (by omega) (run_1 (by assumption) (by assumption))).symm) | (exact congrArg (fun z : Nat => Value.int .i64 (z : Int)) (cnt_0 (by omega) (by assumption)).symm) | (exact congrArg (fun z : Nat => Value.int .i64 (z : Int)) (cnt_0 (by omega) (run_0 (.inl (by assumption)))).symm) | (exact congrArg (fun z : Nat => Value.int .i64 (z : Int)) (cnt_0 (by omega) (run_0 (.inr (by assumption)))).symm))) rfl (by first | rfl | (exact congrArg (Value.int .i64) (cnt_1 (by omega) (by assumption)).symm) | (exact congrArg (Value.int .i64) (cnt_1 (by omega) (run_1 (by assumption) (by assumption))).symm) | (exact congrArg (fun z : Nat => Value.int .i64 (z : Int)) (cnt_0 (by omega) (by assumption)).symm) | (exact congrArg (fun z : Nat => Value.int .i64 (z : Int)) (cnt_0 (by omega) (run_0 (.inl (by assumption)))).symm) | (exact congrArg (fun z : Nat => Value.int .i64 (z : Int)) (cnt_0 (by omega) (run_0 (.inr (by assumption)))).symm)), hh.keep (by repeat (first | exact keeps_nil | apply keeps_cons (by repeat (first | exact find_head | apply find_tail)) (by first  | rfl) | exact keeps_self | apply keeps_mv))⟩
        · intro hg1; clear hl; intro hl
          try simp only [decide_eq_true_eq, decide_eq_false_iff_not, Bool.not_eq_true', Bool.not_eq_false', Bool.not_eq_true, Bool.not_eq_false, Bool.and_eq_true, Bool.or_eq_true, Bool.and_eq_false_iff, Bool.or_eq_false_iff, Bool.not_not, ne_eq, Int.not_lt, Int.not_le, Decidable.not_not, beq_iff_eq, bne_iff_ne] at hg1
          refine d_take (i := 12) hl rfl (by kernel_rfl) (by kernel_rfl) (by kernel_rfl) (by kernel_rfl) (by kernel_rfl) rfl ⟨_, _, rfl, rfl, rfl⟩ (fun _ _ _ h => h) hM (fun w hC => r_move hl rfl) rfl ?_
          clear hl a; intro a hl
          refine d_take (i := 13) hl rfl (by kernel_rfl) (by kernel_rfl) (by kernel_rfl) (by kernel_rfl) (by kernel_rfl) rfl ⟨_, _, rfl, rfl, rfl⟩ (fun _ _ _ h => h) hM (fun w hC => r_move hl rfl) rfl ?_
          clear hl a; intro a hl
          first | refine d_take (i := 14) hl rfl (by kernel_rfl) (by kernel_rfl) (by kernel_rfl) (by kernel_rfl) (by kernel_rfl) rfl ⟨_, _, rfl, rfl, rfl⟩ (fun _ _ _ h => h) hM (fun w hC => r_sub hl rfl rfl (by simp only [Fits]; omega)) rfl ?_ | refine d_take (i := 14) hl rfl (by kernel_rfl) (by kernel_rfl) (by kernel_rfl) (by kernel_rfl) (by kernel_rfl) rfl ⟨_, _, rfl, rfl, rfl⟩ (fun _ _ _ h => h) hM (fun w hC => r_subW hl rfl rfl) rfl ?_
          clear hl a; intro a hl
          refine d_take (i := 15) hl rfl (by kernel_rfl) (by kernel_rfl) (by kernel_rfl) (by kernel_rfl) (by kernel_rfl) rfl ⟨_, _, rfl, rfl, rfl⟩ (fun _ _ _ h => h) hM (fun w hC => r_move hl rfl) rfl ?_
          clear hl a; intro a hl
          refine d_take (i := 16) hl rfl (by kernel_rfl) (by kernel_rfl) (by kernel_rfl) (by kernel_rfl) (by kernel_rfl) rfl ⟨_, _, rfl, rfl, rfl⟩ (fun _ _ _ h => h) hM (fun w hC => r_nilCheck hl rfl) rfl ?_
          clear hl a; intro a hl
          refine d_take (i := 17) hl rfl (by kernel_rfl) (by kernel_rfl) (by kernel_rfl) (by kernel_rfl) (by kernel_rfl) rfl ⟨_, _, rfl, rfl, rfl⟩ (fun _ _ _ h => h) hM (fun w hC => r_field hl rfl fld69_1) rfl ?_
          clear hl a; intro a hl
          refine d_take (i := 18) hl rfl (by kernel_rfl) (by kernel_rfl) (by kernel_rfl) (by kernel_rfl) (by kernel_rfl) rfl ⟨_, _, rfl, rfl, rfl⟩ (fun _ _ _ h => h) hM (fun w hC => r_loadC hl rfl one2 hC (by repeat (first | exact find_head | apply find_tail)) (by first | rfl)) rfl ?_
          clear hl a; intro a hl
          first | refine d_take (i := 19) hl rfl (by kernel_rfl) (by kernel_rfl) (by kernel_rfl) (by kernel_rfl) (by kernel_rfl) rfl ⟨_, _, rfl, rfl, rfl⟩ (fun _ _ _ h => h) hM (fun w hC => r_mul hl rfl rfl (by simp only [Fits]; omega)) rfl ?_ | refine d_take (i := 19) hl rfl (by kernel_rfl) (by kernel_rfl) (by kernel_rfl) (by kernel_rfl) (by kernel_rfl) rfl ⟨_, _, rfl, rfl, rfl⟩ (fun _ _ _ h => h) hM (fun w hC => r_mulW hl rfl rfl) rfl ?_
          clear hl a; intro a hl
          refine d_take (i := 20) hl rfl (by kernel_rfl) (by kernel_rfl) (by kernel_rfl) (by kernel_rfl) (by kernel_rfl) rfl ⟨_, _, rfl, rfl, rfl⟩ (fun _ _ _ h => h) hM (fun w hC => r_gtr hl rfl rfl) rfl ?_
          clear hl a; intro a hl
          refine d_take (i := 21) hl rfl (by kernel_rfl) (by kernel_rfl) (by kernel_rfl) (by kernel_rfl) (by kernel_rfl) rfl trivial (fun _ _ _ h => h) hM (fun w hC => r_pickF hl rfl rfl) rfl ?_
          clear hl a; intro a hl
          refine d_takeL (i := 22) hl rfl (by kernel_rfl) (by kernel_rfl) (by kernel_rfl) (by kernel_rfl) (by kernel_rfl) rfl trivial (fun _ _ _ h => h) (fun w => r_indexS hl rfl rfl slc77 (by omega) (by omega) (by first | (simp only [Int.reduceToNat]; rfl) | exact toNat_add1 _ | exact toNat_add2 _ _ | exact toNat_emod _ _ | exact Int.toNat_natCast _ | rfl)) rfl ?_
          clear hl a; intro a hl
          refine d_one (i := 23) (by kernel_rfl) rfl ?_
          try clear hM
          refine id (w_store hl hh trivial one4 rfl rfl (by repeat (first | exact find_head | apply find_tail)) (by rw [arrL_length]; omega) (by first | rfl | assumption | (apply Row.one; assumption)) (by first | exact ls_set (by omega) (lsG_2 (by assumption)) | exact ls_set (by omega) (lsG_a (by assumption) (by assumption)) | exact ls_set (by omega) (lsG_b (by assumption) (by omega))) ?_)
          clear hh w; intro w hh
          refine d_step (fun h => absurd h (by decide)) ?_
          refine d_done (by kernel_rfl) ?_
          try clear hM
          have hl2 := hl.add (t := 0) (hl.add (t := 3) (hl.add (t := 4) (hl.add (t := 5) (hl.add (t := 6) (hl.add (t := 7) (hl.add (t := 8) (hl.add (t := 9) (hl.nil) rfl) rfl) rfl) rfl) rfl) rfl) rfl) rfl; clear hl; have hl := hl2; clear hl2
          refine then_normal ?_
          refine c_seq ?_
          refine c_region ?_
          refine wl (w_loadA hl hh rfl trivial agg79 rfl (by repeat (first | exact find_head | apply find_tail)) (by first | (simp only [List.getElem?_cons_zero, List.getElem?_cons_succ, Value.cells, List.take_zero, List.take_succ_cons, List.take_nil, List.drop_zero, List.drop_succ_cons, List.drop_nil, List.length_cons, List.length_nil, List.cons_append, List.nil_append, List.append_nil, Nat.zero_add, Nat.add_zero, Nat.reduceAdd, Nat.reduceBEq, Nat.reduceEqDiff, Nat.ble, BEq.rfl, Bool.and_true, Bool.and_self, cond_true, beq_self_eq_true]; rfl)) (by first | rfl | (simp; done)) ?_)
          clear hl a; intro a hl
          refine wl (wl_val hl rfl trivial (r_move hl rfl) ?_)
          clear hl a; intro a hl
          refine wl (w_call hl hh rfl trivial rfl cal47 rfl (at_m s.una f fb g _ (by omega) (by omega) (by omega)) (by repeat (first | exact keeps_nil | apply keeps_cons (by repeat (first | exact find_head | apply find_tail)) (by first  | rfl) | exact keeps_self | apply keeps_mv)) (heap_keep hh hpf) ?_)
          clear hl hh a w; intro vc Fc a w hR hl hh
          obtain ⟨rfl, rfl⟩ := hR
          try simp only [List.cons_append, List.nil_append] at hh
          rw [at_q (by omega)] at hl
          refine w_nil ?_
          have hl2 := hl.add (t := 0) (hl.add (t := 3) (hl.add (t := 4) (hl.add (t := 5) (hl.add (t := 6) (hl.add (t := 7) (hl.add (t := 8) (hl.add (t := 9) (hl.add (t := 89) (hl.nil) rfl) rfl) rfl) rfl) rfl) rfl) rfl) rfl) rfl; clear hl; have hl := hl2; clear hl2
          refine then_normal ?_
          refine c_cond hl rfl ?_ ?_
          · intro hc2
            try simp only [decide_eq_true_eq, decide_eq_false_iff_not, Bool.not_eq_true', Bool.not_eq_false', Bool.not_eq_true, Bool.not_eq_false, Bool.and_eq_true, Bool.or_eq_true, Bool.and_eq_false_iff, Bool.or_eq_false_iff, Bool.not_not, ne_eq, Int.not_lt, Int.not_le, Decidable.not_not, beq_iff_eq, bne_iff_ne] at hc2
            refine c_seq ?_
            refine c_region ?_
            refine wl (wl_val hl rfl trivial (r_move hl rfl) ?_)
            clear hl a; intro a hl
            first | refine wl (wl_val hl rfl trivial (r_add hl rfl rfl (by simp only [Fits]; omega)) ?_) | refine wl (wl_val hl rfl trivial (r_addW hl rfl rfl) ?_)
            clear hl a; intro a hl
            refine wl (wl_val hl rfl trivial (r_assign hl rfl) ?_)
            clear hl a; intro a hl
            refine w_nil ?_
            have hl2 := hl.add (t := 0) (hl.add (t := 3) (hl.add (t := 4) (hl.add (t := 5) (hl.add (t := 6) (hl.add (t := 7) (hl.add (t := 8) (hl.add (t := 9) (hl.nil) rfl) rfl) rfl) rfl) rfl) rfl) rfl) rfl; clear hl; have hl := hl2; clear hl2
            refine then_normal ?_
            refine c_seq ?_
            refine c_region ?_
            refine wl (w_loadA hl hh rfl trivial agg79 rfl (by repeat (first | exact find_head | apply find_tail)) (by first | (simp only [List.getElem?_cons_zero, List.getElem?_cons_succ, Value.cells, List.take_zero, List.take_succ_cons, List.take_nil, List.drop_zero, List.drop_succ_cons, List.drop_nil, List.length_cons, List.length_nil, List.cons_append, List.nil_append, List.append_nil, Nat.zero_add, Nat.add_zero, Nat.reduceAdd, Nat.reduceBEq, Nat.reduceEqDiff, Nat.ble, BEq.rfl, Bool.and_true, Bool.and_self, cond_true, beq_self_eq_true]; rfl)) (by first | rfl | (simp; done)) ?_)
            clear hl a; intro a hl
            refine wl (wl_val hl rfl trivial (r_move hl rfl) ?_)
            clear hl a; intro a hl
            first | refine wl (wl_val hl rfl trivial (r_sub hl rfl rfl (by simp only [Fits]; omega)) ?_) | refine wl (wl_val hl rfl trivial (r_subW hl rfl rfl) ?_)
            clear hl a; intro a hl
            refine wl (w_call hl hh rfl trivial rfl cal47 rfl (at_m s.una f fb g _ (by omega) (by omega) (by omega)) (by repeat (first | exact keeps_nil | apply keeps_cons (by repeat (first | exact find_head | apply find_tail)) (by first  | rfl) | exact keeps_self | apply keeps_mv)) (heap_keep hh hpf) ?_)
            clear hl hh a w; intro vc Fc a w hR hl hh
            obtain ⟨rfl, rfl⟩ := hR
            try simp only [List.cons_append, List.nil_append] at hh
            rw [at_p (by omega)] at hl
            refine wl (wl_val hl rfl trivial (r_not hl rfl) ?_)
            clear hl a; intro a hl
            refine w_nil ?_
            have hl2 := hl.add (t := 0) (hl.add (t := 3) (hl.add (t := 4) (hl.add (t := 5) (hl.add (t := 6) (hl.add (t := 7) (hl.add (t := 8) (hl.add (t := 9) (hl.add (t := 96) (hl.nil) rfl) rfl) rfl) rfl) rfl) rfl) rfl) rfl) rfl; clear hl; have hl := hl2; clear hl2
            refine then_normal ?_
            refine c_cond hl rfl ?_ ?_
            · intro hc3
              try simp only [decide_eq_true_eq, decide_eq_false_iff_not, Bool.not_eq_true', Bool.not_eq_false', Bool.not_eq_true, Bool.not_eq_false, Bool.and_eq_true, Bool.or_eq_true, Bool.and_eq_false_iff, Bool.or_eq_false_iff, Bool.not_not, ne_eq, Int.not_lt, Int.not_le, Decidable.not_not, beq_iff_eq, bne_iff_ne] at hc3
              refine c_region ?_
              refine wl (wl_val hl rfl trivial (r_move hl rfl) ?_)
              clear hl a; intro a hl
              first | refine wl (wl_val hl rfl trivial (r_add hl rfl rfl (by simp only [Fits]; omega)) ?_) | refine wl (wl_val hl rfl trivial (r_addW hl rfl rfl) ?_)
              clear hl a; intro a hl
              refine wl (wl_val hl rfl trivial (r_assign hl rfl) ?_)
              clear hl a; intro a hl
              refine w_nil ?_
              have hl2 := hl.add (t := 0) (hl.add (t := 3) (hl.add (t := 4) (hl.add (t := 5) (hl.add (t := 6) (hl.add (t := 7) (hl.add (t := 8) (hl.add (t := 9) (hl.nil) rfl) rfl) rfl) rfl) rfl) rfl) rfl) rfl; clear hl; have hl := hl2; clear hl2
              refine blk_normal ?_
              refine then_normal ?_
              refine c_region ?_
              refine wl (wl_val hl rfl trivial (r_move hl rfl) ?_)
              clear hl a; intro a hl
              first | refine wl (wl_val hl rfl trivial (r_sub hl rfl rfl (by simp only [Fits]; omega)) ?_) | refine wl (wl_val hl rfl trivial (r_subW hl rfl rfl) ?_)
              clear hl a; intro a hl
              refine wl (wl_val hl rfl trivial (r_assign hl rfl) ?_)
              clear hl a; intro a hl
              refine w_nil ?_
              have hl2 := hl.add (t := 0) (hl.add (t := 3) (hl.add (t := 4) (hl.add (t := 5) (hl.add (t := 6) (hl.add (t := 7) (hl.add (t := 8) (hl.add (t := 9) (hl.nil) rfl) rfl) rfl) rfl) rfl) rfl) rfl) rfl; clear hl; have hl := hl2; clear hl2
              refine then_normal ?_
              refine ⟨q, (by omega), (by omega), hl.addE (t := 9) (hl.addE (t := 7) (hl.addE (t := 8) (hl.addE (t := 0) (hl.addE (t := 3) (hl.addE (t := 4) (hl.addE (t := 5) (hl.addE (t := 6) (hl.nil) rfl (by first | rfl | (exact congrArg (Value.int .i64) (cnt_1 (by omega) (by assumption)).symm) | (exact congrArg (Value.int .i64) (cnt_1 (by omega) (run_1 (by assumption) (by assumption))).symm) | (exact congrArg (fun z : Nat => Value.int .i64 (z : Int)) (cnt_0 (by omega) (by assumption)).symm) | (exact congrArg (fun z : Nat => Value.int .i64 (z : Int)) (cnt_0 (by omega) (run_0 (.inl (by assumption)))).symm) | (exact congrArg (fun z : Nat => Value.int .i64 (z : Int)) (cnt_0 (by omega) (run_0 (.inr (by assumption)))).symm))) rfl (by first | rfl | (exact congrArg (Value.int .i64) (cnt_1 (by omega) (by assumption)).symm) | (exact congrArg (Value.int .i64) (cnt_1 (by omega) (run_1 (by assumption) (by assumption))).symm) | (exact congrArg (fun z : Nat => Value.int .i64 (z : Int)) (cnt_0 (by omega) (by assumption)).symm) | (exact congrArg (fun z : Nat => Value.int .i64 (z : Int)) (cnt_0 (by omega) (run_0 (.inl (by assumption)))).symm) | (exact congrArg (fun z : Nat => Value.int .i64 (z : Int)) (cnt_0 (by omega) (run_0 (.inr (by assumption)))).symm))) rfl (by first | rfl | (exact congrArg (Value.int .i64) (cnt_1 (by omega) (by assumption)).symm) | (exact congrArg (Value.int .i64) (cnt_1 (by omega) (run_1 (by assumption) (by assumption))).symm) | (exact congrArg (fun z : Nat => Value.int .i64 (z : Int)) (cnt_0 (by omega) (by assumption)).symm) | (exact congrArg (fun z : Nat => Value.int .i64 (z : Int)) (cnt_0 (by omega) (run_0 (.inl (by assumption)))).symm) | (exact congrArg (fun z : Nat => Value.int .i64 (z : Int)) (cnt_0 (by omega) (run_0 (.inr (by assumption)))).symm))) rfl (by first | rfl | (exact congrArg (Value.int .i64) (cnt_1 (by omega) (by assumption)).symm) | (exact congrArg (Value.int .i64) (cnt_1 (by omega) (run_1 (by assumption) (by assumption))).symm) | (exact congrArg (fun z : Nat => Value.int .i64 (z : Int)) (cnt_0 (by omega) (by assumption)).symm) | (exact congrArg (fun z : Nat => Value.int .i64 (z : Int)) (cnt_0 (by omega) (run_0 (.inl (by assumption)))).symm) | (exact congrArg (fun z : Nat => Value.int .i64 (z : Int)) (cnt_0 (by omega) (run_0 (.inr (by assumption)))).symm))) rfl (by first | rfl | (exact congrArg (Value.int .i64) (cnt_1 (by omega) (by assumption)).symm) | (exact congrArg (Value.int .i64) (cnt_1 (by omega) (run_1 (by assumption) (by assumption))).symm) | (exact congrArg (fun z : Nat => Value.int .i64 (z : Int)) (cnt_0 (by omega) (by assumption)).symm) | (exact congrArg (fun z : Nat => Value.int .i64 (z : Int)) (cnt_0 (by omega) (run_0 (.inl (by assumption)))).symm) | (exact congrArg (fun z : Nat => Value.int .i64 (z : Int)) (cnt_0 (by omega) (run_0 (.inr (by assumption)))).symm))) rfl (by first | rfl | (exact congrArg (Value.int .i64) (cnt_1 (by omega) (by assumption)).symm) | (exact congrArg (Value.int .i64) (cnt_1 (by omega) (run_1 (by assumption) (by assumption))).symm) | (exact congrArg (fun z : Nat => Value.int .i64 (z : Int)) (cnt_0 (by omega) (by assumption)).symm) | (exact congrArg (fun z : Nat => Value.int .i64 (z : Int)) (cnt_0 (by omega) (run_0 (.inl (by assumption)))).symm) | (exact congrArg (fun z : Nat => Value.int .i64 (z : Int)) (cnt_0 (by omega) (run_0 (.inr (by assumption)))).symm))) rfl (by first | rfl | (exact congrArg (Value.int .i64) (cnt_1 (by omega) (by assumption)).symm) | (exact congrArg (Value.int .i64) (cnt_1 (by omega) (run_1 (by assumption) (by assumption))).symm) | (exact congrArg (fun z : Nat => Value.int .i64 (z : Int)) (cnt_0 (by omega) (by assumption)).symm) | (exact congrArg (fun z : Nat => Value.int .i64 (z : Int)) (cnt_0 (by omega) (run_0 (.inl (by assumption)))).symm) | (exact congrArg (fun z : Nat => Value.int .i64 (z : Int)) (cnt_0 (by omega) (run_0 (.inr (by assumption)))).symm))) rfl (by first | rfl | (exact congrArg (Value.int .i64) (cnt_1 (by omega) (by assumption)).symm) | (exact congrArg (Value.int .i64) (cnt_1 (by omega) (run_1 (by assumption) (by assumption))).symm) | (exact congrArg (fun z : Nat => Value.int .i64 (z : Int)) (cnt_0 (by omega) (by assumption)).symm) | (exact congrArg (fun z : Nat => Value.int .i64 (z : Int)) (cnt_0 (by omega) (run_0 (.inl (by assumption)))).symm) | (exact congrArg (fun z : Nat => Value.int .i64 (z : Int)) (cnt_0 (by omega) (run_0 (.inr (by assumption)))).symm)), hh.keep (by repeat (first | exact keeps_nil | apply keeps_cons (by repeat (first | exact find_head | apply find_tail)) (by first  | rfl) | exact keeps_self | apply keeps_mv))⟩
            · intro hc3
              try simp only [decide_eq_true_eq, decide_eq_false_iff_not, Bool.not_eq_true', Bool.not_eq_false', Bool.not_eq_true, Bool.not_eq_false, Bool.and_eq_true, Bool.or_eq_true, Bool.and_eq_false_iff, Bool.or_eq_false_iff, Bool.not_not, ne_eq, Int.not_lt, Int.not_le, Decidable.not_not, beq_iff_eq, bne_iff_ne] at hc3
              refine wp_skip ?_
              refine blk_normal ?_
              refine then_normal ?_
              refine c_region ?_
              refine wl (wl_val hl rfl trivial (r_move hl rfl) ?_)
              clear hl a; intro a hl
              first | refine wl (wl_val hl rfl trivial (r_sub hl rfl rfl (by simp only [Fits]; omega)) ?_) | refine wl (wl_val hl rfl trivial (r_subW hl rfl rfl) ?_)
              clear hl a; intro a hl
              refine wl (wl_val hl rfl trivial (r_assign hl rfl) ?_)
              clear hl a; intro a hl
              refine w_nil ?_
              have hl2 := hl.add (t := 0) (hl.add (t := 3) (hl.add (t := 4) (hl.add (t := 5) (hl.add (t := 6) (hl.add (t := 7) (hl.add (t := 8) (hl.add (t := 9) (hl.nil) rfl) rfl) rfl) rfl) rfl) rfl) rfl) rfl; clear hl; have hl := hl2; clear hl2
              refine then_normal ?_
              refine ⟨q, (by omega), (by omega), hl.addE (t := 9) (hl.addE (t := 7) (hl.addE (t := 8) (hl.addE (t := 0) (hl.addE (t := 3) (hl.addE (t := 4) (hl.addE (t := 5) (hl.addE (t := 6) (hl.nil) rfl (by first | rfl | (exact congrArg (Value.int .i64) (cnt_1 (by omega) (by assumption)).symm) | (exact congrArg (Value.int .i64) (cnt_1 (by omega) (run_1 (by assumption) (by assumption))).symm) | (exact congrArg (fun z : Nat => Value.int .i64 (z : Int)) (cnt_0 (by omega) (by assumption)).symm) | (exact congrArg (fun z : Nat => Value.int .i64 (z : Int)) (cnt_0 (by omega) (run_0 (.inl (by assumption)))).symm) | (exact congrArg (fun z : Nat => Value.int .i64 (z : Int)) (cnt_0 (by omega) (run_0 (.inr (by assumption)))).symm))) rfl (by first | rfl | (exact congrArg (Value.int .i64) (cnt_1 (by omega) (by assumption)).symm) | (exact congrArg (Value.int .i64) (cnt_1 (by omega) (run_1 (by assumption) (by assumption))).symm) | (exact congrArg (fun z : Nat => Value.int .i64 (z : Int)) (cnt_0 (by omega) (by assumption)).symm) | (exact congrArg (fun z : Nat => Value.int .i64 (z : Int)) (cnt_0 (by omega) (run_0 (.inl (by assumption)))).symm) | (exact congrArg (fun z : Nat => Value.int .i64 (z : Int)) (cnt_0 (by omega) (run_0 (.inr (by assumption)))).symm))) rfl (by first | rfl | (exact congrArg (Value.int .i64) (cnt_1 (by omega) (by assumption)).symm) | (exact congrArg (Value.int .i64) (cnt_1 (by omega) (run_1 (by assumption) (by assumption))).symm) | (exact congrArg (fun z : Nat => Value.int .i64 (z : Int)) (cnt_0 (by omega) (by assumption)).symm) | (exact congrArg (fun z : Nat => Value.int .i64 (z : Int)) (cnt_0 (by omega) (run_0 (.inl (by assumption)))).symm) | (exact congrArg (fun z : Nat => Value.int .i64 (z : Int)) (cnt_0 (by omega) (run_0 (.inr (by assumption)))).symm))) rfl (by first | rfl | (exact congrArg (Value.int .i64) (cnt_1 (by omega) (by assumption)).symm) | (exact congrArg (Value.int .i64) (cnt_1 (by omega) (run_1 (by assumption) (by assumption))).symm) | (exact congrArg (fun z : Nat => Value.int .i64 (z : Int)) (cnt_0 (by omega) (by assumption)).symm) | (exact congrArg (fun z : Nat => Value.int .i64 (z : Int)) (cnt_0 (by omega) (run_0 (.inl (by assumption)))).symm) | (exact congrArg (fun z : Nat => Value.int .i64 (z : Int)) (cnt_0 (by omega) (run_0 (.inr (by assumption)))).symm))) rfl (by first | rfl | (exact congrArg (Value.int .i64) (cnt_1 (by omega) (by assumption)).symm) | (exact congrArg (Value.int .i64) (cnt_1 (by omega) (run_1 (by assumption) (by assumption))).symm) | (exact congrArg (fun z : Nat => Value.int .i64 (z : Int)) (cnt_0 (by omega) (by assumption)).symm) | (exact congrArg (fun z : Nat => Value.int .i64 (z : Int)) (cnt_0 (by omega) (run_0 (.inl (by assumption)))).symm) | (exact congrArg (fun z : Nat => Value.int .i64 (z : Int)) (cnt_0 (by omega) (run_0 (.inr (by assumption)))).symm))) rfl (by first | rfl | (exact congrArg (Value.int .i64) (cnt_1 (by omega) (by assumption)).symm) | (exact congrArg (Value.int .i64) (cnt_1 (by omega) (run_1 (by assumption) (by assumption))).symm) | (exact congrArg (fun z : Nat => Value.int .i64 (z : Int)) (cnt_0 (by omega) (by assumption)).symm) | (exact congrArg (fun z : Nat => Value.int .i64 (z : Int)) (cnt_0 (by omega) (run_0 (.inl (by assumption)))).symm) | (exact congrArg (fun z : Nat => Value.int .i64 (z : Int)) (cnt_0 (by omega) (run_0 (.inr (by assumption)))).symm))) rfl (by first | rfl | (exact congrArg (Value.int .i64) (cnt_1 (by omega) (by assumption)).symm) | (exact congrArg (Value.int .i64) (cnt_1 (by omega) (run_1 (by assumption) (by assumption))).symm) | (exact congrArg (fun z : Nat => Value.int .i64 (z : Int)) (cnt_0 (by omega) (by assumption)).symm) | (exact congrArg (fun z : Nat => Value.int .i64 (z : Int)) (cnt_0 (by omega) (run_0 (.inl (by assumption)))).symm) | (exact congrArg (fun z : Nat => Value.int .i64 (z : Int)) (cnt_0 (by omega) (run_0 (.inr (by assumption)))).symm))) rfl (by first | rfl | (exact congrArg (Value.int .i64) (cnt_1 (by omega) (by assumption)).symm) | (exact congrArg (Value.int .i64) (cnt_1 (by omega) (run_1 (by assumption) (by assumption))).symm) | (exact congrArg (fun z : Nat => Value.int .i64 (z : Int)) (cnt_0 (by omega) (by assumption)).symm) | (exact congrArg (fun z : Nat => Value.int .i64 (z : Int)) (cnt_0 (by omega) (run_0 (.inl (by assumption)))).symm) | (exact congrArg (fun z : Nat => Value.int .i64 (z : Int)) (cnt_0 (by omega) (run_0 (.inr (by assumption)))).symm)), hh.keep (by repeat (first | exact keeps_nil | apply keeps_cons (by repeat (first | exact find_head | apply find_tail)) (by first  | rfl) | exact keeps_self | apply keeps_mv))⟩
          · intro hc2
            try simp only [decide_eq_true_eq, decide_eq_false_iff_not, Bool.not_eq_true', Bool.not_eq_false', Bool.not_eq_true, Bool.not_eq_false, Bool.and_eq_true, Bool.or_eq_true, Bool.and_eq_false_iff, Bool.or_eq_false_iff, Bool.not_not, ne_eq, Int.not_lt, Int.not_le, Decidable.not_not, beq_iff_eq, bne_iff_ne] at hc2
            refine wp_skip ?_
            refine blk_normal ?_
            refine then_normal ?_
            refine c_region ?_
            refine wl (wl_val hl rfl trivial (r_move hl rfl) ?_)
            clear hl a; intro a hl
            first | refine wl (wl_val hl rfl trivial (r_sub hl rfl rfl (by simp only [Fits]; omega)) ?_) | refine wl (wl_val hl rfl trivial (r_subW hl rfl rfl) ?_)
            clear hl a; intro a hl
            refine wl (wl_val hl rfl trivial (r_assign hl rfl) ?_)
            clear hl a; intro a hl
            refine w_nil ?_
            have hl2 := hl.add (t := 0) (hl.add (t := 3) (hl.add (t := 4) (hl.add (t := 5) (hl.add (t := 6) (hl.add (t := 7) (hl.add (t := 8) (hl.add (t := 9) (hl.nil) rfl) rfl) rfl) rfl) rfl) rfl) rfl) rfl; clear hl; have hl := hl2; clear hl2
            refine then_normal ?_
            refine ⟨q, (by omega), (by omega), hl.addE (t := 9) (hl.addE (t := 7) (hl.addE (t := 8) (hl.addE (t := 0) (hl.addE (t := 3) (hl.addE (t := 4) (hl.addE (t := 5) (hl.addE (t := 6) (hl.nil) rfl (by first | rfl | (exact congrArg (Value.int .i64) (cnt_1 (by omega) (by assumption)).symm) | (exact congrArg (Value.int .i64) (cnt_1 (by omega) (run_1 (by assumption) (by assumption))).symm) | (exact congrArg (fun z : Nat => Value.int .i64 (z : Int)) (cnt_0 (by omega) (by assumption)).symm) | (exact congrArg (fun z : Nat => Value.int .i64 (z : Int)) (cnt_0 (by omega) (run_0 (.inl (by assumption)))).symm) | (exact congrArg (fun z : Nat => Value.int .i64 (z : Int)) (cnt_0 (by omega) (run_0 (.inr (by assumption)))).symm))) rfl (by first | rfl | (exact congrArg (Value.int .i64) (cnt_1 (by omega) (by assumption)).symm) | (exact congrArg (Value.int .i64) (cnt_1 (by omega) (run_1 (by assumption) (by assumption))).symm) | (exact congrArg (fun z : Nat => Value.int .i64 (z : Int)) (cnt_0 (by omega) (by assumption)).symm) | (exact congrArg (fun z : Nat => Value.int .i64 (z : Int)) (cnt_0 (by omega) (run_0 (.inl (by assumption)))).symm) | (exact congrArg (fun z : Nat => Value.int .i64 (z : Int)) (cnt_0 (by omega) (run_0 (.inr (by assumption)))).symm))) rfl (by first | rfl | (exact congrArg (Value.int .i64) (cnt_1 (by omega) (by assumption)).symm) | (exact congrArg (Value.int .i64) (cnt_1 (by omega) (run_1 (by assumption) (by assumption))).symm) | (exact congrArg (fun z : Nat => Value.int .i64 (z : Int)) (cnt_0 (by omega) (by assumption)).symm) | (exact congrArg (fun z : Nat => Value.int .i64 (z : Int)) (cnt_0 (by omega) (run_0 (.inl (by assumption)))).symm) | (exact congrArg (fun z : Nat => Value.int .i64 (z : Int)) (cnt_0 (by omega) (run_0 (.inr (by assumption)))).symm))) rfl (by first | rfl | (exact congrArg (Value.int .i64) (cnt_1 (by omega) (by assumption)).symm) | (exact congrArg (Value.int .i64) (cnt_1 (by omega) (run_1 (by assumption) (by assumption))).symm) | (exact congrArg (fun z : Nat => Value.int .i64 (z : Int)) (cnt_0 (by omega) (by assumption)).symm) | (exact congrArg (fun z : Nat => Value.int .i64 (z : Int)) (cnt_0 (by omega) (run_0 (.inl (by assumption)))).symm) | (exact congrArg (fun z : Nat => Value.int .i64 (z : Int)) (cnt_0 (by omega) (run_0 (.inr (by assumption)))).symm))) rfl (by first | rfl | (exact congrArg (Value.int .i64) (cnt_1 (by omega) (by assumption)).symm) | (exact congrArg (Value.int .i64) (cnt_1 (by omega) (run_1 (by assumption) (by assumption))).symm) | (exact congrArg (fun z : Nat => Value.int .i64 (z : Int)) (cnt_0 (by omega) (by assumption)).symm) | (exact congrArg (fun z : Nat => Value.int .i64 (z : Int)) (cnt_0 (by omega) (run_0 (.inl (by assumption)))).symm) | (exact congrArg (fun z : Nat => Value.int .i64 (z : Int)) (cnt_0 (by omega) (run_0 (.inr (by assumption)))).symm))) rfl (by first | rfl | (exact congrArg (Value.int .i64) (cnt_1 (by omega) (by assumption)).symm) | (exact congrArg (Value.int .i64) (cnt_1 (by omega) (run_1 (by assumption) (by assumption))).symm) | (exact congrArg (fun z : Nat => Value.int .i64 (z : Int)) (cnt_0 (by omega) (by assumption)).symm) | (exact congrArg (fun z : Nat => Value.int .i64 (z : Int)) (cnt_0 (by omega) (run_0 (.inl (by assumption)))).symm) | (exact congrArg (fun z : Nat => Value.int .i64 (z : Int)) (cnt_0 (by omega) (run_0 (.inr (by assumption)))).symm))) rfl (by first | rfl | (exact congrArg (Value.int .i64) (cnt_1 (by omega) (by assumption)).symm) | (exact congrArg (Value.int .i64) (cnt_1 (by omega) (run_1 (by assumption) (by assumption))).symm) | (exact congrArg (fun z : Nat => Value.int .i64 (z : Int)) (cnt_0 (by omega) (by assumption)).symm) | (exact congrArg (fun z : Nat => Value.int .i64 (z : Int)) (cnt_0 (by omega) (run_0 (.inl (by assumption)))).symm) | (exact congrArg (fun z : Nat => Value.int .i64 (z : Int)) (cnt_0 (by omega) (run_0 (.inr (by assumption)))).symm))) rfl (by first | rfl | (exact congrArg (Value.int .i64) (cnt_1 (by omega) (by assumption)).symm) | (exact congrArg (Value.int .i64) (cnt_1 (by omega) (run_1 (by assumption) (by assumption))).symm) | (exact congrArg (fun z : Nat => Value.int .i64 (z : Int)) (cnt_0 (by omega) (by assumption)).symm) | (exact congrArg (fun z : Nat => Value.int .i64 (z : Int)) (cnt_0 (by omega) (run_0 (.inl (by assumption)))).symm) | (exact congrArg (fun z : Nat => Value.int .i64 (z : Int)) (cnt_0 (by omega) (run_0 (.inr (by assumption)))).symm)), hh.keep (by repeat (first | exact keeps_nil | apply keeps_cons (by repeat (first | exact find_head | apply find_tail)) (by first  | rfl) | exact keeps_self | apply keeps_mv))⟩
    · intro hc0
      try simp only [decide_eq_true_eq, decide_eq_false_iff_not, Bool.not_eq_true', Bool.not_eq_false', Bool.not_eq_true, Bool.not_eq_false, Bool.and_eq_true, Bool.or_eq_true, Bool.and_eq_false_iff, Bool.or_eq_false_iff, Bool.not_not, ne_eq, Int.not_lt, Int.not_le, Decidable.not_not, beq_iff_eq, bne_iff_ne] at hc0
      obtain rfl : r = 0 := by omega
      rw [ls_all] at hh
      refine wp_exit ?_
      refine then_exit ?_
      refine then_exit ?_
      refine blk_exit ?_
      refine then_normal ?_
      refine c_seq ?_
      refine c_region ?_
      refine wl (w_loadA hl hh rfl trivial agg79 rfl (by repeat (first | exact find_head | apply find_tail)) (by first | (simp only [List.getElem?_cons_zero, List.getElem?_cons_succ, Value.cells, List.take_zero, List.take_succ_cons, List.take_nil, List.drop_zero, List.drop_succ_cons, List.drop_nil, List.length_cons, List.length_nil, List.cons_append, List.nil_append, List.append_nil, Nat.zero_add, Nat.add_zero, Nat.reduceAdd, Nat.reduceBEq, Nat.reduceEqDiff, Nat.ble, BEq.rfl, Bool.and_true, Bool.and_self, cond_true, beq_self_eq_true]; rfl)) (by first | rfl | (simp; done)) ?_)
      clear hl a; intro a hl
      refine wl (w_storeA hl hh trivial agg79 rfl rfl (by repeat (first | exact find_head | apply find_tail)) (by first | rfl | (simp; done)) (by first | (simp; done) | (simp; omega)) (by first | rfl | (simp; done)) (by first | (simp only [encM, setL, List.getElem?_cons_zero, List.getElem?_cons_succ, Value.cells, List.take_zero, List.take_succ_cons, List.take_nil, List.drop_zero, List.drop_succ_cons, List.drop_nil, List.length_cons, List.length_nil, List.cons_append, List.nil_append, List.append_nil, Nat.zero_add, Nat.add_zero, Nat.reduceAdd, Nat.reduceBEq, Nat.reduceEqDiff, Nat.ble, BEq.rfl, Bool.and_true, Bool.and_self, cond_true, beq_self_eq_true]; rfl) | (simp only [setL, List.getElem?_cons_zero, List.getElem?_cons_succ, Value.cells, List.take_zero, List.take_succ_cons, List.take_nil, List.drop_zero, List.drop_succ_cons, List.drop_nil, List.length_cons, List.length_nil, List.cons_append, List.nil_append, List.append_nil, Nat.zero_add, Nat.add_zero, Nat.reduceAdd, Nat.reduceBEq, Nat.reduceEqDiff, Nat.ble, BEq.rfl, Bool.and_true, Bool.and_self, cond_true, beq_self_eq_true]; rfl)) ?_)
      clear hh w; intro w hh
      refine w_nil ?_
      have hl2 := hl.add (t := 4) (hl.nil) rfl; clear hl; have hl := hl2; clear hl2
      refine then_normal ?_
      refine wp_ret ?_
      refine f_retC (F' := [(k23, C (arrL f (blF (lsG s f g))) 4)]) hl hh rfl rfl agg79 (by repeat (first | exact find_head | apply find_tail)) (by first | rfl | exact arrL_length _ _ | (simp; done)) (by repeat (first | exact keeps_nil | apply keeps_cons (by repeat (first | exact find_head | apply find_tail)) (by first  | rfl) | exact keeps_self | apply keeps_mv)) ?_
      exact ⟨k23, rfl, rfl⟩
  ·
    try clear hM
    refine id (w_alloc hl hh rfl trivial zero79 rfl ?_)
    clear hl hh a w; intro k5 a w hl hh
    have hM : Mem [(mp, C (encM (s) st sk bp) 69)] w := (by (repeat (first | exact Mem.nil | refine Mem.consR hh (by assumption) (by simp) ?_ | refine Mem.cons hh.mem (by (repeat (first | exact find_head | apply find_tail)); done) ?_ | fail)); done)
    refine d_step (fun _ => hM) ?_
    refine d_one (i := 13) (by kernel_rfl) rfl ?_
    try clear hM
    refine id (w_makeSliceN hl hh rfl trivial app77 zero4 rfl rfl (by omega) (by decide) ?_)
    clear hl hh a w; intro k23 jk23 a w hjk23 hl hh
    have hz9 := (bl_zero hjk23).trans (ls_top (s := s) (g := g))
    rw [hz9] at hh
    clear hz9
    have hM : Mem [(mp, C (encM (s) st sk bp) 69)] w := (by (repeat (first | exact Mem.nil | refine Mem.consR hh (by assumption) (by simp) ?_ | refine Mem.cons hh.mem (by (repeat (first | exact find_head | apply find_tail)); done) ?_ | fail)); done)
    refine d_step (fun _ => hM) ?_
    refine d_take (i := 14) hl rfl (by kernel_rfl) (by kernel_rfl) (by kernel_rfl) (by kernel_rfl) (by kernel_rfl) rfl trivial (fun _ _ _ h => h) hM (fun w hC => r_build hl rfl zero79 bld79 (by simp only [fillL, setL, List.getElem?_cons_zero, List.getElem?_cons_succ, Value.cells, List.take_zero, List.take_succ_cons, List.take_nil, List.drop_zero, List.drop_succ_cons, List.drop_nil, List.length_cons, List.length_nil, List.cons_append, List.nil_append, List.append_nil, Nat.zero_add, Nat.add_zero, Nat.reduceAdd, Nat.reduceBEq, Nat.reduceEqDiff, Nat.ble, BEq.rfl, Bool.and_true, Bool.and_self, cond_true, beq_self_eq_true]; rfl)) rfl ?_
    clear hl a; intro a hl
    refine d_one (i := 16) (by kernel_rfl) rfl ?_
    try clear hM
    refine id (w_storeA hl hh trivial agg79 rfl rfl (by repeat (first | exact find_head | apply find_tail)) (by first | rfl | (simp; done)) (by first | (simp; done) | (simp; omega)) (by first | rfl | (simp; done)) (by first | (simp only [encM, setL, List.getElem?_cons_zero, List.getElem?_cons_succ, Value.cells, List.take_zero, List.take_succ_cons, List.take_nil, List.drop_zero, List.drop_succ_cons, List.drop_nil, List.length_cons, List.length_nil, List.cons_append, List.nil_append, List.append_nil, Nat.zero_add, Nat.add_zero, Nat.reduceAdd, Nat.reduceBEq, Nat.reduceEqDiff, Nat.ble, BEq.rfl, Bool.and_true, Bool.and_self, cond_true, beq_self_eq_true]; rfl) | (simp only [setL, List.getElem?_cons_zero, List.getElem?_cons_succ, Value.cells, List.take_zero, List.take_succ_cons, List.take_nil, List.drop_zero, List.drop_succ_cons, List.drop_nil, List.length_cons, List.length_nil, List.cons_append, List.nil_append, List.append_nil, Nat.zero_add, Nat.add_zero, Nat.reduceAdd, Nat.reduceBEq, Nat.reduceEqDiff, Nat.ble, BEq.rfl, Bool.and_true, Bool.and_self, cond_true, beq_self_eq_true]; rfl)) ?_)
    clear hh w; intro w hh
    refine d_step (fun h => absurd h (by decide)) ?_
    refine d_done (by kernel_rfl) ?_
    try clear hM
    have hl2 := hl.add (t := 0) (hl.add (t := 3) (hl.add (t := 4) (hl.add (t := 5) (hl.nil) rfl) rfl) rfl) rfl; clear hl; have hl := hl2; clear hl2
    refine then_normal ?_
    refine c_seq ?_
    refine c_region ?_
    refine wl (wl_val hl rfl trivial (r_move hl rfl) ?_)
    clear hl a; intro a hl
    refine wl (wl_val hl rfl trivial (r_nilCheck hl rfl) ?_)
    clear hl a; intro a hl
    refine wl (wl_val hl rfl trivial (r_field hl rfl fld69_0) ?_)
    clear hl a; intro a hl
    refine wl (wl_val hl rfl trivial (r_field hl rfl fld31_5) ?_)
    clear hl a; intro a hl
    first | refine wl (w_load hl hh rfl trivial one29 rfl (by repeat (first | exact find_head | apply find_tail)) (by first | rfl) ?_) | refine wl (w_loadR hl hh rfl trivial one29 rfl hpm (by simp) rfl ?_)
    clear hl a; intro a hl
    first | refine wl (wl_val hl rfl trivial (r_conv hl rfl Tryz.underlying29 Tryz.underlying2 (by simp only [Fits]; omega)) ?_) | refine wl (wl_val hl rfl trivial (r_convW hl rfl Tryz.underlying29 Tryz.underlying2) ?_)
    clear hl a; intro a hl
    refine wl (wl_val hl rfl trivial (r_assign hl rfl) ?_)
    clear hl a; intro a hl
    refine w_nil ?_
    have hl2 := hl.add (t := 0) (hl.add (t := 3) (hl.add (t := 4) (hl.add (t := 5) (hl.add (t := 6) (hl.nil) rfl) rfl) rfl) rfl) rfl; clear hl; have hl := hl2; clear hl2
    refine then_normal ?_
    refine c_seq ?_
    refine c_region ?_
    refine wl (wl_val hl rfl trivial (r_assign hl rfl) ?_)
    clear hl a; intro a hl
    refine wl (wl_val hl rfl trivial (r_assign hl rfl) ?_)
    clear hl a; intro a hl
    refine w_nil ?_
    have hl2 := hl.add (t := 0) (hl.add (t := 3) (hl.add (t := 4) (hl.add (t := 5) (hl.add (t := 6) (hl.add (t := 7) (hl.add (t := 8) (hl.nil) rfl) rfl) rfl) rfl) rfl) rfl) rfl; clear hl; have hl := hl2; clear hl2
    refine then_normal ?_
    refine c_seq ?_
    refine c_seq ?_
    refine c_region ?_
    refine wl (wl_val hl rfl trivial (r_move hl rfl) ?_)
    clear hl a; intro a hl
    refine wl (wl_val hl rfl trivial (r_nilCheck hl rfl) ?_)
    clear hl a; intro a hl
    refine wl (wl_val hl rfl trivial (r_field hl rfl fld69_9) ?_)
    clear hl a; intro a hl
    first | refine wl (w_load hl hh rfl trivial one2 rfl (by repeat (first | exact find_head | apply find_tail)) (by first | rfl) ?_) | refine wl (w_loadR hl hh rfl trivial one2 rfl hpm (by simp) rfl ?_)
    clear hl a; intro a hl
    first | refine wl (wl_val hl rfl trivial (r_sub hl rfl rfl (by simp only [Fits]; omega)) ?_) | refine wl (wl_val hl rfl trivial (r_subW hl rfl rfl) ?_)
    clear hl a; intro a hl
    refine wl (wl_val hl rfl trivial (r_assign hl rfl) ?_)
    clear hl a; intro a hl
    refine w_nil ?_
    have hl2 := hl.add (t := 0) (hl.add (t := 3) (hl.add (t := 4) (hl.add (t := 5) (hl.add (t := 6) (hl.add (t := 7) (hl.add (t := 8) (hl.add (t := 9) (hl.nil) rfl) rfl) rfl) rfl) rfl) rfl) rfl) rfl; clear hl; have hl := hl2; clear hl2
    refine then_normal ?_
    refine wp_block ?_
    obtain ⟨KS0, hKS0, hk⟩ := (hl.add (t := 0) (hl.add (t := 3) (hl.add (t := 4) (hl.add (t := 5) (hl.add (t := 6) (hl.nil) rfl) rfl) rfl) rfl) rfl).name
    obtain ⟨HS0, hHS0, hh2⟩ := hh.name (keeps_cons (b := k23) (o' := C (arrL f (blF (lsP s f g f))) 4) (by repeat (first | exact find_head | apply find_tail)) (by first | rfl) (keeps_nil))
    refine c_loop (α := Nat) (fun r => r) (fun r a w => (r ≤ f) ∧ Sl 100 ([(9, .int .i64 (s.una + (r : Int) - 1)), (7, .int .i64 (cntA (runG g) f r : Int)), (8, .int .i64 (cntA g f r : Int))] ++ KS0) a ∧ Has _ w0 ([(k23, C (arrL f (blF (lsP s f g r))) 4)] ++ HS0) w) f ⟨(Nat.le_refl _), hl.addE (t := 9) (hl.addE (t := 7) (hl.addE (t := 8) (hk) rfl (by first | (exact congrArg (Value.int .i64) (show s.nxt - 1 = s.una + (f : Int) - 1 by omega)) | (rw [cnt_top _ f f (Nat.le_refl _)]; rfl) | rfl)) rfl (by first | (exact congrArg (Value.int .i64) (show s.nxt - 1 = s.una + (f : Int) - 1 by omega)) | (rw [cnt_top _ f f (Nat.le_refl _)]; rfl) | rfl)) rfl (by first | (exact congrArg (Value.int .i64) (show s.nxt - 1 = s.una + (f : Int) - 1 by omega)) | (rw [cnt_top _ f f (Nat.le_refl _)]; rfl) | rfl), hh2⟩ ?_
    clear hk hh2 hl hh a w
    intro r a w hI
    obtain ⟨hr, hl, hh⟩ := hI
    subst hKS0; subst hHS0
    simp only [List.cons_append, List.nil_append, List.append_nil] at hl hh
    have hcl1 := cnt_le (runG g) f r
    have hcl2 := cnt_le g f r
    refine c_seq ?_
    refine c_seq ?_
    refine c_region ?_
    refine wl (wl_val hl rfl trivial (r_move hl rfl) ?_)
    clear hl a; intro a hl
    refine wl (wl_val hl rfl trivial (r_move hl rfl) ?_)
    clear hl a; intro a hl
    refine wl (wl_val hl rfl trivial (r_nilCheck hl rfl) ?_)
    clear hl a; intro a hl
    refine wl (wl_val hl rfl trivial (r_field hl rfl fld69_8) ?_)
    clear hl a; intro a hl
    first | refine wl (w_load hl hh rfl trivial one2 rfl (by repeat (first | exact find_head | apply find_tail)) (by first | rfl) ?_) | refine wl (w_loadR hl hh rfl trivial one2 rfl hpm (by simp) rfl ?_)
    clear hl a; intro a hl
    refine wl (wl_val hl rfl trivial (r_geq hl rfl rfl) ?_)
    clear hl a; intro a hl
    refine w_nil ?_
    have hl2 := hl.add (t := 0) (hl.add (t := 3) (hl.add (t := 4) (hl.add (t := 5) (hl.add (t := 6) (hl.add (t := 7) (hl.add (t := 8) (hl.add (t := 9) (hl.add (t := 41) (hl.nil) rfl) rfl) rfl) rfl) rfl) rfl) rfl) rfl) rfl; clear hl; have hl := hl2; clear hl2
    refine then_normal ?_
    refine c_cond hl rfl ?_ ?_
    · intro hc0
      try simp only [decide_eq_true_eq, decide_eq_false_iff_not, Bool.not_eq_true', Bool.not_eq_false', Bool.not_eq_true, Bool.not_eq_false, Bool.and_eq_true, Bool.or_eq_true, Bool.and_eq_false_iff, Bool.or_eq_false_iff, Bool.not_not, ne_eq, Int.not_lt, Int.not_le, Decidable.not_not, beq_iff_eq, bne_iff_ne] at hc0
      obtain ⟨q, rfl⟩ : ∃ q, r = q + 1 := ⟨r - 1, by omega⟩
      rw [show s.una + ((q + 1 : Nat) : Int) - 1 = s.una + (q : Int) by omega] at hl
      refine wp_skip ?_
      refine then_normal ?_
      refine c_seq ?_
      refine wp_block ?_
      refine c_seq ?_
      refine c_seq ?_
      refine c_region ?_
      refine wl (wl_val hl rfl trivial (r_move hl rfl) ?_)
      clear hl a; intro a hl
      refine wl (wl_val hl rfl trivial (r_nilCheck hl rfl) ?_)
      clear hl a; intro a hl
      refine wl (wl_val hl rfl trivial (r_field hl rfl fld69_10) ?_)
      clear hl a; intro a hl
      first | refine wl (w_load hl hh rfl trivial one59 rfl (by repeat (first | exact find_head | apply find_tail)) (by first | rfl) ?_) | refine wl (w_loadR hl hh rfl trivial one59 rfl hpm (by simp) rfl ?_)
      clear hl a; intro a hl
      refine wl (wl_val hl rfl trivial (r_eql hl rfl rfl) ?_)
      clear hl a; intro a hl
      refine w_nil ?_
      have hl2 := hl.add (t := 0) (hl.add (t := 3) (hl.add (t := 4) (hl.add (t := 5) (hl.add (t := 6) (hl.add (t := 7) (hl.add (t := 8) (hl.add (t := 9) (hl.add (t := 48) (hl.nil) rfl) rfl) rfl) rfl) rfl) rfl) rfl) rfl) rfl; clear hl; have hl := hl2; clear hl2
      refine then_normal ?_
      refine c_cond hl rfl ?_ ?_
      · intro hc1
        try simp only [decide_eq_true_eq, decide_eq_false_iff_not, Bool.not_eq_true', Bool.not_eq_false', Bool.not_eq_true, Bool.not_eq_false, Bool.and_eq_true, Bool.or_eq_true, Bool.and_eq_false_iff, Bool.or_eq_false_iff, Bool.not_not, ne_eq, Int.not_lt, Int.not_le, Decidable.not_not, beq_iff_eq, bne_iff_ne] at hc1
        refine c_draw [(k5, C [.int .i64 s.una, .slice (some ⟨k23, 0, none⟩) f f] 79), (mp, C (encM (s) st sk bp) 69)] [14, 15] mixed hh ?_
        clear hh w; intro w hh
        have hM : Mem [(k5, C [.int .i64 s.una, .slice (some ⟨k23, 0, none⟩) f f] 79), (mp, C (encM (s) st sk bp) 69)] w := (by (repeat (first | exact Mem.nil | refine Mem.consR hh (by assumption) (by simp) ?_ | refine Mem.cons hh.mem (by (repeat (first | exact find_head | apply find_tail)); done) ?_ | fail)); done)
        refine d_take (i := 0) hl rfl (by kernel_rfl) (by kernel_rfl) (by kernel_rfl) (by kernel_rfl) (by kernel_rfl) rfl trivial (fun _ _ _ h => h) hM (fun w hC => r_field hl rfl fld79_1) rfl ?_
        clear hl a; intro a hl
        refine d_take (i := 1) hl rfl (by kernel_rfl) (by kernel_rfl) (by kernel_rfl) (by kernel_rfl) (by kernel_rfl) rfl trivial (fun _ _ _ h => h) hM (fun w hC => r_loadC hl rfl one77 hC (by repeat (first | exact find_head | apply find_tail)) (by first | rfl)) rfl ?_
        clear hl a; intro a hl
        refine d_take (i := 2) hl rfl (by kernel_rfl) (by kernel_rfl) (by kernel_rfl) (by kernel_rfl) (by kernel_rfl) rfl trivial (fun _ _ _ h => h) hM (fun w hC => r_move hl rfl) rfl ?_
        clear hl a; intro a hl
        refine d_take (i := 3) hl rfl (by kernel_rfl) (by kernel_rfl) (by kernel_rfl) (by kernel_rfl) (by kernel_rfl) rfl trivial (fun _ _ _ h => h) hM (fun w hC => r_move hl rfl) rfl ?_
        clear hl a; intro a hl
        refine d_take (i := 4) hl rfl (by kernel_rfl) (by kernel_rfl) (by kernel_rfl) (by kernel_rfl) (by kernel_rfl) rfl trivial (fun _ _ _ h => h) hM (fun w hC => r_nilCheck hl rfl) rfl ?_
        clear hl a; intro a hl
        refine d_take (i := 5) hl rfl (by kernel_rfl) (by kernel_rfl) (by kernel_rfl) (by kernel_rfl) (by kernel_rfl) rfl trivial (fun _ _ _ h => h) hM (fun w hC => r_field hl rfl fld69_8) rfl ?_
        clear hl a; intro a hl
        refine d_take (i := 6) hl rfl (by kernel_rfl) (by kernel_rfl) (by kernel_rfl) (by kernel_rfl) (by kernel_rfl) rfl trivial (fun _ _ _ h => h) hM (fun w hC => r_loadC hl rfl one2 hC (by repeat (first | exact find_head | apply find_tail)) (by first | rfl)) rfl ?_
        clear hl a; intro a hl
        first | refine d_take (i := 7) hl rfl (by kernel_rfl) (by kernel_rfl) (by kernel_rfl) (by kernel_rfl) (by kernel_rfl) rfl trivial (fun _ _ _ h => h) hM (fun w hC => r_sub hl rfl rfl (by simp only [Fits]; omega)) rfl ?_ | refine d_take (i := 7) hl rfl (by kernel_rfl) (by kernel_rfl) (by kernel_rfl) (by kernel_rfl) (by kernel_rfl) rfl trivial (fun _ _ _ h => h) hM (fun w hC => r_subW hl rfl rfl) rfl ?_
        clear hl a; intro a hl
        rw [show s.una + (q : Int) - s.una = (q : Int) by omega] at hl
        refine d_take (i := 8) hl rfl (by kernel_rfl) (by kernel_rfl) (by kernel_rfl) (by kernel_rfl) (by kernel_rfl) rfl trivial (fun _ _ _ h => h) hM (fun w hC => r_move hl rfl) rfl ?_
        clear hl a; intro a hl
        refine d_take (i := 9) hl rfl (by kernel_rfl) (by kernel_rfl) (by kernel_rfl) (by kernel_rfl) (by kernel_rfl) rfl trivial (fun _ _ _ h => h) hM (fun w hC => r_move hl rfl) rfl ?_
        clear hl a; intro a hl
        refine d_take (i := 10) hl rfl (by kernel_rfl) (by kernel_rfl) (by kernel_rfl) (by kernel_rfl) (by kernel_rfl) rfl trivial (fun _ _ _ h => h) hM (fun w hC => r_nilCheck hl rfl) rfl ?_
        clear hl a; intro a hl
        refine d_take (i := 11) hl rfl (by kernel_rfl) (by kernel_rfl) (by kernel_rfl) (by kernel_rfl) (by kernel_rfl) rfl trivial (fun _ _ _ h => h) hM (fun w hC => r_field hl rfl fld69_11) rfl ?_
        clear hl a; intro a hl
        refine d_take (i := 12) hl rfl (by kernel_rfl) (by kernel_rfl) (by kernel_rfl) (by kernel_rfl) (by kernel_rfl) rfl trivial (fun _ _ _ h => h) hM (fun w hC => r_loadC hl rfl one2 hC (by repeat (first | exact find_head | apply find_tail)) (by first | rfl)) rfl ?_
        clear hl a; intro a hl
        refine d_take (i := 13) hl rfl (by kernel_rfl) (by kernel_rfl) (by kernel_rfl) (by kernel_rfl) (by kernel_rfl) rfl trivial (fun _ _ _ h => h) hM (fun w hC => r_lss hl rfl rfl) rfl ?_
        clear hl a; intro a hl
        refine d_takeL (i := 14) hl rfl (by kernel_rfl) (by kernel_rfl) (by kernel_rfl) (by kernel_rfl) (by kernel_rfl) rfl trivial (fun _ _ _ h => h) (fun w => r_indexS hl rfl rfl slc77 (by omega) (by omega) (by first | (simp only [Int.reduceToNat]; rfl) | exact toNat_add1 _ | exact toNat_add2 _ _ | exact toNat_emod _ _ | exact Int.toNat_natCast _ | rfl)) rfl ?_
        clear hl a; intro a hl
        refine d_one (i := 15) (by kernel_rfl) rfl ?_
        try clear hM
        refine id (w_store hl hh trivial one4 rfl rfl (by repeat (first | exact find_head | apply find_tail)) (by rw [arrL_length]; omega) (by first | rfl | assumption | (apply Row.one; assumption)) (by first | exact ls_set (by omega) (lsG_2 (by assumption)) | exact ls_set (by omega) (lsG_a (by assumption) (by assumption)) | exact ls_set (by omega) (lsG_b (by assumption) (by omega))) ?_)
        clear hh w; intro w hh
        refine d_step (fun h => absurd h (by decide)) ?_
        refine d_done (by kernel_rfl) ?_
        try clear hM
        have hl2 := hl.add (t := 0) (hl.add (t := 3) (hl.add (t := 4) (hl.add (t := 5) (hl.add (t := 6) (hl.add (t := 7) (hl.add (t := 8) (hl.add (t := 9) (hl.nil) rfl) rfl) rfl) rfl) rfl) rfl) rfl) rfl; clear hl; have hl := hl2; clear hl2
        refine then_normal ?_
        refine c_seq ?_
        refine c_region ?_
        refine wl (w_loadA hl hh rfl trivial agg79 rfl (by repeat (first | exact find_head | apply find_tail)) (by first | (simp only [List.getElem?_cons_zero, List.getElem?_cons_succ, Value.cells, List.take_zero, List.take_succ_cons, List.take_nil, List.drop_zero, List.drop_succ_cons, List.drop_nil, List.length_cons, List.length_nil, List.cons_append, List.nil_append, List.append_nil, Nat.zero_add, Nat.add_zero, Nat.reduceAdd, Nat.reduceBEq, Nat.reduceEqDiff, Nat.ble, BEq.rfl, Bool.and_true, Bool.and_self, cond_true, beq_self_eq_true]; rfl)) (by first | rfl | (simp; done)) ?_)
        clear hl a; intro a hl
        refine wl (wl_val hl rfl trivial (r_move hl rfl) ?_)
        clear hl a; intro a hl
        refine wl (w_call hl hh rfl trivial rfl cal47 rfl (at_m s.una f fb g _ (by omega) (by omega) (by omega)) (by repeat (first | exact keeps_nil | apply keeps_cons (by repeat (first | exact find_head | apply find_tail)) (by first  | rfl) | exact keeps_self | apply keeps_mv)) (heap_keep hh hpf) ?_)
        clear hl hh a w; intro vc Fc a w hR hl hh
        obtain ⟨rfl, rfl⟩ := hR
        try simp only [List.cons_append, List.nil_append] at hh
        rw [at_q (by omega)] at hl
        refine w_nil ?_
        have hl2 := hl.add (t := 0) (hl.add (t := 3) (hl.add (t := 4) (hl.add (t := 5) (hl.add (t := 6) (hl.add (t := 7) (hl.add (t := 8) (hl.add (t := 9) (hl.add (t := 89) (hl.nil) rfl) rfl) rfl) rfl) rfl) rfl) rfl) rfl) rfl; clear hl; have hl := hl2; clear hl2
        refine then_normal ?_
        refine c_cond hl rfl ?_ ?_
        · intro hc2
          try simp only [decide_eq_true_eq, decide_eq_false_iff_not, Bool.not_eq_true', Bool.not_eq_false', Bool.not_eq_true, Bool.not_eq_false, Bool.and_eq_true, Bool.or_eq_true, Bool.and_eq_false_iff, Bool.or_eq_false_iff, Bool.not_not, ne_eq, Int.not_lt, Int.not_le, Decidable.not_not, beq_iff_eq, bne_iff_ne] at hc2
          refine c_seq ?_
          refine c_region ?_
          refine wl (wl_val hl rfl trivial (r_move hl rfl) ?_)
          clear hl a; intro a hl
          first | refine wl (wl_val hl rfl trivial (r_add hl rfl rfl (by simp only [Fits]; omega)) ?_) | refine wl (wl_val hl rfl trivial (r_addW hl rfl rfl) ?_)
          clear hl a; intro a hl
          refine wl (wl_val hl rfl trivial (r_assign hl rfl) ?_)
          clear hl a; intro a hl
          refine w_nil ?_
          have hl2 := hl.add (t := 0) (hl.add (t := 3) (hl.add (t := 4) (hl.add (t := 5) (hl.add (t := 6) (hl.add (t := 7) (hl.add (t := 8) (hl.add (t := 9) (hl.nil) rfl) rfl) rfl) rfl) rfl) rfl) rfl) rfl; clear hl; have hl := hl2; clear hl2
          refine then_normal ?_
          refine c_seq ?_
          refine c_region ?_
          refine wl (w_loadA hl hh rfl trivial agg79 rfl (by repeat (first | exact find_head | apply find_tail)) (by first | (simp only [List.getElem?_cons_zero, List.getElem?_cons_succ, Value.cells, List.take_zero, List.take_succ_cons, List.take_nil, List.drop_zero, List.drop_succ_cons, List.drop_nil, List.length_cons, List.length_nil, List.cons_append, List.nil_append, List.append_nil, Nat.zero_add, Nat.add_zero, Nat.reduceAdd, Nat.reduceBEq, Nat.reduceEqDiff, Nat.ble, BEq.rfl, Bool.and_true, Bool.and_self, cond_true, beq_self_eq_true]; rfl)) (by first | rfl | (simp; done)) ?_)
          clear hl a; intro a hl
          refine wl (wl_val hl rfl trivial (r_move hl rfl) ?_)
          clear hl a; intro a hl
          first | refine wl (wl_val hl rfl trivial (r_sub hl rfl rfl (by simp only [Fits]; omega)) ?_) | refine wl (wl_val hl rfl trivial (r_subW hl rfl rfl) ?_)
          clear hl a; intro a hl
          refine wl (w_call hl hh rfl trivial rfl cal47 rfl (at_m s.una f fb g _ (by omega) (by omega) (by omega)) (by repeat (first | exact keeps_nil | apply keeps_cons (by repeat (first | exact find_head | apply find_tail)) (by first  | rfl) | exact keeps_self | apply keeps_mv)) (heap_keep hh hpf) ?_)
          clear hl hh a w; intro vc Fc a w hR hl hh
          obtain ⟨rfl, rfl⟩ := hR
          try simp only [List.cons_append, List.nil_append] at hh
          rw [at_p (by omega)] at hl
          refine wl (wl_val hl rfl trivial (r_not hl rfl) ?_)
          clear hl a; intro a hl
          refine w_nil ?_
          have hl2 := hl.add (t := 0) (hl.add (t := 3) (hl.add (t := 4) (hl.add (t := 5) (hl.add (t := 6) (hl.add (t := 7) (hl.add (t := 8) (hl.add (t := 9) (hl.add (t := 96) (hl.nil) rfl) rfl) rfl) rfl) rfl) rfl) rfl) rfl) rfl; clear hl; have hl := hl2; clear hl2
          refine then_normal ?_
          refine c_cond hl rfl ?_ ?_
          · intro hc3
            try simp only [decide_eq_true_eq, decide_eq_false_iff_not, Bool.not_eq_true', Bool.not_eq_false', Bool.not_eq_true, Bool.not_eq_false, Bool.and_eq_true, Bool.or_eq_true, Bool.and_eq_false_iff, Bool.or_eq_false_iff, Bool.not_not, ne_eq, Int.not_lt, Int.not_le, Decidable.not_not, beq_iff_eq, bne_iff_ne] at hc3
            refine c_region ?_
            refine wl (wl_val hl rfl trivial (r_move hl rfl) ?_)
            clear hl a; intro a hl
            first | refine wl (wl_val hl rfl trivial (r_add hl rfl rfl (by simp only [Fits]; omega)) ?_) | refine wl (wl_val hl rfl trivial (r_addW hl rfl rfl) ?_)
            clear hl a; intro a hl
            refine wl (wl_val hl rfl trivial (r_assign hl rfl) ?_)
            clear hl a; intro a hl
            refine w_nil ?_
            have hl2 := hl.add (t := 0) (hl.add (t := 3) (hl.add (t := 4) (hl.add (t := 5) (hl.add (t := 6) (hl.add (t := 7) (hl.add (t := 8) (hl.add (t := 9) (hl.nil) rfl) rfl) rfl) rfl) rfl) rfl) rfl) rfl; clear hl; have hl := hl2; clear hl2
            refine blk_normal ?_
            refine then_normal ?_
            refine c_region ?_
            refine wl (wl_val hl rfl trivial (r_move hl rfl) ?_)
            clear hl a; intro a hl
            first | refine wl (wl_val hl rfl trivial (r_sub hl rfl rfl (by simp only [Fits]; omega)) ?_) | refine wl (wl_val hl rfl trivial (r_subW hl rfl rfl) ?_)
            clear hl a; intro a hl
            refine wl (wl_val hl rfl trivial (r_assign hl rfl) ?_)
            clear hl a; intro a hl
            refine w_nil ?_
            have hl2 := hl.add (t := 0) (hl.add (t := 3) (hl.add (t := 4) (hl.add (t := 5) (hl.add (t := 6) (hl.add (t := 7) (hl.add (t := 8) (hl.add (t := 9) (hl.nil) rfl) rfl) rfl) rfl) rfl) rfl) rfl) rfl; clear hl; have hl := hl2; clear hl2
            refine then_normal ?_
            refine ⟨q, (by omega), (by omega), hl.addE (t := 9) (hl.addE (t := 7) (hl.addE (t := 8) (hl.addE (t := 0) (hl.addE (t := 3) (hl.addE (t := 4) (hl.addE (t := 5) (hl.addE (t := 6) (hl.nil) rfl (by first | rfl | (exact congrArg (Value.int .i64) (cnt_1 (by omega) (by assumption)).symm) | (exact congrArg (Value.int .i64) (cnt_1 (by omega) (run_1 (by assumption) (by assumption))).symm) | (exact congrArg (fun z : Nat => Value.int .i64 (z : Int)) (cnt_0 (by omega) (by assumption)).symm) | (exact congrArg (fun z : Nat => Value.int .i64 (z : Int)) (cnt_0 (by omega) (run_0 (.inl (by assumption)))).symm) | (exact congrArg (fun z : Nat => Value.int .i64 (z : Int)) (cnt_0 (by omega) (run_0 (.inr (by assumption)))).symm))) rfl (by first | rfl | (exact congrArg (Value.int .i64) (cnt_1 (by omega) (by assumption)).symm) | (exact congrArg (Value.int .i64) (cnt_1 (by omega) (run_1 (by assumption) (by assumption))).symm) | (exact congrArg (fun z : Nat => Value.int .i64 (z : Int)) (cnt_0 (by omega) (by assumption)).symm) | (exact congrArg (fun z : Nat => Value.int .i64 (z : Int)) (cnt_0 (by omega) (run_0 (.inl (by assumption)))).symm) | (exact congrArg (fun z : Nat => Value.int .i64 (z : Int)) (cnt_0 (by omega) (run_0 (.inr (by assumption)))).symm))) rfl (by first | rfl | (exact congrArg (Value.int .i64) (cnt_1 (by omega) (by assumption)).symm) | (exact congrArg (Value.int .i64) (cnt_1 (by omega) (run_1 (by assumption) (by assumption))).symm) | (exact congrArg (fun z : Nat => Value.int .i64 (z : Int)) (cnt_0 (by omega) (by assumption)).symm) | (exact congrArg (fun z : Nat => Value.int .i64 (z : Int)) (cnt_0 (by omega) (run_0 (.inl (by assumption)))).symm) | (exact congrArg (fun z : Nat => Value.int .i64 (z : Int)) (cnt_0 (by omega) (run_0 (.inr (by assumption)))).symm))) rfl (by first | rfl | (exact congrArg (Value.int .i64) (cnt_1 (by omega) (by assumption)).symm) | (exact congrArg (Value.int .i64) (cnt_1 (by omega) (run_1 (by assumption) (by assumption))).symm) | (exact congrArg (fun z : Nat => Value.int .i64 (z : Int)) (cnt_0 (by omega) (by assumption)).symm) | (exact congrArg (fun z : Nat => Value.int .i64 (z : Int)) (cnt_0 (by omega) (run_0 (.inl (by assumption)))).symm) | (exact congrArg (fun z : Nat => Value.int .i64 (z : Int)) (cnt_0 (by omega) (run_0 (.inr (by assumption)))).symm))) rfl (by first | rfl | (exact congrArg (Value.int .i64) (cnt_1 (by omega) (by assumption)).symm) | (exact congrArg (Value.int .i64) (cnt_1 (by omega) (run_1 (by assumption) (by assumption))).symm) | (exact congrArg (fun z : Nat => Value.int .i64 (z : Int)) (cnt_0 (by omega) (by assumption)).symm) | (exact congrArg (fun z : Nat => Value.int .i64 (z : Int)) (cnt_0 (by omega) (run_0 (.inl (by assumption)))).symm) | (exact congrArg (fun z : Nat => Value.int .i64 (z : Int)) (cnt_0 (by omega) (run_0 (.inr (by assumption)))).symm))) rfl (by first | rfl | (exact congrArg (Value.int .i64) (cnt_1 (by omega) (by assumption)).symm) | (exact congrArg (Value.int .i64) (cnt_1 (by omega) (run_1 (by assumption) (by assumption))).symm) | (exact congrArg (fun z : Nat => Value.int .i64 (z : Int)) (cnt_0 (by omega) (by assumption)).symm) | (exact congrArg (fun z : Nat => Value.int .i64 (z : Int)) (cnt_0 (by omega) (run_0 (.inl (by assumption)))).symm) | (exact congrArg (fun z : Nat => Value.int .i64 (z : Int)) (cnt_0 (by omega) (run_0 (.inr (by assumption)))).symm))) rfl (by first | rfl | (exact congrArg (Value.int .i64) (cnt_1 (by omega) (by assumption)).symm) | (exact congrArg (Value.int .i64) (cnt_1 (by omega) (run_1 (by assumption) (by assumption))).symm) | (exact congrArg (fun z : Nat => Value.int .i64 (z : Int)) (cnt_0 (by omega) (by assumption)).symm) | (exact congrArg (fun z : Nat => Value.int .i64 (z : Int)) (cnt_0 (by omega) (run_0 (.inl (by assumption)))).symm) | (exact congrArg (fun z : Nat => Value.int .i64 (z : Int)) (cnt_0 (by omega) (run_0 (.inr (by assumption)))).symm))) rfl (by first | rfl | (exact congrArg (Value.int .i64) (cnt_1 (by omega) (by assumption)).symm) | (exact congrArg (Value.int .i64) (cnt_1 (by omega) (run_1 (by assumption) (by assumption))).symm) | (exact congrArg (fun z : Nat => Value.int .i64 (z : Int)) (cnt_0 (by omega) (by assumption)).symm) | (exact congrArg (fun z : Nat => Value.int .i64 (z : Int)) (cnt_0 (by omega) (run_0 (.inl (by assumption)))).symm) | (exact congrArg (fun z : Nat => Value.int .i64 (z : Int)) (cnt_0 (by omega) (run_0 (.inr (by assumption)))).symm)), hh.keep (by repeat (first | exact keeps_nil | apply keeps_cons (by repeat (first | exact find_head | apply find_tail)) (by first  | rfl) | exact keeps_self | apply keeps_mv))⟩
          · intro hc3
            try simp only [decide_eq_true_eq, decide_eq_false_iff_not, Bool.not_eq_true', Bool.not_eq_false', Bool.not_eq_true, Bool.not_eq_false, Bool.and_eq_true, Bool.or_eq_true, Bool.and_eq_false_iff, Bool.or_eq_false_iff, Bool.not_not, ne_eq, Int.not_lt, Int.not_le, Decidable.not_not, beq_iff_eq, bne_iff_ne] at hc3
            refine wp_skip ?_
            refine blk_normal ?_
            refine then_normal ?_
            refine c_region ?_
            refine wl (wl_val hl rfl trivial (r_move hl rfl) ?_)
            clear hl a; intro a hl
            first | refine wl (wl_val hl rfl trivial (r_sub hl rfl rfl (by simp only [Fits]; omega)) ?_) | refine wl (wl_val hl rfl trivial (r_subW hl rfl rfl) ?_)
            clear hl a; intro a hl
            refine wl (wl_val hl rfl trivial (r_assign hl rfl) ?_)
            clear hl a; intro a hl
            refine w_nil ?_
            have hl2 := hl.add (t := 0) (hl.add (t := 3) (hl.add (t := 4) (hl.add (t := 5) (hl.add (t := 6) (hl.add (t := 7) (hl.add (t := 8) (hl.add (t := 9) (hl.nil) rfl) rfl) rfl) rfl) rfl) rfl) rfl) rfl; clear hl; have hl := hl2; clear hl2
            refine then_normal ?_
            refine ⟨q, (by omega), (by omega), hl.addE (t := 9) (hl.addE (t := 7) (hl.addE (t := 8) (hl.addE (t := 0) (hl.addE (t := 3) (hl.addE (t := 4) (hl.addE (t := 5) (hl.addE (t := 6) (hl.nil) rfl (by first | rfl | (exact congrArg (Value.int .i64) (cnt_1 (by omega) (by assumption)).symm) | (exact congrArg (Value.int .i64) (cnt_1 (by omega) (run_1 (by assumption) (by assumption))).symm) | (exact congrArg (fun z : Nat => Value.int .i64 (z : Int)) (cnt_0 (by omega) (by assumption)).symm) | (exact congrArg (fun z : Nat => Value.int .i64 (z : Int)) (cnt_0 (by omega) (run_0 (.inl (by assumption)))).symm) | (exact congrArg (fun z : Nat => Value.int .i64 (z : Int)) (cnt_0 (by omega) (run_0 (.inr (by assumption)))).symm))) rfl (by first | rfl | (exact congrArg (Value.int .i64) (cnt_1 (by omega) (by assumption)).symm) | (exact congrArg (Value.int .i64) (cnt_1 (by omega) (run_1 (by assumption) (by assumption))).symm) | (exact congrArg (fun z : Nat => Value.int .i64 (z : Int)) (cnt_0 (by omega) (by assumption)).symm) | (exact congrArg (fun z : Nat => Value.int .i64 (z : Int)) (cnt_0 (by omega) (run_0 (.inl (by assumption)))).symm) | (exact congrArg (fun z : Nat => Value.int .i64 (z : Int)) (cnt_0 (by omega) (run_0 (.inr (by assumption)))).symm))) rfl (by first | rfl | (exact congrArg (Value.int .i64) (cnt_1 (by omega) (by assumption)).symm) | (exact congrArg (Value.int .i64) (cnt_1 (by omega) (run_1 (by assumption) (by assumption))).symm) | (exact congrArg (fun z : Nat => Value.int .i64 (z : Int)) (cnt_0 (by omega) (by assumption)).symm) | (exact congrArg (fun z : Nat => Value.int .i64 (z : Int)) (cnt_0 (by omega) (run_0 (.inl (by assumption)))).symm) | (exact congrArg (fun z : Nat => Value.int .i64 (z : Int)) (cnt_0 (by omega) (run_0 (.inr (by assumption)))).symm))) rfl (by first | rfl | (exact congrArg (Value.int .i64) (cnt_1 (by omega) (by assumption)).symm) | (exact congrArg (Value.int .i64) (cnt_1 (by omega) (run_1 (by assumption) (by assumption))).symm) | (exact congrArg (fun z : Nat => Value.int .i64 (z : Int)) (cnt_0 (by omega) (by assumption)).symm) | (exact congrArg (fun z : Nat => Value.int .i64 (z : Int)) (cnt_0 (by omega) (run_0 (.inl (by assumption)))).symm) | (exact congrArg (fun z : Nat => Value.int .i64 (z : Int)) (cnt_0 (by omega) (run_0 (.inr (by assumption)))).symm))) rfl (by first | rfl | (exact congrArg (Value.int .i64) (cnt_1 (by omega) (by assumption)).symm) | (exact congrArg (Value.int .i64) (cnt_1 (by omega) (run_1 (by assumption) (by assumption))).symm) | (exact congrArg (fun z : Nat => Value.int .i64 (z : Int)) (cnt_0 (by omega) (by assumption)).symm) | (exact congrArg (fun z : Nat => Value.int .i64 (z : Int)) (cnt_0 (by omega) (run_0 (.inl (by assumption)))).symm) | (exact congrArg (fun z : Nat => Value.int .i64 (z : Int)) (cnt_0 (by omega) (run_0 (.inr (by assumption)))).symm))) rfl (by first | rfl | (exact congrArg (Value.int .i64) (cnt_1 (by omega) (by assumption)).symm) | (exact congrArg (Value.int .i64) (cnt_1 (by omega) (run_1 (by assumption) (by assumption))).symm) | (exact congrArg (fun z : Nat => Value.int .i64 (z : Int)) (cnt_0 (by omega) (by assumption)).symm) | (exact congrArg (fun z : Nat => Value.int .i64 (z : Int)) (cnt_0 (by omega) (run_0 (.inl (by assumption)))).symm) | (exact congrArg (fun z : Nat => Value.int .i64 (z : Int)) (cnt_0 (by omega) (run_0 (.inr (by assumption)))).symm))) rfl (by first | rfl | (exact congrArg (Value.int .i64) (cnt_1 (by omega) (by assumption)).symm) | (exact congrArg (Value.int .i64) (cnt_1 (by omega) (run_1 (by assumption) (by assumption))).symm) | (exact congrArg (fun z : Nat => Value.int .i64 (z : Int)) (cnt_0 (by omega) (by assumption)).symm) | (exact congrArg (fun z : Nat => Value.int .i64 (z : Int)) (cnt_0 (by omega) (run_0 (.inl (by assumption)))).symm) | (exact congrArg (fun z : Nat => Value.int .i64 (z : Int)) (cnt_0 (by omega) (run_0 (.inr (by assumption)))).symm))) rfl (by first | rfl | (exact congrArg (Value.int .i64) (cnt_1 (by omega) (by assumption)).symm) | (exact congrArg (Value.int .i64) (cnt_1 (by omega) (run_1 (by assumption) (by assumption))).symm) | (exact congrArg (fun z : Nat => Value.int .i64 (z : Int)) (cnt_0 (by omega) (by assumption)).symm) | (exact congrArg (fun z : Nat => Value.int .i64 (z : Int)) (cnt_0 (by omega) (run_0 (.inl (by assumption)))).symm) | (exact congrArg (fun z : Nat => Value.int .i64 (z : Int)) (cnt_0 (by omega) (run_0 (.inr (by assumption)))).symm)), hh.keep (by repeat (first | exact keeps_nil | apply keeps_cons (by repeat (first | exact find_head | apply find_tail)) (by first  | rfl) | exact keeps_self | apply keeps_mv))⟩
        · intro hc2
          try simp only [decide_eq_true_eq, decide_eq_false_iff_not, Bool.not_eq_true', Bool.not_eq_false', Bool.not_eq_true, Bool.not_eq_false, Bool.and_eq_true, Bool.or_eq_true, Bool.and_eq_false_iff, Bool.or_eq_false_iff, Bool.not_not, ne_eq, Int.not_lt, Int.not_le, Decidable.not_not, beq_iff_eq, bne_iff_ne] at hc2
          refine wp_skip ?_
          refine blk_normal ?_
          refine then_normal ?_
          refine c_region ?_
          refine wl (wl_val hl rfl trivial (r_move hl rfl) ?_)
          clear hl a; intro a hl
          first | refine wl (wl_val hl rfl trivial (r_sub hl rfl rfl (by simp only [Fits]; omega)) ?_) | refine wl (wl_val hl rfl trivial (r_subW hl rfl rfl) ?_)
          clear hl a; intro a hl
          refine wl (wl_val hl rfl trivial (r_assign hl rfl) ?_)
          clear hl a; intro a hl
          refine w_nil ?_
          have hl2 := hl.add (t := 0) (hl.add (t := 3) (hl.add (t := 4) (hl.add (t := 5) (hl.add (t := 6) (hl.add (t := 7) (hl.add (t := 8) (hl.add (t := 9) (hl.nil) rfl) rfl) rfl) rfl) rfl) rfl) rfl) rfl; clear hl; have hl := hl2; clear hl2
          refine then_normal ?_
          refine ⟨q, (by omega), (by omega), hl.addE (t := 9) (hl.addE (t := 7) (hl.addE (t := 8) (hl.addE (t := 0) (hl.addE (t := 3) (hl.addE (t := 4) (hl.addE (t := 5) (hl.addE (t := 6) (hl.nil) rfl (by first | rfl | (exact congrArg (Value.int .i64) (cnt_1 (by omega) (by assumption)).symm) | (exact congrArg (Value.int .i64) (cnt_1 (by omega) (run_1 (by assumption) (by assumption))).symm) | (exact congrArg (fun z : Nat => Value.int .i64 (z : Int)) (cnt_0 (by omega) (by assumption)).symm) | (exact congrArg (fun z : Nat => Value.int .i64 (z : Int)) (cnt_0 (by omega) (run_0 (.inl (by assumption)))).symm) | (exact congrArg (fun z : Nat => Value.int .i64 (z : Int)) (cnt_0 (by omega) (run_0 (.inr (by assumption)))).symm))) rfl (by first | rfl | (exact congrArg (Value.int .i64) (cnt_1 (by omega) (by assumption)).symm) | (exact congrArg (Value.int .i64) (cnt_1 (by omega) (run_1 (by assumption) (by assumption))).symm) | (exact congrArg (fun z : Nat => Value.int .i64 (z : Int)) (cnt_0 (by omega) (by assumption)).symm) | (exact congrArg (fun z : Nat => Value.int .i64 (z : Int)) (cnt_0 (by omega) (run_0 (.inl (by assumption)))).symm) | (exact congrArg (fun z : Nat => Value.int .i64 (z : Int)) (cnt_0 (by omega) (run_0 (.inr (by assumption)))).symm))) rfl (by first | rfl | (exact congrArg (Value.int .i64) (cnt_1 (by omega) (by assumption)).symm) | (exact congrArg (Value.int .i64) (cnt_1 (by omega) (run_1 (by assumption) (by assumption))).symm) | (exact congrArg (fun z : Nat => Value.int .i64 (z : Int)) (cnt_0 (by omega) (by assumption)).symm) | (exact congrArg (fun z : Nat => Value.int .i64 (z : Int)) (cnt_0 (by omega) (run_0 (.inl (by assumption)))).symm) | (exact congrArg (fun z : Nat => Value.int .i64 (z : Int)) (cnt_0 (by omega) (run_0 (.inr (by assumption)))).symm))) rfl (by first | rfl | (exact congrArg (Value.int .i64) (cnt_1 (by omega) (by assumption)).symm) | (exact congrArg (Value.int .i64) (cnt_1 (by omega) (run_1 (by assumption) (by assumption))).symm) | (exact congrArg (fun z : Nat => Value.int .i64 (z : Int)) (cnt_0 (by omega) (by assumption)).symm) | (exact congrArg (fun z : Nat => Value.int .i64 (z : Int)) (cnt_0 (by omega) (run_0 (.inl (by assumption)))).symm) | (exact congrArg (fun z : Nat => Value.int .i64 (z : Int)) (cnt_0 (by omega) (run_0 (.inr (by assumption)))).symm))) rfl (by first | rfl | (exact congrArg (Value.int .i64) (cnt_1 (by omega) (by assumption)).symm) | (exact congrArg (Value.int .i64) (cnt_1 (by omega) (run_1 (by assumption) (by assumption))).symm) | (exact congrArg (fun z : Nat => Value.int .i64 (z : Int)) (cnt_0 (by omega) (by assumption)).symm) | (exact congrArg (fun z : Nat => Value.int .i64 (z : Int)) (cnt_0 (by omega) (run_0 (.inl (by assumption)))).symm) | (exact congrArg (fun z : Nat => Value.int .i64 (z : Int)) (cnt_0 (by omega) (run_0 (.inr (by assumption)))).symm))) rfl (by first | rfl | (exact congrArg (Value.int .i64) (cnt_1 (by omega) (by assumption)).symm) | (exact congrArg (Value.int .i64) (cnt_1 (by omega) (run_1 (by assumption) (by assumption))).symm) | (exact congrArg (fun z : Nat => Value.int .i64 (z : Int)) (cnt_0 (by omega) (by assumption)).symm) | (exact congrArg (fun z : Nat => Value.int .i64 (z : Int)) (cnt_0 (by omega) (run_0 (.inl (by assumption)))).symm) | (exact congrArg (fun z : Nat => Value.int .i64 (z : Int)) (cnt_0 (by omega) (run_0 (.inr (by assumption)))).symm))) rfl (by first | rfl | (exact congrArg (Value.int .i64) (cnt_1 (by omega) (by assumption)).symm) | (exact congrArg (Value.int .i64) (cnt_1 (by omega) (run_1 (by assumption) (by assumption))).symm) | (exact congrArg (fun z : Nat => Value.int .i64 (z : Int)) (cnt_0 (by omega) (by assumption)).symm) | (exact congrArg (fun z : Nat => Value.int .i64 (z : Int)) (cnt_0 (by omega) (run_0 (.inl (by assumption)))).symm) | (exact congrArg (fun z : Nat => Value.int .i64 (z : Int)) (cnt_0 (by omega) (run_0 (.inr (by assumption)))).symm))) rfl (by first | rfl | (exact congrArg (Value.int .i64) (cnt_1 (by omega) (by assumption)).symm) | (exact congrArg (Value.int .i64) (cnt_1 (by omega) (run_1 (by assumption) (by assumption))).symm) | (exact congrArg (fun z : Nat => Value.int .i64 (z : Int)) (cnt_0 (by omega) (by assumption)).symm) | (exact congrArg (fun z : Nat => Value.int .i64 (z : Int)) (cnt_0 (by omega) (run_0 (.inl (by assumption)))).symm) | (exact congrArg (fun z : Nat => Value.int .i64 (z : Int)) (cnt_0 (by omega) (run_0 (.inr (by assumption)))).symm)), hh.keep (by repeat (first | exact keeps_nil | apply keeps_cons (by repeat (first | exact find_head | apply find_tail)) (by first  | rfl) | exact keeps_self | apply keeps_mv))⟩
      · intro hc1
        try simp only [decide_eq_true_eq, decide_eq_false_iff_not, Bool.not_eq_true', Bool.not_eq_false', Bool.not_eq_true, Bool.not_eq_false, Bool.and_eq_true, Bool.or_eq_true, Bool.and_eq_false_iff, Bool.or_eq_false_iff, Bool.not_not, ne_eq, Int.not_lt, Int.not_le, Decidable.not_not, beq_iff_eq, bne_iff_ne] at hc1
        refine c_draw [(k5, C [.int .i64 s.una, .slice (some ⟨k23, 0, none⟩) f f] 79), (mp, C (encM (s) st sk bp) 69)] [22, 23] mixed hh ?_
        clear hh w; intro w hh
        have hM : Mem [(k5, C [.int .i64 s.una, .slice (some ⟨k23, 0, none⟩) f f] 79), (mp, C (encM (s) st sk bp) 69)] w := (by (repeat (first | exact Mem.nil | refine Mem.consR hh (by assumption) (by simp) ?_ | refine Mem.cons hh.mem (by (repeat (first | exact find_head | apply find_tail)); done) ?_ | fail)); done)
        refine d_take (i := 0) hl rfl (by kernel_rfl) (by kernel_rfl) (by kernel_rfl) (by kernel_rfl) (by kernel_rfl) rfl trivial (fun _ _ _ h => h) hM (fun w hC => r_field hl rfl fld79_1) rfl ?_
        clear hl a; intro a hl
        refine d_take (i := 1) hl rfl (by kernel_rfl) (by kernel_rfl) (by kernel_rfl) (by kernel_rfl) (by kernel_rfl) rfl trivial (fun _ _ _ h => h) hM (fun w hC => r_loadC hl rfl one77 hC (by repeat (first | exact find_head | apply find_tail)) (by first | rfl)) rfl ?_
        clear hl a; intro a hl
        refine d_take (i := 2) hl rfl (by kernel_rfl) (by kernel_rfl) (by kernel_rfl) (by kernel_rfl) (by kernel_rfl) rfl trivial (fun _ _ _ h => h) hM (fun w hC => r_move hl rfl) rfl ?_
        clear hl a; intro a hl
        refine d_take (i := 3) hl rfl (by kernel_rfl) (by kernel_rfl) (by kernel_rfl) (by kernel_rfl) (by kernel_rfl) rfl trivial (fun _ _ _ h => h) hM (fun w hC => r_move hl rfl) rfl ?_
        clear hl a; intro a hl
        refine d_take (i := 4) hl rfl (by kernel_rfl) (by kernel_rfl) (by kernel_rfl) (by kernel_rfl) (by kernel_rfl) rfl trivial (fun _ _ _ h => h) hM (fun w hC => r_nilCheck hl rfl) rfl ?_
        clear hl a; intro a hl
        refine d_take (i := 5) hl rfl (by kernel_rfl) (by kernel_rfl) (by kernel_rfl) (by kernel_rfl) (by kernel_rfl) rfl trivial (fun _ _ _ h => h) hM (fun w hC => r_field hl rfl fld69_8) rfl ?_
        clear hl a; intro a hl
        refine d_take (i := 6) hl rfl (by kernel_rfl) (by kernel_rfl) (by kernel_rfl) (by kernel_rfl) (by kernel_rfl) rfl trivial (fun _ _ _ h => h) hM (fun w hC => r_loadC hl rfl one2 hC (by repeat (first | exact find_head | apply find_tail)) (by first | rfl)) rfl ?_
        clear hl a; intro a hl
        first | refine d_take (i := 7) hl rfl (by kernel_rfl) (by kernel_rfl) (by kernel_rfl) (by kernel_rfl) (by kernel_rfl) rfl trivial (fun _ _ _ h => h) hM (fun w hC => r_sub hl rfl rfl (by simp only [Fits]; omega)) rfl ?_ | refine d_take (i := 7) hl rfl (by kernel_rfl) (by kernel_rfl) (by kernel_rfl) (by kernel_rfl) (by kernel_rfl) rfl trivial (fun _ _ _ h => h) hM (fun w hC => r_subW hl rfl rfl) rfl ?_
        clear hl a; intro a hl
        rw [show s.una + (q : Int) - s.una = (q : Int) by omega] at hl
        refine d_take (i := 8) hl rfl (by kernel_rfl) (by kernel_rfl) (by kernel_rfl) (by kernel_rfl) (by kernel_rfl) rfl trivial (fun _ _ _ h => h) hM (fun w hC => r_move hl rfl) rfl ?_
        clear hl a; intro a hl
        refine d_take (i := 9) hl rfl (by kernel_rfl) (by kernel_rfl) (by kernel_rfl) (by kernel_rfl) (by kernel_rfl) rfl trivial (fun _ _ _ h => h) hM (fun w hC => r_move hl rfl) rfl ?_
        clear hl a; intro a hl
        refine d_take (i := 10) hl rfl (by kernel_rfl) (by kernel_rfl) (by kernel_rfl) (by kernel_rfl) (by kernel_rfl) rfl trivial (fun _ _ _ h => h) hM (fun w hC => r_geq hl rfl rfl) rfl ?_
        clear hl a; intro a hl
        refine d_take (i := 11) hl rfl (by kernel_rfl) (by kernel_rfl) (by kernel_rfl) (by kernel_rfl) (by kernel_rfl) rfl trivial (fun _ _ _ h => h) hM (fun w hC => r_move hl rfl) rfl ?_
        clear hl a; intro a hl
        refine sl_split (t := 75) hl rfl ?_ ?_
        · intro hg2; clear hl; intro hl
          try simp only [decide_eq_true_eq, decide_eq_false_iff_not, Bool.not_eq_true', Bool.not_eq_false', Bool.not_eq_true, Bool.not_eq_false, Bool.and_eq_true, Bool.or_eq_true, Bool.and_eq_false_iff, Bool.or_eq_false_iff, Bool.not_not, ne_eq, Int.not_lt, Int.not_le, Decidable.not_not, beq_iff_eq, bne_iff_ne] at hg2
          refine d_skip (i := 12) hl rfl (by kernel_rfl) (by kernel_rfl) (by kernel_rfl) (by kernel_rfl) (by kernel_rfl) rfl ⟨_, _, rfl, rfl, rfl⟩ (fun _ _ _ h => h) hM ?_
          clear hl a; intro a hl
          refine d_skip (i := 13) hl rfl (by kernel_rfl) (by kernel_rfl) (by kernel_rfl) (by kernel_rfl) (by kernel_rfl) rfl ⟨_, _, rfl, rfl, rfl⟩ (fun _ _ _ h => h) hM ?_
          clear hl a; intro a hl
          refine d_skip (i := 14) hl rfl (by kernel_rfl) (by kernel_rfl) (by kernel_rfl) (by kernel_rfl) (by kernel_rfl) rfl ⟨_, _, rfl, rfl, rfl⟩ (fun _ _ _ h => h) hM ?_
          clear hl a; intro a hl
          refine d_skip (i := 15) hl rfl (by kernel_rfl) (by kernel_rfl) (by kernel_rfl) (by kernel_rfl) (by kernel_rfl) rfl ⟨_, _, rfl, rfl, rfl⟩ (fun _ _ _ h => h) hM ?_
          clear hl a; intro a hl
          refine d_skip (i := 16) hl rfl (by kernel_rfl) (by kernel_rfl) (by kernel_rfl) (by kernel_rfl) (by kernel_rfl) rfl ⟨_, _, rfl, rfl, rfl⟩ (fun _ _ _ h => h) hM ?_
          clear hl a; intro a hl
          refine d_skip (i := 17) hl rfl (by kernel_rfl) (by kernel_rfl) (by kernel_rfl) (by kernel_rfl) (by kernel_rfl) rfl ⟨_, _, rfl, rfl, rfl⟩ (fun _ _ _ h => h) hM ?_
          clear hl a; intro a hl
          refine d_skip (i := 18) hl rfl (by kernel_rfl) (by kernel_rfl) (by kernel_rfl) (by kernel_rfl) (by kernel_rfl) rfl ⟨_, _, rfl, rfl, rfl⟩ (fun _ _ _ h => h) hM ?_
          clear hl a; intro a hl
          refine d_skip (i := 19) hl rfl (by kernel_rfl) (by kernel_rfl) (by kernel_rfl) (by kernel_rfl) (by kernel_rfl) rfl ⟨_, _, rfl, rfl, rfl⟩ (fun _ _ _ h => h) hM ?_
          clear hl a; intro a hl
          refine d_skip (i := 20) hl rfl (by kernel_rfl) (by kernel_rfl) (by kernel_rfl) (by kernel_rfl) (by kernel_rfl) rfl ⟨_, _, rfl, rfl, rfl⟩ (fun _ _ _ h => h) hM ?_
          clear hl a; intro a hl
          refine d_take (i := 21) hl rfl (by kernel_rfl) (by kernel_rfl) (by kernel_rfl) (by kernel_rfl) (by kernel_rfl) rfl trivial (fun _ _ _ h => h) hM (fun w hC => r_pickT hl rfl rfl) rfl ?_
          clear hl a; intro a hl
          refine d_takeL (i := 22) hl rfl (by kernel_rfl) (by kernel_rfl) (by kernel_rfl) (by kernel_rfl) (by kernel_rfl) rfl trivial (fun _ _ _ h => h) (fun w => r_indexS hl rfl rfl slc77 (by omega) (by omega) (by first | (simp only [Int.reduceToNat]; rfl) | exact toNat_add1 _ | exact toNat_add2 _ _ | exact toNat_emod _ _ | exact Int.toNat_natCast _ | rfl)) rfl ?_
          clear hl a; intro a hl
          refine d_one (i := 23) (by kernel_rfl) rfl ?_
          try clear hM
          refine id (w_store hl hh trivial one4 rfl rfl (by repeat (first | exact find_head | apply find_tail)) (by rw [arrL_length]; omega) (by first | rfl | assumption | (apply Row.one; assumption)) (by first | exact ls_set (by omega) (lsG_2 (by assumption)) | exact ls_set (by omega) (lsG_a (by assumption) (by assumption)) | exact ls_set (by omega) (lsG_b (by assumption) (by omega))) ?_)
          clear hh w; intro w hh
          refine d_step (fun h => absurd h (by decide)) ?_
          refine d_done (by kernel_rfl) ?_
          try clear hM
          have hl2 := hl.add (t := 0) (hl.add (t := 3) (hl.add (t := 4) (hl.add (t := 5) (hl.add (t := 6) (hl.add (t := 7) (hl.add (t := 8) (hl.add (t := 9) (hl.nil) rfl) rfl) rfl) rfl) rfl) rfl) rfl) rfl; clear hl; have hl := hl2; clear hl2
          refine then_normal ?_
          refine c_seq ?_
          refine c_region ?_
          refine wl (w_loadA hl hh rfl trivial agg79 rfl (by repeat (first | exact find_head | apply find_tail)) (by first | (simp only [List.getElem?_cons_zero, List.getElem?_cons_succ, Value.cells, List.take_zero, List.take_succ_cons, List.take_nil, List.drop_zero, List.drop_succ_cons, List.drop_nil, List.length_cons, List.length_nil, List.cons_append, List.nil_append, List.append_nil, Nat.zero_add, Nat.add_zero, Nat.reduceAdd, Nat.reduceBEq, Nat.reduceEqDiff, Nat.ble, BEq.rfl, Bool.and_true, Bool.and_self, cond_true, beq_self_eq_true]; rfl)) (by first | rfl | (simp; done)) ?_)
          clear hl a; intro a hl
          refine wl (wl_val hl rfl trivial (r_move hl rfl) ?_)
          clear hl a; intro a hl
          refine wl (w_call hl hh rfl trivial rfl cal47 rfl (at_m s.una f fb g _ (by omega) (by omega) (by omega)) (by repeat (first | exact keeps_nil | apply keeps_cons (by repeat (first | exact find_head | apply find_tail)) (by first  | rfl) | exact keeps_self | apply keeps_mv)) (heap_keep hh hpf) ?_)
          clear hl hh a w; intro vc Fc a w hR hl hh
          obtain ⟨rfl, rfl⟩ := hR
          try simp only [List.cons_append, List.nil_append] at hh
          rw [at_q (by omega)] at hl
          refine w_nil ?_
          have hl2 := hl.add (t := 0) (hl.add (t := 3) (hl.add (t := 4) (hl.add (t := 5) (hl.add (t := 6) (hl.add (t := 7) (hl.add (t := 8) (hl.add (t := 9) (hl.add (t := 89) (hl.nil) rfl) rfl) rfl) rfl) rfl) rfl) rfl) rfl) rfl; clear hl; have hl := hl2; clear hl2
          refine then_normal ?_
          refine c_cond hl rfl ?_ ?_
          · intro hc2
            try simp only [decide_eq_true_eq, decide_eq_false_iff_not, Bool.not_eq_true', Bool.not_eq_false', Bool.not_eq_true, Bool.not_eq_false, Bool.and_eq_true, Bool.or_eq_true, Bool.and_eq_false_iff, Bool.or_eq_false_iff, Bool.not_not, ne_eq, Int.not_lt, Int.not_le, Decidable.not_not, beq_iff_eq, bne_iff_ne] at hc2
            refine c_seq ?_
            refine c_region ?_
            refine wl (wl_val hl rfl trivial (r_move hl rfl) ?_)
            clear hl a; intro a hl
            first | refine wl (wl_val hl rfl trivial (r_add hl rfl rfl (by simp only [Fits]; omega)) ?_) | refine wl (wl_val hl rfl trivial (r_addW hl rfl rfl) ?_)
            clear hl a; intro a hl
            refine wl (wl_val hl rfl trivial (r_assign hl rfl) ?_)
            clear hl a; intro a hl
            refine w_nil ?_
            have hl2 := hl.add (t := 0) (hl.add (t := 3) (hl.add (t := 4) (hl.add (t := 5) (hl.add (t := 6) (hl.add (t := 7) (hl.add (t := 8) (hl.add (t := 9) (hl.nil) rfl) rfl) rfl) rfl) rfl) rfl) rfl) rfl; clear hl; have hl := hl2; clear hl2
            refine then_normal ?_
            refine c_seq ?_
            refine c_region ?_
            refine wl (w_loadA hl hh rfl trivial agg79 rfl (by repeat (first | exact find_head | apply find_tail)) (by first | (simp only [List.getElem?_cons_zero, List.getElem?_cons_succ, Value.cells, List.take_zero, List.take_succ_cons, List.take_nil, List.drop_zero, List.drop_succ_cons, List.drop_nil, List.length_cons, List.length_nil, List.cons_append, List.nil_append, List.append_nil, Nat.zero_add, Nat.add_zero, Nat.reduceAdd, Nat.reduceBEq, Nat.reduceEqDiff, Nat.ble, BEq.rfl, Bool.and_true, Bool.and_self, cond_true, beq_self_eq_true]; rfl)) (by first | rfl | (simp; done)) ?_)
            clear hl a; intro a hl
            refine wl (wl_val hl rfl trivial (r_move hl rfl) ?_)
            clear hl a; intro a hl
            first | refine wl (wl_val hl rfl trivial (r_sub hl rfl rfl (by simp only [Fits]; omega)) ?_) | refine wl (wl_val hl rfl trivial (r_subW hl rfl rfl) ?_)
            clear hl a; intro a hl
            refine wl (w_call hl hh rfl trivial rfl cal47 rfl (at_m s.una f fb g _ (by omega) (by omega) (by omega)) (by repeat (first | exact keeps_nil | apply keeps_cons (by repeat (first | exact find_head | apply find_tail)) (by first  | rfl) | exact keeps_self | apply keeps_mv)) (heap_keep hh hpf) ?_)
            clear hl hh a w; intro vc Fc a w hR hl hh
            obtain ⟨rfl, rfl⟩ := hR
            try simp only [List.cons_append, List.nil_append] at hh
            rw [at_p (by omega)] at hl
            refine wl (wl_val hl rfl trivial (r_not hl rfl) ?_)
            clear hl a; intro a hl
            refine w_nil ?_
            have hl2 := hl.add (t := 0) (hl.add (t := 3) (hl.add (t := 4) (hl.add (t := 5) (hl.add (t := 6) (hl.add (t := 7) (hl.add (t := 8) (hl.add (t := 9) (hl.add (t := 96) (hl.nil) rfl) rfl) rfl) rfl) rfl) rfl) rfl) rfl) rfl; clear hl; have hl := hl2; clear hl2
            refine then_normal ?_
            refine c_cond hl rfl ?_ ?_
            · intro hc3
              try simp only [decide_eq_true_eq, decide_eq_false_iff_not, Bool.not_eq_true', Bool.not_eq_false', Bool.not_eq_true, Bool.not_eq_false, Bool.and_eq_true, Bool.or_eq_true, Bool.and_eq_false_iff, Bool.or_eq_false_iff, Bool.not_not, ne_eq, Int.not_lt, Int.not_le, Decidable.not_not, beq_iff_eq, bne_iff_ne] at hc3
              refine c_region ?_
              refine wl (wl_val hl rfl trivial (r_move hl rfl) ?_)
              clear hl a; intro a hl
              first | refine wl (wl_val hl rfl trivial (r_add hl rfl rfl (by simp only [Fits]; omega)) ?_) | refine wl (wl_val hl rfl trivial (r_addW hl rfl rfl) ?_)
              clear hl a; intro a hl
              refine wl (wl_val hl rfl trivial (r_assign hl rfl) ?_)
              clear hl a; intro a hl
              refine w_nil ?_
              have hl2 := hl.add (t := 0) (hl.add (t := 3) (hl.add (t := 4) (hl.add (t := 5) (hl.add (t := 6) (hl.add (t := 7) (hl.add (t := 8) (hl.add (t := 9) (hl.nil) rfl) rfl) rfl) rfl) rfl) rfl) rfl) rfl; clear hl; have hl := hl2; clear hl2
              refine blk_normal ?_
              refine then_normal ?_
              refine c_region ?_
              refine wl (wl_val hl rfl trivial (r_move hl rfl) ?_)
              clear hl a; intro a hl
              first | refine wl (wl_val hl rfl trivial (r_sub hl rfl rfl (by simp only [Fits]; omega)) ?_) | refine wl (wl_val hl rfl trivial (r_subW hl rfl rfl) ?_)
              clear hl a; intro a hl
              refine wl (wl_val hl rfl trivial (r_assign hl rfl) ?_)
              clear hl a; intro a hl
              refine w_nil ?_
              have hl2 := hl.add (t := 0) (hl.add (t := 3) (hl.add (t := 4) (hl.add (t := 5) (hl.add (t := 6) (hl.add (t := 7) (hl.add (t := 8) (hl.add (t := 9) (hl.nil) rfl) rfl) rfl) rfl) rfl) rfl) rfl) rfl; clear hl; have hl := hl2; clear hl2
              refine then_normal ?_
              refine ⟨q, (by omega), (by omega), hl.addE (t := 9) (hl.addE (t := 7) (hl.addE (t := 8) (hl.addE (t := 0) (hl.addE (t := 3) (hl.addE (t := 4) (hl.addE (t := 5) (hl.addE (t := 6) (hl.nil) rfl (by first | rfl | (exact congrArg (Value.int .i64) (cnt_1 (by omega) (by assumption)).symm) | (exact congrArg (Value.int .i64) (cnt_1 (by omega) (run_1 (by assumption) (by assumption))).symm) | (exact congrArg (fun z : Nat => Value.int .i64 (z : Int)) (cnt_0 (by omega) (by assumption)).symm) | (exact congrArg (fun z : Nat => Value.int .i64 (z : Int)) (cnt_0 (by omega) (run_0 (.inl (by assumption)))).symm) | (exact congrArg (fun z : Nat => Value.int .i64 (z : Int)) (cnt_0 (by omega) (run_0 (.inr (by assumption)))).symm))) rfl (by first | rfl | (exact congrArg (Value.int .i64) (cnt_1 (by omega) (by assumption)).symm) | (exact congrArg (Value.int .i64) (cnt_1 (by omega) (run_1 (by assumption) (by assumption))).symm) | (exact congrArg (fun z : Nat => Value.int .i64 (z : Int)) (cnt_0 (by omega) (by assumption)).symm) | (exact congrArg (fun z : Nat => Value.int .i64 (z : Int)) (cnt_0 (by omega) (run_0 (.inl (by assumption)))).symm) | (exact congrArg (fun z : Nat => Value.int .i64 (z : Int)) (cnt_0 (by omega) (run_0 (.inr (by assumption)))).symm))) rfl (by first | rfl | (exact congrArg (Value.int .i64) (cnt_1 (by omega) (by assumption)).symm) | (exact congrArg (Value.int .i64) (cnt_1 (by omega) (run_1 (by assumption) (by assumption))).symm) | (exact congrArg (fun z : Nat => Value.int .i64 (z : Int)) (cnt_0 (by omega) (by assumption)).symm) | (exact congrArg (fun z : Nat => Value.int .i64 (z : Int)) (cnt_0 (by omega) (run_0 (.inl (by assumption)))).symm) | (exact congrArg (fun z : Nat => Value.int .i64 (z : Int)) (cnt_0 (by omega) (run_0 (.inr (by assumption)))).symm))) rfl (by first | rfl | (exact congrArg (Value.int .i64) (cnt_1 (by omega) (by assumption)).symm) | (exact congrArg (Value.int .i64) (cnt_1 (by omega) (run_1 (by assumption) (by assumption))).symm) | (exact congrArg (fun z : Nat => Value.int .i64 (z : Int)) (cnt_0 (by omega) (by assumption)).symm) | (exact congrArg (fun z : Nat => Value.int .i64 (z : Int)) (cnt_0 (by omega) (run_0 (.inl (by assumption)))).symm) | (exact congrArg (fun z : Nat => Value.int .i64 (z : Int)) (cnt_0 (by omega) (run_0 (.inr (by assumption)))).symm))) rfl (by first | rfl | (exact congrArg (Value.int .i64) (cnt_1 (by omega) (by assumption)).symm) | (exact congrArg (Value.int .i64) (cnt_1 (by omega) (run_1 (by assumption) (by assumption))).symm) | (exact congrArg (fun z : Nat => Value.int .i64 (z : Int)) (cnt_0 (by omega) (by assumption)).symm) | (exact congrArg (fun z : Nat => Value.int .i64 (z : Int)) (cnt_0 (by omega) (run_0 (.inl (by assumption)))).symm) | (exact congrArg (fun z : Nat => Value.int .i64 (z : Int)) (cnt_0 (by omega) (run_0 (.inr (by assumption)))).symm))) rfl (by first | rfl | (exact congrArg (Value.int .i64) (cnt_1 (by omega) (by assumption)).symm) | (exact congrArg (Value.int .i64) (cnt_1 (by omega) (run_1 (by assumption) (by assumption))).symm) | (exact congrArg (fun z : Nat => Value.int .i64 (z : Int)) (cnt_0 (by omega) (by assumption)).symm) | (exact congrArg (fun z : Nat => Value.int .i64 (z : Int)) (cnt_0 (by omega) (run_0 (.inl (by assumption)))).symm) | (exact congrArg (fun z : Nat => Value.int .i64 (z : Int)) (cnt_0 (by omega) (run_0 (.inr (by assumption)))).symm))) rfl (by first | rfl | (exact congrArg (Value.int .i64) (cnt_1 (by omega) (by assumption)).symm) | (exact congrArg (Value.int .i64) (cnt_1 (by omega) (run_1 (by assumption) (by assumption))).symm) | (exact congrArg (fun z : Nat => Value.int .i64 (z : Int)) (cnt_0 (by omega) (by assumption)).symm) | (exact congrArg (fun z : Nat => Value.int .i64 (z : Int)) (cnt_0 (by omega) (run_0 (.inl (by assumption)))).symm) | (exact congrArg (fun z : Nat => Value.int .i64 (z : Int)) (cnt_0 (by omega) (run_0 (.inr (by assumption)))).symm))) rfl (by first | rfl | (exact congrArg (Value.int .i64) (cnt_1 (by omega) (by assumption)).symm) | (exact congrArg (Value.int .i64) (cnt_1 (by omega) (run_1 (by assumption) (by assumption))).symm) | (exact congrArg (fun z : Nat => Value.int .i64 (z : Int)) (cnt_0 (by omega) (by assumption)).symm) | (exact congrArg (fun z : Nat => Value.int .i64 (z : Int)) (cnt_0 (by omega) (run_0 (.inl (by assumption)))).symm) | (exact congrArg (fun z : Nat => Value.int .i64 (z : Int)) (cnt_0 (by omega) (run_0 (.inr (by assumption)))).symm)), hh.keep (by repeat (first | exact keeps_nil | apply keeps_cons (by repeat (first | exact find_head | apply find_tail)) (by first  | rfl) | exact keeps_self | apply keeps_mv))⟩
            · intro hc3
              try simp only [decide_eq_true_eq, decide_eq_false_iff_not, Bool.not_eq_true', Bool.not_eq_false', Bool.not_eq_true, Bool.not_eq_false, Bool.and_eq_true, Bool.or_eq_true, Bool.and_eq_false_iff, Bool.or_eq_false_iff, Bool.not_not, ne_eq, Int.not_lt, Int.not_le, Decidable.not_not, beq_iff_eq, bne_iff_ne] at hc3
              refine wp_skip ?_
              refine blk_normal ?_
              refine then_normal ?_
              refine c_region ?_
              refine wl (wl_val hl rfl trivial (r_move hl rfl) ?_)
              clear hl a; intro a hl
              first | refine wl (wl_val hl rfl trivial (r_sub hl rfl rfl (by simp only [Fits]; omega)) ?_) | refine wl (wl_val hl rfl trivial (r_subW hl rfl rfl) ?_)
              clear hl a; intro a hl
              refine wl (wl_val hl rfl trivial (r_assign hl rfl) ?_)
              clear hl a; intro a hl
              refine w_nil ?_
              have hl2 := hl.add (t := 0) (hl.add (t := 3) (hl.add (t := 4) (hl.add (t := 5) (hl.add (t := 6) (hl.add (t := 7) (hl.add (t := 8) (hl.add (t := 9) (hl.nil) rfl) rfl) rfl) rfl) rfl) rfl) rfl) rfl; clear hl; have hl := hl2; clear hl2
              refine then_normal ?_
              refine ⟨q, (by omega), (by omega), hl.addE (t := 9) (hl.addE (t := 7) (hl.addE (t := 8) (hl.addE (t := 0) (hl.addE (t := 3) (hl.addE (t := 4) (hl.addE (t := 5) (hl.addE (t := 6) (hl.nil) rfl (by first | rfl | (exact congrArg (Value.int .i64) (cnt_1 (by omega) (by assumption)).symm) | (exact congrArg (Value.int .i64) (cnt_1 (by omega) (run_1 (by assumption) (by assumption))).symm) | (exact congrArg (fun z : Nat => Value.int .i64 (z : Int)) (cnt_0 (by omega) (by assumption)).symm) | (exact congrArg (fun z : Nat => Value.int .i64 (z : Int)) (cnt_0 (by omega) (run_0 (.inl (by assumption)))).symm) | (exact congrArg (fun z : Nat => Value.int .i64 (z : Int)) (cnt_0 (by omega) (run_0 (.inr (by assumption)))).symm))) rfl (by first | rfl | (exact congrArg (Value.int .i64) (cnt_1 (by omega) (by assumption)).symm) | (exact congrArg (Value.int .i64) (cnt_1 (by omega) (run_1 (by assumption) (by assumption))).symm) | (exact congrArg (fun z : Nat => Value.int .i64 (z : Int)) (cnt_0 (by omega) (by assumption)).symm) | (exact congrArg (fun z : Nat => Value.int .i64 (z : Int)) (cnt_0 (by omega) (run_0 (.inl (by assumption)))).symm) | (exact congrArg (fun z : Nat => Value.int .i64 (z : Int)) (cnt_0 (by omega) (run_0 (.inr (by assumption)))).symm))) rfl (by first | rfl | (exact congrArg (Value.int .i64) (cnt_1 (by omega) (by assumption)).symm) | (exact congrArg (Value.int .i64) (cnt_1 (by omega) (run_1 (by assumption) (by assumption))).symm) | (exact congrArg (fun z : Nat => Value.int .i64 (z : Int)) (cnt_0 (by omega) (by assumption)).symm) | (exact congrArg (fun z : Nat => Value.int .i64 (z : Int)) (cnt_0 (by omega) (run_0 (.inl (by assumption)))).symm) | (exact congrArg (fun z : Nat => Value.int .i64 (z : Int)) (cnt_0 (by omega) (run_0 (.inr (by assumption)))).symm))) rfl (by first | rfl | (exact congrArg (Value.int .i64) (cnt_1 (by omega) (by assumption)).symm) | (exact congrArg (Value.int .i64) (cnt_1 (by omega) (run_1 (by assumption) (by assumption))).symm) | (exact congrArg (fun z : Nat => Value.int .i64 (z : Int)) (cnt_0 (by omega) (by assumption)).symm) | (exact congrArg (fun z : Nat => Value.int .i64 (z : Int)) (cnt_0 (by omega) (run_0 (.inl (by assumption)))).symm) | (exact congrArg (fun z : Nat => Value.int .i64 (z : Int)) (cnt_0 (by omega) (run_0 (.inr (by assumption)))).symm))) rfl (by first | rfl | (exact congrArg (Value.int .i64) (cnt_1 (by omega) (by assumption)).symm) | (exact congrArg (Value.int .i64) (cnt_1 (by omega) (run_1 (by assumption) (by assumption))).symm) | (exact congrArg (fun z : Nat => Value.int .i64 (z : Int)) (cnt_0 (by omega) (by assumption)).symm) | (exact congrArg (fun z : Nat => Value.int .i64 (z : Int)) (cnt_0 (by omega) (run_0 (.inl (by assumption)))).symm) | (exact congrArg (fun z : Nat => Value.int .i64 (z : Int)) (cnt_0 (by omega) (run_0 (.inr (by assumption)))).symm))) rfl (by first | rfl | (exact congrArg (Value.int .i64) (cnt_1 (by omega) (by assumption)).symm) | (exact congrArg (Value.int .i64) (cnt_1 (by omega) (run_1 (by assumption) (by assumption))).symm) | (exact congrArg (fun z : Nat => Value.int .i64 (z : Int)) (cnt_0 (by omega) (by assumption)).symm) | (exact congrArg (fun z : Nat => Value.int .i64 (z : Int)) (cnt_0 (by omega) (run_0 (.inl (by assumption)))).symm) | (exact congrArg (fun z : Nat => Value.int .i64 (z : Int)) (cnt_0 (by omega) (run_0 (.inr (by assumption)))).symm))) rfl (by first | rfl | (exact congrArg (Value.int .i64) (cnt_1 (by omega) (by assumption)).symm) | (exact congrArg (Value.int .i64) (cnt_1 (by omega) (run_1 (by assumption) (by assumption))).symm) | (exact congrArg (fun z : Nat => Value.int .i64 (z : Int)) (cnt_0 (by omega) (by assumption)).symm) | (exact congrArg (fun z : Nat => Value.int .i64 (z : Int)) (cnt_0 (by omega) (run_0 (.inl (by assumption)))).symm) | (exact congrArg (fun z : Nat => Value.int .i64 (z : Int)) (cnt_0 (by omega) (run_0 (.inr (by assumption)))).symm))) rfl (by first | rfl | (exact congrArg (Value.int .i64) (cnt_1 (by omega) (by assumption)).symm) | (exact congrArg (Value.int .i64) (cnt_1 (by omega) (run_1 (by assumption) (by assumption))).symm) | (exact congrArg (fun z : Nat => Value.int .i64 (z : Int)) (cnt_0 (by omega) (by assumption)).symm) | (exact congrArg (fun z : Nat => Value.int .i64 (z : Int)) (cnt_0 (by omega) (run_0 (.inl (by assumption)))).symm) | (exact congrArg (fun z : Nat => Value.int .i64 (z : Int)) (cnt_0 (by omega) (run_0 (.inr (by assumption)))).symm)), hh.keep (by repeat (first | exact keeps_nil | apply keeps_cons (by repeat (first | exact find_head | apply find_tail)) (by first  | rfl) | exact keeps_self | apply keeps_mv))⟩
          · intro hc2
            try simp only [decide_eq_true_eq, decide_eq_false_iff_not, Bool.not_eq_true', Bool.not_eq_false', Bool.not_eq_true, Bool.not_eq_false, Bool.and_eq_true, Bool.or_eq_true, Bool.and_eq_false_iff, Bool.or_eq_false_iff, Bool.not_not, ne_eq, Int.not_lt, Int.not_le, Decidable.not_not, beq_iff_eq, bne_iff_ne] at hc2
            refine wp_skip ?_
            refine blk_normal ?_
            refine then_normal ?_
            refine c_region ?_
            refine wl (wl_val hl rfl trivial (r_move hl rfl) ?_)
            clear hl a; intro a hl
            first | refine wl (wl_val hl rfl trivial (r_sub hl rfl rfl (by simp only [Fits]; omega)) ?_) | refine wl (wl_val hl rfl trivial (r_subW hl rfl rfl) ?_)
            clear hl a; intro a hl
            refine wl (wl_val hl rfl trivial (r_assign hl rfl) ?_)
            clear hl a; intro a hl
            refine w_nil ?_
            have hl2 := hl.add (t := 0) (hl.add (t := 3) (hl.add (t := 4) (hl.add (t := 5) (hl.add (t := 6) (hl.add (t := 7) (hl.add (t := 8) (hl.add (t := 9) (hl.nil) rfl) rfl) rfl) rfl) rfl) rfl) rfl) rfl; clear hl; have hl := hl2; clear hl2
            refine then_normal ?_
            refine ⟨q, (by omega), (by omega), hl.addE (t := 9) (hl.addE (t := 7) (hl.addE (t := 8) (hl.addE (t := 0) (hl.addE (t := 3) (hl.addE (t := 4) (hl.addE (t := 5) (hl.addE (t := 6) (hl.nil) rfl (by first | rfl | (exact congrArg (Value.int .i64) (cnt_1 (by omega) (by assumption)).symm) | (exact congrArg (Value.int .i64) (cnt_1 (by omega) (run_1 (by assumption) (by assumption))).symm) | (exact congrArg (fun z : Nat => Value.int .i64 (z : Int)) (cnt_0 (by omega) (by assumption)).symm) | (exact congrArg (fun z : Nat => Value.int .i64 (z : Int)) (cnt_0 (by omega) (run_0 (.inl (by assumption)))).symm) | (exact congrArg (fun z : Nat => Value.int .i64 (z : Int)) (cnt_0 (by omega) (run_0 (.inr (by assumption)))).symm))) rfl (by first | rfl | (exact congrArg (Value.int .i64) (cnt_1 (by omega) (by assumption)).symm) | (exact congrArg (Value.int .i64) (cnt_1 (by omega) (run_1 (by assumption) (by assumption))).symm) | (exact congrArg (fun z : Nat => Value.int .i64 (z : Int)) (cnt_0 (by omega) (by assumption)).symm) | (exact congrArg (fun z : Nat => Value.int .i64 (z : Int)) (cnt_0 (by omega) (run_0 (.inl (by assumption)))).symm) | (exact congrArg (fun z : Nat => Value.int .i64 (z : Int)) (cnt_0 (by omega) (run_0 (.inr (by assumption)))).symm))) rfl (by first | rfl | (exact congrArg (Value.int .i64) (cnt_1 (by omega) (by assumption)).symm) | (exact congrArg (Value.int .i64) (cnt_1 (by omega) (run_1 (by assumption) (by assumption))).symm) | (exact congrArg (fun z : Nat => Value.int .i64 (z : Int)) (cnt_0 (by omega) (by assumption)).symm) | (exact congrArg (fun z : Nat => Value.int .i64 (z : Int)) (cnt_0 (by omega) (run_0 (.inl (by assumption)))).symm) | (exact congrArg (fun z : Nat => Value.int .i64 (z : Int)) (cnt_0 (by omega) (run_0 (.inr (by assumption)))).symm))) rfl (by first | rfl | (exact congrArg (Value.int .i64) (cnt_1 (by omega) (by assumption)).symm) | (exact congrArg (Value.int .i64) (cnt_1 (by omega) (run_1 (by assumption) (by assumption))).symm) | (exact congrArg (fun z : Nat => Value.int .i64 (z : Int)) (cnt_0 (by omega) (by assumption)).symm) | (exact congrArg (fun z : Nat => Value.int .i64 (z : Int)) (cnt_0 (by omega) (run_0 (.inl (by assumption)))).symm) | (exact congrArg (fun z : Nat => Value.int .i64 (z : Int)) (cnt_0 (by omega) (run_0 (.inr (by assumption)))).symm))) rfl (by first | rfl | (exact congrArg (Value.int .i64) (cnt_1 (by omega) (by assumption)).symm) | (exact congrArg (Value.int .i64) (cnt_1 (by omega) (run_1 (by assumption) (by assumption))).symm) | (exact congrArg (fun z : Nat => Value.int .i64 (z : Int)) (cnt_0 (by omega) (by assumption)).symm) | (exact congrArg (fun z : Nat => Value.int .i64 (z : Int)) (cnt_0 (by omega) (run_0 (.inl (by assumption)))).symm) | (exact congrArg (fun z : Nat => Value.int .i64 (z : Int)) (cnt_0 (by omega) (run_0 (.inr (by assumption)))).symm))) rfl (by first | rfl | (exact congrArg (Value.int .i64) (cnt_1 (by omega) (by assumption)).symm) | (exact congrArg (Value.int .i64) (cnt_1 (by omega) (run_1 (by assumption) (by assumption))).symm) | (exact congrArg (fun z : Nat => Value.int .i64 (z : Int)) (cnt_0 (by omega) (by assumption)).symm) | (exact congrArg (fun z : Nat => Value.int .i64 (z : Int)) (cnt_0 (by omega) (run_0 (.inl (by assumption)))).symm) | (exact congrArg (fun z : Nat => Value.int .i64 (z : Int)) (cnt_0 (by omega) (run_0 (.inr (by assumption)))).symm))) rfl (by first | rfl | (exact congrArg (Value.int .i64) (cnt_1 (by omega) (by assumption)).symm) | (exact congrArg (Value.int .i64) (cnt_1 (by omega) (run_1 (by assumption) (by assumption))).symm) | (exact congrArg (fun z : Nat => Value.int .i64 (z : Int)) (cnt_0 (by omega) (by assumption)).symm) | (exact congrArg (fun z : Nat => Value.int .i64 (z : Int)) (cnt_0 (by omega) (run_0 (.inl (by assumption)))).symm) | (exact congrArg (fun z : Nat => Value.int .i64 (z : Int)) (cnt_0 (by omega) (run_0 (.inr (by assumption)))).symm))) rfl (by first | rfl | (exact congrArg (Value.int .i64) (cnt_1 (by omega) (by assumption)).symm) | (exact congrArg (Value.int .i64) (cnt_1 (by omega) (run_1 (by assumption) (by assumption))).symm) | (exact congrArg (fun z : Nat => Value.int .i64 (z : Int)) (cnt_0 (by omega) (by assumption)).symm) | (exact congrArg (fun z : Nat => Value.int .i64 (z : Int)) (cnt_0 (by omega) (run_0 (.inl (by assumption)))).symm) | (exact congrArg (fun z : Nat => Value.int .i64 (z : Int)) (cnt_0 (by omega) (run_0 (.inr (by assumption)))).symm)), hh.keep (by repeat (first | exact keeps_nil | apply keeps_cons (by repeat (first | exact find_head | apply find_tail)) (by first  | rfl) | exact keeps_self | apply keeps_mv))⟩
        · intro hg2; clear hl; intro hl
          try simp only [decide_eq_true_eq, decide_eq_false_iff_not, Bool.not_eq_true', Bool.not_eq_false', Bool.not_eq_true, Bool.not_eq_false, Bool.and_eq_true, Bool.or_eq_true, Bool.and_eq_false_iff, Bool.or_eq_false_iff, Bool.not_not, ne_eq, Int.not_lt, Int.not_le, Decidable.not_not, beq_iff_eq, bne_iff_ne] at hg2
          refine d_take (i := 12) hl rfl (by kernel_rfl) (by kernel_rfl) (by kernel_rfl) (by kernel_rfl) (by kernel_rfl) rfl ⟨_, _, rfl, rfl, rfl⟩ (fun _ _ _ h => h) hM (fun w hC => r_move hl rfl) rfl ?_
          clear hl a; intro a hl
          refine d_take (i := 13) hl rfl (by kernel_rfl) (by kernel_rfl) (by kernel_rfl) (by kernel_rfl) (by kernel_rfl) rfl ⟨_, _, rfl, rfl, rfl⟩ (fun _ _ _ h => h) hM (fun w hC => r_move hl rfl) rfl ?_
          clear hl a; intro a hl
          first | refine d_take (i := 14) hl rfl (by kernel_rfl) (by kernel_rfl) (by kernel_rfl) (by kernel_rfl) (by kernel_rfl) rfl ⟨_, _, rfl, rfl, rfl⟩ (fun _ _ _ h => h) hM (fun w hC => r_sub hl rfl rfl (by simp only [Fits]; omega)) rfl ?_ | refine d_take (i := 14) hl rfl (by kernel_rfl) (by kernel_rfl) (by kernel_rfl) (by kernel_rfl) (by kernel_rfl) rfl ⟨_, _, rfl, rfl, rfl⟩ (fun _ _ _ h => h) hM (fun w hC => r_subW hl rfl rfl) rfl ?_
          clear hl a; intro a hl
          refine d_take (i := 15) hl rfl (by kernel_rfl) (by kernel_rfl) (by kernel_rfl) (by kernel_rfl) (by kernel_rfl) rfl ⟨_, _, rfl, rfl, rfl⟩ (fun _ _ _ h => h) hM (fun w hC => r_move hl rfl) rfl ?_
          clear hl a; intro a hl
          refine d_take (i := 16) hl rfl (by kernel_rfl) (by kernel_rfl) (by kernel_rfl) (by kernel_rfl) (by kernel_rfl) rfl ⟨_, _, rfl, rfl, rfl⟩ (fun _ _ _ h => h) hM (fun w hC => r_nilCheck hl rfl) rfl ?_
          clear hl a; intro a hl
          refine d_take (i := 17) hl rfl (by kernel_rfl) (by kernel_rfl) (by kernel_rfl) (by kernel_rfl) (by kernel_rfl) rfl ⟨_, _, rfl, rfl, rfl⟩ (fun _ _ _ h => h) hM (fun w hC => r_field hl rfl fld69_1) rfl ?_
          clear hl a; intro a hl
          refine d_take (i := 18) hl rfl (by kernel_rfl) (by kernel_rfl) (by kernel_rfl) (by kernel_rfl) (by kernel_rfl) rfl ⟨_, _, rfl, rfl, rfl⟩ (fun _ _ _ h => h) hM (fun w hC => r_loadC hl rfl one2 hC (by repeat (first | exact find_head | apply find_tail)) (by first | rfl)) rfl ?_
          clear hl a; intro a hl
          first | refine d_take (i := 19) hl rfl (by kernel_rfl) (by kernel_rfl) (by kernel_rfl) (by kernel_rfl) (by kernel_rfl) rfl ⟨_, _, rfl, rfl, rfl⟩ (fun _ _ _ h => h) hM (fun w hC => r_mul hl rfl rfl (by simp only [Fits]; omega)) rfl ?_ | refine d_take (i := 19) hl rfl (by kernel_rfl) (by kernel_rfl) (by kernel_rfl) (by kernel_rfl) (by kernel_rfl) rfl ⟨_, _, rfl, rfl, rfl⟩ (fun _ _ _ h => h) hM (fun w hC => r_mulW hl rfl rfl) rfl ?_
          clear hl a; intro a hl
          refine d_take (i := 20) hl rfl (by kernel_rfl) (by kernel_rfl) (by kernel_rfl) (by kernel_rfl) (by kernel_rfl) rfl ⟨_, _, rfl, rfl, rfl⟩ (fun _ _ _ h => h) hM (fun w hC => r_gtr hl rfl rfl) rfl ?_
          clear hl a; intro a hl
          refine d_take (i := 21) hl rfl (by kernel_rfl) (by kernel_rfl) (by kernel_rfl) (by kernel_rfl) (by kernel_rfl) rfl trivial (fun _ _ _ h => h) hM (fun w hC => r_pickF hl rfl rfl) rfl ?_
          clear hl a; intro a hl
          refine d_takeL (i := 22) hl rfl (by kernel_rfl) (by kernel_rfl) (by kernel_rfl) (by kernel_rfl) (by kernel_rfl) rfl trivial (fun _ _ _ h => h) (fun w => r_indexS hl rfl rfl slc77 (by omega) (by omega) (by first | (simp only [Int.reduceToNat]; rfl) | exact toNat_add1 _ | exact toNat_add2 _ _ | exact toNat_emod _ _ | exact Int.toNat_natCast _ | rfl)) rfl ?_
          clear hl a; intro a hl
          refine d_one (i := 23) (by kernel_rfl) rfl ?_
          try clear hM
          refine id (w_store hl hh trivial one4 rfl rfl (by repeat (first | exact find_head | apply find_tail)) (by rw [arrL_length]; omega) (by first | rfl | assumption | (apply Row.one; assumption)) (by first | exact ls_set (by omega) (lsG_2 (by assumption)) | exact ls_set (by omega) (lsG_a (by assumption) (by assumption)) | exact ls_set (by omega) (lsG_b (by assumption) (by omega))) ?_)
          clear hh w; intro w hh
          refine d_step (fun h => absurd h (by decide)) ?_
          refine d_done (by kernel_rfl) ?_
          try clear hM
          have hl2 := hl.add (t := 0) (hl.add (t := 3) (hl.add (t := 4) (hl.add (t := 5) (hl.add (t := 6) (hl.add (t := 7) (hl.add (t := 8) (hl.add (t := 9) (hl.nil) rfl) rfl) rfl) rfl) rfl) rfl) rfl) rfl; clear hl; have hl := hl2; clear hl2
          refine then_normal ?_
          refine c_seq ?_
          refine c_region ?_
          refine wl (w_loadA hl hh rfl trivial agg79 rfl (by repeat (first | exact find_head | apply find_tail)) (by first | (simp only [List.getElem?_cons_zero, List.getElem?_cons_succ, Value.cells, List.take_zero, List.take_succ_cons, List.take_nil, List.drop_zero, List.drop_succ_cons, List.drop_nil, List.length_cons, List.length_nil, List.cons_append, List.nil_append, List.append_nil, Nat.zero_add, Nat.add_zero, Nat.reduceAdd, Nat.reduceBEq, Nat.reduceEqDiff, Nat.ble, BEq.rfl, Bool.and_true, Bool.and_self, cond_true, beq_self_eq_true]; rfl)) (by first | rfl | (simp; done)) ?_)
          clear hl a; intro a hl
          refine wl (wl_val hl rfl trivial (r_move hl rfl) ?_)
          clear hl a; intro a hl
          refine wl (w_call hl hh rfl trivial rfl cal47 rfl (at_m s.una f fb g _ (by omega) (by omega) (by omega)) (by repeat (first | exact keeps_nil | apply keeps_cons (by repeat (first | exact find_head | apply find_tail)) (by first  | rfl) | exact keeps_self | apply keeps_mv)) (heap_keep hh hpf) ?_)
          clear hl hh a w; intro vc Fc a w hR hl hh
          obtain ⟨rfl, rfl⟩ := hR
          try simp only [List.cons_append, List.nil_append] at hh
          rw [at_q (by omega)] at hl
          refine w_nil ?_
          have hl2 := hl.add (t := 0) (hl.add (t := 3) (hl.add (t := 4) (hl.add (t := 5) (hl.add (t := 6) (hl.add (t := 7) (hl.add (t := 8) (hl.add (t := 9) (hl.add (t := 89) (hl.nil) rfl) rfl) rfl) rfl) rfl) rfl) rfl) rfl) rfl; clear hl; have hl := hl2; clear hl2
          refine then_normal ?_
          refine c_cond hl rfl ?_ ?_
          · intro hc2
            try simp only [decide_eq_true_eq, decide_eq_false_iff_not, Bool.not_eq_true', Bool.not_eq_false', Bool.not_eq_true, Bool.not_eq_false, Bool.and_eq_true, Bool.or_eq_true, Bool.and_eq_false_iff, Bool.or_eq_false_iff, Bool.not_not, ne_eq, Int.not_lt, Int.not_le, Decidable.not_not, beq_iff_eq, bne_iff_ne] at hc2
            refine c_seq ?_
            refine c_region ?_
            refine wl (wl_val hl rfl trivial (r_move hl rfl) ?_)
            clear hl a; intro a hl
            first | refine wl (wl_val hl rfl trivial (r_add hl rfl rfl (by simp only [Fits]; omega)) ?_) | refine wl (wl_val hl rfl trivial (r_addW hl rfl rfl) ?_)
            clear hl a; intro a hl
            refine wl (wl_val hl rfl trivial (r_assign hl rfl) ?_)
            clear hl a; intro a hl
            refine w_nil ?_
            have hl2 := hl.add (t := 0) (hl.add (t := 3) (hl.add (t := 4) (hl.add (t := 5) (hl.add (t := 6) (hl.add (t := 7) (hl.add (t := 8) (hl.add (t := 9) (hl.nil) rfl) rfl) rfl) rfl) rfl) rfl) rfl) rfl; clear hl; have hl := hl2; clear hl2
            refine then_normal ?_
            refine c_seq ?_
            refine c_region ?_
            refine wl (w_loadA hl hh rfl trivial agg79 rfl (by repeat (first | exact find_head | apply find_tail)) (by first | (simp only [List.getElem?_cons_zero, List.getElem?_cons_succ, Value.cells, List.take_zero, List.take_succ_cons, List.take_nil, List.drop_zero, List.drop_succ_cons, List.drop_nil, List.length_cons, List.length_nil, List.cons_append, List.nil_append, List.append_nil, Nat.zero_add, Nat.add_zero, Nat.reduceAdd, Nat.reduceBEq, Nat.reduceEqDiff, Nat.ble, BEq.rfl, Bool.and_true, Bool.and_self, cond_true, beq_self_eq_true]; rfl)) (by first | rfl | (simp; done)) ?_)
            clear hl a; intro a hl
            refine wl (wl_val hl rfl trivial (r_move hl rfl) ?_)
            clear hl a; intro a hl
            first | refine wl (wl_val hl rfl trivial (r_sub hl rfl rfl (by simp only [Fits]; omega)) ?_) | refine wl (wl_val hl rfl trivial (r_subW hl rfl rfl) ?_)
            clear hl a; intro a hl
            refine wl (w_call hl hh rfl trivial rfl cal47 rfl (at_m s.una f fb g _ (by omega) (by omega) (by omega)) (by repeat (first | exact keeps_nil | apply keeps_cons (by repeat (first | exact find_head | apply find_tail)) (by first  | rfl) | exact keeps_self | apply keeps_mv)) (heap_keep hh hpf) ?_)
            clear hl hh a w; intro vc Fc a w hR hl hh
            obtain ⟨rfl, rfl⟩ := hR
            try simp only [List.cons_append, List.nil_append] at hh
            rw [at_p (by omega)] at hl
            refine wl (wl_val hl rfl trivial (r_not hl rfl) ?_)
            clear hl a; intro a hl
            refine w_nil ?_
            have hl2 := hl.add (t := 0) (hl.add (t := 3) (hl.add (t := 4) (hl.add (t := 5) (hl.add (t := 6) (hl.add (t := 7) (hl.add (t := 8) (hl.add (t := 9) (hl.add (t := 96) (hl.nil) rfl) rfl) rfl) rfl) rfl) rfl) rfl) rfl) rfl; clear hl; have hl := hl2; clear hl2
            refine then_normal ?_
            refine c_cond hl rfl ?_ ?_
            · intro hc3
              try simp only [decide_eq_true_eq, decide_eq_false_iff_not, Bool.not_eq_true', Bool.not_eq_false', Bool.not_eq_true, Bool.not_eq_false, Bool.and_eq_true, Bool.or_eq_true, Bool.and_eq_false_iff, Bool.or_eq_false_iff, Bool.not_not, ne_eq, Int.not_lt, Int.not_le, Decidable.not_not, beq_iff_eq, bne_iff_ne] at hc3
              refine c_region ?_
              refine wl (wl_val hl rfl trivial (r_move hl rfl) ?_)
              clear hl a; intro a hl
              first | refine wl (wl_val hl rfl trivial (r_add hl rfl rfl (by simp only [Fits]; omega)) ?_) | refine wl (wl_val hl rfl trivial (r_addW hl rfl rfl) ?_)
              clear hl a; intro a hl
              refine wl (wl_val hl rfl trivial (r_assign hl rfl) ?_)
              clear hl a; intro a hl
              refine w_nil ?_
              have hl2 := hl.add (t := 0) (hl.add (t := 3) (hl.add (t := 4) (hl.add (t := 5) (hl.add (t := 6) (hl.add (t := 7) (hl.add (t := 8) (hl.add (t := 9) (hl.nil) rfl) rfl) rfl) rfl) rfl) rfl) rfl) rfl; clear hl; have hl := hl2; clear hl2
              refine blk_normal ?_
              refine then_normal ?_
              refine c_region ?_
              refine wl (wl_val hl rfl trivial (r_move hl rfl) ?_)
              clear hl a; intro a hl
              first | refine wl (wl_val hl rfl trivial (r_sub hl rfl rfl (by simp only [Fits]; omega)) ?_) | refine wl (wl_val hl rfl trivial (r_subW hl rfl rfl) ?_)
              clear hl a; intro a hl
              refine wl (wl_val hl rfl trivial (r_assign hl rfl) ?_)
              clear hl a; intro a hl
              refine w_nil ?_
              have hl2 := hl.add (t := 0) (hl.add (t := 3) (hl.add (t := 4) (hl.add (t := 5) (hl.add (t := 6) (hl.add (t := 7) (hl.add (t := 8) (hl.add (t := 9) (hl.nil) rfl) rfl) rfl) rfl) rfl) rfl) rfl) rfl; clear hl; have hl := hl2; clear hl2
              refine then_normal ?_
              refine ⟨q, (by omega), (by omega), hl.addE (t := 9) (hl.addE (t := 7) (hl.addE (t := 8) (hl.addE (t := 0) (hl.addE (t := 3) (hl.addE (t := 4) (hl.addE (t := 5) (hl.addE (t := 6) (hl.nil) rfl (by first | rfl | (exact congrArg (Value.int .i64) (cnt_1 (by omega) (by assumption)).symm) | (exact congrArg (Value.int .i64) (cnt_1 (by omega) (run_1 (by assumption) (by assumption))).symm) | (exact congrArg (fun z : Nat => Value.int .i64 (z : Int)) (cnt_0 (by omega) (by assumption)).symm) | (exact congrArg (fun z : Nat => Value.int .i64 (z : Int)) (cnt_0 (by omega) (run_0 (.inl (by assumption)))).symm) | (exact congrArg (fun z : Nat => Value.int .i64 (z : Int)) (cnt_0 (by omega) (run_0 (.inr (by assumption)))).symm))) rfl (by first | rfl | (exact congrArg (Value.int .i64) (cnt_1 (by omega) (by assumption)).symm) | (exact congrArg (Value.int .i64) (cnt_1 (by omega) (run_1 (by assumption) (by assumption))).symm) | (exact congrArg (fun z : Nat => Value.int .i64 (z : Int)) (cnt_0 (by omega) (by assumption)).symm) | (exact congrArg (fun z : Nat => Value.int .i64 (z : Int)) (cnt_0 (by omega) (run_0 (.inl (by assumption)))).symm) | (exact congrArg (fun z : Nat => Value.int .i64 (z : Int)) (cnt_0 (by omega) (run_0 (.inr (by assumption)))).symm))) rfl (by first | rfl | (exact congrArg (Value.int .i64) (cnt_1 (by omega) (by assumption)).symm) | (exact congrArg (Value.int .i64) (cnt_1 (by omega) (run_1 (by assumption) (by assumption))).symm) | (exact congrArg (fun z : Nat => Value.int .i64 (z : Int)) (cnt_0 (by omega) (by assumption)).symm) | (exact congrArg (fun z : Nat => Value.int .i64 (z : Int)) (cnt_0 (by omega) (run_0 (.inl (by assumption)))).symm) | (exact congrArg (fun z : Nat => Value.int .i64 (z : Int)) (cnt_0 (by omega) (run_0 (.inr (by assumption)))).symm))) rfl (by first | rfl | (exact congrArg (Value.int .i64) (cnt_1 (by omega) (by assumption)).symm) | (exact congrArg (Value.int .i64) (cnt_1 (by omega) (run_1 (by assumption) (by assumption))).symm) | (exact congrArg (fun z : Nat => Value.int .i64 (z : Int)) (cnt_0 (by omega) (by assumption)).symm) | (exact congrArg (fun z : Nat => Value.int .i64 (z : Int)) (cnt_0 (by omega) (run_0 (.inl (by assumption)))).symm) | (exact congrArg (fun z : Nat => Value.int .i64 (z : Int)) (cnt_0 (by omega) (run_0 (.inr (by assumption)))).symm))) rfl (by first | rfl | (exact congrArg (Value.int .i64) (cnt_1 (by omega) (by assumption)).symm) | (exact congrArg (Value.int .i64) (cnt_1 (by omega) (run_1 (by assumption) (by assumption))).symm) | (exact congrArg (fun z : Nat => Value.int .i64 (z : Int)) (cnt_0 (by omega) (by assumption)).symm) | (exact congrArg (fun z : Nat => Value.int .i64 (z : Int)) (cnt_0 (by omega) (run_0 (.inl (by assumption)))).symm) | (exact congrArg (fun z : Nat => Value.int .i64 (z : Int)) (cnt_0 (by omega) (run_0 (.inr (by assumption)))).symm))) rfl (by first | rfl | (exact congrArg (Value.int .i64) (cnt_1 (by omega) (by assumption)).symm) | (exact congrArg (Value.int .i64) (cnt_1 (by omega) (run_1 (by assumption) (by assumption))).symm) | (exact congrArg (fun z : Nat => Value.int .i64 (z : Int)) (cnt_0 (by omega) (by assumption)).symm) | (exact congrArg (fun z : Nat => Value.int .i64 (z : Int)) (cnt_0 (by omega) (run_0 (.inl (by assumption)))).symm) | (exact congrArg (fun z : Nat => Value.int .i64 (z : Int)) (cnt_0 (by omega) (run_0 (.inr (by assumption)))).symm))) rfl (by first | rfl | (exact congrArg (Value.int .i64) (cnt_1 (by omega) (by assumption)).symm) | (exact congrArg (Value.int .i64) (cnt_1 (by omega) (run_1 (by assumption) (by assumption))).symm) | (exact congrArg (fun z : Nat => Value.int .i64 (z : Int)) (cnt_0 (by omega) (by assumption)).symm) | (exact congrArg (fun z : Nat => Value.int .i64 (z : Int)) (cnt_0 (by omega) (run_0 (.inl (by assumption)))).symm) | (exact congrArg (fun z : Nat => Value.int .i64 (z : Int)) (cnt_0 (by omega) (run_0 (.inr (by assumption)))).symm))) rfl (by first | rfl | (exact congrArg (Value.int .i64) (cnt_1 (by omega) (by assumption)).symm) | (exact congrArg (Value.int .i64) (cnt_1 (by omega) (run_1 (by assumption) (by assumption))).symm) | (exact congrArg (fun z : Nat => Value.int .i64 (z : Int)) (cnt_0 (by omega) (by assumption)).symm) | (exact congrArg (fun z : Nat => Value.int .i64 (z : Int)) (cnt_0 (by omega) (run_0 (.inl (by assumption)))).symm) | (exact congrArg (fun z : Nat => Value.int .i64 (z : Int)) (cnt_0 (by omega) (run_0 (.inr (by assumption)))).symm)), hh.keep (by repeat (first | exact keeps_nil | apply keeps_cons (by repeat (first | exact find_head | apply find_tail)) (by first  | rfl) | exact keeps_self | apply keeps_mv))⟩
            · intro hc3
              try simp only [decide_eq_true_eq, decide_eq_false_iff_not, Bool.not_eq_true', Bool.not_eq_false', Bool.not_eq_true, Bool.not_eq_false, Bool.and_eq_true, Bool.or_eq_true, Bool.and_eq_false_iff, Bool.or_eq_false_iff, Bool.not_not, ne_eq, Int.not_lt, Int.not_le, Decidable.not_not, beq_iff_eq, bne_iff_ne] at hc3
              refine wp_skip ?_
              refine blk_normal ?_
              refine then_normal ?_
              refine c_region ?_
              refine wl (wl_val hl rfl trivial (r_move hl rfl) ?_)
              clear hl a; intro a hl
              first | refine wl (wl_val hl rfl trivial (r_sub hl rfl rfl (by simp only [Fits]; omega)) ?_) | refine wl (wl_val hl rfl trivial (r_subW hl rfl rfl) ?_)
              clear hl a; intro a hl
              refine wl (wl_val hl rfl trivial (r_assign hl rfl) ?_)
              clear hl a; intro a hl
              refine w_nil ?_
              have hl2 := hl.add (t := 0) (hl.add (t := 3) (hl.add (t := 4) (hl.add (t := 5) (hl.add (t := 6) (hl.add (t := 7) (hl.add (t := 8) (hl.add (t := 9) (hl.nil) rfl) rfl) rfl) rfl) rfl) rfl) rfl) rfl; clear hl; have hl := hl2; clear hl2
              refine then_normal ?_
              refine ⟨q, (by omega), (by omega), hl.addE (t := 9) (hl.addE (t := 7) (hl.addE (t := 8) (hl.addE (t := 0) (hl.addE (t := 3) (hl.addE (t := 4) (hl.addE (t := 5) (hl.addE (t := 6) (hl.nil) rfl (by first | rfl | (exact congrArg (Value.int .i64) (cnt_1 (by omega) (by assumption)).symm) | (exact congrArg (Value.int .i64) (cnt_1 (by omega) (run_1 (by assumption) (by assumption))).symm) | (exact congrArg (fun z : Nat => Value.int .i64 (z : Int)) (cnt_0 (by omega) (by assumption)).symm) | (exact congrArg (fun z : Nat => Value.int .i64 (z : Int)) (cnt_0 (by omega) (run_0 (.inl (by assumption)))).symm) | (exact congrArg (fun z : Nat => Value.int .i64 (z : Int)) (cnt_0 (by omega) (run_0 (.inr (by assumption)))).symm))) rfl (by first | rfl | (exact congrArg (Value.int .i64) (cnt_1 (by omega) (by assumption)).symm) | (exact congrArg (Value.int .i64) (cnt_1 (by omega) (run_1 (by assumption) (by assumption))).symm) | (exact congrArg (fun z : Nat => Value.int .i64 (z : Int)) (cnt_0 (by omega) (by assumption)).symm) | (exact congrArg (fun z : Nat => Value.int .i64 (z : Int)) (cnt_0 (by omega) (run_0 (.inl (by assumption)))).symm) | (exact congrArg (fun z : Nat => Value.int .i64 (z : Int)) (cnt_0 (by omega) (run_0 (.inr (by assumption)))).symm))) rfl (by first | rfl | (exact congrArg (Value.int .i64) (cnt_1 (by omega) (by assumption)).symm) | (exact congrArg (Value.int .i64) (cnt_1 (by omega) (run_1 (by assumption) (by assumption))).symm) | (exact congrArg (fun z : Nat => Value.int .i64 (z : Int)) (cnt_0 (by omega) (by assumption)).symm) | (exact congrArg (fun z : Nat => Value.int .i64 (z : Int)) (cnt_0 (by omega) (run_0 (.inl (by assumption)))).symm) | (exact congrArg (fun z : Nat => Value.int .i64 (z : Int)) (cnt_0 (by omega) (run_0 (.inr (by assumption)))).symm))) rfl (by first | rfl | (exact congrArg (Value.int .i64) (cnt_1 (by omega) (by assumption)).symm) | (exact congrArg (Value.int .i64) (cnt_1 (by omega) (run_1 (by assumption) (by assumption))).symm) | (exact congrArg (fun z : Nat => Value.int .i64 (z : Int)) (cnt_0 (by omega) (by assumption)).symm) | (exact congrArg (fun z : Nat => Value.int .i64 (z : Int)) (cnt_0 (by omega) (run_0 (.inl (by assumption)))).symm) | (exact congrArg (fun z : Nat => Value.int .i64 (z : Int)) (cnt_0 (by omega) (run_0 (.inr (by assumption)))).symm))) rfl (by first | rfl | (exact congrArg (Value.int .i64) (cnt_1 (by omega) (by assumption)).symm) | (exact congrArg (Value.int .i64) (cnt_1 (by omega) (run_1 (by assumption) (by assumption))).symm) | (exact congrArg (fun z : Nat => Value.int .i64 (z : Int)) (cnt_0 (by omega) (by assumption)).symm) | (exact congrArg (fun z : Nat => Value.int .i64 (z : Int)) (cnt_0 (by omega) (run_0 (.inl (by assumption)))).symm) | (exact congrArg (fun z : Nat => Value.int .i64 (z : Int)) (cnt_0 (by omega) (run_0 (.inr (by assumption)))).symm))) rfl (by first | rfl | (exact congrArg (Value.int .i64) (cnt_1 (by omega) (by assumption)).symm) | (exact congrArg (Value.int .i64) (cnt_1 (by omega) (run_1 (by assumption) (by assumption))).symm) | (exact congrArg (fun z : Nat => Value.int .i64 (z : Int)) (cnt_0 (by omega) (by assumption)).symm) | (exact congrArg (fun z : Nat => Value.int .i64 (z : Int)) (cnt_0 (by omega) (run_0 (.inl (by assumption)))).symm) | (exact congrArg (fun z : Nat => Value.int .i64 (z : Int)) (cnt_0 (by omega) (run_0 (.inr (by assumption)))).symm))) rfl (by first | rfl | (exact congrArg (Value.int .i64) (cnt_1 (by omega) (by assumption)).symm) | (exact congrArg (Value.int .i64) (cnt_1 (by omega) (run_1 (by assumption) (by assumption))).symm) | (exact congrArg (fun z : Nat => Value.int .i64 (z : Int)) (cnt_0 (by omega) (by assumption)).symm) | (exact congrArg (fun z : Nat => Value.int .i64 (z : Int)) (cnt_0 (by omega) (run_0 (.inl (by assumption)))).symm) | (exact congrArg (fun z : Nat => Value.int .i64 (z : Int)) (cnt_0 (by omega) (run_0 (.inr (by assumption)))).symm))) rfl (by first | rfl | (exact congrArg (Value.int .i64) (cnt_1 (by omega) (by assumption)).symm) | (exact congrArg (Value.int .i64) (cnt_1 (by omega) (run_1 (by assumption) (by assumption))).symm) | (exact congrArg (fun z : Nat => Value.int .i64 (z : Int)) (cnt_0 (by omega) (by assumption)).symm) | (exact congrArg (fun z : Nat => Value.int .i64 (z : Int)) (cnt_0 (by omega) (run_0 (.inl (by assumption)))).symm) | (exact congrArg (fun z : Nat => Value.int .i64 (z : Int)) (cnt_0 (by omega) (run_0 (.inr (by assumption)))).symm)), hh.keep (by repeat (first | exact keeps_nil | apply keeps_cons (by repeat (first | exact find_head | apply find_tail)) (by first  | rfl) | exact keeps_self | apply keeps_mv))⟩
          · intro hc2
            try simp only [decide_eq_true_eq, decide_eq_false_iff_not, Bool.not_eq_true', Bool.not_eq_false', Bool.not_eq_true, Bool.not_eq_false, Bool.and_eq_true, Bool.or_eq_true, Bool.and_eq_false_iff, Bool.or_eq_false_iff, Bool.not_not, ne_eq, Int.not_lt, Int.not_le, Decidable.not_not, beq_iff_eq, bne_iff_ne] at hc2
            refine wp_skip ?_
            refine blk_normal ?_
            refine then_normal ?_
            refine c_region ?_
            refine wl (wl_val hl rfl trivial (r_move hl rfl) ?_)
            clear hl a; intro a hl
            first | refine wl (wl_val hl rfl trivial (r_sub hl rfl rfl (by simp only [Fits]; omega)) ?_) | refine wl (wl_val hl rfl trivial (r_subW hl rfl rfl) ?_)
            clear hl a; intro a hl
            refine wl (wl_val hl rfl trivial (r_assign hl rfl) ?_)
            clear hl a; intro a hl
            refine w_nil ?_
            have hl2 := hl.add (t := 0) (hl.add (t := 3) (hl.add (t := 4) (hl.add (t := 5) (hl.add (t := 6) (hl.add (t := 7) (hl.add (t := 8) (hl.add (t := 9) (hl.nil) rfl) rfl) rfl) rfl) rfl) rfl) rfl) rfl; clear hl; have hl := hl2; clear hl2
            refine then_normal ?_
            refine ⟨q, (by omega), (by omega), hl.addE (t := 9) (hl.addE (t := 7) (hl.addE (t := 8) (hl.addE (t := 0) (hl.addE (t := 3) (hl.addE (t := 4) (hl.addE (t := 5) (hl.addE (t := 6) (hl.nil) rfl (by first | rfl | (exact congrArg (Value.int .i64) (cnt_1 (by omega) (by assumption)).symm) | (exact congrArg (Value.int .i64) (cnt_1 (by omega) (run_1 (by assumption) (by assumption))).symm) | (exact congrArg (fun z : Nat => Value.int .i64 (z : Int)) (cnt_0 (by omega) (by assumption)).symm) | (exact congrArg (fun z : Nat => Value.int .i64 (z : Int)) (cnt_0 (by omega) (run_0 (.inl (by assumption)))).symm) | (exact congrArg (fun z : Nat => Value.int .i64 (z : Int)) (cnt_0 (by omega) (run_0 (.inr (by assumption)))).symm))) rfl (by first | rfl | (exact congrArg (Value.int .i64) (cnt_1 (by omega) (by assumption)).symm) | (exact congrArg (Value.int .i64) (cnt_1 (by omega) (run_1 (by assumption) (by assumption))).symm) | (exact congrArg (fun z : Nat => Value.int .i64 (z : Int)) (cnt_0 (by omega) (by assumption)).symm) | (exact congrArg (fun z : Nat => Value.int .i64 (z : Int)) (cnt_0 (by omega) (run_0 (.inl (by assumption)))).symm) | (exact congrArg (fun z : Nat => Value.int .i64 (z : Int)) (cnt_0 (by omega) (run_0 (.inr (by assumption)))).symm))) rfl (by first | rfl | (exact congrArg (Value.int .i64) (cnt_1 (by omega) (by assumption)).symm) | (exact congrArg (Value.int .i64) (cnt_1 (by omega) (run_1 (by assumption) (by assumption))).symm) | (exact congrArg (fun z : Nat => Value.int .i64 (z : Int)) (cnt_0 (by omega) (by assumption)).symm) | (exact congrArg (fun z : Nat => Value.int .i64 (z : Int)) (cnt_0 (by omega) (run_0 (.inl (by assumption)))).symm) | (exact congrArg (fun z : Nat => Value.int .i64 (z : Int)) (cnt_0 (by omega) (run_0 (.inr (by assumption)))).symm))) rfl (by first | rfl | (exact congrArg (Value.int .i64) (cnt_1 (by omega) (by assumption)).symm) | (exact congrArg (Value.int .i64) (cnt_1 (by omega) (run_1 (by assumption) (by assumption))).symm) | (exact congrArg (fun z : Nat => Value.int .i64 (z : Int)) (cnt_0 (by omega) (by assumption)).symm) | (exact congrArg (fun z : Nat => Value.int .i64 (z : Int)) (cnt_0 (by omega) (run_0 (.inl (by assumption)))).symm) | (exact congrArg (fun z : Nat => Value.int .i64 (z : Int)) (cnt_0 (by omega) (run_0 (.inr (by assumption)))).symm))) rfl (by first | rfl | (exact congrArg (Value.int .i64) (cnt_1 (by omega) (by assumption)).symm) | (exact congrArg (Value.int .i64) (cnt_1 (by omega) (run_1 (by assumption) (by assumption))).symm) | (exact congrArg (fun z : Nat => Value.int .i64 (z : Int)) (cnt_0 (by omega) (by assumption)).symm) | (exact congrArg (fun z : Nat => Value.int .i64 (z : Int)) (cnt_0 (by omega) (run_0 (.inl (by assumption)))).symm) | (exact congrArg (fun z : Nat => Value.int .i64 (z : Int)) (cnt_0 (by omega) (run_0 (.inr (by assumption)))).symm))) rfl (by first | rfl | (exact congrArg (Value.int .i64) (cnt_1 (by omega) (by assumption)).symm) | (exact congrArg (Value.int .i64) (cnt_1 (by omega) (run_1 (by assumption) (by assumption))).symm) | (exact congrArg (fun z : Nat => Value.int .i64 (z : Int)) (cnt_0 (by omega) (by assumption)).symm) | (exact congrArg (fun z : Nat => Value.int .i64 (z : Int)) (cnt_0 (by omega) (run_0 (.inl (by assumption)))).symm) | (exact congrArg (fun z : Nat => Value.int .i64 (z : Int)) (cnt_0 (by omega) (run_0 (.inr (by assumption)))).symm))) rfl (by first | rfl | (exact congrArg (Value.int .i64) (cnt_1 (by omega) (by assumption)).symm) | (exact congrArg (Value.int .i64) (cnt_1 (by omega) (run_1 (by assumption) (by assumption))).symm) | (exact congrArg (fun z : Nat => Value.int .i64 (z : Int)) (cnt_0 (by omega) (by assumption)).symm) | (exact congrArg (fun z : Nat => Value.int .i64 (z : Int)) (cnt_0 (by omega) (run_0 (.inl (by assumption)))).symm) | (exact congrArg (fun z : Nat => Value.int .i64 (z : Int)) (cnt_0 (by omega) (run_0 (.inr (by assumption)))).symm))) rfl (by first | rfl | (exact congrArg (Value.int .i64) (cnt_1 (by omega) (by assumption)).symm) | (exact congrArg (Value.int .i64) (cnt_1 (by omega) (run_1 (by assumption) (by assumption))).symm) | (exact congrArg (fun z : Nat => Value.int .i64 (z : Int)) (cnt_0 (by omega) (by assumption)).symm) | (exact congrArg (fun z : Nat => Value.int .i64 (z : Int)) (cnt_0 (by omega) (run_0 (.inl (by assumption)))).symm) | (exact congrArg (fun z : Nat => Value.int .i64 (z : Int)) (cnt_0 (by omega) (run_0 (.inr (by assumption)))).symm)), hh.keep (by repeat (first | exact keeps_nil | apply keeps_cons (by repeat (first | exact find_head | apply find_tail)) (by first  | rfl) | exact keeps_self | apply keeps_mv))⟩
    · intro hc0
      try simp only [decide_eq_true_eq, decide_eq_false_iff_not, Bool.not_eq_true', Bool.not_eq_false', Bool.not_eq_true, Bool.not_eq_false, Bool.and_eq_true, Bool.or_eq_true, Bool.and_eq_false_iff, Bool.or_eq_false_iff, Bool.not_not, ne_eq, Int.not_lt, Int.not_le, Decidable.not_not, beq_iff_eq, bne_iff_ne] at hc0
      obtain rfl : r = 0 := by omega
      rw [ls_all] at hh
      refine wp_exit ?_
      refine then_exit ?_
      refine then_exit ?_
      refine blk_exit ?_
      refine then_normal ?_
      refine c_seq ?_
      refine c_region ?_
      refine wl (w_loadA hl hh rfl trivial agg79 rfl (by repeat (first | exact find_head | apply find_tail)) (by first | (simp only [List.getElem?_cons_zero, List.getElem?_cons_succ, Value.cells, List.take_zero, List.take_succ_cons, List.take_nil, List.drop_zero, List.drop_succ_cons, List.drop_nil, List.length_cons, List.length_nil, List.cons_append, List.nil_append, List.append_nil, Nat.zero_add, Nat.add_zero, Nat.reduceAdd, Nat.reduceBEq, Nat.reduceEqDiff, Nat.ble, BEq.rfl, Bool.and_true, Bool.and_self, cond_true, beq_self_eq_true]; rfl)) (by first | rfl | (simp; done)) ?_)
      clear hl a; intro a hl
      refine wl (w_storeA hl hh trivial agg79 rfl rfl (by repeat (first | exact find_head | apply find_tail)) (by first | rfl | (simp; done)) (by first | (simp; done) | (simp; omega)) (by first | rfl | (simp; done)) (by first | (simp only [encM, setL, List.getElem?_cons_zero, List.getElem?_cons_succ, Value.cells, List.take_zero, List.take_succ_cons, List.take_nil, List.drop_zero, List.drop_succ_cons, List.drop_nil, List.length_cons, List.length_nil, List.cons_append, List.nil_append, List.append_nil, Nat.zero_add, Nat.add_zero, Nat.reduceAdd, Nat.reduceBEq, Nat.reduceEqDiff, Nat.ble, BEq.rfl, Bool.and_true, Bool.and_self, cond_true, beq_self_eq_true]; rfl) | (simp only [setL, List.getElem?_cons_zero, List.getElem?_cons_succ, Value.cells, List.take_zero, List.take_succ_cons, List.take_nil, List.drop_zero, List.drop_succ_cons, List.drop_nil, List.length_cons, List.length_nil, List.cons_append, List.nil_append, List.append_nil, Nat.zero_add, Nat.add_zero, Nat.reduceAdd, Nat.reduceBEq, Nat.reduceEqDiff, Nat.ble, BEq.rfl, Bool.and_true, Bool.and_self, cond_true, beq_self_eq_true]; rfl)) ?_)
      clear hh w; intro w hh
      refine w_nil ?_
      have hl2 := hl.add (t := 4) (hl.nil) rfl; clear hl; have hl := hl2; clear hl2
      refine then_normal ?_
      refine wp_ret ?_
      refine f_retC (F' := [(k23, C (arrL f (blF (lsG s f g))) 4)]) hl hh rfl rfl agg79 (by repeat (first | exact find_head | apply find_tail)) (by first | rfl | exact arrL_length _ _ | (simp; done)) (by repeat (first | exact keeps_nil | apply keeps_cons (by repeat (first | exact find_head | apply find_tail)) (by first  | rfl) | exact keeps_self | apply keeps_mv)) ?_
      exact ⟨k23, rfl, rfl⟩
end Go.Proofs.Qxb6500912aGreatDoor

import Derived.Test.Qxb6500912aGreatDoorZ8
namespace Go.Proofs.Qxb6500912aGreatDoor
open Go.Eng
set_option linter.unusedVariables false
set_option linter.unusedSimpArgs false
theorem cal8 : callable Tryz.prog 8 = true := by kernel_rfl
/-! ## what the model would send next -/
def freshN (s : CS) (f : Nat) (fresh : Int) : Int := min (min fresh s.mss) (2147483647 - (f : Int))
def DownR (g : Nat → Bool) (q : Nat) (mss : Int) (m : Nat) : Prop := 1 ≤ m ∧ (∀ i, i < m → i ≤ q ∧ g (q - i) = false) ∧ (m : Int) ≤ mss ∧ ((m : Int) = mss ∨ ¬ (m ≤ q ∧ g (q - m) = false))
def repM (s : CS) (sk : Bool) : Prop := (sk = true ∧ s.phase = 1) ∨ s.phase = 2
def zeroG (k off n : Int) : Prop := k = 0 ∧ off = 0 ∧ n = 0
/-- rule 1 -/
def Nx1 (s : CS) (sk : Bool) (f hi : Nat) (g l : Nat → Bool) (k off n : Int) : Prop :=
  ∃ q m : Nat, repM s sk ∧ hi ≤ q ∧ q < f ∧ g q = false ∧ l q = true ∧ (∀ j, hi ≤ j → j < q → ¬ (g j = false ∧ l j = true)) ∧ RunR g l f q s.mss m ∧ k = 2 ∧ off = s.una + (q : Int) ∧ n = (m : Int)
/-- rule 3 -/
def Nx3 (s : CS) (f hi : Nat) (g l : Nat → Bool) (k off n : Int) : Prop :=
  ∃ q m t : Nat, hi ≤ q ∧ q < t ∧ t < f ∧ g t = true ∧ g q = false ∧ (∀ j, hi ≤ j → j < q → g j = true) ∧ RunR g l f q s.mss m ∧ k = 2 ∧ off = s.una + (q : Int) ∧ n = (m : Int)
/-- rule 4 -/
def Nx4 (s : CS) (f : Nat) (g : Nat → Bool) (k off n : Int) : Prop :=
  ∃ q m : Nat, s.resc = false ∧ q < f ∧ g q = false ∧ (∀ j, q < j → j < f → g j = true) ∧ DownR g q s.mss m ∧ k = 3 ∧ off = s.una + (q : Int) - (m : Int) + 1 ∧ n = (m : Int)
def NxR (s : CS) (sk : Bool) (f hi : Nat) (g l : Nat → Bool) (fresh k off n : Int) : Prop :=
  Nx1 s sk f hi g l k off n ∨
  ((repM s sk → ∀ q, hi ≤ q → q < f → ¬ (g q = false ∧ l q = true)) ∧
    ((0 < freshN s f fresh ∧ k = 1 ∧ off = s.nxt ∧ n = freshN s f fresh) ∨
     (¬ 0 < freshN s f fresh ∧ ¬ (sk = true ∧ s.phase = 1) ∧ zeroG k off n) ∨
     (¬ 0 < freshN s f fresh ∧ (sk = true ∧ s.phase = 1) ∧
       (Nx3 s f hi g l k off n ∨ ((∀ q t, hi ≤ q → q < t → t < f → g t = true → g q = true) ∧
         (Nx4 s f g k off n ∨ ((s.resc = true ∨ ∀ q, q < f → g q = true) ∧ zeroG k off n)))))))
structure TopI (g : Nat → Bool) (k : Nat) (t : Int) : Prop where
  lo : -1 ≤ t
  hi : t < (k : Int)
  is : 0 ≤ t → g t.toNat = true
  mx : ∀ j, j < k → g j = true → (j : Int) ≤ t
theorem TopI.yes {g : Nat → Bool} {k : Nat} {t : Int} (h : TopI g k t) (hg : g k = true) : TopI g (k + 1) (k : Int) :=
  ⟨by omega, by omega, fun _ => by rw [Int.toNat_natCast]; exact hg, fun j hj _ => by omega⟩
theorem TopI.no {g : Nat → Bool} {k : Nat} {t : Int} (h : TopI g k t) (hg : g k = false) : TopI g (k + 1) t :=
  ⟨h.lo, by have := h.hi; omega, h.is, fun j hj hj2 => by
    by_cases e : j = k
    · rw [e, hg] at hj2; cases hj2
    · exact h.mx j (by omega) hj2⟩
theorem nol_next {g l : Nat → Bool} {hi k : Nat} (h : ∀ j, hi ≤ j → j < k → ¬ (g j = false ∧ l j = true)) (h1 : g k = true ∨ l k = false) : ∀ j, hi ≤ j → j < k + 1 → ¬ (g j = false ∧ l j = true) := fun j h2 h3 h4 => by
  by_cases e : j = k
  · rw [e] at h4
    rcases h1 with h1 | h1
    · rw [h1] at h4; exact absurd h4.1 (by decide)
    · rw [h1] at h4; exact absurd h4.2 (by decide)
  · exact h j h2 (by omega) h4
theorem cov_more {g : Nat → Bool} {hi k : Nat} (h : ∀ j, hi ≤ j → j < k → g j = true) (h1 : g k = true) : ∀ j, hi ≤ j → j < k + 1 → g j = true := fun j h2 h3 => by
  by_cases e : j = k
  · rw [e]; exact h1
  · exact h j h2 (by omega)
theorem cov_down {g : Nat → Bool} {f q : Nat} (h : ∀ j, q + 1 ≤ j → j < f → g j = true) (h1 : g q = true) : ∀ j, q ≤ j → j < f → g j = true := fun j h2 h3 => by
  by_cases e : j = q
  · rw [e]; exact h1
  · exact h j (by omega) h3
theorem down_more {g : Nat → Bool} {q n : Nat} (h : ∀ i, i < n → i ≤ q ∧ g (q - i) = false) (h1 : n ≤ q) (h2 : g (q - n) = false) : ∀ i, i < n + 1 → i ≤ q ∧ g (q - i) = false := fun i hi => by
  by_cases e : i = n
  · rw [e]; exact ⟨h1, h2⟩
  · exact h i (by omega)
theorem no_3 {g : Nat → Bool} {f hi k : Nat} {t : Int} (ht : TopI g f t) (h : ∀ j, hi ≤ j → j < k → g j = true) (hk : t ≤ (k : Int)) : ∀ q t', hi ≤ q → q < t' → t' < f → g t' = true → g q = true := fun q t' h1 h2 h3 h4 => by
  have := ht.mx t' h3 h4
  exact h q h1 (by omega)
theorem at_dn {una : Int} {f q n : Nat} {g : Nat → Bool} (h : n ≤ q) (h2 : q < f) : atM una f g (una + (q : Int) - (n : Int)) = g (q - n) := by
  rw [show una + (q : Int) - (n : Int) = una + ((q - n : Nat) : Int) by omega, at_q (by omega)]
theorem down_one {g : Nat → Bool} {q : Nat} (h : g q = false) : ∀ i, i < 1 → i ≤ q ∧ g (q - i) = false := fun i hi => by
  have e : i = 0 := by omega
  rw [e]; exact ⟨Nat.zero_le _, h⟩


set_option maxHeartbeats 1000000 in
theorem next_n (mp : Nat) (s : CS) (st : Int) (sk : Bool) (bp : Nat) (hs : Mk s) (hk : sk = false) (hph : ¬ s.phase = 2) (fresh : Int) (hfr : 0 ≤ fresh ∧ fresh ≤ 4294967295) : SpK Tryz.prog 36 #[.pointer (some ⟨mp, 0, none⟩), .int .i64 fresh] (fun w => w.heap[mp]? = some (C (encM s st sk bp) 69)) [] (fun v F' => ((0 < min (min fresh s.mss) (2147483647 - (s.nxt - s.una)) ∧ v = .agg ⟨[.int .u8 (1), .int .i64 (s.nxt), .int .i64 (min (min fresh s.mss) (2147483647 - (s.nxt - s.una)))]⟩) ∨ (¬ 0 < min (min fresh s.mss) (2147483647 - (s.nxt - s.una)) ∧ v = .agg ⟨[.int .u8 (0), .int .i64 (0), .int .i64 (0)]⟩)) ∧ F' = []) := by
  refine f_enter (args := [.pointer (some ⟨mp, 0, none⟩), .int .i64 fresh]) Tryz.func36 rfl Tryz.ntmps36 rfl ?_
  intro w0 w a hpre hl hh
  have o1 := hs.init; have o2 := hs.maxc; have o3 := hs.bn; have o4 := hs.bd; have o5 := hs.abc; have o6 := hs.dupt; have o7 := hs.mss; have o8 := hs.cwnd; have o9 := hs.ssth; have o10 := hs.credit; have o11 := hs.una; have o12 := hs.nxt; have o13 := hs.phase; have o14 := hs.recov; have o15 := hs.high; have o16 := hs.dups; have o17 := hs.fl
  simp only [slotsFrom, Nat.reduceAdd] at hl
  refine c_seq ?_
  refine c_region ?_
  refine wl (w_box hl hh rfl trivial rfl rfl ?_)
  clear hl hh a w; intro k2 a w hl hh
  refine wl (w_alloc hl hh rfl trivial zero42 rfl ?_)
  clear hl hh a w; intro k4 a w hl hh
  refine w_nil ?_
  have hl2 := hl.add (t := 1) (hl.add (t := 2) (hl.add (t := 4) (hl.nil) rfl) rfl) rfl; clear hl; have hl := hl2; clear hl2
  refine then_normal ?_
  refine c_seq ?_
  refine c_seq ?_
  refine c_region ?_
  first | refine wl (w_load hl hh rfl trivial one34 rfl (by repeat (first | exact find_head | apply find_tail)) (by first | rfl) ?_) | refine wl (w_loadR hl hh rfl trivial one34 rfl hpre (by simp) rfl ?_)
  clear hl a; intro a hl
  refine wl (w_call hl hh rfl trivial rfl cal8 rfl (walks_m mp s st sk bp hs) (by repeat (first | exact keeps_nil | apply keeps_cons (by repeat (first | exact find_head | apply find_tail)) (by first  | rfl) | exact keeps_self | apply keeps_mv)) (heap_keep hh hpre) ?_)
  clear hl hh a w; intro vc Fc a w hR hl hh
  obtain ⟨rfl, rfl⟩ := hR
  try simp only [List.cons_append, List.nil_append] at hh
  refine wl (wl_val hl rfl trivial (r_not hl rfl) ?_)
  clear hl a; intro a hl
  refine w_nil ?_
  have hl2 := hl.add (t := 1) (hl.add (t := 2) (hl.add (t := 4) (hl.add (t := 19) (hl.nil) rfl) rfl) rfl) rfl; clear hl; have hl := hl2; clear hl2
  refine then_normal ?_
  refine c_cond hl rfl ?_ ?_
  · intro hc0
    try simp only [decide_eq_true_eq, decide_eq_false_iff_not, Bool.not_eq_true', Bool.not_eq_false', Bool.not_eq_true, Bool.not_eq_false, Bool.and_eq_true, Bool.or_eq_true, Bool.and_eq_false_iff, Bool.or_eq_false_iff, Bool.not_not, ne_eq, Int.not_lt, Int.not_le, Decidable.not_not, beq_iff_eq, bne_iff_ne] at hc0
    refine c_seq ?_
    refine c_seq ?_
    refine c_draw [(k2, C [.pointer (some ⟨mp, 0, none⟩)] 34), (mp, C (encM (s) st sk bp) 69)] [15, 16] mixed hh ?_
    clear hh w; intro w hh
    have hM : Mem [(k2, C [.pointer (some ⟨mp, 0, none⟩)] 34), (mp, C (encM (s) st sk bp) 69)] w := (by (repeat (first | exact Mem.nil | refine Mem.consR hh (by assumption) (by simp) ?_ | refine Mem.cons hh.mem (by (repeat (first | exact find_head | apply find_tail)); done) ?_ | fail)); done)
    refine d_take (i := 0) hl rfl (by kernel_rfl) (by kernel_rfl) (by kernel_rfl) (by kernel_rfl) (by kernel_rfl) rfl trivial (fun _ _ _ h => h) hM (fun w hC => r_move hl rfl) rfl ?_
    clear hl a; intro a hl
    refine d_take (i := 1) hl rfl (by kernel_rfl) (by kernel_rfl) (by kernel_rfl) (by kernel_rfl) (by kernel_rfl) rfl trivial (fun _ _ _ h => h) hM (fun w hC => r_loadC hl rfl one34 hC (by repeat (first | exact find_head | apply find_tail)) (by first | rfl)) rfl ?_
    clear hl a; intro a hl
    refine d_take (i := 2) hl rfl (by kernel_rfl) (by kernel_rfl) (by kernel_rfl) (by kernel_rfl) (by kernel_rfl) rfl trivial (fun _ _ _ h => h) hM (fun w hC => r_nilCheck hl rfl) rfl ?_
    clear hl a; intro a hl
    refine d_take (i := 3) hl rfl (by kernel_rfl) (by kernel_rfl) (by kernel_rfl) (by kernel_rfl) (by kernel_rfl) rfl trivial (fun _ _ _ h => h) hM (fun w hC => r_field hl rfl fld69_1) rfl ?_
    clear hl a; intro a hl
    refine d_take (i := 4) hl rfl (by kernel_rfl) (by kernel_rfl) (by kernel_rfl) (by kernel_rfl) (by kernel_rfl) rfl trivial (fun _ _ _ h => h) hM (fun w hC => r_loadC hl rfl one2 hC (by repeat (first | exact find_head | apply find_tail)) (by first | rfl)) rfl ?_
    clear hl a; intro a hl
    refine d_take (i := 5) hl rfl (by kernel_rfl) (by kernel_rfl) (by kernel_rfl) (by kernel_rfl) (by kernel_rfl) rfl trivial (fun _ _ _ h => h) hM (fun w hC => r_loadC hl rfl one34 hC (by repeat (first | exact find_head | apply find_tail)) (by first | rfl)) rfl ?_
    clear hl a; intro a hl
    refine d_take (i := 6) hl rfl (by kernel_rfl) (by kernel_rfl) (by kernel_rfl) (by kernel_rfl) (by kernel_rfl) rfl trivial (fun _ _ _ h => h) hM (fun w hC => r_nilCheck hl rfl) rfl ?_
    clear hl a; intro a hl
    refine d_take (i := 7) hl rfl (by kernel_rfl) (by kernel_rfl) (by kernel_rfl) (by kernel_rfl) (by kernel_rfl) rfl trivial (fun _ _ _ h => h) hM (fun w hC => r_field hl rfl fld69_9) rfl ?_
    clear hl a; intro a hl
    refine d_take (i := 8) hl rfl (by kernel_rfl) (by kernel_rfl) (by kernel_rfl) (by kernel_rfl) (by kernel_rfl) rfl trivial (fun _ _ _ h => h) hM (fun w hC => r_loadC hl rfl one2 hC (by repeat (first | exact find_head | apply find_tail)) (by first | rfl)) rfl ?_
    clear hl a; intro a hl
    refine d_take (i := 9) hl rfl (by kernel_rfl) (by kernel_rfl) (by kernel_rfl) (by kernel_rfl) (by kernel_rfl) rfl trivial (fun _ _ _ h => h) hM (fun w hC => r_loadC hl rfl one34 hC (by repeat (first | exact find_head | apply find_tail)) (by first | rfl)) rfl ?_
    clear hl a; intro a hl
    refine d_take (i := 10) hl rfl (by kernel_rfl) (by kernel_rfl) (by kernel_rfl) (by kernel_rfl) (by kernel_rfl) rfl trivial (fun _ _ _ h => h) hM (fun w hC => r_nilCheck hl rfl) rfl ?_
    clear hl a; intro a hl
    refine d_take (i := 11) hl rfl (by kernel_rfl) (by kernel_rfl) (by kernel_rfl) (by kernel_rfl) (by kernel_rfl) rfl trivial (fun _ _ _ h => h) hM (fun w hC => r_field hl rfl fld69_8) rfl ?_
    clear hl a; intro a hl
    refine d_take (i := 12) hl rfl (by kernel_rfl) (by kernel_rfl) (by kernel_rfl) (by kernel_rfl) (by kernel_rfl) rfl trivial (fun _ _ _ h => h) hM (fun w hC => r_loadC hl rfl one2 hC (by repeat (first | exact find_head | apply find_tail)) (by first | rfl)) rfl ?_
    clear hl a; intro a hl
    first | refine d_take (i := 13) hl rfl (by kernel_rfl) (by kernel_rfl) (by kernel_rfl) (by kernel_rfl) (by kernel_rfl) rfl trivial (fun _ _ _ h => h) hM (fun w hC => r_sub hl rfl rfl (by simp only [Fits]; omega)) rfl ?_ | refine d_take (i := 13) hl rfl (by kernel_rfl) (by kernel_rfl) (by kernel_rfl) (by kernel_rfl) (by kernel_rfl) rfl trivial (fun _ _ _ h => h) hM (fun w hC => r_subW hl rfl rfl) rfl ?_
    clear hl a; intro a hl
    first | refine d_take (i := 14) hl rfl (by kernel_rfl) (by kernel_rfl) (by kernel_rfl) (by kernel_rfl) (by kernel_rfl) rfl trivial (fun _ _ _ h => h) hM (fun w hC => r_sub hl rfl rfl (by simp only [Fits]; omega)) rfl ?_ | refine d_take (i := 14) hl rfl (by kernel_rfl) (by kernel_rfl) (by kernel_rfl) (by kernel_rfl) (by kernel_rfl) rfl trivial (fun _ _ _ h => h) hM (fun w hC => r_subW hl rfl rfl) rfl ?_
    clear hl a; intro a hl
    refine d_takeL (i := 15) hl rfl (by kernel_rfl) (by kernel_rfl) (by kernel_rfl) (by kernel_rfl) (by kernel_rfl) rfl trivial (fun _ _ _ h => h) (fun w => r_minI3 hl rfl rfl rfl) rfl ?_
    clear hl a; intro a hl
    refine d_takeL (i := 16) hl rfl (by kernel_rfl) (by kernel_rfl) (by kernel_rfl) (by kernel_rfl) (by kernel_rfl) rfl trivial (fun _ _ _ h => h) (fun w => r_assign hl rfl) rfl ?_
    clear hl a; intro a hl
    refine d_done (by kernel_rfl) ?_
    try clear hM
    have hl2 := hl.add (t := 2) (hl.add (t := 4) (hl.add (t := 5) (hl.nil) rfl) rfl) rfl; clear hl; have hl := hl2; clear hl2
    refine then_normal ?_
    refine c_seq ?_
    refine c_region ?_
    refine wl (wl_val hl rfl trivial (r_move hl rfl) ?_)
    clear hl a; intro a hl
    refine wl (wl_val hl rfl trivial (r_gtr hl rfl rfl) ?_)
    clear hl a; intro a hl
    refine w_nil ?_
    have hl2 := hl.add (t := 2) (hl.add (t := 4) (hl.add (t := 5) (hl.add (t := 37) (hl.nil) rfl) rfl) rfl) rfl; clear hl; have hl := hl2; clear hl2
    refine then_normal ?_
    refine c_cond hl rfl ?_ ?_
    · intro hc1
      try simp only [decide_eq_true_eq, decide_eq_false_iff_not, Bool.not_eq_true', Bool.not_eq_false', Bool.not_eq_true, Bool.not_eq_false, Bool.and_eq_true, Bool.or_eq_true, Bool.and_eq_false_iff, Bool.or_eq_false_iff, Bool.not_not, ne_eq, Int.not_lt, Int.not_le, Decidable.not_not, beq_iff_eq, bne_iff_ne] at hc1
      refine c_seq ?_
      refine c_region ?_
      first | refine wl (w_load hl hh rfl trivial one34 rfl (by repeat (first | exact find_head | apply find_tail)) (by first | rfl) ?_) | refine wl (w_loadR hl hh rfl trivial one34 rfl hpre (by simp) rfl ?_)
      clear hl a; intro a hl
      refine wl (wl_val hl rfl trivial (r_nilCheck hl rfl) ?_)
      clear hl a; intro a hl
      refine wl (wl_val hl rfl trivial (r_field hl rfl fld69_9) ?_)
      clear hl a; intro a hl
      first | refine wl (w_load hl hh rfl trivial one2 rfl (by repeat (first | exact find_head | apply find_tail)) (by first | rfl) ?_) | refine wl (w_loadR hl hh rfl trivial one2 rfl hpre (by simp) rfl ?_)
      clear hl a; intro a hl
      refine wl (wl_val hl rfl trivial (r_move hl rfl) ?_)
      clear hl a; intro a hl
      refine wl (wl_val hl rfl trivial (r_build hl rfl zero42 bld42 (by simp only [fillL, setL, List.getElem?_cons_zero, List.getElem?_cons_succ, Value.cells, List.take_zero, List.take_succ_cons, List.take_nil, List.drop_zero, List.drop_succ_cons, List.drop_nil, List.length_cons, List.length_nil, List.cons_append, List.nil_append, List.append_nil, Nat.zero_add, Nat.add_zero, Nat.reduceAdd, Nat.reduceBEq, Nat.reduceEqDiff, Nat.ble, BEq.rfl, Bool.and_true, Bool.and_self, cond_true, beq_self_eq_true]; rfl)) ?_)
      clear hl a; intro a hl
      refine wl (w_storeA hl hh trivial agg42 rfl rfl (by repeat (first | exact find_head | apply find_tail)) (by first | rfl | (simp; done)) (by first | (simp; done) | (simp; omega)) (by first | rfl | (simp; done)) (by first | (simp only [encM, setL, List.getElem?_cons_zero, List.getElem?_cons_succ, Value.cells, List.take_zero, List.take_succ_cons, List.take_nil, List.drop_zero, List.drop_succ_cons, List.drop_nil, List.length_cons, List.length_nil, List.cons_append, List.nil_append, List.append_nil, Nat.zero_add, Nat.add_zero, Nat.reduceAdd, Nat.reduceBEq, Nat.reduceEqDiff, Nat.ble, BEq.rfl, Bool.and_true, Bool.and_self, cond_true, beq_self_eq_true]; rfl) | (simp only [setL, List.getElem?_cons_zero, List.getElem?_cons_succ, Value.cells, List.take_zero, List.take_succ_cons, List.take_nil, List.drop_zero, List.drop_succ_cons, List.drop_nil, List.length_cons, List.length_nil, List.cons_append, List.nil_append, List.append_nil, Nat.zero_add, Nat.add_zero, Nat.reduceAdd, Nat.reduceBEq, Nat.reduceEqDiff, Nat.ble, BEq.rfl, Bool.and_true, Bool.and_self, cond_true, beq_self_eq_true]; rfl)) ?_)
      clear hh w; intro w hh
      refine w_nil ?_
      have hl2 := hl.add (t := 4) (hl.nil) rfl; clear hl; have hl := hl2; clear hl2
      refine then_normal ?_
      refine wp_ret ?_
      refine then_ret ?_
      refine then_ret ?_
      refine f_retC (F' := []) hl hh rfl rfl agg42 (by repeat (first | exact find_head | apply find_tail)) (by first | rfl | exact arrL_length _ _ | (simp; done)) (by repeat (first | exact keeps_nil | apply keeps_cons (by repeat (first | exact find_head | apply find_tail)) (by first  | rfl) | exact keeps_self | apply keeps_mv)) ?_
      exact ⟨.inl ⟨hc1, rfl⟩, rfl⟩
    · intro hc1
      try simp only [decide_eq_true_eq, decide_eq_false_iff_not, Bool.not_eq_true', Bool.not_eq_false', Bool.not_eq_true, Bool.not_eq_false, Bool.and_eq_true, Bool.or_eq_true, Bool.and_eq_false_iff, Bool.or_eq_false_iff, Bool.not_not, ne_eq, Int.not_lt, Int.not_le, Decidable.not_not, beq_iff_eq, bne_iff_ne] at hc1
      refine wp_skip ?_
      refine then_normal ?_
      refine c_seq ?_
      refine c_region ?_
      refine wl (wl_val hl rfl trivial (r_build hl rfl zero42 bld42 (by simp only [fillL, setL, List.getElem?_cons_zero, List.getElem?_cons_succ, Value.cells, List.take_zero, List.take_succ_cons, List.take_nil, List.drop_zero, List.drop_succ_cons, List.drop_nil, List.length_cons, List.length_nil, List.cons_append, List.nil_append, List.append_nil, Nat.zero_add, Nat.add_zero, Nat.reduceAdd, Nat.reduceBEq, Nat.reduceEqDiff, Nat.ble, BEq.rfl, Bool.and_true, Bool.and_self, cond_true, beq_self_eq_true]; rfl)) ?_)
      clear hl a; intro a hl
      refine wl (w_storeA hl hh trivial agg42 rfl rfl (by repeat (first | exact find_head | apply find_tail)) (by first | rfl | (simp; done)) (by first | (simp; done) | (simp; omega)) (by first | rfl | (simp; done)) (by first | (simp only [encM, setL, List.getElem?_cons_zero, List.getElem?_cons_succ, Value.cells, List.take_zero, List.take_succ_cons, List.take_nil, List.drop_zero, List.drop_succ_cons, List.drop_nil, List.length_cons, List.length_nil, List.cons_append, List.nil_append, List.append_nil, Nat.zero_add, Nat.add_zero, Nat.reduceAdd, Nat.reduceBEq, Nat.reduceEqDiff, Nat.ble, BEq.rfl, Bool.and_true, Bool.and_self, cond_true, beq_self_eq_true]; rfl) | (simp only [setL, List.getElem?_cons_zero, List.getElem?_cons_succ, Value.cells, List.take_zero, List.take_succ_cons, List.take_nil, List.drop_zero, List.drop_succ_cons, List.drop_nil, List.length_cons, List.length_nil, List.cons_append, List.nil_append, List.append_nil, Nat.zero_add, Nat.add_zero, Nat.reduceAdd, Nat.reduceBEq, Nat.reduceEqDiff, Nat.ble, BEq.rfl, Bool.and_true, Bool.and_self, cond_true, beq_self_eq_true]; rfl)) ?_)
      clear hh w; intro w hh
      refine w_nil ?_
      have hl2 := hl.add (t := 4) (hl.nil) rfl; clear hl; have hl := hl2; clear hl2
      refine then_normal ?_
      refine wp_ret ?_
      refine then_ret ?_
      refine f_retC (F' := []) hl hh rfl rfl agg42 (by repeat (first | exact find_head | apply find_tail)) (by first | rfl | exact arrL_length _ _ | (simp; done)) (by repeat (first | exact keeps_nil | apply keeps_cons (by repeat (first | exact find_head | apply find_tail)) (by first  | rfl) | exact keeps_self | apply keeps_mv)) ?_
      exact ⟨.inr ⟨by omega, rfl⟩, rfl⟩
  · intro hc0
    try simp only [decide_eq_true_eq, decide_eq_false_iff_not, Bool.not_eq_true', Bool.not_eq_false', Bool.not_eq_true, Bool.not_eq_false, Bool.and_eq_true, Bool.or_eq_true, Bool.and_eq_false_iff, Bool.or_eq_false_iff, Bool.not_not, ne_eq, Int.not_lt, Int.not_le, Decidable.not_not, beq_iff_eq, bne_iff_ne] at hc0
    exfalso; first | contradiction | omega | (simp_all; done)
end Go.Proofs.Qxb6500912aGreatDoor

import Derived.Test.Qxb6500911aGreatDoorA3
namespace Go.Proofs.Qxb6500911aGreatDoor
open Go.Eng
set_option linter.unusedVariables false
set_option linter.unusedSimpArgs false
theorem fld150_0 : fieldOk Tryz.prog 150 0 0 = true := by kernel_rfl
theorem one42 : oneOk Tryz.prog 42 = true := by kernel_rfl
theorem agg150 : aggOk Tryz.prog 150 18 = true := by kernel_rfl
theorem cal88 : callable Tryz.prog 88 = true := by kernel_rfl
def cmpE (a b : Int) : Int := if a < b then -1 else if b < a then 1 else 0
def fndW (l : List Wt) (i : Nat) (e : Int) : Bool := match l[i]? with | some x => decide (x.e = e) | none => false
theorem shr1 (n : Nat) : ((n : Int)).fdiv (2 ^ (min (1 : Int).toNat IntKind.u64.bits)) = ((n / 2 : Nat) : Int) := by
  have : min (1 : Int).toNat IntKind.u64.bits = 1 := by decide
  rw [this, Int.fdiv_eq_ediv_of_nonneg _ (by decide)]
  rw [Int.natCast_ediv]; rfl
structure BS where
  lo : Nat
  hi : Nat
theorem bs_lo {l : List Wt} {e : Int} (hs : l.Pairwise (fun x y => x.e < y.e)) {m : Nat} {x : Wt} (hx : l[m]? = some x) (h : cmpE x.e e < 0) : ∀ k y, l[k]? = some y → k < m + 1 → y.e < e := fun k y hy hk => by
  have hxe : x.e < e := by unfold cmpE at h; split at h <;> (try split at h) <;> omega
  rcases Nat.lt_or_ge k m with hlt | hge
  · obtain ⟨h1, rfl⟩ := List.getElem?_eq_some_iff.1 hx
    obtain ⟨h2, rfl⟩ := List.getElem?_eq_some_iff.1 hy
    have := List.pairwise_iff_getElem.1 hs k m h2 h1 hlt
    omega
  · have : k = m := by omega
    subst this
    rw [hx] at hy; injection hy with hy; subst hy; exact hxe
theorem bs_hi {l : List Wt} {e : Int} (hs : l.Pairwise (fun x y => x.e < y.e)) {m : Nat} {x : Wt} (hx : l[m]? = some x) (h : 0 ≤ cmpE x.e e) : ∀ k y, l[k]? = some y → m ≤ k → e ≤ y.e := fun k y hy hk => by
  have hxe : e ≤ x.e := by unfold cmpE at h; split at h <;> (try split at h) <;> omega
  rcases Nat.lt_or_ge m k with hlt | hge
  · obtain ⟨h1, rfl⟩ := List.getElem?_eq_some_iff.1 hx
    obtain ⟨h2, rfl⟩ := List.getElem?_eq_some_iff.1 hy
    have := List.pairwise_iff_getElem.1 hs m k h1 h2 hlt
    omega
  · have : k = m := by omega
    subst this
    rw [hx] at hy; injection hy with hy; subst hy; exact hxe
theorem fndW_1 {l : List Wt} {i : Nat} {e : Int} (h : l.length ≤ i) : fndW l i e = false := by unfold fndW; rw [List.getElem?_eq_none h]
theorem fndW_2 {l : List Wt} {i : Nat} {e : Int} {x : Wt} (h : l[i]? = some x) : decide (cmpE x.e e = 0) = fndW l i e := by
  unfold fndW; rw [h]; simp only
  rw [decide_eq_decide]
  unfold cmpE
  constructor
  · intro h1; split at h1 <;> (try split at h1) <;> omega
  · intro h1; rw [if_neg (by omega), if_neg (by omega)]


set_option maxHeartbeats 1000000 in
theorem cmpW_spec (x : Wt) (e : Int) : Sp Tryz.prog 88 #[.agg ⟨wtc x⟩, .int .u64 e] [] (fun v F' => v = .int .i64 (cmpE x.e e) ∧ F' = []) := by
  refine f_enter (args := [.agg ⟨wtc x⟩, .int .u64 e]) Tryz.func88 rfl Tryz.ntmps88 rfl ?_
  intro w0 w a hpre hl hh
  simp only [slotsFrom, Nat.reduceAdd] at hl
  refine c_seq ?_
  refine c_region ?_
  refine wl (w_box hl hh rfl trivial rfl rfl ?_)
  clear hl hh a w; intro k2 a w hl hh
  refine wl (wl_val hl rfl trivial (r_assign hl rfl) ?_)
  clear hl a; intro a hl
  refine w_nil ?_
  have hl2 := hl.add (t := 1) (hl.add (t := 2) (hl.nil) rfl) rfl; clear hl; have hl := hl2; clear hl2
  refine then_normal ?_
  refine c_seq ?_
  refine wp_block ?_
  refine c_seq ?_
  refine c_region ?_
  refine wl (wl_val hl rfl trivial (r_field hl rfl fld150_0) ?_)
  clear hl a; intro a hl
  refine wl (w_load hl hh rfl trivial one42 rfl (by repeat (first | exact find_head | apply find_tail)) (by first | rfl) ?_)
  clear hl a; intro a hl
  refine wl (wl_val hl rfl trivial (r_move hl rfl) ?_)
  clear hl a; intro a hl
  refine wl (wl_val hl rfl trivial (r_lss hl rfl rfl) ?_)
  clear hl a; intro a hl
  refine wl (wl_val hl rfl trivial (r_assign hl rfl) ?_)
  clear hl a; intro a hl
  refine w_nil ?_
  have hl2 := hl.add (t := 1) (hl.add (t := 2) (hl.add (t := 5) (hl.nil) rfl) rfl) rfl; clear hl; have hl := hl2; clear hl2
  refine then_normal ?_
  refine c_cond hl rfl ?_ ?_
  · intro hc0
    try simp only [decide_eq_true_eq, decide_eq_false_iff_not, Bool.not_eq_true', Bool.not_eq_false', Bool.not_eq_true, Bool.not_eq_false, Bool.and_eq_true, Bool.or_eq_true, Bool.and_eq_false_iff, Bool.or_eq_false_iff, Bool.not_not, ne_eq, Int.not_lt, Int.not_le, Decidable.not_not, beq_iff_eq, bne_iff_ne] at hc0
    refine c_seq ?_
    refine c_region ?_
    refine wl (wl_val hl rfl trivial (r_assign hl rfl) ?_)
    clear hl a; intro a hl
    refine w_nil ?_
    have hl2 := hl.add (t := 4) (hl.nil) rfl; clear hl; have hl := hl2; clear hl2
    refine then_normal ?_
    refine wp_ret ?_
    refine blk_ret ?_
    refine then_ret ?_
    refine f_ret1 (F' := []) hl hh rfl rfl (by repeat (first | exact keeps_nil | apply keeps_cons (by repeat (first | exact find_head | apply find_tail)) (by first  | rfl) | exact keeps_self | apply keeps_mv)) ?_
    exact ⟨congrArg (Value.int .i64) (by unfold cmpE; rw [if_pos (by assumption)]), rfl⟩
  · intro hc0
    try simp only [decide_eq_true_eq, decide_eq_false_iff_not, Bool.not_eq_true', Bool.not_eq_false', Bool.not_eq_true, Bool.not_eq_false, Bool.and_eq_true, Bool.or_eq_true, Bool.and_eq_false_iff, Bool.or_eq_false_iff, Bool.not_not, ne_eq, Int.not_lt, Int.not_le, Decidable.not_not, beq_iff_eq, bne_iff_ne] at hc0
    refine c_seq ?_
    refine c_region ?_
    refine wl (wl_val hl rfl trivial (r_field hl rfl fld150_0) ?_)
    clear hl a; intro a hl
    refine wl (w_load hl hh rfl trivial one42 rfl (by repeat (first | exact find_head | apply find_tail)) (by first | rfl) ?_)
    clear hl a; intro a hl
    refine wl (wl_val hl rfl trivial (r_move hl rfl) ?_)
    clear hl a; intro a hl
    refine wl (wl_val hl rfl trivial (r_gtr hl rfl rfl) ?_)
    clear hl a; intro a hl
    refine wl (wl_val hl rfl trivial (r_assign hl rfl) ?_)
    clear hl a; intro a hl
    refine w_nil ?_
    have hl2 := hl.add (t := 10) (hl.nil) rfl; clear hl; have hl := hl2; clear hl2
    refine then_normal ?_
    refine c_cond hl rfl ?_ ?_
    · intro hc1
      try simp only [decide_eq_true_eq, decide_eq_false_iff_not, Bool.not_eq_true', Bool.not_eq_false', Bool.not_eq_true, Bool.not_eq_false, Bool.and_eq_true, Bool.or_eq_true, Bool.and_eq_false_iff, Bool.or_eq_false_iff, Bool.not_not, ne_eq, Int.not_lt, Int.not_le, Decidable.not_not, beq_iff_eq, bne_iff_ne] at hc1
      refine c_seq ?_
      refine c_region ?_
      refine wl (wl_val hl rfl trivial (r_assign hl rfl) ?_)
      clear hl a; intro a hl
      refine w_nil ?_
      have hl2 := hl.add (t := 4) (hl.nil) rfl; clear hl; have hl := hl2; clear hl2
      refine then_normal ?_
      refine wp_ret ?_
      refine blk_ret ?_
      refine then_ret ?_
      refine f_ret1 (F' := []) hl hh rfl rfl (by repeat (first | exact keeps_nil | apply keeps_cons (by repeat (first | exact find_head | apply find_tail)) (by first  | rfl) | exact keeps_self | apply keeps_mv)) ?_
      exact ⟨congrArg (Value.int .i64) (by unfold cmpE; rw [if_neg (by omega), if_pos (by omega)]), rfl⟩
    · intro hc1
      try simp only [decide_eq_true_eq, decide_eq_false_iff_not, Bool.not_eq_true', Bool.not_eq_false', Bool.not_eq_true, Bool.not_eq_false, Bool.and_eq_true, Bool.or_eq_true, Bool.and_eq_false_iff, Bool.or_eq_false_iff, Bool.not_not, ne_eq, Int.not_lt, Int.not_le, Decidable.not_not, beq_iff_eq, bne_iff_ne] at hc1
      refine wp_skip ?_
      refine blk_normal ?_
      refine then_normal ?_
      refine c_seq ?_
      refine c_region ?_
      refine wl (wl_val hl rfl trivial (r_assign hl rfl) ?_)
      clear hl a; intro a hl
      refine w_nil ?_
      have hl2 := hl.add (t := 4) (hl.nil) rfl; clear hl; have hl := hl2; clear hl2
      refine then_normal ?_
      refine wp_ret ?_
      refine f_ret1 (F' := []) hl hh rfl rfl (by repeat (first | exact keeps_nil | apply keeps_cons (by repeat (first | exact find_head | apply find_tail)) (by first  | rfl) | exact keeps_self | apply keeps_mv)) ?_
      exact ⟨congrArg (Value.int .i64) (by unfold cmpE; rw [if_neg (by omega), if_neg (by omega)]), rfl⟩

set_option maxHeartbeats 1000000 in
theorem bs_spec (l : List Wt) (hl9 : l.length ≤ 100000000) (p : Option Addr) (c : Nat) (E : List (Nat × Obj)) (hR : Row (.slice p l.length c) l.length (fl wtc l) 18 150 E) (e : Int) (hso : l.Pairwise (fun x y => x.e < y.e)) : SpK Tryz.prog 87 #[.slice p l.length c, .int .u64 e, .func (.func 88) #[] #[]] (Mem E) [] (fun v F' => ∃ i : Nat, i ≤ l.length ∧ (∀ k x, l[k]? = some x → (k < i ↔ x.e < e)) ∧ v = .tuple #[.int .i64 (i : Int), .bool (fndW l i e)] ∧ F' = []) := by
  refine f_enter (args := [.slice p l.length c, .int .u64 e, .func (.func 88) #[] #[]]) Tryz.func87 rfl Tryz.ntmps87 rfl ?_
  intro w0 w a hpre hl hh
  simp only [slotsFrom, Nat.reduceAdd] at hl
  refine c_seq ?_
  refine c_region ?_
  refine wl (wl_val hl rfl trivial (r_assign hl rfl) ?_)
  clear hl a; intro a hl
  refine wl (wl_val hl rfl trivial (r_assign hl rfl) ?_)
  clear hl a; intro a hl
  refine w_nil ?_
  have hl2 := hl.add (t := 0) (hl.add (t := 1) (hl.add (t := 2) (hl.nil) rfl) rfl) rfl; clear hl; have hl := hl2; clear hl2
  refine then_normal ?_
  refine c_seq ?_
  refine c_region ?_
  refine wl (wl_val hl rfl trivial (r_move hl rfl) ?_)
  clear hl a; intro a hl
  refine wl (wl_val hl rfl trivial (r_lenS hl rfl slc88) ?_)
  clear hl a; intro a hl
  refine wl (wl_val hl rfl trivial (r_assign hl rfl) ?_)
  clear hl a; intro a hl
  refine w_nil ?_
  have hl2 := hl.add (t := 0) (hl.add (t := 1) (hl.add (t := 2) (hl.add (t := 8) (hl.nil) rfl) rfl) rfl) rfl; clear hl; have hl := hl2; clear hl2
  refine then_normal ?_
  refine c_seq ?_
  refine c_region ?_
  refine wl (wl_val hl rfl trivial (r_move hl rfl) ?_)
  clear hl a; intro a hl
  refine wl (wl_val hl rfl trivial (r_assign hl rfl) ?_)
  clear hl a; intro a hl
  refine wl (wl_val hl rfl trivial (r_assign hl rfl) ?_)
  clear hl a; intro a hl
  refine w_nil ?_
  have hl2 := hl.add (t := 0) (hl.add (t := 1) (hl.add (t := 2) (hl.add (t := 8) (hl.add (t := 9) (hl.add (t := 10) (hl.nil) rfl) rfl) rfl) rfl) rfl) rfl; clear hl; have hl := hl2; clear hl2
  refine then_normal ?_
  refine c_seq ?_
  refine wp_block ?_
  obtain ⟨KS0, hKS0, hk⟩ := (hl.add (t := 0) (hl.add (t := 1) (hl.add (t := 2) (hl.add (t := 8) (hl.nil) rfl) rfl) rfl) rfl).name
  obtain ⟨HS0, hHS0, hh2⟩ := hh.name (keeps_nil)
  refine c_loop (α := BS) (fun z => z.hi - z.lo) (fun z a w => ((z.lo ≤ z.hi ∧ z.hi ≤ l.length) ∧ (∀ k x, l[k]? = some x → k < z.lo → x.e < e) ∧ (∀ k x, l[k]? = some x → z.hi ≤ k → e ≤ x.e)) ∧ Sl 49 ([(9, .int .i64 (z.lo : Int)), (10, .int .i64 (z.hi : Int))] ++ KS0) a ∧ Has _ w0 ([] ++ HS0) w) ⟨0, l.length⟩ ⟨⟨⟨Nat.zero_le _, Nat.le_refl _⟩, fun k x _ h => absurd h (Nat.not_lt_zero _), fun k x hk h => absurd (List.getElem?_eq_some_iff.1 hk).1 (by simp only at h; omega)⟩, hl.addE (t := 9) (hl.addE (t := 10) (hk) rfl (by first | rfl)) rfl (by first | rfl), hh2⟩ ?_
  clear hk hh2 hl hh a w
  intro z a w hI
  obtain ⟨⟨⟨hz1, hz2⟩, hz3, hz4⟩, hl, hh⟩ := hI
  subst hKS0; subst hHS0
  simp only [List.cons_append, List.nil_append, List.append_nil] at hl hh
  refine c_seq ?_
  refine c_seq ?_
  refine c_region ?_
  refine wl (wl_val hl rfl trivial (r_move hl rfl) ?_)
  clear hl a; intro a hl
  refine wl (wl_val hl rfl trivial (r_move hl rfl) ?_)
  clear hl a; intro a hl
  refine wl (wl_val hl rfl trivial (r_lss hl rfl rfl) ?_)
  clear hl a; intro a hl
  refine w_nil ?_
  have hl2 := hl.add (t := 0) (hl.add (t := 1) (hl.add (t := 2) (hl.add (t := 8) (hl.add (t := 9) (hl.add (t := 10) (hl.add (t := 17) (hl.nil) rfl) rfl) rfl) rfl) rfl) rfl) rfl; clear hl; have hl := hl2; clear hl2
  refine then_normal ?_
  refine c_cond hl rfl ?_ ?_
  · intro hc0
    try simp only [decide_eq_true_eq, decide_eq_false_iff_not, Bool.not_eq_true', Bool.not_eq_false', Bool.not_eq_true, Bool.not_eq_false, Bool.and_eq_true, Bool.or_eq_true, Bool.and_eq_false_iff, Bool.or_eq_false_iff, Bool.not_not, ne_eq, Int.not_lt, Int.not_le, Decidable.not_not, beq_iff_eq, bne_iff_ne] at hc0
    obtain ⟨x, hx⟩ : ∃ x, l[(z.lo + z.hi) / 2]? = some x := ⟨_, List.getElem?_eq_getElem (by omega)⟩
    obtain ⟨b, junk, hpB, hjl, hjc, hEb⟩ := row_pos hR (by omega)
    subst hpB
    have hmb : w0.heap[b]? = some (C (fl wtc l ++ junk) 150) := hpre _ _ (by rw [hEb]; simp)
    have hrd := fl_at wtc_len hx junk
    refine wp_skip ?_
    refine then_normal ?_
    refine wp_block ?_
    refine c_seq ?_
    refine c_region ?_
    refine wl (wl_val hl rfl trivial (r_move hl rfl) ?_)
    clear hl a; intro a hl
    refine wl (wl_val hl rfl trivial (r_move hl rfl) ?_)
    clear hl a; intro a hl
    first | refine wl (wl_val hl rfl trivial (r_add hl rfl rfl (by simp only [Fits]; omega)) ?_) | refine wl (wl_val hl rfl trivial (r_addW hl rfl rfl) ?_)
    clear hl a; intro a hl
    first | refine wl (wl_val hl rfl trivial (r_conv hl rfl Tryz.underlying3 Tryz.underlying136 (by simp only [Fits]; omega)) ?_) | refine wl (wl_val hl rfl trivial (r_convM wm_u64 hl rfl Tryz.underlying3 Tryz.underlying136) ?_)
    clear hl a; intro a hl
    refine wl (wl_val hl rfl trivial (r_shr hl rfl rfl (by omega)) ?_)
    clear hl a; intro a hl
    rw [show ((z.lo : Int) + (z.hi : Int)) = ((z.lo + z.hi : Nat) : Int) by omega, shr1] at hl
    first | refine wl (wl_val hl rfl trivial (r_conv hl rfl Tryz.underlying136 Tryz.underlying3 (by simp only [Fits]; omega)) ?_) | refine wl (wl_val hl rfl trivial (r_convW hl rfl Tryz.underlying136 Tryz.underlying3) ?_)
    clear hl a; intro a hl
    refine wl (wl_val hl rfl trivial (r_assign hl rfl) ?_)
    clear hl a; intro a hl
    refine w_nil ?_
    have hl2 := hl.add (t := 0) (hl.add (t := 1) (hl.add (t := 2) (hl.add (t := 8) (hl.add (t := 9) (hl.add (t := 10) (hl.add (t := 11) (hl.nil) rfl) rfl) rfl) rfl) rfl) rfl) rfl; clear hl; have hl := hl2; clear hl2
    refine then_normal ?_
    refine c_seq ?_
    refine c_region ?_
    refine wl (wl_val hl rfl trivial (r_move hl rfl) ?_)
    clear hl a; intro a hl
    refine wl (wl_val hl rfl trivial (r_move hl rfl) ?_)
    clear hl a; intro a hl
    refine wl (wl_val hl rfl trivial (r_move hl rfl) ?_)
    clear hl a; intro a hl
    refine wl (wl_val hl rfl trivial (r_indexS hl rfl rfl slc88 (by omega) (by omega) (by first | (simp only [Int.reduceToNat]; rfl) | exact toNat_add1 _ | exact toNat_add2 _ _ | exact toNat_emod _ _ | exact Int.toNat_natCast _ | rfl)) ?_)
    clear hl a; intro a hl
    first | refine wl (w_loadA hl hh rfl trivial agg150 rfl (by repeat (first | exact find_head | apply find_tail)) (by first | (simp only [List.getElem?_cons_zero, List.getElem?_cons_succ, Value.cells, List.take_zero, List.take_succ_cons, List.take_nil, List.drop_zero, List.drop_succ_cons, List.drop_nil, List.length_cons, List.length_nil, List.cons_append, List.nil_append, List.append_nil, Nat.zero_add, Nat.add_zero, Nat.reduceAdd, Nat.reduceBEq, Nat.reduceEqDiff, Nat.ble, BEq.rfl, Bool.and_true, Bool.and_self, cond_true, beq_self_eq_true]; rfl)) (by first | rfl | (simp; done)) ?_) | refine wl (w_loadRA hl hh rfl trivial agg150 rfl hmb (by simp) hrd (wtc_len _) ?_)
    clear hl a; intro a hl
    refine wl (wl_val hl rfl trivial (r_move hl rfl) ?_)
    clear hl a; intro a hl
    refine wl (w_call hl hh rfl trivial rfl cal88 rfl (cmpW_spec x e) (by repeat (first | exact keeps_nil | apply keeps_cons (by repeat (first | exact find_head | apply find_tail)) (by first  | rfl) | exact keeps_self | apply keeps_mv)) trivial ?_)
    clear hl hh a w; intro vc Fc a w hR hl hh
    obtain ⟨rfl, rfl⟩ := hR
    try simp only [List.cons_append, List.nil_append] at hh
    refine wl (wl_val hl rfl trivial (r_lss hl rfl rfl) ?_)
    clear hl a; intro a hl
    refine w_nil ?_
    have hl2 := hl.add (t := 0) (hl.add (t := 1) (hl.add (t := 2) (hl.add (t := 8) (hl.add (t := 9) (hl.add (t := 10) (hl.add (t := 11) (hl.add (t := 31) (hl.nil) rfl) rfl) rfl) rfl) rfl) rfl) rfl) rfl; clear hl; have hl := hl2; clear hl2
    refine then_normal ?_
    refine c_cond hl rfl ?_ ?_
    · intro hc1
      try simp only [decide_eq_true_eq, decide_eq_false_iff_not, Bool.not_eq_true', Bool.not_eq_false', Bool.not_eq_true, Bool.not_eq_false, Bool.and_eq_true, Bool.or_eq_true, Bool.and_eq_false_iff, Bool.or_eq_false_iff, Bool.not_not, ne_eq, Int.not_lt, Int.not_le, Decidable.not_not, beq_iff_eq, bne_iff_ne] at hc1
      refine c_region ?_
      refine wl (wl_val hl rfl trivial (r_move hl rfl) ?_)
      clear hl a; intro a hl
      first | refine wl (wl_val hl rfl trivial (r_add hl rfl rfl (by simp only [Fits]; omega)) ?_) | refine wl (wl_val hl rfl trivial (r_addW hl rfl rfl) ?_)
      clear hl a; intro a hl
      refine wl (wl_val hl rfl trivial (r_assign hl rfl) ?_)
      clear hl a; intro a hl
      refine w_nil ?_
      have hl2 := hl.add (t := 0) (hl.add (t := 1) (hl.add (t := 2) (hl.add (t := 8) (hl.add (t := 9) (hl.add (t := 10) (hl.nil) rfl) rfl) rfl) rfl) rfl) rfl; clear hl; have hl := hl2; clear hl2
      refine blk_normal ?_
      refine then_normal ?_
      first | refine ⟨⟨(z.lo + z.hi) / 2 + 1, z.hi⟩, (by simp only; omega), ⟨⟨by simp only; omega, hz2⟩, bs_lo hso hx (by assumption), hz4⟩, hl.addE (t := 9) (hl.addE (t := 10) (hl.addE (t := 0) (hl.addE (t := 1) (hl.addE (t := 2) (hl.addE (t := 8) (hl.nil) rfl (by first | rfl | exact congrArg (Value.int .i64) (by omega))) rfl (by first | rfl | exact congrArg (Value.int .i64) (by omega))) rfl (by first | rfl | exact congrArg (Value.int .i64) (by omega))) rfl (by first | rfl | exact congrArg (Value.int .i64) (by omega))) rfl (by first | rfl | exact congrArg (Value.int .i64) (by omega))) rfl (by first | rfl | exact congrArg (Value.int .i64) (by omega)), hh.keep (by repeat (first | exact keeps_nil | apply keeps_cons (by repeat (first | exact find_head | apply find_tail)) (by first  | rfl) | exact keeps_self | apply keeps_mv))⟩ | refine ⟨⟨z.lo, (z.lo + z.hi) / 2⟩, (by simp only; omega), ⟨⟨by simp only; omega, by simp only; omega⟩, hz3, bs_hi hso hx (by assumption)⟩, hl.addE (t := 9) (hl.addE (t := 10) (hl.addE (t := 0) (hl.addE (t := 1) (hl.addE (t := 2) (hl.addE (t := 8) (hl.nil) rfl (by first | rfl | exact congrArg (Value.int .i64) (by omega))) rfl (by first | rfl | exact congrArg (Value.int .i64) (by omega))) rfl (by first | rfl | exact congrArg (Value.int .i64) (by omega))) rfl (by first | rfl | exact congrArg (Value.int .i64) (by omega))) rfl (by first | rfl | exact congrArg (Value.int .i64) (by omega))) rfl (by first | rfl | exact congrArg (Value.int .i64) (by omega)), hh.keep (by repeat (first | exact keeps_nil | apply keeps_cons (by repeat (first | exact find_head | apply find_tail)) (by first  | rfl) | exact keeps_self | apply keeps_mv))⟩
    · intro hc1
      try simp only [decide_eq_true_eq, decide_eq_false_iff_not, Bool.not_eq_true', Bool.not_eq_false', Bool.not_eq_true, Bool.not_eq_false, Bool.and_eq_true, Bool.or_eq_true, Bool.and_eq_false_iff, Bool.or_eq_false_iff, Bool.not_not, ne_eq, Int.not_lt, Int.not_le, Decidable.not_not, beq_iff_eq, bne_iff_ne] at hc1
      refine c_region ?_
      refine wl (wl_val hl rfl trivial (r_move hl rfl) ?_)
      clear hl a; intro a hl
      refine wl (wl_val hl rfl trivial (r_assign hl rfl) ?_)
      clear hl a; intro a hl
      refine w_nil ?_
      have hl2 := hl.add (t := 0) (hl.add (t := 1) (hl.add (t := 2) (hl.add (t := 8) (hl.add (t := 9) (hl.add (t := 10) (hl.nil) rfl) rfl) rfl) rfl) rfl) rfl; clear hl; have hl := hl2; clear hl2
      refine blk_normal ?_
      refine then_normal ?_
      first | refine ⟨⟨(z.lo + z.hi) / 2 + 1, z.hi⟩, (by simp only; omega), ⟨⟨by simp only; omega, hz2⟩, bs_lo hso hx (by assumption), hz4⟩, hl.addE (t := 9) (hl.addE (t := 10) (hl.addE (t := 0) (hl.addE (t := 1) (hl.addE (t := 2) (hl.addE (t := 8) (hl.nil) rfl (by first | rfl | exact congrArg (Value.int .i64) (by omega))) rfl (by first | rfl | exact congrArg (Value.int .i64) (by omega))) rfl (by first | rfl | exact congrArg (Value.int .i64) (by omega))) rfl (by first | rfl | exact congrArg (Value.int .i64) (by omega))) rfl (by first | rfl | exact congrArg (Value.int .i64) (by omega))) rfl (by first | rfl | exact congrArg (Value.int .i64) (by omega)), hh.keep (by repeat (first | exact keeps_nil | apply keeps_cons (by repeat (first | exact find_head | apply find_tail)) (by first  | rfl) | exact keeps_self | apply keeps_mv))⟩ | refine ⟨⟨z.lo, (z.lo + z.hi) / 2⟩, (by simp only; omega), ⟨⟨by simp only; omega, by simp only; omega⟩, hz3, bs_hi hso hx (by assumption)⟩, hl.addE (t := 9) (hl.addE (t := 10) (hl.addE (t := 0) (hl.addE (t := 1) (hl.addE (t := 2) (hl.addE (t := 8) (hl.nil) rfl (by first | rfl | exact congrArg (Value.int .i64) (by omega))) rfl (by first | rfl | exact congrArg (Value.int .i64) (by omega))) rfl (by first | rfl | exact congrArg (Value.int .i64) (by omega))) rfl (by first | rfl | exact congrArg (Value.int .i64) (by omega))) rfl (by first | rfl | exact congrArg (Value.int .i64) (by omega))) rfl (by first | rfl | exact congrArg (Value.int .i64) (by omega)), hh.keep (by repeat (first | exact keeps_nil | apply keeps_cons (by repeat (first | exact find_head | apply find_tail)) (by first  | rfl) | exact keeps_self | apply keeps_mv))⟩
  · intro hc0
    try simp only [decide_eq_true_eq, decide_eq_false_iff_not, Bool.not_eq_true', Bool.not_eq_false', Bool.not_eq_true, Bool.not_eq_false, Bool.and_eq_true, Bool.or_eq_true, Bool.and_eq_false_iff, Bool.or_eq_false_iff, Bool.not_not, ne_eq, Int.not_lt, Int.not_le, Decidable.not_not, beq_iff_eq, bne_iff_ne] at hc0
    refine wp_exit ?_
    refine then_exit ?_
    refine then_exit ?_
    refine blk_exit ?_
    refine then_normal ?_
    refine c_seq ?_
    refine c_region ?_
    refine wl (wl_val hl rfl trivial (r_move hl rfl) ?_)
    clear hl a; intro a hl
    refine wl (wl_val hl rfl trivial (r_move hl rfl) ?_)
    clear hl a; intro a hl
    refine wl (wl_val hl rfl trivial (r_move hl rfl) ?_)
    clear hl a; intro a hl
    refine wl (wl_val hl rfl trivial (r_lss hl rfl rfl) ?_)
    clear hl a; intro a hl
    refine wl (wl_val hl rfl trivial (r_move hl rfl) ?_)
    clear hl a; intro a hl
    refine sl_split (t := 39) hl rfl ?_ ?_
    · intro hg1; clear hl; intro hl
      try simp only [decide_eq_true_eq, decide_eq_false_iff_not, Bool.not_eq_true', Bool.not_eq_false', Bool.not_eq_true, Bool.not_eq_false, Bool.and_eq_true, Bool.or_eq_true, Bool.and_eq_false_iff, Bool.or_eq_false_iff, Bool.not_not, ne_eq, Int.not_lt, Int.not_le, Decidable.not_not, beq_iff_eq, bne_iff_ne] at hg1
      refine wl (wl_val hl rfl ⟨_, _, rfl, rfl, rfl⟩ (r_move hl rfl) ?_)
      clear hl a; intro a hl
      refine wl (wl_val hl rfl ⟨_, _, rfl, rfl, rfl⟩ (r_move hl rfl) ?_)
      clear hl a; intro a hl
      refine wl (wl_val hl rfl ⟨_, _, rfl, rfl, rfl⟩ (r_move hl rfl) ?_)
      clear hl a; intro a hl
      obtain ⟨x, hx⟩ : ∃ x, l[z.lo]? = some x := ⟨_, List.getElem?_eq_getElem (by omega)⟩
      obtain ⟨b, junk, hpB, hjl, hjc, hEb⟩ := row_pos hR (by omega)
      subst hpB
      have hmb : w0.heap[b]? = some (C (fl wtc l ++ junk) 150) := hpre _ _ (by rw [hEb]; simp)
      have hrd := fl_at wtc_len hx junk
      refine wl (wl_val hl rfl ⟨_, _, rfl, rfl, rfl⟩ (r_indexS hl rfl rfl slc88 (by omega) (by omega) (by first | (simp only [Int.reduceToNat]; rfl) | exact toNat_add1 _ | exact toNat_add2 _ _ | exact toNat_emod _ _ | exact Int.toNat_natCast _ | rfl)) ?_)
      clear hl a; intro a hl
      first | refine wl (w_loadA hl hh rfl ⟨_, _, rfl, rfl, rfl⟩ agg150 rfl (by repeat (first | exact find_head | apply find_tail)) (by first | (simp only [List.getElem?_cons_zero, List.getElem?_cons_succ, Value.cells, List.take_zero, List.take_succ_cons, List.take_nil, List.drop_zero, List.drop_succ_cons, List.drop_nil, List.length_cons, List.length_nil, List.cons_append, List.nil_append, List.append_nil, Nat.zero_add, Nat.add_zero, Nat.reduceAdd, Nat.reduceBEq, Nat.reduceEqDiff, Nat.ble, BEq.rfl, Bool.and_true, Bool.and_self, cond_true, beq_self_eq_true]; rfl)) (by first | rfl | (simp; done)) ?_) | refine wl (w_loadRA hl hh rfl ⟨_, _, rfl, rfl, rfl⟩ agg150 rfl hmb (by simp) hrd (wtc_len _) ?_)
      clear hl a; intro a hl
      refine wl (wl_val hl rfl ⟨_, _, rfl, rfl, rfl⟩ (r_move hl rfl) ?_)
      clear hl a; intro a hl
      refine wl (w_call hl hh rfl ⟨_, _, rfl, rfl, rfl⟩ rfl cal88 rfl (cmpW_spec x e) (by repeat (first | exact keeps_nil | apply keeps_cons (by repeat (first | exact find_head | apply find_tail)) (by first  | rfl) | exact keeps_self | apply keeps_mv)) trivial ?_)
      clear hl hh a w; intro vc Fc a w hR hl hh
      obtain ⟨rfl, rfl⟩ := hR
      try simp only [List.cons_append, List.nil_append] at hh
      refine wl (wl_val hl rfl ⟨_, _, rfl, rfl, rfl⟩ (r_eql hl rfl rfl) ?_)
      clear hl a; intro a hl
      refine wl (wl_val hl rfl trivial (r_pickT hl rfl rfl) ?_)
      clear hl a; intro a hl
      refine wl (wl_val hl rfl trivial (r_assign hl rfl) ?_)
      clear hl a; intro a hl
      refine wl (wl_val hl rfl trivial (r_assign hl rfl) ?_)
      clear hl a; intro a hl
      refine w_nil ?_
      have hl2 := hl.add (t := 6) (hl.add (t := 7) (hl.nil) rfl) rfl; clear hl; have hl := hl2; clear hl2
      refine then_normal ?_
      refine wp_ret ?_
      refine f_ret2 (F' := []) hl hh rfl rfl rfl (by repeat (first | exact keeps_nil | apply keeps_cons (by repeat (first | exact find_head | apply find_tail)) (by first  | rfl) | exact keeps_self | apply keeps_mv)) ?_
      exact ⟨z.lo, by omega, fun k x hk => ⟨fun h => hz3 k x hk h, fun h => Classical.byContradiction fun hn => absurd (hz4 k x hk (by omega)) (by omega)⟩, by first | rw [fndW_1 (by omega)] | rw [← fndW_2 hx], rfl⟩
    · intro hg1; clear hl; intro hl
      try simp only [decide_eq_true_eq, decide_eq_false_iff_not, Bool.not_eq_true', Bool.not_eq_false', Bool.not_eq_true, Bool.not_eq_false, Bool.and_eq_true, Bool.or_eq_true, Bool.and_eq_false_iff, Bool.or_eq_false_iff, Bool.not_not, ne_eq, Int.not_lt, Int.not_le, Decidable.not_not, beq_iff_eq, bne_iff_ne] at hg1
      refine wl (wl_skip hl rfl ⟨_, _, rfl, rfl, rfl⟩ ?_)
      clear hl a; intro a hl
      refine wl (wl_skip hl rfl ⟨_, _, rfl, rfl, rfl⟩ ?_)
      clear hl a; intro a hl
      refine wl (wl_skip hl rfl ⟨_, _, rfl, rfl, rfl⟩ ?_)
      clear hl a; intro a hl
      refine wl (wl_skip hl rfl ⟨_, _, rfl, rfl, rfl⟩ ?_)
      clear hl a; intro a hl
      refine wl (wl_skip hl rfl ⟨_, _, rfl, rfl, rfl⟩ ?_)
      clear hl a; intro a hl
      refine wl (wl_skip hl rfl ⟨_, _, rfl, rfl, rfl⟩ ?_)
      clear hl a; intro a hl
      refine wl (wl_skip hl rfl ⟨_, _, rfl, rfl, rfl⟩ ?_)
      clear hl a; intro a hl
      refine wl (wl_skip hl rfl ⟨_, _, rfl, rfl, rfl⟩ ?_)
      clear hl a; intro a hl
      refine wl (wl_val hl rfl trivial (r_pickF hl rfl rfl) ?_)
      clear hl a; intro a hl
      refine wl (wl_val hl rfl trivial (r_assign hl rfl) ?_)
      clear hl a; intro a hl
      refine wl (wl_val hl rfl trivial (r_assign hl rfl) ?_)
      clear hl a; intro a hl
      refine w_nil ?_
      have hl2 := hl.add (t := 6) (hl.add (t := 7) (hl.nil) rfl) rfl; clear hl; have hl := hl2; clear hl2
      refine then_normal ?_
      refine wp_ret ?_
      refine f_ret2 (F' := []) hl hh rfl rfl rfl (by repeat (first | exact keeps_nil | apply keeps_cons (by repeat (first | exact find_head | apply find_tail)) (by first  | rfl) | exact keeps_self | apply keeps_mv)) ?_
      exact ⟨z.lo, by omega, fun k x hk => ⟨fun h => hz3 k x hk h, fun h => Classical.byContradiction fun hn => absurd (hz4 k x hk (by omega)) (by omega)⟩, by first | rw [fndW_1 (by omega)] | rw [← fndW_2 hx], rfl⟩
end Go.Proofs.Qxb6500911aGreatDoor

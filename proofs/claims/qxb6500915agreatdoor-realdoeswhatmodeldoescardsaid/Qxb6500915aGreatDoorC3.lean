import Derived.Test.Qxb6500915aGreatDoorC2
namespace Go.Proofs.Qxb6500915aGreatDoor
open Go.Eng
set_option linter.unusedVariables false
set_option linter.unusedSimpArgs false

theorem cellz {l cs : List Value} {o o' n j : Nat} {v : Value} (h : (l.drop o).take n = cs) (hj : cs[j]? = some v) (ho : o' = o + j) : l[o']? = some v := by
  rw [ho, ← List.getElem?_drop]
  rw [← h, List.getElem?_take] at hj
  split at hj
  · exact hj
  · cases hj
theorem len_max {s : ByteArray} (h : s.size ≤ 4000000000000000000) : s.data.toList.length ≤ maxLen := by
  have : s.data.toList.length = s.size := rfl
  unfold maxLen; omega
/-- a step of any size -/
structure OpW (x : OpV) : Prop where
  k : 0 ≤ x.k ∧ x.k ≤ 255
  o : 0 ≤ x.o ∧ x.o ≤ 255
  lk : 0 ≤ x.lk ∧ x.lk ≤ 255
  lo : 0 ≤ x.lo ∧ x.lo ≤ 255
  t : VwG 4 (.slice x.tp x.ts.length x.tc) x.ts.length (fl tmc x.ts) x.tZ
  l : VwG 4 (.slice x.lq x.ls.length x.lc) x.ls.length (fl tmc x.ls) x.lZ
  tk : ∀ t, t ∈ x.ts → t.ok
  lks : ∀ t, t ∈ x.ls → t.ok
  z : x.p.size ≤ 4000000000000000000 ∧ x.lp.size ≤ 4000000000000000000 ∧ x.ts.length ≤ 4000000000000000000 ∧ x.ls.length ≤ 4000000000000000000
  tz : ∀ t, t ∈ x.ts → t.s.size ≤ 4000000000000000000
  lz : ∀ t, t ∈ x.ls → t.s.size ≤ 4000000000000000000
structure Small (ops : List OpV) : Prop where
  len : ops.length ≤ 65536
  t : ∀ x, x ∈ ops → x.ts.length ≤ 65536
  l : ∀ x, x ∈ ops → x.ls.length ≤ 65536
theorem OpW.ok {x : OpV} (h : OpW x) (h1 : x.ts.length ≤ 65536) (h2 : x.ls.length ≤ 65536) : x.ok := ⟨h.k, h.o, h.lk, h.lo, len_max h.z.1, len_max h.z.2.1, ⟨h.t, h1, h.tk⟩, ⟨h.l, h2, h.lks⟩⟩
structure SM where
  i : Nat
  n : Int
theorem small_of {ops : List OpV} (h0 : ops.length ≤ 65536) (h : ∀ j x, j < ops.length → ops[j]? = some x → x.ts.length ≤ 65536 ∧ x.ls.length ≤ 65536) : Small ops := by
  refine ⟨h0, fun x hx => ?_, fun x hx => ?_⟩ <;> obtain ⟨j, hj, rfl⟩ := List.getElem_of_mem hx
  · exact (h j _ hj (List.getElem?_eq_getElem hj)).1
  · exact (h j _ hj (List.getElem?_eq_getElem hj)).2
theorem small_snoc {ops : List OpV} {i : Nat} {y : OpV} (h : ∀ j x, j < i → ops[j]? = some x → x.ts.length ≤ 65536 ∧ x.ls.length ≤ 65536) (hy : ops[i]? = some y) (h1 : y.ts.length ≤ 65536) (h2 : y.ls.length ≤ 65536) : ∀ j x, j < i + 1 → ops[j]? = some x → x.ts.length ≤ 65536 ∧ x.ls.length ≤ 65536 := by
  intro j z hj hz
  by_cases e : j = i
  · rw [e, hy] at hz
    injection hz with hz
    subst hz
    exact ⟨h1, h2⟩
  · exact h j z (by omega) hz


set_option maxHeartbeats 16000000 in
theorem small_spec (p : Option Addr) (c : Nat) (ops : List OpV) (Z0 : List (Nat × Obj)) (hS : VwG 9 (.slice p ops.length c) ops.length (fl OpV.c9 ops) Z0) (hO : ∀ x, x ∈ ops → OpW x) (hol : ops.length ≤ 4000000000000000000) : SpK Tryz.prog 4 #[.slice p ops.length c] (Scr p c ops Z0) [] (fun v F' => ∃ b, v = .bool b ∧ (b = true → Small ops) ∧ F' = []) := by
  refine f_enter (args := [.slice p ops.length c]) Tryz.func4 rfl Tryz.ntmps4 rfl ?_
  intro w0 w a hpre hl hh
  simp only [slotsFrom, Nat.reduceAdd] at hl
  refine c_seq ?_
  refine c_region ?_
  refine wl (wl_val hl rfl trivial (r_assign hl rfl) ?_)
  clear hl a; intro a hl
  refine w_nil ?_
  have hl2 := hl.add (t := 0) (hl.nil) rfl; clear hl; have hl := hl2; clear hl2
  refine then_normal ?_
  refine c_seq ?_
  refine c_region ?_
  refine wl (wl_val hl rfl trivial (r_move hl rfl) ?_)
  clear hl a; intro a hl
  refine wl (wl_val hl rfl trivial (r_lenS hl rfl slc22) ?_)
  clear hl a; intro a hl
  refine wl (wl_val hl rfl trivial (r_assign hl rfl) ?_)
  clear hl a; intro a hl
  refine w_nil ?_
  have hl2 := hl.add (t := 0) (hl.add (t := 3) (hl.nil) rfl) rfl; clear hl; have hl := hl2; clear hl2
  refine then_normal ?_
  refine c_seq ?_
  refine c_seq ?_
  refine c_region ?_
  refine wl (wl_val hl rfl trivial (r_move hl rfl) ?_)
  clear hl a; intro a hl
  refine wl (wl_val hl rfl trivial (r_gtr hl rfl rfl) ?_)
  clear hl a; intro a hl
  refine w_nil ?_
  have hl2 := hl.add (t := 0) (hl.add (t := 3) (hl.add (t := 10) (hl.nil) rfl) rfl) rfl; clear hl; have hl := hl2; clear hl2
  refine then_normal ?_
  refine c_cond hl rfl ?_ ?_
  · intro hc0
    try simp only [decide_eq_true_eq, decide_eq_false_iff_not, Bool.not_eq_true', Bool.not_eq_false', Bool.not_eq_true, Bool.not_eq_false, Bool.and_eq_true, Bool.or_eq_true, Bool.and_eq_false_iff, Bool.or_eq_false_iff, Bool.not_not, ne_eq, Int.not_lt, Int.not_le, Decidable.not_not, beq_iff_eq, bne_iff_ne] at hc0
    refine c_seq ?_
    refine c_region ?_
    refine wl (wl_val hl rfl trivial (r_assign hl rfl) ?_)
    clear hl a; intro a hl
    refine w_nil ?_
    have hl2 := hl.add (t := 2) (hl.nil) rfl; clear hl; have hl := hl2; clear hl2
    refine then_normal ?_
    refine wp_ret ?_
    refine then_ret ?_
    refine f_ret1 (F' := []) hl hh rfl rfl (by repeat (first | exact keeps_nil | apply keeps_cons (by repeat (first | exact find_head | apply find_tail)) (by first  | rfl) | exact keeps_self | apply keeps_mv)) ?_
    exact ⟨false, rfl, (fun h => by cases h), rfl⟩
  · intro hc0
    try simp only [decide_eq_true_eq, decide_eq_false_iff_not, Bool.not_eq_true', Bool.not_eq_false', Bool.not_eq_true, Bool.not_eq_false, Bool.and_eq_true, Bool.or_eq_true, Bool.and_eq_false_iff, Bool.or_eq_false_iff, Bool.not_not, ne_eq, Int.not_lt, Int.not_le, Decidable.not_not, beq_iff_eq, bne_iff_ne] at hc0
    refine wp_skip ?_
    refine then_normal ?_
    refine c_seq ?_
    refine c_seq ?_
    refine c_region ?_
    refine wl (wl_val hl rfl trivial (r_assign hl rfl) ?_)
    clear hl a; intro a hl
    refine w_nil ?_
    have hl2 := hl.add (t := 0) (hl.add (t := 3) (hl.add (t := 4) (hl.nil) rfl) rfl) rfl; clear hl; have hl := hl2; clear hl2
    refine then_normal ?_
    refine wp_block ?_
    obtain ⟨KS0, hKS0, hk⟩ := (hl.add (t := 0) (hl.nil) rfl).name
    obtain ⟨HS0, hHS0, hh2⟩ := hh.name (keeps_nil)
    refine c_loop (α := SM) (fun z => ops.length - z.i) (fun z a w => ((z.i ≤ ops.length ∧ 0 ≤ z.n ∧ z.n ≤ 65536) ∧ ∀ j x, j < z.i → ops[j]? = some x → x.ts.length ≤ 65536 ∧ x.ls.length ≤ 65536) ∧ Sl 113 ([(4, .int .i64 (z.i : Int)), (3, .int .i64 z.n)] ++ KS0) a ∧ Has _ w0 ([] ++ HS0) w) ⟨0, (ops.length : Int)⟩ ⟨⟨⟨Nat.zero_le _, by simp only; omega, by simp only; omega⟩, fun j x h => absurd h (Nat.not_lt_zero _)⟩, hl.addE (t := 4) (hl.addE (t := 3) (hk) rfl (by first | rfl)) rfl (by first | rfl), hh2⟩ ?_
    clear hk hh2 hl hh a w
    intro z a w hI
    obtain ⟨⟨⟨hi, hn0, hn1⟩, hb⟩, hl, hh⟩ := hI
    subst hKS0; subst hHS0
    simp only [List.cons_append, List.nil_append, List.append_nil] at hl hh
    refine c_seq ?_
    refine c_seq ?_
    refine c_region ?_
    refine wl (wl_val hl rfl trivial (r_move hl rfl) ?_)
    clear hl a; intro a hl
    refine wl (wl_val hl rfl trivial (r_move hl rfl) ?_)
    clear hl a; intro a hl
    refine wl (wl_val hl rfl trivial (r_lenS hl rfl slc22) ?_)
    clear hl a; intro a hl
    refine wl (wl_val hl rfl trivial (r_lss hl rfl rfl) ?_)
    clear hl a; intro a hl
    refine w_nil ?_
    have hl2 := hl.add (t := 0) (hl.add (t := 3) (hl.add (t := 4) (hl.add (t := 14) (hl.nil) rfl) rfl) rfl) rfl; clear hl; have hl := hl2; clear hl2
    refine then_normal ?_
    refine c_cond hl rfl ?_ ?_
    · intro hc1
      try simp only [decide_eq_true_eq, decide_eq_false_iff_not, Bool.not_eq_true', Bool.not_eq_false', Bool.not_eq_true, Bool.not_eq_false, Bool.and_eq_true, Bool.or_eq_true, Bool.and_eq_false_iff, Bool.or_eq_false_iff, Bool.not_not, ne_eq, Int.not_lt, Int.not_le, Decidable.not_not, beq_iff_eq, bne_iff_ne] at hc1
      obtain ⟨x, hx⟩ : ∃ x, ops[z.i]? = some x := ⟨_, List.getElem?_eq_getElem (by omega)⟩
      have hxm := List.mem_of_getElem? hx
      have hxo := hO x hxm
      have hxz := hxo.z
      obtain ⟨b1, o1, l1, T1, f1, hq1, hpc1, hm1, hd1⟩ := vwg_at c9_len hS hx hpre.z
      rw [hq1] at hl
      simp only [OpV.c9] at hd1
      refine wp_skip ?_
      refine then_normal ?_
      refine c_seq ?_
      refine wp_block ?_
      refine c_seq ?_
      refine c_region ?_
      refine wl (wl_val hl rfl trivial (r_move hl rfl) ?_)
      clear hl a; intro a hl
      refine wl (wl_val hl rfl trivial (r_move hl rfl) ?_)
      clear hl a; intro a hl
      refine wl (wl_val hl rfl trivial (r_move hl rfl) ?_)
      clear hl a; intro a hl
      refine wl (wl_val hl rfl trivial (r_indexS hl rfl rfl slc22 (by omega) (by omega) (by first | (simp only [Int.reduceToNat]; rfl) | exact toNat_add1 _ | exact toNat_add2 _ _ | exact toNat_emod _ _ | exact Int.toNat_natCast _ | rfl)) ?_)
      clear hl a; intro a hl
      refine wl (wl_val hl rfl trivial (r_field hl rfl fld51_1) ?_)
      clear hl a; intro a hl
      first | refine wl (w_load hl hh rfl trivial one9 rfl (by repeat (first | exact find_head | apply find_tail)) (by first | rfl) ?_) | refine wl (w_loadR hl hh rfl trivial one9 rfl hm1 (by simp) (cellz (j := 1) hd1 rfl (by omega)) ?_) | refine wl (w_loadR hl hh rfl trivial one9 rfl hm1 (by simp) (cellz (j := 2) hd1 rfl (by omega)) ?_) | refine wl (w_loadR hl hh rfl trivial one9 rfl hm1 (by simp) (cellz (j := 6) hd1 rfl (by omega)) ?_) | refine wl (w_loadR hl hh rfl trivial one9 rfl hm1 (by simp) (cellz (j := 7) hd1 rfl (by omega)) ?_) | refine wl (w_loadR hl hh rfl trivial one9 rfl hm3 (by simp) (cellz (j := 3) hd3 rfl (by omega)) ?_) | refine wl (w_loadR hl hh rfl trivial one9 rfl hm4 (by simp) (cellz (j := 3) hd4 rfl (by omega)) ?_)
      clear hl a; intro a hl
      refine wl (wl_val hl rfl trivial (r_lenStr hl rfl Tryz.underlying9) ?_)
      clear hl a; intro a hl
      first | refine wl (wl_val hl rfl trivial (r_add hl rfl rfl (by simp only [Fits]; omega)) ?_) | refine wl (wl_val hl rfl trivial (r_addW hl rfl rfl) ?_)
      clear hl a; intro a hl
      refine wl (wl_val hl rfl trivial (r_assign hl rfl) ?_)
      clear hl a; intro a hl
      refine w_nil ?_
      have hl2 := hl.add (t := 0) (hl.add (t := 3) (hl.add (t := 4) (hl.nil) rfl) rfl) rfl; clear hl; have hl := hl2; clear hl2
      refine then_normal ?_
      refine c_seq ?_
      refine c_seq ?_
      refine c_region ?_
      refine wl (wl_val hl rfl trivial (r_move hl rfl) ?_)
      clear hl a; intro a hl
      refine wl (wl_val hl rfl trivial (r_gtr hl rfl rfl) ?_)
      clear hl a; intro a hl
      refine w_nil ?_
      have hl2 := hl.add (t := 0) (hl.add (t := 3) (hl.add (t := 4) (hl.add (t := 26) (hl.nil) rfl) rfl) rfl) rfl; clear hl; have hl := hl2; clear hl2
      refine then_normal ?_
      refine c_cond hl rfl ?_ ?_
      · intro hc2
        try simp only [decide_eq_true_eq, decide_eq_false_iff_not, Bool.not_eq_true', Bool.not_eq_false', Bool.not_eq_true, Bool.not_eq_false, Bool.and_eq_true, Bool.or_eq_true, Bool.and_eq_false_iff, Bool.or_eq_false_iff, Bool.not_not, ne_eq, Int.not_lt, Int.not_le, Decidable.not_not, beq_iff_eq, bne_iff_ne] at hc2
        refine c_seq ?_
        refine c_region ?_
        refine wl (wl_val hl rfl trivial (r_assign hl rfl) ?_)
        clear hl a; intro a hl
        refine w_nil ?_
        have hl2 := hl.add (t := 2) (hl.nil) rfl; clear hl; have hl := hl2; clear hl2
        refine then_normal ?_
        refine wp_ret ?_
        refine then_ret ?_
        refine blk_ret ?_
        refine then_ret ?_
        refine then_ret ?_
        refine blk_ret ?_
        refine then_ret ?_
        refine f_ret1 (F' := []) hl hh rfl rfl (by repeat (first | exact keeps_nil | apply keeps_cons (by repeat (first | exact find_head | apply find_tail)) (by first  | rfl) | exact keeps_self | apply keeps_mv)) ?_
        exact ⟨false, rfl, (fun h => by cases h), rfl⟩
      · intro hc2
        try simp only [decide_eq_true_eq, decide_eq_false_iff_not, Bool.not_eq_true', Bool.not_eq_false', Bool.not_eq_true, Bool.not_eq_false, Bool.and_eq_true, Bool.or_eq_true, Bool.and_eq_false_iff, Bool.or_eq_false_iff, Bool.not_not, ne_eq, Int.not_lt, Int.not_le, Decidable.not_not, beq_iff_eq, bne_iff_ne] at hc2
        refine wp_skip ?_
        refine then_normal ?_
        refine c_seq ?_
        refine c_region ?_
        refine wl (wl_val hl rfl trivial (r_move hl rfl) ?_)
        clear hl a; intro a hl
        refine wl (wl_val hl rfl trivial (r_move hl rfl) ?_)
        clear hl a; intro a hl
        refine wl (wl_val hl rfl trivial (r_move hl rfl) ?_)
        clear hl a; intro a hl
        refine wl (wl_val hl rfl trivial (r_indexS hl rfl rfl slc22 (by omega) (by omega) (by first | (simp only [Int.reduceToNat]; rfl) | exact toNat_add1 _ | exact toNat_add2 _ _ | exact toNat_emod _ _ | exact Int.toNat_natCast _ | rfl)) ?_)
        clear hl a; intro a hl
        refine wl (wl_val hl rfl trivial (r_field hl rfl fld51_2) ?_)
        clear hl a; intro a hl
        first | refine wl (w_load hl hh rfl trivial one42 rfl (by repeat (first | exact find_head | apply find_tail)) (by first | rfl) ?_) | refine wl (w_loadR hl hh rfl trivial one42 rfl hm1 (by simp) (cellz (j := 1) hd1 rfl (by omega)) ?_) | refine wl (w_loadR hl hh rfl trivial one42 rfl hm1 (by simp) (cellz (j := 2) hd1 rfl (by omega)) ?_) | refine wl (w_loadR hl hh rfl trivial one42 rfl hm1 (by simp) (cellz (j := 6) hd1 rfl (by omega)) ?_) | refine wl (w_loadR hl hh rfl trivial one42 rfl hm1 (by simp) (cellz (j := 7) hd1 rfl (by omega)) ?_) | refine wl (w_loadR hl hh rfl trivial one42 rfl hm3 (by simp) (cellz (j := 3) hd3 rfl (by omega)) ?_) | refine wl (w_loadR hl hh rfl trivial one42 rfl hm4 (by simp) (cellz (j := 3) hd4 rfl (by omega)) ?_)
        clear hl a; intro a hl
        refine wl (wl_val hl rfl trivial (r_lenS hl rfl slc42) ?_)
        clear hl a; intro a hl
        first | refine wl (wl_val hl rfl trivial (r_add hl rfl rfl (by simp only [Fits]; omega)) ?_) | refine wl (wl_val hl rfl trivial (r_addW hl rfl rfl) ?_)
        clear hl a; intro a hl
        refine wl (wl_val hl rfl trivial (r_assign hl rfl) ?_)
        clear hl a; intro a hl
        refine w_nil ?_
        have hl2 := hl.add (t := 0) (hl.add (t := 3) (hl.add (t := 4) (hl.nil) rfl) rfl) rfl; clear hl; have hl := hl2; clear hl2
        refine then_normal ?_
        refine c_seq ?_
        refine c_seq ?_
        refine c_region ?_
        refine wl (wl_val hl rfl trivial (r_move hl rfl) ?_)
        clear hl a; intro a hl
        refine wl (wl_val hl rfl trivial (r_gtr hl rfl rfl) ?_)
        clear hl a; intro a hl
        refine w_nil ?_
        have hl2 := hl.add (t := 0) (hl.add (t := 3) (hl.add (t := 4) (hl.add (t := 36) (hl.nil) rfl) rfl) rfl) rfl; clear hl; have hl := hl2; clear hl2
        refine then_normal ?_
        refine c_cond hl rfl ?_ ?_
        · intro hc3
          try simp only [decide_eq_true_eq, decide_eq_false_iff_not, Bool.not_eq_true', Bool.not_eq_false', Bool.not_eq_true, Bool.not_eq_false, Bool.and_eq_true, Bool.or_eq_true, Bool.and_eq_false_iff, Bool.or_eq_false_iff, Bool.not_not, ne_eq, Int.not_lt, Int.not_le, Decidable.not_not, beq_iff_eq, bne_iff_ne] at hc3
          refine c_seq ?_
          refine c_region ?_
          refine wl (wl_val hl rfl trivial (r_assign hl rfl) ?_)
          clear hl a; intro a hl
          refine w_nil ?_
          have hl2 := hl.add (t := 2) (hl.nil) rfl; clear hl; have hl := hl2; clear hl2
          refine then_normal ?_
          refine wp_ret ?_
          refine then_ret ?_
          refine blk_ret ?_
          refine then_ret ?_
          refine then_ret ?_
          refine blk_ret ?_
          refine then_ret ?_
          refine f_ret1 (F' := []) hl hh rfl rfl (by repeat (first | exact keeps_nil | apply keeps_cons (by repeat (first | exact find_head | apply find_tail)) (by first  | rfl) | exact keeps_self | apply keeps_mv)) ?_
          exact ⟨false, rfl, (fun h => by cases h), rfl⟩
        · intro hc3
          try simp only [decide_eq_true_eq, decide_eq_false_iff_not, Bool.not_eq_true', Bool.not_eq_false', Bool.not_eq_true, Bool.not_eq_false, Bool.and_eq_true, Bool.or_eq_true, Bool.and_eq_false_iff, Bool.or_eq_false_iff, Bool.not_not, ne_eq, Int.not_lt, Int.not_le, Decidable.not_not, beq_iff_eq, bne_iff_ne] at hc3
          have hxt : x.ts.length ≤ 65536 := by omega
          refine wp_skip ?_
          refine then_normal ?_
          refine c_seq ?_
          refine c_seq ?_
          refine c_region ?_
          refine wl (wl_val hl rfl trivial (r_assign hl rfl) ?_)
          clear hl a; intro a hl
          refine w_nil ?_
          have hl2 := hl.add (t := 0) (hl.add (t := 3) (hl.add (t := 4) (hl.add (t := 5) (hl.nil) rfl) rfl) rfl) rfl; clear hl; have hl := hl2; clear hl2
          refine then_normal ?_
          refine wp_block ?_
          obtain ⟨KS1, hKS1, hk⟩ := (hl.add (t := 0) (hl.add (t := 4) (hl.nil) rfl) rfl).name
          obtain ⟨HS1, hHS1, hh2⟩ := hh.name (keeps_nil)
          refine c_loop (α := SM) (fun u => x.ts.length - u.i) (fun u a w => (u.i ≤ x.ts.length ∧ 0 ≤ u.n ∧ u.n ≤ 65536) ∧ Sl 113 ([(5, .int .i64 (u.i : Int)), (3, .int .i64 u.n)] ++ KS1) a ∧ Has _ w0 ([] ++ HS1) w) ⟨0, z.n + (x.p.size : Int) + (x.ts.length : Int)⟩ ⟨⟨Nat.zero_le _, by simp only; omega, by simp only; omega⟩, hl.addE (t := 5) (hl.addE (t := 3) (hk) rfl (by first | rfl)) rfl (by first | rfl), hh2⟩ ?_
          clear hk hh2 hl hh a w
          intro u a w hI
          obtain ⟨⟨hu, hu0, hu1⟩, hl, hh⟩ := hI
          subst hKS1; subst hHS1
          simp only [List.cons_append, List.nil_append, List.append_nil] at hl hh
          refine c_seq ?_
          refine c_seq ?_
          refine c_region ?_
          refine wl (wl_val hl rfl trivial (r_move hl rfl) ?_)
          clear hl a; intro a hl
          refine wl (wl_val hl rfl trivial (r_move hl rfl) ?_)
          clear hl a; intro a hl
          refine wl (wl_val hl rfl trivial (r_move hl rfl) ?_)
          clear hl a; intro a hl
          refine wl (wl_val hl rfl trivial (r_indexS hl rfl rfl slc22 (by omega) (by omega) (by first | (simp only [Int.reduceToNat]; rfl) | exact toNat_add1 _ | exact toNat_add2 _ _ | exact toNat_emod _ _ | exact Int.toNat_natCast _ | rfl)) ?_)
          clear hl a; intro a hl
          refine wl (wl_val hl rfl trivial (r_field hl rfl fld51_2) ?_)
          clear hl a; intro a hl
          first | refine wl (w_load hl hh rfl trivial one42 rfl (by repeat (first | exact find_head | apply find_tail)) (by first | rfl) ?_) | refine wl (w_loadR hl hh rfl trivial one42 rfl hm1 (by simp) (cellz (j := 1) hd1 rfl (by omega)) ?_) | refine wl (w_loadR hl hh rfl trivial one42 rfl hm1 (by simp) (cellz (j := 2) hd1 rfl (by omega)) ?_) | refine wl (w_loadR hl hh rfl trivial one42 rfl hm1 (by simp) (cellz (j := 6) hd1 rfl (by omega)) ?_) | refine wl (w_loadR hl hh rfl trivial one42 rfl hm1 (by simp) (cellz (j := 7) hd1 rfl (by omega)) ?_) | refine wl (w_loadR hl hh rfl trivial one42 rfl hm3 (by simp) (cellz (j := 3) hd3 rfl (by omega)) ?_) | refine wl (w_loadR hl hh rfl trivial one42 rfl hm4 (by simp) (cellz (j := 3) hd4 rfl (by omega)) ?_)
          clear hl a; intro a hl
          refine wl (wl_val hl rfl trivial (r_lenS hl rfl slc42) ?_)
          clear hl a; intro a hl
          refine wl (wl_val hl rfl trivial (r_lss hl rfl rfl) ?_)
          clear hl a; intro a hl
          refine w_nil ?_
          have hl2 := hl.add (t := 0) (hl.add (t := 3) (hl.add (t := 4) (hl.add (t := 5) (hl.add (t := 44) (hl.nil) rfl) rfl) rfl) rfl) rfl; clear hl; have hl := hl2; clear hl2
          refine then_normal ?_
          refine c_cond hl rfl ?_ ?_
          · intro hc4
            try simp only [decide_eq_true_eq, decide_eq_false_iff_not, Bool.not_eq_true', Bool.not_eq_false', Bool.not_eq_true, Bool.not_eq_false, Bool.and_eq_true, Bool.or_eq_true, Bool.and_eq_false_iff, Bool.or_eq_false_iff, Bool.not_not, ne_eq, Int.not_lt, Int.not_le, Decidable.not_not, beq_iff_eq, bne_iff_ne] at hc4
            obtain ⟨t1, ht1⟩ : ∃ t, x.ts[u.i]? = some t := ⟨_, List.getElem?_eq_getElem (by omega)⟩
            obtain ⟨b3, o3, l3, T3, f3, hq3, hpc3, hm3, hd3⟩ := vwg_at tmc_len hxo.t ht1 (hpre.t x hxm)
            have ht1z := hxo.tz t1 (List.mem_of_getElem? ht1)
            simp only [tmc] at hd3
            refine wp_skip ?_
            refine then_normal ?_
            refine c_seq ?_
            refine wp_block ?_
            refine c_seq ?_
            refine c_region ?_
            refine wl (wl_val hl rfl trivial (r_move hl rfl) ?_)
            clear hl a; intro a hl
            refine wl (wl_val hl rfl trivial (r_move hl rfl) ?_)
            clear hl a; intro a hl
            refine wl (wl_val hl rfl trivial (r_move hl rfl) ?_)
            clear hl a; intro a hl
            refine wl (wl_val hl rfl trivial (r_indexS hl rfl rfl slc22 (by omega) (by omega) (by first | (simp only [Int.reduceToNat]; rfl) | exact toNat_add1 _ | exact toNat_add2 _ _ | exact toNat_emod _ _ | exact Int.toNat_natCast _ | rfl)) ?_)
            clear hl a; intro a hl
            refine wl (wl_val hl rfl trivial (r_field hl rfl fld51_2) ?_)
            clear hl a; intro a hl
            first | refine wl (w_load hl hh rfl trivial one42 rfl (by repeat (first | exact find_head | apply find_tail)) (by first | rfl) ?_) | refine wl (w_loadR hl hh rfl trivial one42 rfl hm1 (by simp) (cellz (j := 1) hd1 rfl (by omega)) ?_) | refine wl (w_loadR hl hh rfl trivial one42 rfl hm1 (by simp) (cellz (j := 2) hd1 rfl (by omega)) ?_) | refine wl (w_loadR hl hh rfl trivial one42 rfl hm1 (by simp) (cellz (j := 6) hd1 rfl (by omega)) ?_) | refine wl (w_loadR hl hh rfl trivial one42 rfl hm1 (by simp) (cellz (j := 7) hd1 rfl (by omega)) ?_) | refine wl (w_loadR hl hh rfl trivial one42 rfl hm3 (by simp) (cellz (j := 3) hd3 rfl (by omega)) ?_) | refine wl (w_loadR hl hh rfl trivial one42 rfl hm4 (by simp) (cellz (j := 3) hd4 rfl (by omega)) ?_)
            clear hl a; intro a hl
            rw [hq3] at hl
            refine wl (wl_val hl rfl trivial (r_move hl rfl) ?_)
            clear hl a; intro a hl
            refine wl (wl_val hl rfl trivial (r_indexS hl rfl rfl slc42 (by omega) (by omega) (by first | (simp only [Int.reduceToNat]; rfl) | exact toNat_add1 _ | exact toNat_add2 _ _ | exact toNat_emod _ _ | exact Int.toNat_natCast _ | rfl)) ?_)
            clear hl a; intro a hl
            refine wl (wl_val hl rfl trivial (r_field hl rfl fld54_3) ?_)
            clear hl a; intro a hl
            first | refine wl (w_load hl hh rfl trivial one9 rfl (by repeat (first | exact find_head | apply find_tail)) (by first | rfl) ?_) | refine wl (w_loadR hl hh rfl trivial one9 rfl hm1 (by simp) (cellz (j := 1) hd1 rfl (by omega)) ?_) | refine wl (w_loadR hl hh rfl trivial one9 rfl hm1 (by simp) (cellz (j := 2) hd1 rfl (by omega)) ?_) | refine wl (w_loadR hl hh rfl trivial one9 rfl hm1 (by simp) (cellz (j := 6) hd1 rfl (by omega)) ?_) | refine wl (w_loadR hl hh rfl trivial one9 rfl hm1 (by simp) (cellz (j := 7) hd1 rfl (by omega)) ?_) | refine wl (w_loadR hl hh rfl trivial one9 rfl hm3 (by simp) (cellz (j := 3) hd3 rfl (by omega)) ?_) | refine wl (w_loadR hl hh rfl trivial one9 rfl hm4 (by simp) (cellz (j := 3) hd4 rfl (by omega)) ?_)
            clear hl a; intro a hl
            refine wl (wl_val hl rfl trivial (r_lenStr hl rfl Tryz.underlying9) ?_)
            clear hl a; intro a hl
            first | refine wl (wl_val hl rfl trivial (r_add hl rfl rfl (by simp only [Fits]; omega)) ?_) | refine wl (wl_val hl rfl trivial (r_addW hl rfl rfl) ?_)
            clear hl a; intro a hl
            refine wl (wl_val hl rfl trivial (r_assign hl rfl) ?_)
            clear hl a; intro a hl
            refine w_nil ?_
            have hl2 := hl.add (t := 0) (hl.add (t := 3) (hl.add (t := 4) (hl.add (t := 5) (hl.nil) rfl) rfl) rfl) rfl; clear hl; have hl := hl2; clear hl2
            refine then_normal ?_
            refine c_seq ?_
            refine c_region ?_
            refine wl (wl_val hl rfl trivial (r_move hl rfl) ?_)
            clear hl a; intro a hl
            refine wl (wl_val hl rfl trivial (r_gtr hl rfl rfl) ?_)
            clear hl a; intro a hl
            refine w_nil ?_
            have hl2 := hl.add (t := 0) (hl.add (t := 3) (hl.add (t := 4) (hl.add (t := 5) (hl.add (t := 60) (hl.nil) rfl) rfl) rfl) rfl) rfl; clear hl; have hl := hl2; clear hl2
            refine then_normal ?_
            refine c_cond hl rfl ?_ ?_
            · intro hc5
              try simp only [decide_eq_true_eq, decide_eq_false_iff_not, Bool.not_eq_true', Bool.not_eq_false', Bool.not_eq_true, Bool.not_eq_false, Bool.and_eq_true, Bool.or_eq_true, Bool.and_eq_false_iff, Bool.or_eq_false_iff, Bool.not_not, ne_eq, Int.not_lt, Int.not_le, Decidable.not_not, beq_iff_eq, bne_iff_ne] at hc5
              refine c_seq ?_
              refine c_region ?_
              refine wl (wl_val hl rfl trivial (r_assign hl rfl) ?_)
              clear hl a; intro a hl
              refine w_nil ?_
              have hl2 := hl.add (t := 2) (hl.nil) rfl; clear hl; have hl := hl2; clear hl2
              refine then_normal ?_
              refine wp_ret ?_
              refine blk_ret ?_
              refine then_ret ?_
              refine then_ret ?_
              refine blk_ret ?_
              refine then_ret ?_
              refine blk_ret ?_
              refine then_ret ?_
              refine then_ret ?_
              refine blk_ret ?_
              refine then_ret ?_
              refine f_ret1 (F' := []) hl hh rfl rfl (by repeat (first | exact keeps_nil | apply keeps_cons (by repeat (first | exact find_head | apply find_tail)) (by first  | rfl) | exact keeps_self | apply keeps_mv)) ?_
              exact ⟨false, rfl, (fun h => by cases h), rfl⟩
            · intro hc5
              try simp only [decide_eq_true_eq, decide_eq_false_iff_not, Bool.not_eq_true', Bool.not_eq_false', Bool.not_eq_true, Bool.not_eq_false, Bool.and_eq_true, Bool.or_eq_true, Bool.and_eq_false_iff, Bool.or_eq_false_iff, Bool.not_not, ne_eq, Int.not_lt, Int.not_le, Decidable.not_not, beq_iff_eq, bne_iff_ne] at hc5
              refine wp_skip ?_
              refine blk_normal ?_
              refine then_normal ?_
              refine c_region ?_
              refine wl (wl_val hl rfl trivial (r_move hl rfl) ?_)
              clear hl a; intro a hl
              first | refine wl (wl_val hl rfl trivial (r_add hl rfl rfl (by simp only [Fits]; omega)) ?_) | refine wl (wl_val hl rfl trivial (r_addW hl rfl rfl) ?_)
              clear hl a; intro a hl
              refine wl (wl_val hl rfl trivial (r_assign hl rfl) ?_)
              clear hl a; intro a hl
              refine w_nil ?_
              have hl2 := hl.add (t := 0) (hl.add (t := 3) (hl.add (t := 4) (hl.add (t := 5) (hl.nil) rfl) rfl) rfl) rfl; clear hl; have hl := hl2; clear hl2
              refine then_normal ?_
              refine ⟨⟨u.i + 1, u.n + (t1.s.size : Int)⟩, (by simp only; omega), ⟨by simp only; omega, by simp only; omega, by simp only; omega⟩, hl.addE (t := 5) (hl.addE (t := 3) (hl.addE (t := 0) (hl.addE (t := 4) (hl.nil) rfl (by first | rfl | exact congrArg (Value.int .i64) (show (u.i : Int) + 1 = ((u.i + 1 : Nat) : Int) by omega) | (rw [hq3]))) rfl (by first | rfl | exact congrArg (Value.int .i64) (show (u.i : Int) + 1 = ((u.i + 1 : Nat) : Int) by omega) | (rw [hq3]))) rfl (by first | rfl | exact congrArg (Value.int .i64) (show (u.i : Int) + 1 = ((u.i + 1 : Nat) : Int) by omega) | (rw [hq3]))) rfl (by first | rfl | exact congrArg (Value.int .i64) (show (u.i : Int) + 1 = ((u.i + 1 : Nat) : Int) by omega) | (rw [hq3])), hh.keep (by repeat (first | exact keeps_nil | apply keeps_cons (by repeat (first | exact find_head | apply find_tail)) (by first  | rfl) | exact keeps_self | apply keeps_mv))⟩
          · intro hc4
            try simp only [decide_eq_true_eq, decide_eq_false_iff_not, Bool.not_eq_true', Bool.not_eq_false', Bool.not_eq_true, Bool.not_eq_false, Bool.and_eq_true, Bool.or_eq_true, Bool.and_eq_false_iff, Bool.or_eq_false_iff, Bool.not_not, ne_eq, Int.not_lt, Int.not_le, Decidable.not_not, beq_iff_eq, bne_iff_ne] at hc4
            refine wp_exit ?_
            refine then_exit ?_
            refine then_exit ?_
            refine blk_exit ?_
            refine then_normal ?_
            refine c_seq ?_
            refine c_region ?_
            refine wl (wl_val hl rfl trivial (r_move hl rfl) ?_)
            clear hl a; intro a hl
            refine wl (wl_val hl rfl trivial (r_move hl rfl) ?_)
            clear hl a; intro a hl
            refine wl (wl_val hl rfl trivial (r_move hl rfl) ?_)
            clear hl a; intro a hl
            refine wl (wl_val hl rfl trivial (r_indexS hl rfl rfl slc22 (by omega) (by omega) (by first | (simp only [Int.reduceToNat]; rfl) | exact toNat_add1 _ | exact toNat_add2 _ _ | exact toNat_emod _ _ | exact Int.toNat_natCast _ | rfl)) ?_)
            clear hl a; intro a hl
            refine wl (wl_val hl rfl trivial (r_field hl rfl fld51_4) ?_)
            clear hl a; intro a hl
            refine wl (wl_val hl rfl trivial (r_field hl rfl fld48_2) ?_)
            clear hl a; intro a hl
            refine wl (wl_val hl rfl trivial (r_field hl rfl fld46_0) ?_)
            clear hl a; intro a hl
            first | refine wl (w_load hl hh rfl trivial one9 rfl (by repeat (first | exact find_head | apply find_tail)) (by first | rfl) ?_) | refine wl (w_loadR hl hh rfl trivial one9 rfl hm1 (by simp) (cellz (j := 1) hd1 rfl (by omega)) ?_) | refine wl (w_loadR hl hh rfl trivial one9 rfl hm1 (by simp) (cellz (j := 2) hd1 rfl (by omega)) ?_) | refine wl (w_loadR hl hh rfl trivial one9 rfl hm1 (by simp) (cellz (j := 6) hd1 rfl (by omega)) ?_) | refine wl (w_loadR hl hh rfl trivial one9 rfl hm1 (by simp) (cellz (j := 7) hd1 rfl (by omega)) ?_) | refine wl (w_loadR hl hh rfl trivial one9 rfl hm3 (by simp) (cellz (j := 3) hd3 rfl (by omega)) ?_) | refine wl (w_loadR hl hh rfl trivial one9 rfl hm4 (by simp) (cellz (j := 3) hd4 rfl (by omega)) ?_)
            clear hl a; intro a hl
            refine wl (wl_val hl rfl trivial (r_lenStr hl rfl Tryz.underlying9) ?_)
            clear hl a; intro a hl
            first | refine wl (wl_val hl rfl trivial (r_add hl rfl rfl (by simp only [Fits]; omega)) ?_) | refine wl (wl_val hl rfl trivial (r_addW hl rfl rfl) ?_)
            clear hl a; intro a hl
            refine wl (wl_val hl rfl trivial (r_assign hl rfl) ?_)
            clear hl a; intro a hl
            refine w_nil ?_
            have hl2 := hl.add (t := 0) (hl.add (t := 3) (hl.add (t := 4) (hl.nil) rfl) rfl) rfl; clear hl; have hl := hl2; clear hl2
            refine then_normal ?_
            refine c_seq ?_
            refine c_seq ?_
            refine c_region ?_
            refine wl (wl_val hl rfl trivial (r_move hl rfl) ?_)
            clear hl a; intro a hl
            refine wl (wl_val hl rfl trivial (r_gtr hl rfl rfl) ?_)
            clear hl a; intro a hl
            refine w_nil ?_
            have hl2 := hl.add (t := 0) (hl.add (t := 3) (hl.add (t := 4) (hl.add (t := 72) (hl.nil) rfl) rfl) rfl) rfl; clear hl; have hl := hl2; clear hl2
            refine then_normal ?_
            refine c_cond hl rfl ?_ ?_
            · intro hc6
              try simp only [decide_eq_true_eq, decide_eq_false_iff_not, Bool.not_eq_true', Bool.not_eq_false', Bool.not_eq_true, Bool.not_eq_false, Bool.and_eq_true, Bool.or_eq_true, Bool.and_eq_false_iff, Bool.or_eq_false_iff, Bool.not_not, ne_eq, Int.not_lt, Int.not_le, Decidable.not_not, beq_iff_eq, bne_iff_ne] at hc6
              refine c_seq ?_
              refine c_region ?_
              refine wl (wl_val hl rfl trivial (r_assign hl rfl) ?_)
              clear hl a; intro a hl
              refine w_nil ?_
              have hl2 := hl.add (t := 2) (hl.nil) rfl; clear hl; have hl := hl2; clear hl2
              refine then_normal ?_
              refine wp_ret ?_
              refine then_ret ?_
              refine blk_ret ?_
              refine then_ret ?_
              refine then_ret ?_
              refine blk_ret ?_
              refine then_ret ?_
              refine f_ret1 (F' := []) hl hh rfl rfl (by repeat (first | exact keeps_nil | apply keeps_cons (by repeat (first | exact find_head | apply find_tail)) (by first  | rfl) | exact keeps_self | apply keeps_mv)) ?_
              exact ⟨false, rfl, (fun h => by cases h), rfl⟩
            · intro hc6
              try simp only [decide_eq_true_eq, decide_eq_false_iff_not, Bool.not_eq_true', Bool.not_eq_false', Bool.not_eq_true, Bool.not_eq_false, Bool.and_eq_true, Bool.or_eq_true, Bool.and_eq_false_iff, Bool.or_eq_false_iff, Bool.not_not, ne_eq, Int.not_lt, Int.not_le, Decidable.not_not, beq_iff_eq, bne_iff_ne] at hc6
              refine wp_skip ?_
              refine then_normal ?_
              refine c_seq ?_
              refine c_region ?_
              refine wl (wl_val hl rfl trivial (r_move hl rfl) ?_)
              clear hl a; intro a hl
              refine wl (wl_val hl rfl trivial (r_move hl rfl) ?_)
              clear hl a; intro a hl
              refine wl (wl_val hl rfl trivial (r_move hl rfl) ?_)
              clear hl a; intro a hl
              refine wl (wl_val hl rfl trivial (r_indexS hl rfl rfl slc22 (by omega) (by omega) (by first | (simp only [Int.reduceToNat]; rfl) | exact toNat_add1 _ | exact toNat_add2 _ _ | exact toNat_emod _ _ | exact Int.toNat_natCast _ | rfl)) ?_)
              clear hl a; intro a hl
              refine wl (wl_val hl rfl trivial (r_field hl rfl fld51_4) ?_)
              clear hl a; intro a hl
              refine wl (wl_val hl rfl trivial (r_field hl rfl fld48_2) ?_)
              clear hl a; intro a hl
              refine wl (wl_val hl rfl trivial (r_field hl rfl fld46_1) ?_)
              clear hl a; intro a hl
              first | refine wl (w_load hl hh rfl trivial one42 rfl (by repeat (first | exact find_head | apply find_tail)) (by first | rfl) ?_) | refine wl (w_loadR hl hh rfl trivial one42 rfl hm1 (by simp) (cellz (j := 1) hd1 rfl (by omega)) ?_) | refine wl (w_loadR hl hh rfl trivial one42 rfl hm1 (by simp) (cellz (j := 2) hd1 rfl (by omega)) ?_) | refine wl (w_loadR hl hh rfl trivial one42 rfl hm1 (by simp) (cellz (j := 6) hd1 rfl (by omega)) ?_) | refine wl (w_loadR hl hh rfl trivial one42 rfl hm1 (by simp) (cellz (j := 7) hd1 rfl (by omega)) ?_) | refine wl (w_loadR hl hh rfl trivial one42 rfl hm3 (by simp) (cellz (j := 3) hd3 rfl (by omega)) ?_) | refine wl (w_loadR hl hh rfl trivial one42 rfl hm4 (by simp) (cellz (j := 3) hd4 rfl (by omega)) ?_)
              clear hl a; intro a hl
              refine wl (wl_val hl rfl trivial (r_lenS hl rfl slc42) ?_)
              clear hl a; intro a hl
              first | refine wl (wl_val hl rfl trivial (r_add hl rfl rfl (by simp only [Fits]; omega)) ?_) | refine wl (wl_val hl rfl trivial (r_addW hl rfl rfl) ?_)
              clear hl a; intro a hl
              refine wl (wl_val hl rfl trivial (r_assign hl rfl) ?_)
              clear hl a; intro a hl
              refine w_nil ?_
              have hl2 := hl.add (t := 0) (hl.add (t := 3) (hl.add (t := 4) (hl.nil) rfl) rfl) rfl; clear hl; have hl := hl2; clear hl2
              refine then_normal ?_
              refine c_seq ?_
              refine c_seq ?_
              refine c_region ?_
              refine wl (wl_val hl rfl trivial (r_move hl rfl) ?_)
              clear hl a; intro a hl
              refine wl (wl_val hl rfl trivial (r_gtr hl rfl rfl) ?_)
              clear hl a; intro a hl
              refine w_nil ?_
              have hl2 := hl.add (t := 0) (hl.add (t := 3) (hl.add (t := 4) (hl.add (t := 84) (hl.nil) rfl) rfl) rfl) rfl; clear hl; have hl := hl2; clear hl2
              refine then_normal ?_
              refine c_cond hl rfl ?_ ?_
              · intro hc7
                try simp only [decide_eq_true_eq, decide_eq_false_iff_not, Bool.not_eq_true', Bool.not_eq_false', Bool.not_eq_true, Bool.not_eq_false, Bool.and_eq_true, Bool.or_eq_true, Bool.and_eq_false_iff, Bool.or_eq_false_iff, Bool.not_not, ne_eq, Int.not_lt, Int.not_le, Decidable.not_not, beq_iff_eq, bne_iff_ne] at hc7
                refine c_seq ?_
                refine c_region ?_
                refine wl (wl_val hl rfl trivial (r_assign hl rfl) ?_)
                clear hl a; intro a hl
                refine w_nil ?_
                have hl2 := hl.add (t := 2) (hl.nil) rfl; clear hl; have hl := hl2; clear hl2
                refine then_normal ?_
                refine wp_ret ?_
                refine then_ret ?_
                refine blk_ret ?_
                refine then_ret ?_
                refine then_ret ?_
                refine blk_ret ?_
                refine then_ret ?_
                refine f_ret1 (F' := []) hl hh rfl rfl (by repeat (first | exact keeps_nil | apply keeps_cons (by repeat (first | exact find_head | apply find_tail)) (by first  | rfl) | exact keeps_self | apply keeps_mv)) ?_
                exact ⟨false, rfl, (fun h => by cases h), rfl⟩
              · intro hc7
                try simp only [decide_eq_true_eq, decide_eq_false_iff_not, Bool.not_eq_true', Bool.not_eq_false', Bool.not_eq_true, Bool.not_eq_false, Bool.and_eq_true, Bool.or_eq_true, Bool.and_eq_false_iff, Bool.or_eq_false_iff, Bool.not_not, ne_eq, Int.not_lt, Int.not_le, Decidable.not_not, beq_iff_eq, bne_iff_ne] at hc7
                have hxl : x.ls.length ≤ 65536 := by omega
                refine wp_skip ?_
                refine then_normal ?_
                refine c_seq ?_
                refine c_region ?_
                refine wl (wl_val hl rfl trivial (r_assign hl rfl) ?_)
                clear hl a; intro a hl
                refine w_nil ?_
                have hl2 := hl.add (t := 0) (hl.add (t := 3) (hl.add (t := 4) (hl.add (t := 6) (hl.nil) rfl) rfl) rfl) rfl; clear hl; have hl := hl2; clear hl2
                refine then_normal ?_
                refine wp_block ?_
                obtain ⟨KS2, hKS2, hk⟩ := (hl.add (t := 0) (hl.add (t := 4) (hl.nil) rfl) rfl).name
                obtain ⟨HS2, hHS2, hh2⟩ := hh.name (keeps_nil)
                refine c_loop (α := SM) (fun v => x.ls.length - v.i) (fun v a w => (v.i ≤ x.ls.length ∧ 0 ≤ v.n ∧ v.n ≤ 65536) ∧ Sl 113 ([(6, .int .i64 (v.i : Int)), (3, .int .i64 v.n)] ++ KS2) a ∧ Has _ w0 ([] ++ HS2) w) ⟨0, u.n + (x.lp.size : Int) + (x.ls.length : Int)⟩ ⟨⟨Nat.zero_le _, by simp only; omega, by simp only; omega⟩, hl.addE (t := 6) (hl.addE (t := 3) (hk) rfl (by first | rfl)) rfl (by first | rfl), hh2⟩ ?_
                clear hk hh2 hl hh a w
                intro v a w hI
                obtain ⟨⟨hv, hv0, hv1⟩, hl, hh⟩ := hI
                subst hKS2; subst hHS2
                simp only [List.cons_append, List.nil_append, List.append_nil] at hl hh
                refine c_seq ?_
                refine c_seq ?_
                refine c_region ?_
                refine wl (wl_val hl rfl trivial (r_move hl rfl) ?_)
                clear hl a; intro a hl
                refine wl (wl_val hl rfl trivial (r_move hl rfl) ?_)
                clear hl a; intro a hl
                refine wl (wl_val hl rfl trivial (r_move hl rfl) ?_)
                clear hl a; intro a hl
                refine wl (wl_val hl rfl trivial (r_indexS hl rfl rfl slc22 (by omega) (by omega) (by first | (simp only [Int.reduceToNat]; rfl) | exact toNat_add1 _ | exact toNat_add2 _ _ | exact toNat_emod _ _ | exact Int.toNat_natCast _ | rfl)) ?_)
                clear hl a; intro a hl
                refine wl (wl_val hl rfl trivial (r_field hl rfl fld51_4) ?_)
                clear hl a; intro a hl
                refine wl (wl_val hl rfl trivial (r_field hl rfl fld48_2) ?_)
                clear hl a; intro a hl
                refine wl (wl_val hl rfl trivial (r_field hl rfl fld46_1) ?_)
                clear hl a; intro a hl
                first | refine wl (w_load hl hh rfl trivial one42 rfl (by repeat (first | exact find_head | apply find_tail)) (by first | rfl) ?_) | refine wl (w_loadR hl hh rfl trivial one42 rfl hm1 (by simp) (cellz (j := 1) hd1 rfl (by omega)) ?_) | refine wl (w_loadR hl hh rfl trivial one42 rfl hm1 (by simp) (cellz (j := 2) hd1 rfl (by omega)) ?_) | refine wl (w_loadR hl hh rfl trivial one42 rfl hm1 (by simp) (cellz (j := 6) hd1 rfl (by omega)) ?_) | refine wl (w_loadR hl hh rfl trivial one42 rfl hm1 (by simp) (cellz (j := 7) hd1 rfl (by omega)) ?_) | refine wl (w_loadR hl hh rfl trivial one42 rfl hm3 (by simp) (cellz (j := 3) hd3 rfl (by omega)) ?_) | refine wl (w_loadR hl hh rfl trivial one42 rfl hm4 (by simp) (cellz (j := 3) hd4 rfl (by omega)) ?_)
                clear hl a; intro a hl
                refine wl (wl_val hl rfl trivial (r_lenS hl rfl slc42) ?_)
                clear hl a; intro a hl
                refine wl (wl_val hl rfl trivial (r_lss hl rfl rfl) ?_)
                clear hl a; intro a hl
                refine w_nil ?_
                have hl2 := hl.add (t := 0) (hl.add (t := 3) (hl.add (t := 4) (hl.add (t := 6) (hl.add (t := 94) (hl.nil) rfl) rfl) rfl) rfl) rfl; clear hl; have hl := hl2; clear hl2
                refine then_normal ?_
                refine c_cond hl rfl ?_ ?_
                · intro hc8
                  try simp only [decide_eq_true_eq, decide_eq_false_iff_not, Bool.not_eq_true', Bool.not_eq_false', Bool.not_eq_true, Bool.not_eq_false, Bool.and_eq_true, Bool.or_eq_true, Bool.and_eq_false_iff, Bool.or_eq_false_iff, Bool.not_not, ne_eq, Int.not_lt, Int.not_le, Decidable.not_not, beq_iff_eq, bne_iff_ne] at hc8
                  obtain ⟨t2, ht2⟩ : ∃ t, x.ls[v.i]? = some t := ⟨_, List.getElem?_eq_getElem (by omega)⟩
                  obtain ⟨b4, o4, l4, T4, f4, hq4, hpc4, hm4, hd4⟩ := vwg_at tmc_len hxo.l ht2 (hpre.l x hxm)
                  have ht2z := hxo.lz t2 (List.mem_of_getElem? ht2)
                  simp only [tmc] at hd4
                  refine wp_skip ?_
                  refine then_normal ?_
                  refine c_seq ?_
                  refine wp_block ?_
                  refine c_seq ?_
                  refine c_region ?_
                  refine wl (wl_val hl rfl trivial (r_move hl rfl) ?_)
                  clear hl a; intro a hl
                  refine wl (wl_val hl rfl trivial (r_move hl rfl) ?_)
                  clear hl a; intro a hl
                  refine wl (wl_val hl rfl trivial (r_move hl rfl) ?_)
                  clear hl a; intro a hl
                  refine wl (wl_val hl rfl trivial (r_indexS hl rfl rfl slc22 (by omega) (by omega) (by first | (simp only [Int.reduceToNat]; rfl) | exact toNat_add1 _ | exact toNat_add2 _ _ | exact toNat_emod _ _ | exact Int.toNat_natCast _ | rfl)) ?_)
                  clear hl a; intro a hl
                  refine wl (wl_val hl rfl trivial (r_field hl rfl fld51_4) ?_)
                  clear hl a; intro a hl
                  refine wl (wl_val hl rfl trivial (r_field hl rfl fld48_2) ?_)
                  clear hl a; intro a hl
                  refine wl (wl_val hl rfl trivial (r_field hl rfl fld46_1) ?_)
                  clear hl a; intro a hl
                  first | refine wl (w_load hl hh rfl trivial one42 rfl (by repeat (first | exact find_head | apply find_tail)) (by first | rfl) ?_) | refine wl (w_loadR hl hh rfl trivial one42 rfl hm1 (by simp) (cellz (j := 1) hd1 rfl (by omega)) ?_) | refine wl (w_loadR hl hh rfl trivial one42 rfl hm1 (by simp) (cellz (j := 2) hd1 rfl (by omega)) ?_) | refine wl (w_loadR hl hh rfl trivial one42 rfl hm1 (by simp) (cellz (j := 6) hd1 rfl (by omega)) ?_) | refine wl (w_loadR hl hh rfl trivial one42 rfl hm1 (by simp) (cellz (j := 7) hd1 rfl (by omega)) ?_) | refine wl (w_loadR hl hh rfl trivial one42 rfl hm3 (by simp) (cellz (j := 3) hd3 rfl (by omega)) ?_) | refine wl (w_loadR hl hh rfl trivial one42 rfl hm4 (by simp) (cellz (j := 3) hd4 rfl (by omega)) ?_)
                  clear hl a; intro a hl
                  rw [hq4] at hl
                  refine wl (wl_val hl rfl trivial (r_move hl rfl) ?_)
                  clear hl a; intro a hl
                  refine wl (wl_val hl rfl trivial (r_indexS hl rfl rfl slc42 (by omega) (by omega) (by first | (simp only [Int.reduceToNat]; rfl) | exact toNat_add1 _ | exact toNat_add2 _ _ | exact toNat_emod _ _ | exact Int.toNat_natCast _ | rfl)) ?_)
                  clear hl a; intro a hl
                  refine wl (wl_val hl rfl trivial (r_field hl rfl fld54_3) ?_)
                  clear hl a; intro a hl
                  first | refine wl (w_load hl hh rfl trivial one9 rfl (by repeat (first | exact find_head | apply find_tail)) (by first | rfl) ?_) | refine wl (w_loadR hl hh rfl trivial one9 rfl hm1 (by simp) (cellz (j := 1) hd1 rfl (by omega)) ?_) | refine wl (w_loadR hl hh rfl trivial one9 rfl hm1 (by simp) (cellz (j := 2) hd1 rfl (by omega)) ?_) | refine wl (w_loadR hl hh rfl trivial one9 rfl hm1 (by simp) (cellz (j := 6) hd1 rfl (by omega)) ?_) | refine wl (w_loadR hl hh rfl trivial one9 rfl hm1 (by simp) (cellz (j := 7) hd1 rfl (by omega)) ?_) | refine wl (w_loadR hl hh rfl trivial one9 rfl hm3 (by simp) (cellz (j := 3) hd3 rfl (by omega)) ?_) | refine wl (w_loadR hl hh rfl trivial one9 rfl hm4 (by simp) (cellz (j := 3) hd4 rfl (by omega)) ?_)
                  clear hl a; intro a hl
                  refine wl (wl_val hl rfl trivial (r_lenStr hl rfl Tryz.underlying9) ?_)
                  clear hl a; intro a hl
                  first | refine wl (wl_val hl rfl trivial (r_add hl rfl rfl (by simp only [Fits]; omega)) ?_) | refine wl (wl_val hl rfl trivial (r_addW hl rfl rfl) ?_)
                  clear hl a; intro a hl
                  refine wl (wl_val hl rfl trivial (r_assign hl rfl) ?_)
                  clear hl a; intro a hl
                  refine w_nil ?_
                  have hl2 := hl.add (t := 0) (hl.add (t := 3) (hl.add (t := 4) (hl.add (t := 6) (hl.nil) rfl) rfl) rfl) rfl; clear hl; have hl := hl2; clear hl2
                  refine then_normal ?_
                  refine c_seq ?_
                  refine c_region ?_
                  refine wl (wl_val hl rfl trivial (r_move hl rfl) ?_)
                  clear hl a; intro a hl
                  refine wl (wl_val hl rfl trivial (r_gtr hl rfl rfl) ?_)
                  clear hl a; intro a hl
                  refine w_nil ?_
                  have hl2 := hl.add (t := 0) (hl.add (t := 3) (hl.add (t := 4) (hl.add (t := 6) (hl.add (t := 112) (hl.nil) rfl) rfl) rfl) rfl) rfl; clear hl; have hl := hl2; clear hl2
                  refine then_normal ?_
                  refine c_cond hl rfl ?_ ?_
                  · intro hc9
                    try simp only [decide_eq_true_eq, decide_eq_false_iff_not, Bool.not_eq_true', Bool.not_eq_false', Bool.not_eq_true, Bool.not_eq_false, Bool.and_eq_true, Bool.or_eq_true, Bool.and_eq_false_iff, Bool.or_eq_false_iff, Bool.not_not, ne_eq, Int.not_lt, Int.not_le, Decidable.not_not, beq_iff_eq, bne_iff_ne] at hc9
                    refine c_seq ?_
                    refine c_region ?_
                    refine wl (wl_val hl rfl trivial (r_assign hl rfl) ?_)
                    clear hl a; intro a hl
                    refine w_nil ?_
                    have hl2 := hl.add (t := 2) (hl.nil) rfl; clear hl; have hl := hl2; clear hl2
                    refine then_normal ?_
                    refine wp_ret ?_
                    refine blk_ret ?_
                    refine then_ret ?_
                    refine then_ret ?_
                    refine blk_ret ?_
                    refine blk_ret ?_
                    refine then_ret ?_
                    refine then_ret ?_
                    refine blk_ret ?_
                    refine then_ret ?_
                    refine f_ret1 (F' := []) hl hh rfl rfl (by repeat (first | exact keeps_nil | apply keeps_cons (by repeat (first | exact find_head | apply find_tail)) (by first  | rfl) | exact keeps_self | apply keeps_mv)) ?_
                    exact ⟨false, rfl, (fun h => by cases h), rfl⟩
                  · intro hc9
                    try simp only [decide_eq_true_eq, decide_eq_false_iff_not, Bool.not_eq_true', Bool.not_eq_false', Bool.not_eq_true, Bool.not_eq_false, Bool.and_eq_true, Bool.or_eq_true, Bool.and_eq_false_iff, Bool.or_eq_false_iff, Bool.not_not, ne_eq, Int.not_lt, Int.not_le, Decidable.not_not, beq_iff_eq, bne_iff_ne] at hc9
                    refine wp_skip ?_
                    refine blk_normal ?_
                    refine then_normal ?_
                    refine c_region ?_
                    refine wl (wl_val hl rfl trivial (r_move hl rfl) ?_)
                    clear hl a; intro a hl
                    first | refine wl (wl_val hl rfl trivial (r_add hl rfl rfl (by simp only [Fits]; omega)) ?_) | refine wl (wl_val hl rfl trivial (r_addW hl rfl rfl) ?_)
                    clear hl a; intro a hl
                    refine wl (wl_val hl rfl trivial (r_assign hl rfl) ?_)
                    clear hl a; intro a hl
                    refine w_nil ?_
                    have hl2 := hl.add (t := 0) (hl.add (t := 3) (hl.add (t := 4) (hl.add (t := 6) (hl.nil) rfl) rfl) rfl) rfl; clear hl; have hl := hl2; clear hl2
                    refine then_normal ?_
                    refine ⟨⟨v.i + 1, v.n + (t2.s.size : Int)⟩, (by simp only; omega), ⟨by simp only; omega, by simp only; omega, by simp only; omega⟩, hl.addE (t := 6) (hl.addE (t := 3) (hl.addE (t := 0) (hl.addE (t := 4) (hl.nil) rfl (by first | rfl | exact congrArg (Value.int .i64) (show (v.i : Int) + 1 = ((v.i + 1 : Nat) : Int) by omega) | (rw [hq4]))) rfl (by first | rfl | exact congrArg (Value.int .i64) (show (v.i : Int) + 1 = ((v.i + 1 : Nat) : Int) by omega) | (rw [hq4]))) rfl (by first | rfl | exact congrArg (Value.int .i64) (show (v.i : Int) + 1 = ((v.i + 1 : Nat) : Int) by omega) | (rw [hq4]))) rfl (by first | rfl | exact congrArg (Value.int .i64) (show (v.i : Int) + 1 = ((v.i + 1 : Nat) : Int) by omega) | (rw [hq4])), hh.keep (by repeat (first | exact keeps_nil | apply keeps_cons (by repeat (first | exact find_head | apply find_tail)) (by first  | rfl) | exact keeps_self | apply keeps_mv))⟩
                · intro hc8
                  try simp only [decide_eq_true_eq, decide_eq_false_iff_not, Bool.not_eq_true', Bool.not_eq_false', Bool.not_eq_true, Bool.not_eq_false, Bool.and_eq_true, Bool.or_eq_true, Bool.and_eq_false_iff, Bool.or_eq_false_iff, Bool.not_not, ne_eq, Int.not_lt, Int.not_le, Decidable.not_not, beq_iff_eq, bne_iff_ne] at hc8
                  refine wp_exit ?_
                  refine then_exit ?_
                  refine then_exit ?_
                  refine blk_exit ?_
                  refine blk_normal ?_
                  refine then_normal ?_
                  refine c_region ?_
                  refine wl (wl_val hl rfl trivial (r_move hl rfl) ?_)
                  clear hl a; intro a hl
                  first | refine wl (wl_val hl rfl trivial (r_add hl rfl rfl (by simp only [Fits]; omega)) ?_) | refine wl (wl_val hl rfl trivial (r_addW hl rfl rfl) ?_)
                  clear hl a; intro a hl
                  refine wl (wl_val hl rfl trivial (r_assign hl rfl) ?_)
                  clear hl a; intro a hl
                  refine w_nil ?_
                  have hl2 := hl.add (t := 0) (hl.add (t := 3) (hl.add (t := 4) (hl.nil) rfl) rfl) rfl; clear hl; have hl := hl2; clear hl2
                  refine then_normal ?_
                  refine ⟨⟨z.i + 1, v.n⟩, (by simp only; omega), ⟨⟨by simp only; omega, hv0, hv1⟩, small_snoc hb hx hxt hxl⟩, hl.addE (t := 4) (hl.addE (t := 3) (hl.addE (t := 0) (hl.nil) rfl (by first | rfl | exact congrArg (Value.int .i64) (show (z.i : Int) + 1 = ((z.i + 1 : Nat) : Int) by omega) | (rw [hq1]))) rfl (by first | rfl | exact congrArg (Value.int .i64) (show (z.i : Int) + 1 = ((z.i + 1 : Nat) : Int) by omega) | (rw [hq1]))) rfl (by first | rfl | exact congrArg (Value.int .i64) (show (z.i : Int) + 1 = ((z.i + 1 : Nat) : Int) by omega) | (rw [hq1])), hh.keep (by repeat (first | exact keeps_nil | apply keeps_cons (by repeat (first | exact find_head | apply find_tail)) (by first  | rfl) | exact keeps_self | apply keeps_mv))⟩
    · intro hc1
      try simp only [decide_eq_true_eq, decide_eq_false_iff_not, Bool.not_eq_true', Bool.not_eq_false', Bool.not_eq_true, Bool.not_eq_false, Bool.and_eq_true, Bool.or_eq_true, Bool.and_eq_false_iff, Bool.or_eq_false_iff, Bool.not_not, ne_eq, Int.not_lt, Int.not_le, Decidable.not_not, beq_iff_eq, bne_iff_ne] at hc1
      have hie : z.i = ops.length := by omega
      refine wp_exit ?_
      refine then_exit ?_
      refine then_exit ?_
      refine blk_exit ?_
      refine then_normal ?_
      refine c_seq ?_
      refine c_region ?_
      refine wl (wl_val hl rfl trivial (r_assign hl rfl) ?_)
      clear hl a; intro a hl
      refine w_nil ?_
      have hl2 := hl.add (t := 2) (hl.nil) rfl; clear hl; have hl := hl2; clear hl2
      refine then_normal ?_
      refine wp_ret ?_
      refine f_ret1 (F' := []) hl hh rfl rfl (by repeat (first | exact keeps_nil | apply keeps_cons (by repeat (first | exact find_head | apply find_tail)) (by first  | rfl) | exact keeps_self | apply keeps_mv)) ?_
      exact ⟨true, rfl, fun _ => small_of (by omega) (by rw [hie] at hb; exact hb), rfl⟩
end Go.Proofs.Qxb6500915aGreatDoor

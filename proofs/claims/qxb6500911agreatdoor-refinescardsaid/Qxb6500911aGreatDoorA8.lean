import Derived.Test.Qxb6500911aGreatDoorA7
namespace Go.Proofs.Qxb6500911aGreatDoor
open Go.Eng
set_option linter.unusedVariables false
set_option linter.unusedSimpArgs false
theorem cal79 : callable Tryz.prog 79 = true := by kernel_rfl
theorem cal94 : callable Tryz.prog 94 = true := by kernel_rfl
/-! ## slices.DeleteFunc: the requests of one task go out -/
structure DF where
  i : Nat
  j : Nat
  L : List Rq
structure DFI (t : Nat) (l : List Rq) (z : DF) : Prop where
  len : z.L.length = l.length
  jl : z.j ≤ l.length
  ij : z.i < z.j
  ex : ∃ Y, z.L = othQ t (l.take z.j) ++ Y ++ l.drop z.j
  ii : z.i = (othQ t (l.take z.j)).length
theorem DFI.get {t : Nat} {l : List Rq} {z : DF} (h : DFI t l z) {x : Rq} (hx : l[z.j]? = some x) : z.L[z.j]? = some x := by
  obtain ⟨Y, hY⟩ := h.ex
  have hlen := h.len
  have hjl : z.j < l.length := (List.getElem?_eq_some_iff.1 hx).1
  rw [hY, List.length_append, List.length_drop] at hlen
  rw [hY, List.getElem?_append_right (by omega), List.getElem?_drop]
  rw [show z.j + (z.j - (othQ t (l.take z.j) ++ Y).length) = z.j by omega]; exact hx
theorem othQ_snoc {t : Nat} {l : List Rq} {j : Nat} {x : Rq} (hx : l[j]? = some x) : othQ t (l.take (j + 1)) = othQ t (l.take j) ++ (if x.t ≠ t then [x] else []) := by
  unfold othQ
  rw [List.take_add_one, hx, List.filter_append]
  simp only [Option.toList]
  rw [List.filter_cons]
  by_cases c : x.t = t
  · simp [c]
  · simp [c]
theorem DFI.skip {t : Nat} {l : List Rq} {z : DF} (h : DFI t l z) {x : Rq} (hx : l[z.j]? = some x) (ht : (x.t : Int) = t) : DFI t l ⟨z.i, z.j + 1, z.L⟩ := by
  obtain ⟨Y, hY⟩ := h.ex
  have hjl : z.j < l.length := (List.getElem?_eq_some_iff.1 hx).1
  have hs := othQ_snoc (t := t) hx
  rw [if_neg (by simp; omega), List.append_nil] at hs
  have hij := h.ij
  refine ⟨h.len, by simp only; omega, by simp only; omega, ⟨Y ++ [x], ?_⟩, by simp only; rw [hs]; exact h.ii⟩
  simp only
  rw [hs, hY, List.drop_eq_getElem_cons hjl, (List.getElem?_eq_some_iff.1 hx).2]
  simp
theorem DFI.keep {t : Nat} {l : List Rq} {z : DF} (h : DFI t l z) {x : Rq} (hx : l[z.j]? = some x) (ht : ¬ (x.t : Int) = t) : DFI t l ⟨z.i + 1, z.j + 1, z.L.set z.i x⟩ := by
  obtain ⟨Y, hY⟩ := h.ex
  have hjl : z.j < l.length := (List.getElem?_eq_some_iff.1 hx).1
  have hs := othQ_snoc (t := t) hx
  rw [if_pos (by omega)] at hs
  have hij := h.ij
  have hlen := h.len
  have hii := h.ii
  have hlY := congrArg List.length hY
  simp only [List.length_append, List.length_drop] at hlY
  cases Y with
  | nil => simp only [List.length_nil] at hlY; omega
  | cons y Y =>
    refine ⟨by simp only [List.length_set]; exact hlen, by simp only; omega, by simp only; omega, ⟨Y ++ [x], ?_⟩, by simp only; rw [hs, List.length_append, ← hii]; rfl⟩
    simp only
    rw [hs, hY, List.drop_eq_getElem_cons hjl, (List.getElem?_eq_some_iff.1 hx).2, hii]
    simp
theorem DFI.start {t : Nat} {l : List Rq} {n : Nat} {x : Rq} (hx : l[n]? = some x) (ht : x.t = t) (hb : ∀ k y, k < n → l[k]? = some y → y.t ≠ t) : DFI t l ⟨n, n + 1, l⟩ := by
  have hjl : n < l.length := (List.getElem?_eq_some_iff.1 hx).1
  have hs := othQ_snoc (t := t) hx
  rw [if_neg (by simp; exact ht), List.append_nil] at hs
  have h1 : othQ t (l.take n) = l.take n := by
    unfold othQ
    rw [List.filter_eq_self]
    intro y hy
    obtain ⟨k, hk⟩ := List.mem_iff_getElem?.1 hy
    rw [List.getElem?_take] at hk
    split at hk
    · rename_i hk2; exact decide_eq_true (hb k y hk2 hk)
    · cases hk
  refine ⟨rfl, by simp only; omega, by simp only; omega, ⟨[x], ?_⟩, ?_⟩
  · simp only
    rw [hs, h1, List.append_assoc, List.singleton_append, ← (List.getElem?_eq_some_iff.1 hx).2, ← List.drop_eq_getElem_cons hjl, List.take_append_drop]
  · simp only
    rw [hs, h1, List.length_take]; omega
theorem DFI.done {t : Nat} {l : List Rq} {z : DF} (h : DFI t l z) (hj : l.length ≤ z.j) : ∃ Y, z.L = othQ t l ++ Y ∧ z.i = (othQ t l).length := by
  obtain ⟨Y, hY⟩ := h.ex
  have hii := h.ii
  rw [List.take_of_length_le hj, List.drop_eq_nil_of_le hj, List.append_nil] at hY
  rw [List.take_of_length_le hj] at hii
  exact ⟨Y, hY, hii⟩


set_option maxHeartbeats 1000000 in
theorem same_spec (x : Rq) (t kb : Nat) : SpK Tryz.prog 79 #[.agg ⟨rqc x⟩, .pointer (some ⟨kb, 0, none⟩)] (fun w => w.heap[kb]? = some (C [.int .i64 (t : Int)] 57)) [] (fun v F' => v = .bool (decide ((x.t : Int) = t)) ∧ F' = []) := by
  refine f_enter (args := [.agg ⟨rqc x⟩, .pointer (some ⟨kb, 0, none⟩)]) Tryz.func79 rfl Tryz.ntmps79 rfl ?_
  intro w0 w a hpre hl hh
  simp only [slotsFrom, Nat.reduceAdd] at hl
  refine c_seq ?_
  refine c_region ?_
  refine wl (w_box hl hh rfl trivial rfl rfl ?_)
  clear hl hh a w; intro k2 a w hl hh
  refine wl (wl_val hl rfl trivial (r_assign hl rfl) ?_)
  clear hl a; intro a hl
  refine w_nil ?_
  have hl2 := hl.add (t := 1) (hl.add (t := 2) (hl.nil) rfl) rfl; clear hl; have hl := hl2; clear hl2
  refine then_normal ?_
  refine c_seq ?_
  refine c_region ?_
  refine wl (wl_val hl rfl trivial (r_field hl rfl fld130_0) ?_)
  clear hl a; intro a hl
  first | refine wl (w_load hl hh rfl trivial one57 rfl (by repeat (first | exact find_head | apply find_tail)) (by first | rfl) ?_) | refine wl (w_loadR hl hh rfl trivial one57 rfl hpre (by simp) rfl ?_)
  clear hl a; intro a hl
  first | refine wl (w_load hl hh rfl trivial one57 rfl (by repeat (first | exact find_head | apply find_tail)) (by first | rfl) ?_) | refine wl (w_loadR hl hh rfl trivial one57 rfl hpre (by simp) rfl ?_)
  clear hl a; intro a hl
  refine wl (wl_val hl rfl trivial (r_eql hl rfl rfl) ?_)
  clear hl a; intro a hl
  refine wl (wl_val hl rfl trivial (r_assign hl rfl) ?_)
  clear hl a; intro a hl
  refine w_nil ?_
  have hl2 := hl.add (t := 3) (hl.nil) rfl; clear hl; have hl := hl2; clear hl2
  refine then_normal ?_
  refine wp_ret ?_
  refine f_ret1 (F' := []) hl hh rfl rfl (by repeat (first | exact keeps_nil | apply keeps_cons (by repeat (first | exact find_head | apply find_tail)) (by first  | rfl) | exact keeps_self | apply keeps_mv)) ?_
  exact ⟨rfl, rfl⟩

set_option maxHeartbeats 1000000 in
theorem index_spec (l : List Rq) (hl9 : l.length ≤ 1000) (b c : Nat) (junk : List Value) (t kb : Nat) : SpK Tryz.prog 94 #[.slice (some ⟨b, 0, none⟩) l.length c, .func (.func 79) #[] #[.pointer (some ⟨kb, 0, none⟩)]] (fun w => w.heap[b]? = some (C (fl rqc l ++ junk) 130) ∧ w.heap[kb]? = some (C [.int .i64 (t : Int)] 57)) [] (fun v F' => ((∃ (n : Nat) (x : Rq), l[n]? = some x ∧ x.t = t ∧ (∀ (k : Nat) (y : Rq), k < n → l[k]? = some y → y.t ≠ t) ∧ v = .int .i64 (n : Int)) ∨ ((∀ (k : Nat) (y : Rq), l[k]? = some y → y.t ≠ t) ∧ v = .int .i64 (-1))) ∧ F' = []) := by
  refine f_enter (args := [.slice (some ⟨b, 0, none⟩) l.length c, .func (.func 79) #[] #[.pointer (some ⟨kb, 0, none⟩)]]) Tryz.func94 rfl Tryz.ntmps94 rfl ?_
  intro w0 w a hpre hl hh
  simp only [slotsFrom, Nat.reduceAdd] at hl
  refine c_seq ?_
  refine c_region ?_
  refine wl (wl_val hl rfl trivial (r_assign hl rfl) ?_)
  clear hl a; intro a hl
  refine w_nil ?_
  have hl2 := hl.add (t := 0) (hl.add (t := 1) (hl.nil) rfl) rfl; clear hl; have hl := hl2; clear hl2
  refine then_normal ?_
  refine c_seq ?_
  refine c_seq ?_
  refine c_region ?_
  refine wl (wl_val hl rfl trivial (r_move hl rfl) ?_)
  clear hl a; intro a hl
  refine wl (wl_val hl rfl trivial (r_lenS hl rfl slc108) ?_)
  clear hl a; intro a hl
  refine wl (wl_val hl rfl trivial (r_move hl rfl) ?_)
  clear hl a; intro a hl
  refine w_nil ?_
  have hl2 := hl.add (t := 0) (hl.add (t := 1) (hl.add (t := 7) (hl.add (t := 8) (hl.nil) rfl) rfl) rfl) rfl; clear hl; have hl := hl2; clear hl2
  refine then_normal ?_
  refine wp_block ?_
  obtain ⟨KS0, hKS0, hk⟩ := (hl.add (t := 0) (hl.add (t := 1) (hl.add (t := 7) (hl.nil) rfl) rfl) rfl).name
  obtain ⟨HS0, hHS0, hh2⟩ := hh.name (keeps_nil)
  refine c_loop (α := Nat) (fun i => l.length - i) (fun i a w => (i ≤ l.length ∧ (∀ (k : Nat) (y : Rq), k < i → l[k]? = some y → y.t ≠ t)) ∧ Sl 19 ([(8, .int .i64 (i : Int))] ++ KS0) a ∧ Has _ w0 ([] ++ HS0) w) 0 ⟨⟨Nat.zero_le _, fun k y h => absurd h (by omega)⟩, hl.addE (t := 8) (hk) rfl (by first | rfl), hh2⟩ ?_
  clear hk hh2 hl hh a w
  intro i a w hI
  obtain ⟨⟨hi, hn⟩, hl, hh⟩ := hI
  subst hKS0; subst hHS0
  simp only [List.cons_append, List.nil_append, List.append_nil] at hl hh
  refine c_seq ?_
  refine c_region ?_
  refine wl (wl_val hl rfl trivial (r_lss hl rfl rfl) ?_)
  clear hl a; intro a hl
  refine w_nil ?_
  have hl2 := hl.add (t := 0) (hl.add (t := 1) (hl.add (t := 7) (hl.add (t := 8) (hl.add (t := 9) (hl.nil) rfl) rfl) rfl) rfl) rfl; clear hl; have hl := hl2; clear hl2
  refine then_normal ?_
  refine c_seq ?_
  refine c_cond hl rfl ?_ ?_
  · intro hc0
    try simp only [decide_eq_true_eq, decide_eq_false_iff_not, Bool.not_eq_true', Bool.not_eq_false', Bool.not_eq_true, Bool.not_eq_false, Bool.and_eq_true, Bool.or_eq_true, Bool.and_eq_false_iff, Bool.or_eq_false_iff, Bool.not_not, ne_eq, Int.not_lt, Int.not_le, Decidable.not_not, beq_iff_eq, bne_iff_ne] at hc0
    obtain ⟨x, hx⟩ : ∃ x, l[i]? = some x := ⟨_, List.getElem?_eq_getElem (by omega)⟩
    have hrd := fl_at rqc_len hx junk
    refine wp_skip ?_
    refine then_normal ?_
    refine c_seq ?_
    refine wp_block ?_
    refine c_seq ?_
    refine c_region ?_
    refine wl (wl_val hl rfl trivial (r_move hl rfl) ?_)
    clear hl a; intro a hl
    refine wl (wl_val hl rfl trivial (r_assign hl rfl) ?_)
    clear hl a; intro a hl
    refine w_nil ?_
    have hl2 := hl.add (t := 0) (hl.add (t := 1) (hl.add (t := 5) (hl.add (t := 7) (hl.add (t := 8) (hl.nil) rfl) rfl) rfl) rfl) rfl; clear hl; have hl := hl2; clear hl2
    refine then_normal ?_
    refine c_seq ?_
    refine c_region ?_
    refine wl (wl_val hl rfl trivial (r_move hl rfl) ?_)
    clear hl a; intro a hl
    refine wl (wl_val hl rfl trivial (r_move hl rfl) ?_)
    clear hl a; intro a hl
    refine wl (wl_val hl rfl trivial (r_move hl rfl) ?_)
    clear hl a; intro a hl
    refine wl (wl_val hl rfl trivial (r_indexS hl rfl rfl slc108 (by omega) (by omega) (by first | (simp only [Int.reduceToNat]; rfl) | exact toNat_add1 _ | exact toNat_add2 _ _ | exact toNat_emod _ _ | exact Int.toNat_natCast _ | rfl)) ?_)
    clear hl a; intro a hl
    first | refine wl (w_loadA hl hh rfl trivial agg130 rfl (by repeat (first | exact find_head | apply find_tail)) (by first | (simp only [List.getElem?_cons_zero, List.getElem?_cons_succ, Value.cells, List.take_zero, List.take_succ_cons, List.take_nil, List.drop_zero, List.drop_succ_cons, List.drop_nil, List.length_cons, List.length_nil, List.cons_append, List.nil_append, List.append_nil, Nat.zero_add, Nat.add_zero, Nat.reduceAdd, Nat.reduceBEq, Nat.reduceEqDiff, Nat.ble, BEq.rfl, Bool.and_true, Bool.and_self, cond_true, beq_self_eq_true]; rfl)) (by first | rfl | (simp; done)) ?_) | refine wl (w_loadRA hl hh rfl trivial agg130 rfl hpre.1 (by simp) hrd (rqc_len _) ?_)
    clear hl a; intro a hl
    refine wl (w_call hl hh rfl trivial rfl cal79 rfl (same_spec x t kb) (by repeat (first | exact keeps_nil | apply keeps_cons (by repeat (first | exact find_head | apply find_tail)) (by first  | rfl) | exact keeps_self | apply keeps_mv)) (heap_keep hh hpre.2) ?_)
    clear hl hh a w; intro vc Fc a w hR hl hh
    obtain ⟨rfl, rfl⟩ := hR
    try simp only [List.cons_append, List.nil_append] at hh
    refine w_nil ?_
    have hl2 := hl.add (t := 0) (hl.add (t := 1) (hl.add (t := 5) (hl.add (t := 7) (hl.add (t := 8) (hl.add (t := 16) (hl.nil) rfl) rfl) rfl) rfl) rfl) rfl; clear hl; have hl := hl2; clear hl2
    refine then_normal ?_
    refine c_cond hl rfl ?_ ?_
    · intro hc1
      try simp only [decide_eq_true_eq, decide_eq_false_iff_not, Bool.not_eq_true', Bool.not_eq_false', Bool.not_eq_true, Bool.not_eq_false, Bool.and_eq_true, Bool.or_eq_true, Bool.and_eq_false_iff, Bool.or_eq_false_iff, Bool.not_not, ne_eq, Int.not_lt, Int.not_le, Decidable.not_not, beq_iff_eq, bne_iff_ne] at hc1
      refine c_seq ?_
      refine c_region ?_
      refine wl (wl_val hl rfl trivial (r_move hl rfl) ?_)
      clear hl a; intro a hl
      refine wl (wl_val hl rfl trivial (r_assign hl rfl) ?_)
      clear hl a; intro a hl
      refine w_nil ?_
      have hl2 := hl.add (t := 4) (hl.nil) rfl; clear hl; have hl := hl2; clear hl2
      refine then_normal ?_
      refine wp_ret ?_
      refine blk_ret ?_
      refine then_ret ?_
      refine then_ret ?_
      refine blk_ret ?_
      refine then_ret ?_
      refine f_ret1 (F' := []) hl hh rfl rfl (by repeat (first | exact keeps_nil | apply keeps_cons (by repeat (first | exact find_head | apply find_tail)) (by first  | rfl) | exact keeps_self | apply keeps_mv)) ?_
      exact ⟨.inl ⟨i, x, hx, by omega, hn, rfl⟩, rfl⟩
    · intro hc1
      try simp only [decide_eq_true_eq, decide_eq_false_iff_not, Bool.not_eq_true', Bool.not_eq_false', Bool.not_eq_true, Bool.not_eq_false, Bool.and_eq_true, Bool.or_eq_true, Bool.and_eq_false_iff, Bool.or_eq_false_iff, Bool.not_not, ne_eq, Int.not_lt, Int.not_le, Decidable.not_not, beq_iff_eq, bne_iff_ne] at hc1
      refine wp_skip ?_
      refine blk_normal ?_
      refine then_normal ?_
      refine c_region ?_
      first | refine wl (wl_val hl rfl trivial (r_add hl rfl rfl (by simp only [Fits]; omega)) ?_) | refine wl (wl_val hl rfl trivial (r_addW hl rfl rfl) ?_)
      clear hl a; intro a hl
      refine wl (wl_val hl rfl trivial (r_move hl rfl) ?_)
      clear hl a; intro a hl
      refine w_nil ?_
      have hl2 := hl.add (t := 0) (hl.add (t := 1) (hl.add (t := 7) (hl.add (t := 8) (hl.nil) rfl) rfl) rfl) rfl; clear hl; have hl := hl2; clear hl2
      refine then_normal ?_
      refine ⟨(i + 1), (by omega), ⟨by omega, fun k y hk hy => by by_cases e : k = i; (subst e; rw [hx] at hy; cases hy; omega); exact hn k y (by omega) hy⟩, hl.addE (t := 8) (hl.addE (t := 0) (hl.addE (t := 1) (hl.addE (t := 7) (hl.nil) rfl (by first | rfl | (congr 1; omega))) rfl (by first | rfl | (congr 1; omega))) rfl (by first | rfl | (congr 1; omega))) rfl (by first | rfl | (congr 1; omega)), hh.keep (by repeat (first | exact keeps_nil | apply keeps_cons (by repeat (first | exact find_head | apply find_tail)) (by first  | rfl) | exact keeps_self | apply keeps_mv))⟩
  · intro hc0
    try simp only [decide_eq_true_eq, decide_eq_false_iff_not, Bool.not_eq_true', Bool.not_eq_false', Bool.not_eq_true, Bool.not_eq_false, Bool.and_eq_true, Bool.or_eq_true, Bool.and_eq_false_iff, Bool.or_eq_false_iff, Bool.not_not, ne_eq, Int.not_lt, Int.not_le, Decidable.not_not, beq_iff_eq, bne_iff_ne] at hc0
    refine wp_exit ?_
    refine then_exit ?_
    refine then_exit ?_
    refine blk_exit ?_
    refine then_normal ?_
    refine c_seq ?_
    refine c_region ?_
    refine wl (wl_val hl rfl trivial (r_assign hl rfl) ?_)
    clear hl a; intro a hl
    refine w_nil ?_
    have hl2 := hl.add (t := 4) (hl.nil) rfl; clear hl; have hl := hl2; clear hl2
    refine then_normal ?_
    refine wp_ret ?_
    refine f_ret1 (F' := []) hl hh rfl rfl (by repeat (first | exact keeps_nil | apply keeps_cons (by repeat (first | exact find_head | apply find_tail)) (by first  | rfl) | exact keeps_self | apply keeps_mv)) ?_
    exact ⟨.inr ⟨fun k y hy => hn k y (by have := (List.getElem?_eq_some_iff.1 hy).1; omega) hy, rfl⟩, rfl⟩

set_option maxHeartbeats 2000000 in
theorem delF_spec (l : List Rq) (hl9 : l.length ≤ 1000) (b c : Nat) (junk : List Value) (hjl : (fl rqc l ++ junk).length = c * 2) (hjc : l.length ≤ c) (t kb : Nat) (hkb : kb ≠ b) (hex : ∃ x, x ∈ l ∧ x.t = t) : SpK Tryz.prog 78 #[.slice (some ⟨b, 0, none⟩) l.length c, .func (.func 79) #[] #[.pointer (some ⟨kb, 0, none⟩)]] (fun w => w.heap[kb]? = some (C [.int .i64 (t : Int)] 57)) [(b, C (fl rqc l ++ junk) 130)] (fun v F' => Row v (othQ t l).length (fl rqc (othQ t l)) 2 130 F') := by
  refine f_enter (args := [.slice (some ⟨b, 0, none⟩) l.length c, .func (.func 79) #[] #[.pointer (some ⟨kb, 0, none⟩)]]) Tryz.func78 rfl Tryz.ntmps78 rfl ?_
  intro w0 w a hpre hl hh
  simp only [slotsFrom, Nat.reduceAdd] at hl
  refine c_seq ?_
  refine c_region ?_
  refine wl (wl_val hl rfl trivial (r_assign hl rfl) ?_)
  clear hl a; intro a hl
  refine w_nil ?_
  have hl2 := hl.add (t := 0) (hl.add (t := 1) (hl.nil) rfl) rfl; clear hl; have hl := hl2; clear hl2
  refine then_normal ?_
  refine c_seq ?_
  refine c_region ?_
  refine wl (wl_val hl rfl trivial (r_move hl rfl) ?_)
  clear hl a; intro a hl
  refine wl (wl_val hl rfl trivial (r_move hl rfl) ?_)
  clear hl a; intro a hl
  refine wl (w_call hl hh rfl trivial rfl cal94 rfl (index_spec l hl9 b c junk t kb) (by repeat (first | exact keeps_nil | apply keeps_cons (by repeat (first | exact find_head | apply find_tail)) (by first  | rfl) | exact keeps_self | apply keeps_mv)) ⟨(hh.mem _ _ (Find.mem (by repeat (first | exact find_head | apply find_tail)))), hh.old hpre (by simp; exact hkb)⟩ ?_)
  clear hl hh a w; intro vc Fc a w hR hl hh
  obtain ⟨hR, rfl⟩ := hR
  try simp only [List.cons_append, List.nil_append] at hh
  obtain ⟨n, x0, hx0, hxt0, hn0, rfl⟩ : ∃ (n : Nat) (x : Rq), l[n]? = some x ∧ x.t = t ∧ (∀ (k : Nat) (y : Rq), k < n → l[k]? = some y → y.t ≠ t) ∧ vc = .int .i64 (n : Int) := by
    rcases hR with h | h
    · exact h
    · obtain ⟨x, hx, hxt⟩ := hex
      obtain ⟨k, hk⟩ := List.mem_iff_getElem?.1 hx
      exact absurd hxt (h.1 k x hk)
  have hnl := (List.getElem?_eq_some_iff.1 hx0).1
  refine wl (wl_val hl rfl trivial (r_assign hl rfl) ?_)
  clear hl a; intro a hl
  refine w_nil ?_
  have hl2 := hl.add (t := 0) (hl.add (t := 1) (hl.add (t := 5) (hl.nil) rfl) rfl) rfl; clear hl; have hl := hl2; clear hl2
  refine then_normal ?_
  refine c_seq ?_
  refine c_seq ?_
  refine c_region ?_
  refine wl (wl_val hl rfl trivial (r_move hl rfl) ?_)
  clear hl a; intro a hl
  refine wl (wl_val hl rfl trivial (r_eql hl rfl rfl) ?_)
  clear hl a; intro a hl
  refine w_nil ?_
  have hl2 := hl.add (t := 0) (hl.add (t := 1) (hl.add (t := 5) (hl.add (t := 12) (hl.nil) rfl) rfl) rfl) rfl; clear hl; have hl := hl2; clear hl2
  refine then_normal ?_
  refine c_cond hl rfl ?_ ?_
  · intro hc0
    try simp only [decide_eq_true_eq, decide_eq_false_iff_not, Bool.not_eq_true', Bool.not_eq_false', Bool.not_eq_true, Bool.not_eq_false, Bool.and_eq_true, Bool.or_eq_true, Bool.and_eq_false_iff, Bool.or_eq_false_iff, Bool.not_not, ne_eq, Int.not_lt, Int.not_le, Decidable.not_not, beq_iff_eq, bne_iff_ne] at hc0
    exfalso; first | contradiction | omega
  · intro hc0
    try simp only [decide_eq_true_eq, decide_eq_false_iff_not, Bool.not_eq_true', Bool.not_eq_false', Bool.not_eq_true, Bool.not_eq_false, Bool.and_eq_true, Bool.or_eq_true, Bool.and_eq_false_iff, Bool.or_eq_false_iff, Bool.not_not, ne_eq, Int.not_lt, Int.not_le, Decidable.not_not, beq_iff_eq, bne_iff_ne] at hc0
    refine wp_skip ?_
    refine then_normal ?_
    refine c_seq ?_
    refine c_seq ?_
    refine c_region ?_
    refine wl (wl_val hl rfl trivial (r_move hl rfl) ?_)
    clear hl a; intro a hl
    first | refine wl (wl_val hl rfl trivial (r_add hl rfl rfl (by simp only [Fits]; omega)) ?_) | refine wl (wl_val hl rfl trivial (r_addW hl rfl rfl) ?_)
    clear hl a; intro a hl
    refine wl (wl_val hl rfl trivial (r_assign hl rfl) ?_)
    clear hl a; intro a hl
    refine w_nil ?_
    have hl2 := hl.add (t := 0) (hl.add (t := 1) (hl.add (t := 5) (hl.add (t := 6) (hl.nil) rfl) rfl) rfl) rfl; clear hl; have hl := hl2; clear hl2
    refine then_normal ?_
    refine wp_block ?_
    obtain ⟨KS0, hKS0, hk⟩ := (hl.add (t := 0) (hl.add (t := 1) (hl.nil) rfl) rfl).name
    obtain ⟨HS0, hHS0, hh2⟩ := hh.name (keeps_cons (b := b) (o' := C (fl rqc l ++ junk) 130) (by repeat (first | exact find_head | apply find_tail)) (by first | rfl) (keeps_nil))
    refine c_loop (α := DF) (fun z => l.length - z.j) (fun z a w => (DFI t l z) ∧ Sl 42 ([(5, .int .i64 (z.i : Int)), (6, .int .i64 (z.j : Int))] ++ KS0) a ∧ Has _ w0 ([(b, C (fl rqc z.L ++ junk) 130)] ++ HS0) w) ⟨n, n + 1, l⟩ ⟨(DFI.start hx0 hxt0 hn0), hl.addE (t := 5) (hl.addE (t := 6) (hk) rfl (by first | rfl)) rfl (by first | rfl), hh2⟩ ?_
    clear hk hh2 hl hh a w
    intro z a w hI
    obtain ⟨hI, hl, hh⟩ := hI
    subst hKS0; subst hHS0
    simp only [List.cons_append, List.nil_append, List.append_nil] at hl hh
    have hLl := hI.len; have hzj := hI.jl; have hzij := hI.ij
    have hLj : (fl rqc z.L ++ junk).length = c * 2 := by rw [← hjl, List.length_append, List.length_append, fl_len rqc_len, fl_len rqc_len, hLl]
    refine c_seq ?_
    refine c_seq ?_
    refine c_region ?_
    refine wl (wl_val hl rfl trivial (r_move hl rfl) ?_)
    clear hl a; intro a hl
    refine wl (wl_val hl rfl trivial (r_move hl rfl) ?_)
    clear hl a; intro a hl
    refine wl (wl_val hl rfl trivial (r_lenS hl rfl slc108) ?_)
    clear hl a; intro a hl
    refine wl (wl_val hl rfl trivial (r_lss hl rfl rfl) ?_)
    clear hl a; intro a hl
    refine w_nil ?_
    have hl2 := hl.add (t := 0) (hl.add (t := 1) (hl.add (t := 5) (hl.add (t := 6) (hl.add (t := 19) (hl.nil) rfl) rfl) rfl) rfl) rfl; clear hl; have hl := hl2; clear hl2
    refine then_normal ?_
    refine c_cond hl rfl ?_ ?_
    · intro hc1
      try simp only [decide_eq_true_eq, decide_eq_false_iff_not, Bool.not_eq_true', Bool.not_eq_false', Bool.not_eq_true, Bool.not_eq_false, Bool.and_eq_true, Bool.or_eq_true, Bool.and_eq_false_iff, Bool.or_eq_false_iff, Bool.not_not, ne_eq, Int.not_lt, Int.not_le, Decidable.not_not, beq_iff_eq, bne_iff_ne] at hc1
      obtain ⟨x, hx⟩ : ∃ x, l[z.j]? = some x := ⟨_, List.getElem?_eq_getElem (by omega)⟩
      have hrd := fl_at rqc_len hx junk
      have hrd2 := fl_at rqc_len (hI.get hx) junk
      refine wp_skip ?_
      refine then_normal ?_
      refine c_seq ?_
      refine wp_block ?_
      refine c_seq ?_
      refine c_region ?_
      refine wl (wl_val hl rfl trivial (r_move hl rfl) ?_)
      clear hl a; intro a hl
      refine wl (wl_val hl rfl trivial (r_move hl rfl) ?_)
      clear hl a; intro a hl
      refine wl (wl_val hl rfl trivial (r_indexS hl rfl rfl slc108 (by omega) (by omega) (by first | (simp only [Int.reduceToNat]; rfl) | exact toNat_add1 _ | exact toNat_add2 _ _ | exact toNat_emod _ _ | exact Int.toNat_natCast _ | rfl)) ?_)
      clear hl a; intro a hl
      refine wl (w_loadA hl hh rfl trivial agg130 rfl (by repeat (first | exact find_head | apply find_tail)) (by first | exact hrd2 | (simp only [List.getElem?_cons_zero, List.getElem?_cons_succ, Value.cells, List.take_zero, List.take_succ_cons, List.take_nil, List.drop_zero, List.drop_succ_cons, List.drop_nil, List.length_cons, List.length_nil, List.cons_append, List.nil_append, List.append_nil, Nat.zero_add, Nat.add_zero, Nat.reduceAdd, Nat.reduceBEq, Nat.reduceEqDiff, Nat.ble, BEq.rfl, Bool.and_true, Bool.and_self, cond_true, beq_self_eq_true]; rfl)) (by first | rfl | (simp; done)) ?_)
      clear hl a; intro a hl
      refine wl (w_alloc hl hh rfl trivial zero130 rfl ?_)
      clear hl hh a w; intro k7 a w hl hh
      refine wl (w_storeA hl hh trivial agg130 rfl rfl (by repeat (first | exact find_head | apply find_tail)) (by first | rfl | (simp; done) | exact hrd2) (by first | (simp; done) | (simp; omega) | (rw [hLj]; omega)) (by first | rfl | (simp; done)) (by first | exact fl_set rqc_len z.L x junk z.i (by omega) | (simp only [setL, List.getElem?_cons_zero, List.getElem?_cons_succ, Value.cells, List.take_zero, List.take_succ_cons, List.take_nil, List.drop_zero, List.drop_succ_cons, List.drop_nil, List.length_cons, List.length_nil, List.cons_append, List.nil_append, List.append_nil, Nat.zero_add, Nat.add_zero, Nat.reduceAdd, Nat.reduceBEq, Nat.reduceEqDiff, Nat.ble, BEq.rfl, Bool.and_true, Bool.and_self, cond_true, beq_self_eq_true]; rfl)) ?_)
      clear hh w; intro w hh
      refine w_nil ?_
      have hl2 := hl.add (t := 0) (hl.add (t := 1) (hl.add (t := 5) (hl.add (t := 6) (hl.add (t := 7) (hl.nil) rfl) rfl) rfl) rfl) rfl; clear hl; have hl := hl2; clear hl2
      refine then_normal ?_
      refine c_seq ?_
      refine c_region ?_
      refine wl (wl_val hl rfl trivial (r_move hl rfl) ?_)
      clear hl a; intro a hl
      refine wl (w_loadA hl hh rfl trivial agg130 rfl (by repeat (first | exact find_head | apply find_tail)) (by first | exact hrd2 | (simp only [List.getElem?_cons_zero, List.getElem?_cons_succ, Value.cells, List.take_zero, List.take_succ_cons, List.take_nil, List.drop_zero, List.drop_succ_cons, List.drop_nil, List.length_cons, List.length_nil, List.cons_append, List.nil_append, List.append_nil, Nat.zero_add, Nat.add_zero, Nat.reduceAdd, Nat.reduceBEq, Nat.reduceEqDiff, Nat.ble, BEq.rfl, Bool.and_true, Bool.and_self, cond_true, beq_self_eq_true]; rfl)) (by first | rfl | (simp; done)) ?_)
      clear hl a; intro a hl
      refine wl (w_call hl hh rfl trivial rfl cal79 rfl (same_spec x t kb) (by repeat (first | exact keeps_nil | apply keeps_cons (by repeat (first | exact find_head | apply find_tail)) (by first  | rfl) | exact keeps_self | apply keeps_mv)) (hh.old hpre (by simp; exact hkb)) ?_)
      clear hl hh a w; intro vc Fc a w hR hl hh
      obtain ⟨rfl, rfl⟩ := hR
      try simp only [List.cons_append, List.nil_append] at hh
      refine wl (wl_val hl rfl trivial (r_not hl rfl) ?_)
      clear hl a; intro a hl
      refine w_nil ?_
      have hl2 := hl.add (t := 0) (hl.add (t := 1) (hl.add (t := 5) (hl.add (t := 6) (hl.add (t := 7) (hl.add (t := 29) (hl.nil) rfl) rfl) rfl) rfl) rfl) rfl; clear hl; have hl := hl2; clear hl2
      refine then_normal ?_
      refine c_cond hl rfl ?_ ?_
      · intro hc2
        try simp only [decide_eq_true_eq, decide_eq_false_iff_not, Bool.not_eq_true', Bool.not_eq_false', Bool.not_eq_true, Bool.not_eq_false, Bool.and_eq_true, Bool.or_eq_true, Bool.and_eq_false_iff, Bool.or_eq_false_iff, Bool.not_not, ne_eq, Int.not_lt, Int.not_le, Decidable.not_not, beq_iff_eq, bne_iff_ne] at hc2
        refine c_seq ?_
        refine c_region ?_
        refine wl (wl_val hl rfl trivial (r_move hl rfl) ?_)
        clear hl a; intro a hl
        refine wl (wl_val hl rfl trivial (r_move hl rfl) ?_)
        clear hl a; intro a hl
        refine wl (w_loadA hl hh rfl trivial agg130 rfl (by repeat (first | exact find_head | apply find_tail)) (by first | exact hrd2 | (simp only [List.getElem?_cons_zero, List.getElem?_cons_succ, Value.cells, List.take_zero, List.take_succ_cons, List.take_nil, List.drop_zero, List.drop_succ_cons, List.drop_nil, List.length_cons, List.length_nil, List.cons_append, List.nil_append, List.append_nil, Nat.zero_add, Nat.add_zero, Nat.reduceAdd, Nat.reduceBEq, Nat.reduceEqDiff, Nat.ble, BEq.rfl, Bool.and_true, Bool.and_self, cond_true, beq_self_eq_true]; rfl)) (by first | rfl | (simp; done)) ?_)
        clear hl a; intro a hl
        refine wl (wl_val hl rfl trivial (r_indexS hl rfl rfl slc108 (by omega) (by omega) (by first | (simp only [Int.reduceToNat]; rfl) | exact toNat_add1 _ | exact toNat_add2 _ _ | exact toNat_emod _ _ | exact Int.toNat_natCast _ | rfl)) ?_)
        clear hl a; intro a hl
        refine wl (w_storeA hl hh trivial agg130 rfl rfl (by repeat (first | exact find_head | apply find_tail)) (by first | rfl | (simp; done) | exact hrd2) (by first | (simp; done) | (simp; omega) | (rw [hLj]; omega)) (by first | rfl | (simp; done)) (by first | exact fl_set rqc_len z.L x junk z.i (by omega) | (simp only [setL, List.getElem?_cons_zero, List.getElem?_cons_succ, Value.cells, List.take_zero, List.take_succ_cons, List.take_nil, List.drop_zero, List.drop_succ_cons, List.drop_nil, List.length_cons, List.length_nil, List.cons_append, List.nil_append, List.append_nil, Nat.zero_add, Nat.add_zero, Nat.reduceAdd, Nat.reduceBEq, Nat.reduceEqDiff, Nat.ble, BEq.rfl, Bool.and_true, Bool.and_self, cond_true, beq_self_eq_true]; rfl)) ?_)
        clear hh w; intro w hh
        refine w_nil ?_
        have hl2 := hl.add (t := 0) (hl.add (t := 1) (hl.add (t := 5) (hl.add (t := 6) (hl.nil) rfl) rfl) rfl) rfl; clear hl; have hl := hl2; clear hl2
        refine then_normal ?_
        refine c_region ?_
        refine wl (wl_val hl rfl trivial (r_move hl rfl) ?_)
        clear hl a; intro a hl
        first | refine wl (wl_val hl rfl trivial (r_add hl rfl rfl (by simp only [Fits]; omega)) ?_) | refine wl (wl_val hl rfl trivial (r_addW hl rfl rfl) ?_)
        clear hl a; intro a hl
        refine wl (wl_val hl rfl trivial (r_assign hl rfl) ?_)
        clear hl a; intro a hl
        refine w_nil ?_
        have hl2 := hl.add (t := 0) (hl.add (t := 1) (hl.add (t := 5) (hl.add (t := 6) (hl.nil) rfl) rfl) rfl) rfl; clear hl; have hl := hl2; clear hl2
        refine blk_normal ?_
        refine then_normal ?_
        refine c_region ?_
        refine wl (wl_val hl rfl trivial (r_move hl rfl) ?_)
        clear hl a; intro a hl
        first | refine wl (wl_val hl rfl trivial (r_add hl rfl rfl (by simp only [Fits]; omega)) ?_) | refine wl (wl_val hl rfl trivial (r_addW hl rfl rfl) ?_)
        clear hl a; intro a hl
        refine wl (wl_val hl rfl trivial (r_assign hl rfl) ?_)
        clear hl a; intro a hl
        refine w_nil ?_
        have hl2 := hl.add (t := 0) (hl.add (t := 1) (hl.add (t := 5) (hl.add (t := 6) (hl.nil) rfl) rfl) rfl) rfl; clear hl; have hl := hl2; clear hl2
        refine then_normal ?_
        first | refine ⟨⟨z.i + 1, z.j + 1, z.L.set z.i x⟩, (by simp only; omega), (hI.keep hx (by assumption)), hl.addE (t := 5) (hl.addE (t := 6) (hl.addE (t := 0) (hl.addE (t := 1) (hl.nil) rfl (by first | rfl | (congr 1; omega))) rfl (by first | rfl | (congr 1; omega))) rfl (by first | rfl | (congr 1; omega))) rfl (by first | rfl | (congr 1; omega)), hh.keep (by repeat (first | exact keeps_nil | apply keeps_cons (by repeat (first | exact find_head | apply find_tail)) (by first  | rfl) | exact keeps_self | apply keeps_mv))⟩ | refine ⟨⟨z.i, z.j + 1, z.L⟩, (by simp only; omega), (hI.skip hx (by assumption)), hl.addE (t := 5) (hl.addE (t := 6) (hl.addE (t := 0) (hl.addE (t := 1) (hl.nil) rfl (by first | rfl | (congr 1; omega))) rfl (by first | rfl | (congr 1; omega))) rfl (by first | rfl | (congr 1; omega))) rfl (by first | rfl | (congr 1; omega)), hh.keep (by repeat (first | exact keeps_nil | apply keeps_cons (by repeat (first | exact find_head | apply find_tail)) (by first  | rfl) | exact keeps_self | apply keeps_mv))⟩
      · intro hc2
        try simp only [decide_eq_true_eq, decide_eq_false_iff_not, Bool.not_eq_true', Bool.not_eq_false', Bool.not_eq_true, Bool.not_eq_false, Bool.and_eq_true, Bool.or_eq_true, Bool.and_eq_false_iff, Bool.or_eq_false_iff, Bool.not_not, ne_eq, Int.not_lt, Int.not_le, Decidable.not_not, beq_iff_eq, bne_iff_ne] at hc2
        refine wp_skip ?_
        refine blk_normal ?_
        refine then_normal ?_
        refine c_region ?_
        refine wl (wl_val hl rfl trivial (r_move hl rfl) ?_)
        clear hl a; intro a hl
        first | refine wl (wl_val hl rfl trivial (r_add hl rfl rfl (by simp only [Fits]; omega)) ?_) | refine wl (wl_val hl rfl trivial (r_addW hl rfl rfl) ?_)
        clear hl a; intro a hl
        refine wl (wl_val hl rfl trivial (r_assign hl rfl) ?_)
        clear hl a; intro a hl
        refine w_nil ?_
        have hl2 := hl.add (t := 0) (hl.add (t := 1) (hl.add (t := 5) (hl.add (t := 6) (hl.nil) rfl) rfl) rfl) rfl; clear hl; have hl := hl2; clear hl2
        refine then_normal ?_
        first | refine ⟨⟨z.i + 1, z.j + 1, z.L.set z.i x⟩, (by simp only; omega), (hI.keep hx (by assumption)), hl.addE (t := 5) (hl.addE (t := 6) (hl.addE (t := 0) (hl.addE (t := 1) (hl.nil) rfl (by first | rfl | (congr 1; omega))) rfl (by first | rfl | (congr 1; omega))) rfl (by first | rfl | (congr 1; omega))) rfl (by first | rfl | (congr 1; omega)), hh.keep (by repeat (first | exact keeps_nil | apply keeps_cons (by repeat (first | exact find_head | apply find_tail)) (by first  | rfl) | exact keeps_self | apply keeps_mv))⟩ | refine ⟨⟨z.i, z.j + 1, z.L⟩, (by simp only; omega), (hI.skip hx (by assumption)), hl.addE (t := 5) (hl.addE (t := 6) (hl.addE (t := 0) (hl.addE (t := 1) (hl.nil) rfl (by first | rfl | (congr 1; omega))) rfl (by first | rfl | (congr 1; omega))) rfl (by first | rfl | (congr 1; omega))) rfl (by first | rfl | (congr 1; omega)), hh.keep (by repeat (first | exact keeps_nil | apply keeps_cons (by repeat (first | exact find_head | apply find_tail)) (by first  | rfl) | exact keeps_self | apply keeps_mv))⟩
    · intro hc1
      try simp only [decide_eq_true_eq, decide_eq_false_iff_not, Bool.not_eq_true', Bool.not_eq_false', Bool.not_eq_true, Bool.not_eq_false, Bool.and_eq_true, Bool.or_eq_true, Bool.and_eq_false_iff, Bool.or_eq_false_iff, Bool.not_not, ne_eq, Int.not_lt, Int.not_le, Decidable.not_not, beq_iff_eq, bne_iff_ne] at hc1
      obtain ⟨Y, hY, hzi⟩ := hI.done (by omega)
      refine wp_exit ?_
      refine then_exit ?_
      refine then_exit ?_
      refine blk_exit ?_
      refine then_normal ?_
      refine c_seq ?_
      refine c_region ?_
      refine wl (wl_val hl rfl trivial (r_move hl rfl) ?_)
      clear hl a; intro a hl
      refine wl (wl_val hl rfl trivial (r_move hl rfl) ?_)
      clear hl a; intro a hl
      refine wl (wl_val hl rfl trivial (r_sliceS10 hl rfl rfl slc108 (by omega) (by first | (simp only [Int.reduceToNat]; rfl) | exact toNat_add1 _ | exact toNat_add2 _ _ | exact toNat_emod _ _ | exact Int.toNat_natCast _ | rfl)) ?_)
      clear hl a; intro a hl
      refine wl (w_clear hl hh trivial app108 zero130 (by rfl) rfl (by repeat (first | exact find_head | apply find_tail)) (by rw [hLj]; omega) ?_)
      clear hh w; intro zs w hzs hh
      refine w_nil ?_
      have hl2 := hl.add (t := 0) (hl.add (t := 5) (hl.nil) rfl) rfl; clear hl; have hl := hl2; clear hl2
      obtain ⟨J9, hJ9, hJl9⟩ := clr_set (A := fl rqc (othQ t l)) (J := fl rqc Y ++ junk) (zs := zs) (o := 0 + z.i * 2) (by rw [fl_len rqc_len, hzi]; omega) (by rw [hzs]; rw [hY, fl_append, List.append_assoc, List.length_append, fl_len rqc_len] at hLj; omega)
      rw [hY, fl_append, List.append_assoc, hJ9] at hh
      rw [hY, fl_append, List.append_assoc] at hLj
      refine then_normal ?_
      refine c_seq ?_
      refine c_region ?_
      refine wl (wl_val hl rfl trivial (r_move hl rfl) ?_)
      clear hl a; intro a hl
      refine wl (wl_val hl rfl trivial (r_move hl rfl) ?_)
      clear hl a; intro a hl
      refine wl (wl_val hl rfl trivial (r_sliceS01 (by intro q e; first | (cases e; rfl) | (cases e; done) | (cases e; rfl)) hl rfl rfl slc108 (by omega) (by first | (simp only [Int.reduceToNat]; rfl) | exact toNat_add1 _ | exact toNat_add2 _ _ | exact toNat_emod _ _ | exact Int.toNat_natCast _ | rfl)) ?_)
      clear hl a; intro a hl
      refine wl (wl_val hl rfl trivial (r_assign hl rfl) ?_)
      clear hl a; intro a hl
      refine w_nil ?_
      have hl2 := hl.add (t := 4) (hl.nil) rfl; clear hl; have hl := hl2; clear hl2
      refine then_normal ?_
      refine wp_ret ?_
      refine f_ret1 (F' := [(b, C (fl rqc (othQ t l) ++ J9) 130)]) hl hh rfl rfl (by repeat (first | exact keeps_nil | apply keeps_cons (by repeat (first | exact find_head | apply find_tail)) (by first  | rfl) | exact keeps_self | apply keeps_mv)) ?_
      exact .inr ⟨b, c, J9, by rw [hzi], fl_len rqc_len _, by rw [← hLj]; simp only [List.length_append, hJl9], by omega, rfl⟩
end Go.Proofs.Qxb6500911aGreatDoor

import Derived.Test.Qxb6500915aGreatDoorE0
namespace Go.Proofs.Qxb6500915aGreatDoor
open Go.Eng
set_option linter.unusedVariables false
set_option linter.unusedSimpArgs false
theorem cal64 : callable Tryz.prog 64 = true := by kernel_rfl
theorem agg93 : aggOk Tryz.prog 93 3 = true := by kernel_rfl
/-! ## the order of texts -/
theorem cb_swap : ∀ a b : List UInt8, Lib.compareBytes b a = - Lib.compareBytes a b
  | [], [] => rfl
  | [], _ :: _ => rfl
  | _ :: _, [] => rfl
  | a :: l, b :: m => by
    have h3 := cb_swap l m
    unfold Lib.compareBytes
    by_cases h1 : a < b
    · have h2 : ¬ b < a := fun h => absurd (Nat.lt_trans h1 h) (Nat.lt_irrefl _)
      simp [h1, h2]
    · by_cases h2 : b < a
      · simp [h1, h2]
      · simp [h1, h2, h3]
theorem cb_eq : ∀ a b : List UInt8, Lib.compareBytes a b = 0 → a = b
  | [], [], _ => rfl
  | [], _ :: _, h => by cases h
  | _ :: _, [], h => by cases h
  | a :: l, b :: m, h => by
    unfold Lib.compareBytes at h
    by_cases h1 : a < b
    · simp [h1] at h
    · by_cases h2 : b < a
      · simp [h1, h2] at h
      · simp only [h1, h2, if_false] at h
        have h9 : a = b := by
          have h5 : ¬ a.toNat < b.toNat := h1
          have h6 : ¬ b.toNat < a.toNat := h2
          exact UInt8.toNat_inj.1 (by omega)
        rw [h9, cb_eq l m h]
theorem cb_self (a : List UInt8) : Lib.compareBytes a a = 0 := by
  have := cb_swap a a
  omega
theorem cb_trans : ∀ a b c : List UInt8, Lib.compareBytes a b ≤ 0 → Lib.compareBytes b c ≤ 0 → Lib.compareBytes a c ≤ 0
  | [], _, [], _, _ => Int.le_refl _
  | [], _, _ :: _, _, _ => (by decide : (-1 : Int) ≤ 0)
  | _ :: _, [], _, h, _ => by simp [Lib.compareBytes] at h
  | _ :: _, _ :: _, [], _, h => by simp [Lib.compareBytes] at h
  | a :: l, b :: m, c :: n, h1, h2 => by
    have ih := cb_trans l m n
    unfold Lib.compareBytes at h1 h2 ⊢
    have e1 : (a < b) = (a.toNat < b.toNat) := rfl
    have e2 : (b < a) = (b.toNat < a.toNat) := rfl
    have e3 : (b < c) = (b.toNat < c.toNat) := rfl
    have e4 : (c < b) = (c.toNat < b.toNat) := rfl
    have e5 : (a < c) = (a.toNat < c.toNat) := rfl
    have e6 : (c < a) = (c.toNat < a.toNat) := rfl
    simp only [e1, e2, e3, e4, e5, e6] at h1 h2 ⊢
    by_cases q1 : a.toNat < b.toNat
    · by_cases q3 : c.toNat < b.toNat
      · rw [if_neg (by omega), if_pos q3] at h2; omega
      · rw [if_pos (by omega)]; omega
    · by_cases q2 : b.toNat < a.toNat
      · rw [if_neg q1, if_pos q2] at h1; omega
      · rw [if_neg q1, if_neg q2] at h1
        by_cases q3 : b.toNat < c.toNat
        · rw [if_pos (by omega)]; omega
        · by_cases q4 : c.toNat < b.toNat
          · rw [if_neg q3, if_pos q4] at h2; omega
          · rw [if_neg q3, if_neg q4] at h2
            rw [if_neg (by omega), if_neg (by omega)]
            exact ih h1 h2
theorem cmpS_swap (a b : ByteArray) : cmpS b a = - cmpS a b := cb_swap _ _
theorem cmpS_trans {a b c : ByteArray} (h1 : cmpS a b ≤ 0) (h2 : cmpS b c ≤ 0) : cmpS a c ≤ 0 := cb_trans _ _ _ h1 h2
theorem cmpS_eq {a b : ByteArray} (h : cmpS a b = 0) : a = b := ByteArray.ext (Array.toList_inj.mp (cb_eq _ _ h))
theorem cmpS_self (a : ByteArray) : cmpS a a = 0 := cb_self _
def leP (x y : Pd) : Prop := cmpS x.n y.n ≤ 0
def ltP (x y : Pd) : Prop := cmpS x.n y.n < 0
theorem leP_trans (x y z : Pd) (h1 : leP x y) (h2 : leP y z) : leP x z := cmpS_trans h1 h2
theorem ltP_le (x y z : Pd) (h1 : ltP x y) (h2 : leP y z) : ltP x z := by
  have h3 : leP x z := cmpS_trans (Int.le_of_lt h1) h2
  unfold ltP leP at *
  by_cases e : cmpS x.n z.n = 0
  · have e2 := cmpS_eq e
    rw [e2, cmpS_swap] at h1
    omega
  · omega
theorem pw_one {α : Type} {R : α → α → Prop} (l : List α) : (l.take 1).Pairwise R := by
  cases l with
  | nil => exact List.Pairwise.nil
  | cons a l => simp


structure SS where
  l : List Pd
  i : Nat

set_option maxHeartbeats 8000000 in
theorem sortP_spec (l0 : List Pd) (p : Option Addr) (c : Nat) (E : List (Nat × Obj)) (hR : Row (.slice p l0.length c) l0.length (fl pdc l0) 3 93 E) (hn : 0 < l0.length) (hc9 : l0.length ≤ 100000000) : Sp Tryz.prog 63 #[.slice p l0.length c, .func (.func 64) #[] #[]] E (fun v F' => v = .tuple #[] ∧ ∃ l', l'.Perm l0 ∧ l'.Pairwise leP ∧ Row (.slice p l'.length c) l'.length (fl pdc l') 3 93 F') := by
  refine f_enter (args := [.slice p l0.length c, .func (.func 64) #[] #[]]) Tryz.func63 rfl Tryz.ntmps63 rfl ?_
  intro w0 w a hpre hl hh
  obtain ⟨b, junk, rfl, hjl, hjc, rfl⟩ := row_pos hR hn
  simp only [slotsFrom, Nat.reduceAdd] at hl
  refine c_seq ?_
  refine c_region ?_
  refine wl (wl_val hl rfl trivial (r_assign hl rfl) ?_)
  clear hl a; intro a hl
  refine w_nil ?_
  have hl2 := hl.add (t := 0) (hl.add (t := 1) (hl.add (t := 4) (hl.nil) rfl) rfl) rfl; clear hl; have hl := hl2; clear hl2
  refine then_normal ?_
  refine wp_block ?_
  obtain ⟨KS0, hKS0, hk⟩ := (hl.add (t := 0) (hl.add (t := 1) (hl.nil) rfl) rfl).name
  obtain ⟨HS0, hHS0, hh2⟩ := hh.name (keeps_cons (b := b) (o' := C (fl pdc l0 ++ junk) 93) (by repeat (first | exact find_head | apply find_tail)) (by first | rfl) (keeps_nil))
  refine c_loop (α := SS) (fun z => l0.length - z.i) (fun z a w => ((1 ≤ z.i ∧ z.i ≤ l0.length) ∧ z.l.Perm l0 ∧ (z.l.take z.i).Pairwise leP) ∧ Sl 46 ([(4, .int .i64 (z.i : Int))] ++ KS0) a ∧ Has _ w0 ([(b, C (fl pdc z.l ++ junk) 93)] ++ HS0) w) ⟨l0, 1⟩ ⟨⟨⟨Nat.le_refl _, hn⟩, List.Perm.refl _, pw_one _⟩, hl.addE (t := 4) (hk) rfl (by first | rfl), hh2⟩ ?_
  clear hk hh2 hl hh a w
  intro z a w hI
  obtain ⟨⟨⟨hi1, hi⟩, hp, hs⟩, hl, hh⟩ := hI
  subst hKS0; subst hHS0
  simp only [List.cons_append, List.nil_append, List.append_nil] at hl hh
  have hzl := hp.length_eq
  refine c_seq ?_
  refine c_seq ?_
  refine c_region ?_
  refine wl (wl_val hl rfl trivial (r_move hl rfl) ?_)
  clear hl a; intro a hl
  refine wl (wl_val hl rfl trivial (r_move hl rfl) ?_)
  clear hl a; intro a hl
  refine wl (wl_val hl rfl trivial (r_lenS hl rfl slc31) ?_)
  clear hl a; intro a hl
  refine wl (wl_val hl rfl trivial (r_lss hl rfl rfl) ?_)
  clear hl a; intro a hl
  refine w_nil ?_
  have hl2 := hl.add (t := 0) (hl.add (t := 1) (hl.add (t := 4) (hl.add (t := 9) (hl.nil) rfl) rfl) rfl) rfl; clear hl; have hl := hl2; clear hl2
  refine then_normal ?_
  refine c_cond hl rfl ?_ ?_
  · intro hc0
    try simp only [decide_eq_true_eq, decide_eq_false_iff_not, Bool.not_eq_true', Bool.not_eq_false', Bool.not_eq_true, Bool.not_eq_false, Bool.and_eq_true, Bool.or_eq_true, Bool.and_eq_false_iff, Bool.or_eq_false_iff, Bool.not_not, ne_eq, Int.not_lt, Int.not_le, Decidable.not_not, beq_iff_eq, bne_iff_ne] at hc0
    refine wp_skip ?_
    refine then_normal ?_
    refine c_seq ?_
    refine wp_block ?_
    refine c_seq ?_
    refine c_region ?_
    refine wl (wl_val hl rfl trivial (r_move hl rfl) ?_)
    clear hl a; intro a hl
    refine wl (wl_val hl rfl trivial (r_assign hl rfl) ?_)
    clear hl a; intro a hl
    refine w_nil ?_
    have hl2 := hl.add (t := 0) (hl.add (t := 1) (hl.add (t := 4) (hl.add (t := 5) (hl.nil) rfl) rfl) rfl) rfl; clear hl; have hl := hl2; clear hl2
    refine then_normal ?_
    refine wp_block ?_
    obtain ⟨KS1, hKS1, hk⟩ := (hl.add (t := 0) (hl.add (t := 1) (hl.add (t := 4) (hl.nil) rfl) rfl) rfl).name
    obtain ⟨HS1, hHS1, hh2⟩ := hh.name (keeps_cons (b := b) (o' := C (fl pdc z.l ++ junk) 93) (by repeat (first | exact find_head | apply find_tail)) (by first | rfl) (keeps_nil))
    refine c_loop (α := SS) (fun u => u.i) (fun u a w => (u.i ≤ z.i ∧ Ins leP ltP l0 u.l z.i u.i) ∧ Sl 46 ([(5, .int .i64 (u.i : Int))] ++ KS1) a ∧ Has _ w0 ([(b, C (fl pdc u.l ++ junk) 93)] ++ HS1) w) ⟨z.l, z.i⟩ ⟨⟨Nat.le_refl _, ins_start hp hs (show z.i < z.l.length by omega)⟩, hl.addE (t := 5) (hk) rfl (by first | rfl), hh2⟩ ?_
    clear hk hh2 hl hh a w
    intro u a w hI
    obtain ⟨⟨hui, hu⟩, hl, hh⟩ := hI
    subst hKS1; subst hHS1
    simp only [List.cons_append, List.nil_append, List.append_nil] at hl hh
    have hul := hu.p.length_eq
    refine c_seq ?_
    refine c_seq ?_
    refine c_draw [(b, C (fl pdc u.l ++ junk) 93)] [] mixed hh ?_
    clear hh w; intro w hh
    have hM : Mem [(b, C (fl pdc u.l ++ junk) 93)] w := (by (repeat (first | exact Mem.nil | refine Mem.cons hh.mem (by (repeat (first | exact find_head | apply find_tail)); done) ?_ | refine Mem.consR hh (by assumption) (by simp) ?_ | fail)); done)
    refine d_take (i := 0) hl rfl (by kernel_rfl) (by kernel_rfl) (by kernel_rfl) (by kernel_rfl) (by kernel_rfl) rfl trivial (fun _ _ _ h => h) hM (fun w hC => r_move hl rfl) rfl ?_
    clear hl a; intro a hl
    refine d_take (i := 1) hl rfl (by kernel_rfl) (by kernel_rfl) (by kernel_rfl) (by kernel_rfl) (by kernel_rfl) rfl trivial (fun _ _ _ h => h) hM (fun w hC => r_gtr hl rfl rfl) rfl ?_
    clear hl a; intro a hl
    refine d_take (i := 2) hl rfl (by kernel_rfl) (by kernel_rfl) (by kernel_rfl) (by kernel_rfl) (by kernel_rfl) rfl trivial (fun _ _ _ h => h) hM (fun w hC => r_move hl rfl) rfl ?_
    clear hl a; intro a hl
    refine sl_split (t := 15) hl rfl ?_ ?_
    · intro hg1; clear hl; intro hl
      try simp only [decide_eq_true_eq, decide_eq_false_iff_not, Bool.not_eq_true', Bool.not_eq_false', Bool.not_eq_true, Bool.not_eq_false, Bool.and_eq_true, Bool.or_eq_true, Bool.and_eq_false_iff, Bool.or_eq_false_iff, Bool.not_not, ne_eq, Int.not_lt, Int.not_le, Decidable.not_not, beq_iff_eq, bne_iff_ne] at hg1
      refine d_take (i := 3) hl rfl (by kernel_rfl) (by kernel_rfl) (by kernel_rfl) (by kernel_rfl) (by kernel_rfl) rfl ⟨_, _, rfl, rfl, rfl⟩ (fun _ _ _ h => h) hM (fun w hC => r_move hl rfl) rfl ?_
      clear hl a; intro a hl
      obtain ⟨j, hje⟩ : ∃ j, u.i = j + 1 := ⟨u.i - 1, by omega⟩
      obtain ⟨x, hx⟩ : ∃ x, u.l[u.i]? = some x := ⟨_, List.getElem?_eq_getElem (by omega)⟩
      obtain ⟨y, hy⟩ : ∃ y, u.l[j]? = some y := ⟨_, List.getElem?_eq_getElem (by omega)⟩
      have hd1 := fl_at pdc_len hx junk
      have hd2 := fl_at pdc_len hy junk
      simp only [pdc] at hd1 hd2
      refine d_take (i := 4) hl rfl (by kernel_rfl) (by kernel_rfl) (by kernel_rfl) (by kernel_rfl) (by kernel_rfl) rfl ⟨_, _, rfl, rfl, rfl⟩ (fun _ _ _ h => h) hM (fun w hC => r_move hl rfl) rfl ?_
      clear hl a; intro a hl
      refine d_take (i := 5) hl rfl (by kernel_rfl) (by kernel_rfl) (by kernel_rfl) (by kernel_rfl) (by kernel_rfl) rfl ⟨_, _, rfl, rfl, rfl⟩ (fun _ _ _ h => h) hM (fun w hC => r_move hl rfl) rfl ?_
      clear hl a; intro a hl
      refine d_take (i := 6) hl rfl (by kernel_rfl) (by kernel_rfl) (by kernel_rfl) (by kernel_rfl) (by kernel_rfl) rfl ⟨_, _, rfl, rfl, rfl⟩ (fun _ _ _ h => h) hM (fun w hC => r_indexS hl rfl rfl slc31 (by omega) (by omega) (by first | (simp only [Int.reduceToNat]; rfl) | exact toNat_add1 _ | exact toNat_add2 _ _ | exact toNat_emod _ _ | exact Int.toNat_natCast _ | rfl)) rfl ?_
      clear hl a; intro a hl
      refine d_take (i := 7) hl rfl (by kernel_rfl) (by kernel_rfl) (by kernel_rfl) (by kernel_rfl) (by kernel_rfl) rfl ⟨_, _, rfl, rfl, rfl⟩ (fun _ _ _ h => h) hM (fun w hC => r_loadCA hl rfl agg93 hC (by repeat (first | exact find_head | apply find_tail)) (by first | exact hd1 | exact hd2 | (simp only [List.getElem?_cons_zero, List.getElem?_cons_succ, Value.cells, List.take_zero, List.take_succ_cons, List.take_nil, List.drop_zero, List.drop_succ_cons, List.drop_nil, List.length_cons, List.length_nil, List.cons_append, List.nil_append, List.append_nil, Nat.zero_add, Nat.add_zero, Nat.reduceAdd, Nat.reduceBEq, Nat.reduceEqDiff, Nat.ble, BEq.rfl, Bool.and_true, Bool.and_self, cond_true, beq_self_eq_true]; rfl)) (by first | rfl | (simp; done))) rfl ?_
      clear hl a; intro a hl
      refine d_take (i := 8) hl rfl (by kernel_rfl) (by kernel_rfl) (by kernel_rfl) (by kernel_rfl) (by kernel_rfl) rfl ⟨_, _, rfl, rfl, rfl⟩ (fun _ _ _ h => h) hM (fun w hC => r_move hl rfl) rfl ?_
      clear hl a; intro a hl
      refine d_take (i := 9) hl rfl (by kernel_rfl) (by kernel_rfl) (by kernel_rfl) (by kernel_rfl) (by kernel_rfl) rfl ⟨_, _, rfl, rfl, rfl⟩ (fun _ _ _ h => h) hM (fun w hC => r_move hl rfl) rfl ?_
      clear hl a; intro a hl
      first | refine d_take (i := 10) hl rfl (by kernel_rfl) (by kernel_rfl) (by kernel_rfl) (by kernel_rfl) (by kernel_rfl) rfl ⟨_, _, rfl, rfl, rfl⟩ (fun _ _ _ h => h) hM (fun w hC => r_sub hl rfl rfl (by simp only [Fits]; omega)) rfl ?_ | refine d_take (i := 10) hl rfl (by kernel_rfl) (by kernel_rfl) (by kernel_rfl) (by kernel_rfl) (by kernel_rfl) rfl ⟨_, _, rfl, rfl, rfl⟩ (fun _ _ _ h => h) hM (fun w hC => r_subW hl rfl rfl) rfl ?_
      clear hl a; intro a hl
      rw [show (u.i : Int) - 1 = (j : Int) by omega] at hl
      refine d_take (i := 11) hl rfl (by kernel_rfl) (by kernel_rfl) (by kernel_rfl) (by kernel_rfl) (by kernel_rfl) rfl ⟨_, _, rfl, rfl, rfl⟩ (fun _ _ _ h => h) hM (fun w hC => r_indexS hl rfl rfl slc31 (by omega) (by omega) (by first | (simp only [Int.reduceToNat]; rfl) | exact toNat_add1 _ | exact toNat_add2 _ _ | exact toNat_emod _ _ | exact Int.toNat_natCast _ | rfl)) rfl ?_
      clear hl a; intro a hl
      refine d_take (i := 12) hl rfl (by kernel_rfl) (by kernel_rfl) (by kernel_rfl) (by kernel_rfl) (by kernel_rfl) rfl ⟨_, _, rfl, rfl, rfl⟩ (fun _ _ _ h => h) hM (fun w hC => r_loadCA hl rfl agg93 hC (by repeat (first | exact find_head | apply find_tail)) (by first | exact hd1 | exact hd2 | (simp only [List.getElem?_cons_zero, List.getElem?_cons_succ, Value.cells, List.take_zero, List.take_succ_cons, List.take_nil, List.drop_zero, List.drop_succ_cons, List.drop_nil, List.length_cons, List.length_nil, List.cons_append, List.nil_append, List.append_nil, Nat.zero_add, Nat.add_zero, Nat.reduceAdd, Nat.reduceBEq, Nat.reduceEqDiff, Nat.ble, BEq.rfl, Bool.and_true, Bool.and_self, cond_true, beq_self_eq_true]; rfl)) (by first | rfl | (simp; done))) rfl ?_
      clear hl a; intro a hl
      refine d_one (i := 13) (by kernel_rfl) rfl ?_
      try clear hM
      refine id (w_call hl hh rfl ⟨_, _, rfl, rfl, rfl⟩ rfl cal64 rfl (lessP_spec x y) (by repeat (first | exact keeps_nil | apply keeps_cons (by repeat (first | exact find_head | apply find_tail)) (by first  | rfl) | exact keeps_self | apply keeps_mv)) trivial ?_)
      clear hl hh a w; intro vc Fc a w hR hl hh
      obtain ⟨rfl, rfl⟩ := hR
      try simp only [List.cons_append, List.nil_append] at hh
      have hM : Mem [(b, C (fl pdc u.l ++ junk) 93)] w := (by (repeat (first | exact Mem.nil | refine Mem.cons hh.mem (by (repeat (first | exact find_head | apply find_tail)); done) ?_ | refine Mem.consR hh (by assumption) (by simp) ?_ | fail)); done)
      refine d_step (fun _ => hM) ?_
      refine d_take (i := 14) hl rfl (by kernel_rfl) (by kernel_rfl) (by kernel_rfl) (by kernel_rfl) (by kernel_rfl) rfl trivial (fun _ _ _ h => h) hM (fun w hC => r_pickT hl rfl rfl) rfl ?_
      clear hl a; intro a hl
      refine d_done (by kernel_rfl) ?_
      try clear hM
      have hl2 := hl.add (t := 0) (hl.add (t := 1) (hl.add (t := 4) (hl.add (t := 5) (hl.add (t := 27) (hl.nil) rfl) rfl) rfl) rfl) rfl; clear hl; have hl := hl2; clear hl2
      refine then_normal ?_
      refine c_cond hl rfl ?_ ?_
      · intro hc1
        try simp only [decide_eq_true_eq, decide_eq_false_iff_not, Bool.not_eq_true', Bool.not_eq_false', Bool.not_eq_true, Bool.not_eq_false, Bool.and_eq_true, Bool.or_eq_true, Bool.and_eq_false_iff, Bool.or_eq_false_iff, Bool.not_not, ne_eq, Int.not_lt, Int.not_le, Decidable.not_not, beq_iff_eq, bne_iff_ne] at hc1
        have hlt : ltP x y := by unfold ltP; first | exact hc1 | omega
        refine wp_skip ?_
        refine then_normal ?_
        refine c_seq ?_
        refine wp_block ?_
        refine c_draw [] [16, 17] mixed hh ?_
        clear hh w; intro w hh
        have hM : Mem [] w := Mem.nil
        refine d_take (i := 0) hl rfl (by kernel_rfl) (by kernel_rfl) (by kernel_rfl) (by kernel_rfl) (by kernel_rfl) rfl trivial (fun _ _ _ h => h) hM (fun w hC => r_move hl rfl) rfl ?_
        clear hl a; intro a hl
        refine d_take (i := 1) hl rfl (by kernel_rfl) (by kernel_rfl) (by kernel_rfl) (by kernel_rfl) (by kernel_rfl) rfl trivial (fun _ _ _ h => h) hM (fun w hC => r_move hl rfl) rfl ?_
        clear hl a; intro a hl
        refine d_take (i := 2) hl rfl (by kernel_rfl) (by kernel_rfl) (by kernel_rfl) (by kernel_rfl) (by kernel_rfl) rfl trivial (fun _ _ _ h => h) hM (fun w hC => r_move hl rfl) rfl ?_
        clear hl a; intro a hl
        refine d_take (i := 3) hl rfl (by kernel_rfl) (by kernel_rfl) (by kernel_rfl) (by kernel_rfl) (by kernel_rfl) rfl trivial (fun _ _ _ h => h) hM (fun w hC => r_move hl rfl) rfl ?_
        clear hl a; intro a hl
        first | refine d_take (i := 4) hl rfl (by kernel_rfl) (by kernel_rfl) (by kernel_rfl) (by kernel_rfl) (by kernel_rfl) rfl trivial (fun _ _ _ h => h) hM (fun w hC => r_sub hl rfl rfl (by simp only [Fits]; omega)) rfl ?_ | refine d_take (i := 4) hl rfl (by kernel_rfl) (by kernel_rfl) (by kernel_rfl) (by kernel_rfl) (by kernel_rfl) rfl trivial (fun _ _ _ h => h) hM (fun w hC => r_subW hl rfl rfl) rfl ?_
        clear hl a; intro a hl
        rw [show (u.i : Int) - 1 = (j : Int) by omega] at hl
        refine d_take (i := 5) hl rfl (by kernel_rfl) (by kernel_rfl) (by kernel_rfl) (by kernel_rfl) (by kernel_rfl) rfl trivial (fun _ _ _ h => h) hM (fun w hC => r_move hl rfl) rfl ?_
        clear hl a; intro a hl
        refine d_take (i := 6) hl rfl (by kernel_rfl) (by kernel_rfl) (by kernel_rfl) (by kernel_rfl) (by kernel_rfl) rfl trivial (fun _ _ _ h => h) hM (fun w hC => r_move hl rfl) rfl ?_
        clear hl a; intro a hl
        first | refine d_take (i := 7) hl rfl (by kernel_rfl) (by kernel_rfl) (by kernel_rfl) (by kernel_rfl) (by kernel_rfl) rfl trivial (fun _ _ _ h => h) hM (fun w hC => r_sub hl rfl rfl (by simp only [Fits]; omega)) rfl ?_ | refine d_take (i := 7) hl rfl (by kernel_rfl) (by kernel_rfl) (by kernel_rfl) (by kernel_rfl) (by kernel_rfl) rfl trivial (fun _ _ _ h => h) hM (fun w hC => r_subW hl rfl rfl) rfl ?_
        clear hl a; intro a hl
        rw [show (u.i : Int) - 1 = (j : Int) by omega] at hl
        refine d_take (i := 8) hl rfl (by kernel_rfl) (by kernel_rfl) (by kernel_rfl) (by kernel_rfl) (by kernel_rfl) rfl trivial (fun _ _ _ h => h) hM (fun w hC => r_indexS hl rfl rfl slc31 (by omega) (by omega) (by first | (simp only [Int.reduceToNat]; rfl) | exact toNat_add1 _ | exact toNat_add2 _ _ | exact toNat_emod _ _ | exact Int.toNat_natCast _ | rfl)) rfl ?_
        clear hl a; intro a hl
        refine d_take (i := 10) hl rfl (by kernel_rfl) (by kernel_rfl) (by kernel_rfl) (by kernel_rfl) (by kernel_rfl) rfl trivial (fun _ _ _ h => h) hM (fun w hC => r_move hl rfl) rfl ?_
        clear hl a; intro a hl
        refine d_take (i := 11) hl rfl (by kernel_rfl) (by kernel_rfl) (by kernel_rfl) (by kernel_rfl) (by kernel_rfl) rfl trivial (fun _ _ _ h => h) hM (fun w hC => r_move hl rfl) rfl ?_
        clear hl a; intro a hl
        refine d_take (i := 12) hl rfl (by kernel_rfl) (by kernel_rfl) (by kernel_rfl) (by kernel_rfl) (by kernel_rfl) rfl trivial (fun _ _ _ h => h) hM (fun w hC => r_indexS hl rfl rfl slc31 (by omega) (by omega) (by first | (simp only [Int.reduceToNat]; rfl) | exact toNat_add1 _ | exact toNat_add2 _ _ | exact toNat_emod _ _ | exact Int.toNat_natCast _ | rfl)) rfl ?_
        clear hl a; intro a hl
        refine d_two (i := 9) (j := 13) (by kernel_rfl) rfl rfl ?_ ?_
        ·
          try clear hM
          refine id (w_loadA hl hh rfl trivial agg93 rfl (by repeat (first | exact find_head | apply find_tail)) (by first | exact hd1 | exact hd2 | (simp only [List.getElem?_cons_zero, List.getElem?_cons_succ, Value.cells, List.take_zero, List.take_succ_cons, List.take_nil, List.drop_zero, List.drop_succ_cons, List.drop_nil, List.length_cons, List.length_nil, List.cons_append, List.nil_append, List.append_nil, Nat.zero_add, Nat.add_zero, Nat.reduceAdd, Nat.reduceBEq, Nat.reduceEqDiff, Nat.ble, BEq.rfl, Bool.and_true, Bool.and_self, cond_true, beq_self_eq_true]; rfl)) (by first | rfl | (simp; done)) ?_)
          clear hl a; intro a hl
          have hM : Mem [] w := Mem.nil
          refine d_step (fun _ => hM) ?_
          refine d_one (i := 13) (by kernel_rfl) rfl ?_
          try clear hM
          refine id (w_loadA hl hh rfl trivial agg93 rfl (by repeat (first | exact find_head | apply find_tail)) (by first | exact hd1 | exact hd2 | (simp only [List.getElem?_cons_zero, List.getElem?_cons_succ, Value.cells, List.take_zero, List.take_succ_cons, List.take_nil, List.drop_zero, List.drop_succ_cons, List.drop_nil, List.length_cons, List.length_nil, List.cons_append, List.nil_append, List.append_nil, Nat.zero_add, Nat.add_zero, Nat.reduceAdd, Nat.reduceBEq, Nat.reduceEqDiff, Nat.ble, BEq.rfl, Bool.and_true, Bool.and_self, cond_true, beq_self_eq_true]; rfl)) (by first | rfl | (simp; done)) ?_)
          clear hl a; intro a hl
          have hM : Mem [] w := Mem.nil
          refine d_step (fun _ => hM) ?_
          refine d_take (i := 14) hl rfl (by kernel_rfl) (by kernel_rfl) (by kernel_rfl) (by kernel_rfl) (by kernel_rfl) rfl trivial (fun _ _ _ h => h) hM (fun w hC => r_indexS hl rfl rfl slc31 (by omega) (by omega) (by first | (simp only [Int.reduceToNat]; rfl) | exact toNat_add1 _ | exact toNat_add2 _ _ | exact toNat_emod _ _ | exact Int.toNat_natCast _ | rfl)) rfl ?_
          clear hl a; intro a hl
          refine d_one (i := 15) (by kernel_rfl) rfl ?_
          try clear hM
          refine id (w_storeA hl hh trivial agg93 rfl rfl (by repeat (first | exact find_head | apply find_tail)) (by first | rfl | (simp; done) | exact hd1 | exact hd2) (by first | (simp; done) | (simp; omega) | (rw [List.length_append, fl_len pdc_len]; (try simp only [List.length_set]); omega)) (by first | rfl | (simp; done)) (by first | exact fl_set pdc_len _ x junk j (by (try simp only [List.length_set]); omega) | exact fl_set pdc_len _ y junk u.i (by (try simp only [List.length_set]); omega) | (simp only [setL, List.getElem?_cons_zero, List.getElem?_cons_succ, Value.cells, List.take_zero, List.take_succ_cons, List.take_nil, List.drop_zero, List.drop_succ_cons, List.drop_nil, List.length_cons, List.length_nil, List.cons_append, List.nil_append, List.append_nil, Nat.zero_add, Nat.add_zero, Nat.reduceAdd, Nat.reduceBEq, Nat.reduceEqDiff, Nat.ble, BEq.rfl, Bool.and_true, Bool.and_self, cond_true, beq_self_eq_true]; rfl)) ?_)
          clear hh w; intro w hh
          have hM : Mem [] w := Mem.nil
          refine d_step (fun _ => hM) ?_
          refine d_takeL (i := 16) hl rfl (by kernel_rfl) (by kernel_rfl) (by kernel_rfl) (by kernel_rfl) (by kernel_rfl) rfl trivial (fun _ _ _ h => h) (fun w => r_indexS hl rfl rfl slc31 (by omega) (by omega) (by first | (simp only [Int.reduceToNat]; rfl) | exact toNat_add1 _ | exact toNat_add2 _ _ | exact toNat_emod _ _ | exact Int.toNat_natCast _ | rfl)) rfl ?_
          clear hl a; intro a hl
          refine d_one (i := 17) (by kernel_rfl) rfl ?_
          try clear hM
          refine id (w_storeA hl hh trivial agg93 rfl rfl (by repeat (first | exact find_head | apply find_tail)) (by first | rfl | (simp; done) | exact hd1 | exact hd2) (by first | (simp; done) | (simp; omega) | (rw [List.length_append, fl_len pdc_len]; (try simp only [List.length_set]); omega)) (by first | rfl | (simp; done)) (by first | exact fl_set pdc_len _ x junk j (by (try simp only [List.length_set]); omega) | exact fl_set pdc_len _ y junk u.i (by (try simp only [List.length_set]); omega) | (simp only [setL, List.getElem?_cons_zero, List.getElem?_cons_succ, Value.cells, List.take_zero, List.take_succ_cons, List.take_nil, List.drop_zero, List.drop_succ_cons, List.drop_nil, List.length_cons, List.length_nil, List.cons_append, List.nil_append, List.append_nil, Nat.zero_add, Nat.add_zero, Nat.reduceAdd, Nat.reduceBEq, Nat.reduceEqDiff, Nat.ble, BEq.rfl, Bool.and_true, Bool.and_self, cond_true, beq_self_eq_true]; rfl)) ?_)
          clear hh w; intro w hh
          refine d_step (fun h => absurd h (by decide)) ?_
          refine d_done (by kernel_rfl) ?_
          try clear hM
          have hl2 := hl.add (t := 0) (hl.add (t := 1) (hl.add (t := 4) (hl.add (t := 5) (hl.nil) rfl) rfl) rfl) rfl; clear hl; have hl := hl2; clear hl2
          try rw [hje] at hh
          try rw [List.set_comm _ _ (show j ≠ j + 1 by omega)] at hh
          refine blk_normal ?_
          refine then_normal ?_
          refine c_region ?_
          refine wl (wl_val hl rfl trivial (r_move hl rfl) ?_)
          clear hl a; intro a hl
          first | refine wl (wl_val hl rfl trivial (r_sub hl rfl rfl (by simp only [Fits]; omega)) ?_) | refine wl (wl_val hl rfl trivial (r_subW hl rfl rfl) ?_)
          clear hl a; intro a hl
          refine wl (wl_val hl rfl trivial (r_assign hl rfl) ?_)
          clear hl a; intro a hl
          refine w_nil ?_
          have hl2 := hl.add (t := 0) (hl.add (t := 1) (hl.add (t := 4) (hl.add (t := 5) (hl.nil) rfl) rfl) rfl) rfl; clear hl; have hl := hl2; clear hl2
          refine then_normal ?_
          refine ⟨⟨(u.l.set (j + 1) y).set j x, j⟩, (by simp only; omega), ⟨by simp only; omega, ins_step (j := j) (by rw [hje] at hu; exact hu) (by rw [← hje]; exact hx) hy hlt ltP_le⟩, hl.addE (t := 5) (hl.addE (t := 0) (hl.addE (t := 1) (hl.addE (t := 4) (hl.nil) rfl (by first | rfl | exact congrArg (Value.int .i64) (show (u.i : Int) - 1 = (j : Int) by omega))) rfl (by first | rfl | exact congrArg (Value.int .i64) (show (u.i : Int) - 1 = (j : Int) by omega))) rfl (by first | rfl | exact congrArg (Value.int .i64) (show (u.i : Int) - 1 = (j : Int) by omega))) rfl (by first | rfl | exact congrArg (Value.int .i64) (show (u.i : Int) - 1 = (j : Int) by omega)), hh.keep (by repeat (first | exact keeps_nil | apply keeps_cons (by repeat (first | exact find_head | apply find_tail)) (by first  | rfl) | exact keeps_self | apply keeps_mv))⟩
        ·
          try clear hM
          refine id (w_loadA hl hh rfl trivial agg93 rfl (by repeat (first | exact find_head | apply find_tail)) (by first | exact hd1 | exact hd2 | (simp only [List.getElem?_cons_zero, List.getElem?_cons_succ, Value.cells, List.take_zero, List.take_succ_cons, List.take_nil, List.drop_zero, List.drop_succ_cons, List.drop_nil, List.length_cons, List.length_nil, List.cons_append, List.nil_append, List.append_nil, Nat.zero_add, Nat.add_zero, Nat.reduceAdd, Nat.reduceBEq, Nat.reduceEqDiff, Nat.ble, BEq.rfl, Bool.and_true, Bool.and_self, cond_true, beq_self_eq_true]; rfl)) (by first | rfl | (simp; done)) ?_)
          clear hl a; intro a hl
          have hM : Mem [] w := Mem.nil
          refine d_step (fun _ => hM) ?_
          refine d_one (i := 9) (by kernel_rfl) rfl ?_
          try clear hM
          refine id (w_loadA hl hh rfl trivial agg93 rfl (by repeat (first | exact find_head | apply find_tail)) (by first | exact hd1 | exact hd2 | (simp only [List.getElem?_cons_zero, List.getElem?_cons_succ, Value.cells, List.take_zero, List.take_succ_cons, List.take_nil, List.drop_zero, List.drop_succ_cons, List.drop_nil, List.length_cons, List.length_nil, List.cons_append, List.nil_append, List.append_nil, Nat.zero_add, Nat.add_zero, Nat.reduceAdd, Nat.reduceBEq, Nat.reduceEqDiff, Nat.ble, BEq.rfl, Bool.and_true, Bool.and_self, cond_true, beq_self_eq_true]; rfl)) (by first | rfl | (simp; done)) ?_)
          clear hl a; intro a hl
          have hM : Mem [] w := Mem.nil
          refine d_step (fun _ => hM) ?_
          refine d_take (i := 14) hl rfl (by kernel_rfl) (by kernel_rfl) (by kernel_rfl) (by kernel_rfl) (by kernel_rfl) rfl trivial (fun _ _ _ h => h) hM (fun w hC => r_indexS hl rfl rfl slc31 (by omega) (by omega) (by first | (simp only [Int.reduceToNat]; rfl) | exact toNat_add1 _ | exact toNat_add2 _ _ | exact toNat_emod _ _ | exact Int.toNat_natCast _ | rfl)) rfl ?_
          clear hl a; intro a hl
          refine d_one (i := 15) (by kernel_rfl) rfl ?_
          try clear hM
          refine id (w_storeA hl hh trivial agg93 rfl rfl (by repeat (first | exact find_head | apply find_tail)) (by first | rfl | (simp; done) | exact hd1 | exact hd2) (by first | (simp; done) | (simp; omega) | (rw [List.length_append, fl_len pdc_len]; (try simp only [List.length_set]); omega)) (by first | rfl | (simp; done)) (by first | exact fl_set pdc_len _ x junk j (by (try simp only [List.length_set]); omega) | exact fl_set pdc_len _ y junk u.i (by (try simp only [List.length_set]); omega) | (simp only [setL, List.getElem?_cons_zero, List.getElem?_cons_succ, Value.cells, List.take_zero, List.take_succ_cons, List.take_nil, List.drop_zero, List.drop_succ_cons, List.drop_nil, List.length_cons, List.length_nil, List.cons_append, List.nil_append, List.append_nil, Nat.zero_add, Nat.add_zero, Nat.reduceAdd, Nat.reduceBEq, Nat.reduceEqDiff, Nat.ble, BEq.rfl, Bool.and_true, Bool.and_self, cond_true, beq_self_eq_true]; rfl)) ?_)
          clear hh w; intro w hh
          have hM : Mem [] w := Mem.nil
          refine d_step (fun _ => hM) ?_
          refine d_takeL (i := 16) hl rfl (by kernel_rfl) (by kernel_rfl) (by kernel_rfl) (by kernel_rfl) (by kernel_rfl) rfl trivial (fun _ _ _ h => h) (fun w => r_indexS hl rfl rfl slc31 (by omega) (by omega) (by first | (simp only [Int.reduceToNat]; rfl) | exact toNat_add1 _ | exact toNat_add2 _ _ | exact toNat_emod _ _ | exact Int.toNat_natCast _ | rfl)) rfl ?_
          clear hl a; intro a hl
          refine d_one (i := 17) (by kernel_rfl) rfl ?_
          try clear hM
          refine id (w_storeA hl hh trivial agg93 rfl rfl (by repeat (first | exact find_head | apply find_tail)) (by first | rfl | (simp; done) | exact hd1 | exact hd2) (by first | (simp; done) | (simp; omega) | (rw [List.length_append, fl_len pdc_len]; (try simp only [List.length_set]); omega)) (by first | rfl | (simp; done)) (by first | exact fl_set pdc_len _ x junk j (by (try simp only [List.length_set]); omega) | exact fl_set pdc_len _ y junk u.i (by (try simp only [List.length_set]); omega) | (simp only [setL, List.getElem?_cons_zero, List.getElem?_cons_succ, Value.cells, List.take_zero, List.take_succ_cons, List.take_nil, List.drop_zero, List.drop_succ_cons, List.drop_nil, List.length_cons, List.length_nil, List.cons_append, List.nil_append, List.append_nil, Nat.zero_add, Nat.add_zero, Nat.reduceAdd, Nat.reduceBEq, Nat.reduceEqDiff, Nat.ble, BEq.rfl, Bool.and_true, Bool.and_self, cond_true, beq_self_eq_true]; rfl)) ?_)
          clear hh w; intro w hh
          refine d_step (fun h => absurd h (by decide)) ?_
          refine d_done (by kernel_rfl) ?_
          try clear hM
          have hl2 := hl.add (t := 0) (hl.add (t := 1) (hl.add (t := 4) (hl.add (t := 5) (hl.nil) rfl) rfl) rfl) rfl; clear hl; have hl := hl2; clear hl2
          try rw [hje] at hh
          try rw [List.set_comm _ _ (show j ≠ j + 1 by omega)] at hh
          refine blk_normal ?_
          refine then_normal ?_
          refine c_region ?_
          refine wl (wl_val hl rfl trivial (r_move hl rfl) ?_)
          clear hl a; intro a hl
          first | refine wl (wl_val hl rfl trivial (r_sub hl rfl rfl (by simp only [Fits]; omega)) ?_) | refine wl (wl_val hl rfl trivial (r_subW hl rfl rfl) ?_)
          clear hl a; intro a hl
          refine wl (wl_val hl rfl trivial (r_assign hl rfl) ?_)
          clear hl a; intro a hl
          refine w_nil ?_
          have hl2 := hl.add (t := 0) (hl.add (t := 1) (hl.add (t := 4) (hl.add (t := 5) (hl.nil) rfl) rfl) rfl) rfl; clear hl; have hl := hl2; clear hl2
          refine then_normal ?_
          refine ⟨⟨(u.l.set (j + 1) y).set j x, j⟩, (by simp only; omega), ⟨by simp only; omega, ins_step (j := j) (by rw [hje] at hu; exact hu) (by rw [← hje]; exact hx) hy hlt ltP_le⟩, hl.addE (t := 5) (hl.addE (t := 0) (hl.addE (t := 1) (hl.addE (t := 4) (hl.nil) rfl (by first | rfl | exact congrArg (Value.int .i64) (show (u.i : Int) - 1 = (j : Int) by omega))) rfl (by first | rfl | exact congrArg (Value.int .i64) (show (u.i : Int) - 1 = (j : Int) by omega))) rfl (by first | rfl | exact congrArg (Value.int .i64) (show (u.i : Int) - 1 = (j : Int) by omega))) rfl (by first | rfl | exact congrArg (Value.int .i64) (show (u.i : Int) - 1 = (j : Int) by omega)), hh.keep (by repeat (first | exact keeps_nil | apply keeps_cons (by repeat (first | exact find_head | apply find_tail)) (by first  | rfl) | exact keeps_self | apply keeps_mv))⟩
      · intro hc1
        try simp only [decide_eq_true_eq, decide_eq_false_iff_not, Bool.not_eq_true', Bool.not_eq_false', Bool.not_eq_true, Bool.not_eq_false, Bool.and_eq_true, Bool.or_eq_true, Bool.and_eq_false_iff, Bool.or_eq_false_iff, Bool.not_not, ne_eq, Int.not_lt, Int.not_le, Decidable.not_not, beq_iff_eq, bne_iff_ne] at hc1
        have hst : u.i = 0 ∨ ∃ k x a, u.i = k + 1 ∧ u.l[k + 1]? = some x ∧ u.l[k]? = some a ∧ leP a x := by first | exact .inl (by omega) | exact .inr ⟨j, x, y, hje, by rw [← hje]; exact hx, hy, by have := cmpS_swap x.n y.n; unfold leP; omega⟩
        refine wp_exit ?_
        refine then_exit ?_
        refine then_exit ?_
        refine blk_exit ?_
        refine blk_normal ?_
        refine then_normal ?_
        refine c_region ?_
        refine wl (wl_val hl rfl trivial (r_move hl rfl) ?_)
        clear hl a; intro a hl
        first | refine wl (wl_val hl rfl trivial (r_add hl rfl rfl (by simp only [Fits]; omega)) ?_) | refine wl (wl_val hl rfl trivial (r_addW hl rfl rfl) ?_)
        clear hl a; intro a hl
        refine wl (wl_val hl rfl trivial (r_assign hl rfl) ?_)
        clear hl a; intro a hl
        refine w_nil ?_
        have hl2 := hl.add (t := 0) (hl.add (t := 1) (hl.add (t := 4) (hl.nil) rfl) rfl) rfl; clear hl; have hl := hl2; clear hl2
        refine then_normal ?_
        refine ⟨⟨u.l, z.i + 1⟩, (by simp only; omega), ⟨⟨by simp only; omega, by simp only; omega⟩, hu.p, ins_stop hu hst leP_trans (fun _ _ h => Int.le_of_lt h)⟩, hl.addE (t := 4) (hl.addE (t := 0) (hl.addE (t := 1) (hl.nil) rfl (by first | rfl | exact congrArg (Value.int .i64) (show (z.i : Int) + 1 = ((z.i + 1 : Nat) : Int) by omega))) rfl (by first | rfl | exact congrArg (Value.int .i64) (show (z.i : Int) + 1 = ((z.i + 1 : Nat) : Int) by omega))) rfl (by first | rfl | exact congrArg (Value.int .i64) (show (z.i : Int) + 1 = ((z.i + 1 : Nat) : Int) by omega)), hh.keep (by repeat (first | exact keeps_nil | apply keeps_cons (by repeat (first | exact find_head | apply find_tail)) (by first  | rfl) | exact keeps_self | apply keeps_mv))⟩
    · intro hg1; clear hl; intro hl
      try simp only [decide_eq_true_eq, decide_eq_false_iff_not, Bool.not_eq_true', Bool.not_eq_false', Bool.not_eq_true, Bool.not_eq_false, Bool.and_eq_true, Bool.or_eq_true, Bool.and_eq_false_iff, Bool.or_eq_false_iff, Bool.not_not, ne_eq, Int.not_lt, Int.not_le, Decidable.not_not, beq_iff_eq, bne_iff_ne] at hg1
      refine d_skip (i := 3) hl rfl (by kernel_rfl) (by kernel_rfl) (by kernel_rfl) (by kernel_rfl) (by kernel_rfl) rfl ⟨_, _, rfl, rfl, rfl⟩ (fun _ _ _ h => h) hM ?_
      clear hl a; intro a hl
      refine d_skip (i := 4) hl rfl (by kernel_rfl) (by kernel_rfl) (by kernel_rfl) (by kernel_rfl) (by kernel_rfl) rfl ⟨_, _, rfl, rfl, rfl⟩ (fun _ _ _ h => h) hM ?_
      clear hl a; intro a hl
      refine d_skip (i := 5) hl rfl (by kernel_rfl) (by kernel_rfl) (by kernel_rfl) (by kernel_rfl) (by kernel_rfl) rfl ⟨_, _, rfl, rfl, rfl⟩ (fun _ _ _ h => h) hM ?_
      clear hl a; intro a hl
      refine d_skip (i := 6) hl rfl (by kernel_rfl) (by kernel_rfl) (by kernel_rfl) (by kernel_rfl) (by kernel_rfl) rfl ⟨_, _, rfl, rfl, rfl⟩ (fun _ _ _ h => h) hM ?_
      clear hl a; intro a hl
      refine d_skip (i := 7) hl rfl (by kernel_rfl) (by kernel_rfl) (by kernel_rfl) (by kernel_rfl) (by kernel_rfl) rfl ⟨_, _, rfl, rfl, rfl⟩ (fun _ _ _ h => h) hM ?_
      clear hl a; intro a hl
      refine d_skip (i := 8) hl rfl (by kernel_rfl) (by kernel_rfl) (by kernel_rfl) (by kernel_rfl) (by kernel_rfl) rfl ⟨_, _, rfl, rfl, rfl⟩ (fun _ _ _ h => h) hM ?_
      clear hl a; intro a hl
      refine d_skip (i := 9) hl rfl (by kernel_rfl) (by kernel_rfl) (by kernel_rfl) (by kernel_rfl) (by kernel_rfl) rfl ⟨_, _, rfl, rfl, rfl⟩ (fun _ _ _ h => h) hM ?_
      clear hl a; intro a hl
      refine d_skip (i := 10) hl rfl (by kernel_rfl) (by kernel_rfl) (by kernel_rfl) (by kernel_rfl) (by kernel_rfl) rfl ⟨_, _, rfl, rfl, rfl⟩ (fun _ _ _ h => h) hM ?_
      clear hl a; intro a hl
      refine d_skip (i := 11) hl rfl (by kernel_rfl) (by kernel_rfl) (by kernel_rfl) (by kernel_rfl) (by kernel_rfl) rfl ⟨_, _, rfl, rfl, rfl⟩ (fun _ _ _ h => h) hM ?_
      clear hl a; intro a hl
      refine d_skip (i := 12) hl rfl (by kernel_rfl) (by kernel_rfl) (by kernel_rfl) (by kernel_rfl) (by kernel_rfl) rfl ⟨_, _, rfl, rfl, rfl⟩ (fun _ _ _ h => h) hM ?_
      clear hl a; intro a hl
      refine d_skip (i := 13) hl rfl (by kernel_rfl) (by kernel_rfl) (by kernel_rfl) (by kernel_rfl) (by kernel_rfl) rfl ⟨_, _, rfl, rfl, rfl⟩ (fun _ _ _ h => h) hM ?_
      clear hl a; intro a hl
      refine d_take (i := 14) hl rfl (by kernel_rfl) (by kernel_rfl) (by kernel_rfl) (by kernel_rfl) (by kernel_rfl) rfl trivial (fun _ _ _ h => h) hM (fun w hC => r_pickF hl rfl rfl) rfl ?_
      clear hl a; intro a hl
      refine d_done (by kernel_rfl) ?_
      try clear hM
      have hl2 := hl.add (t := 0) (hl.add (t := 1) (hl.add (t := 4) (hl.add (t := 5) (hl.add (t := 27) (hl.nil) rfl) rfl) rfl) rfl) rfl; clear hl; have hl := hl2; clear hl2
      refine then_normal ?_
      refine c_condF hl rfl ?_
      have hst : u.i = 0 ∨ ∃ k x a, u.i = k + 1 ∧ u.l[k + 1]? = some x ∧ u.l[k]? = some a ∧ leP a x := by first | exact .inl (by omega) | exact .inr ⟨j, x, y, hje, by rw [← hje]; exact hx, hy, by have := cmpS_swap x.n y.n; unfold leP; omega⟩
      refine wp_exit ?_
      refine then_exit ?_
      refine then_exit ?_
      refine blk_exit ?_
      refine blk_normal ?_
      refine then_normal ?_
      refine c_region ?_
      refine wl (wl_val hl rfl trivial (r_move hl rfl) ?_)
      clear hl a; intro a hl
      first | refine wl (wl_val hl rfl trivial (r_add hl rfl rfl (by simp only [Fits]; omega)) ?_) | refine wl (wl_val hl rfl trivial (r_addW hl rfl rfl) ?_)
      clear hl a; intro a hl
      refine wl (wl_val hl rfl trivial (r_assign hl rfl) ?_)
      clear hl a; intro a hl
      refine w_nil ?_
      have hl2 := hl.add (t := 0) (hl.add (t := 1) (hl.add (t := 4) (hl.nil) rfl) rfl) rfl; clear hl; have hl := hl2; clear hl2
      refine then_normal ?_
      refine ⟨⟨u.l, z.i + 1⟩, (by simp only; omega), ⟨⟨by simp only; omega, by simp only; omega⟩, hu.p, ins_stop hu hst leP_trans (fun _ _ h => Int.le_of_lt h)⟩, hl.addE (t := 4) (hl.addE (t := 0) (hl.addE (t := 1) (hl.nil) rfl (by first | rfl | exact congrArg (Value.int .i64) (show (z.i : Int) + 1 = ((z.i + 1 : Nat) : Int) by omega))) rfl (by first | rfl | exact congrArg (Value.int .i64) (show (z.i : Int) + 1 = ((z.i + 1 : Nat) : Int) by omega))) rfl (by first | rfl | exact congrArg (Value.int .i64) (show (z.i : Int) + 1 = ((z.i + 1 : Nat) : Int) by omega)), hh.keep (by repeat (first | exact keeps_nil | apply keeps_cons (by repeat (first | exact find_head | apply find_tail)) (by first  | rfl) | exact keeps_self | apply keeps_mv))⟩
  · intro hc0
    try simp only [decide_eq_true_eq, decide_eq_false_iff_not, Bool.not_eq_true', Bool.not_eq_false', Bool.not_eq_true, Bool.not_eq_false, Bool.and_eq_true, Bool.or_eq_true, Bool.and_eq_false_iff, Bool.or_eq_false_iff, Bool.not_not, ne_eq, Int.not_lt, Int.not_le, Decidable.not_not, beq_iff_eq, bne_iff_ne] at hc0
    refine wp_exit ?_
    refine then_exit ?_
    refine then_exit ?_
    refine blk_exit ?_
    refine f_end0 (F' := [(b, C (fl pdc z.l ++ junk) 93)]) hl hh rfl (by repeat (first | exact keeps_nil | apply keeps_cons (by repeat (first | exact find_head | apply find_tail)) (by first  | rfl) | exact keeps_self | apply keeps_mv)) ?_
    have hie : z.i = l0.length := by omega
    rw [hie, ← hzl, List.take_length] at hs
    exact ⟨rfl, z.l, hp, hs, row_set pdc_len hzl hjl hjc⟩
end Go.Proofs.Qxb6500915aGreatDoor

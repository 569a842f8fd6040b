import Derived.Test.Qxb6500915aB9
import Derived.Test.Qxb6500915aC1
import Derived.Test.Qxb6500915aC2
namespace Go.Proofs.Qxb6500915a
open Go.Eng
set_option linter.unusedVariables false
set_option linter.unusedSimpArgs false
theorem bld30 : buildOk Try.prog 30 [(0, 1), (1, 1), (2, 1), (3, 1)] = true := by kernel_rfl
theorem bld34 : buildOk Try.prog 34 [(0, 1), (1, 1), (2, 2)] = true := by kernel_rfl
theorem cal4 : callable Try.prog 4 = true := by kernel_rfl
/-- literal j of the law's rules: path j / 2, half j % 2 -/
def bp (j : Nat) : Nat × Nat := (3 * (j / 2) + j % 2, 3 * (j / 2) + j % 2 + 1)
def bodyN (m : Nat) : List (Nat × Nat) := (List.range m).map bp
theorem bodyN_len (m : Nat) : (bodyN m).length = m := by simp [bodyN]
theorem bodyN_at {m j : Nat} (h : j < m) : (bodyN m)[j]? = some (bp j) := by simp [bodyN, h]
theorem bodyN_get {m j : Nat} {p : Nat × Nat} (h : (bodyN m)[j]? = some p) : j < m ∧ p = bp j := by
  have hj : j < m := by have := (List.getElem?_eq_some_iff.1 h).1; rwa [bodyN_len] at this
  rw [bodyN_at hj] at h
  exact ⟨hj, (Option.some.inj h).symm⟩
def mF (j : Nat) : Nat := 3 * (j / 2) + 2 * (j % 2)
theorem mF_succ (j : Nat) : mN (mF j) [(bp j).1, (bp j).2] = mF (j + 1) := by
  unfold mN
  simp only [List.foldl_cons, List.foldl_nil, mS, mF, bp]
  (repeat' split) <;> omega
theorem mAt_bodyN {m : Nat} : ∀ j, j ≤ m → mAt (bodyN m) j = mF j
  | 0, _ => mAt_zero _
  | j + 1, h => by rw [mAt_succ (bodyN_at (by omega)), mAt_bodyN j (by omega), mF_succ]
theorem dnN {m j : Nat} {p : Nat × Nat} (h : (bodyN m)[j]? = some p) : Dn (mAt (bodyN m) j) [p.1, p.2] := by
  obtain ⟨hj, rfl⟩ := bodyN_get h
  rw [mAt_bodyN j (by omega)]
  intro i v hv
  rcases (show i = 0 ∨ i = 1 ∨ 2 ≤ i by omega) with rfl | rfl | h2
  · have : (bp j).1 = v := Option.some.inj hv
    subst this
    show 3 * (j / 2) + j % 2 ≤ 3 * (j / 2) + 2 * (j % 2)
    omega
  · have : (bp j).2 = v := Option.some.inj hv
    subst this
    show 3 * (j / 2) + j % 2 + 1 ≤ mS (mF j) (bp j).1
    unfold mS mF bp
    simp only
    split <;> omega
  · rw [List.getElem?_eq_none (by simpa using h2)] at hv; cases hv
theorem vbN {k j : Nat} {p : Nat × Nat} (h : (bodyN (2 * k))[j]? = some p) : p.1 < mAt (bodyN (2 * k)) (2 * k) ∧ p.2 < mAt (bodyN (2 * k)) (2 * k) := by
  obtain ⟨hj, rfl⟩ := bodyN_get h
  rw [mAt_bodyN _ (Nat.le_refl _)]
  unfold mF bp
  simp only
  omega
theorem mAt_k (k : Nat) : mAt (bodyN (2 * k)) (2 * k) = 3 * k := by rw [mAt_bodyN _ (Nat.le_refl _)]; unfold mF; omega
theorem code_all (k : Nat) (h1 : 1 ≤ k) (h6 : k ≤ 6) (X : SX) (hb : X.body = bodyN (2 * k)) (ho : X.oc = ocA (bodyN (2 * k)) (mAt (bodyN (2 * k)) (2 * k)) (2 * k)) (hn : X.n = 2 * k) :
    codeP X (2 * k) [(0, List.replicate (mAt (bodyN (2 * k)) (2 * k)) (-1), 0)] = (if k = 6 then 6 else 0) ∧ okP X (2 * k) [(0, List.replicate (mAt (bodyN (2 * k)) (2 * k)) (-1), 0)] := by
  rw [mAt_k] at ho ⊢
  rcases (show k = 1 ∨ k = 2 ∨ k = 3 ∨ k = 4 ∨ k = 5 ∨ k = 6 by omega) with rfl | rfl | rfl | rfl | rfl | rfl
  · exact ⟨code1 X (hb.trans (by decide +kernel)) (ho.trans (by decide +kernel)) hn, ok1 X (hb.trans (by decide +kernel)) (ho.trans (by decide +kernel)) hn⟩
  · exact ⟨code2 X (hb.trans (by decide +kernel)) (ho.trans (by decide +kernel)) hn, ok2 X (hb.trans (by decide +kernel)) (ho.trans (by decide +kernel)) hn⟩
  · exact ⟨code3 X (hb.trans (by decide +kernel)) (ho.trans (by decide +kernel)) hn, ok3 X (hb.trans (by decide +kernel)) (ho.trans (by decide +kernel)) hn⟩
  · exact ⟨code4 X (hb.trans (by decide +kernel)) (ho.trans (by decide +kernel)) hn, ok4 X (hb.trans (by decide +kernel)) (ho.trans (by decide +kernel)) hn⟩
  · exact ⟨code5 X (hb.trans (by decide +kernel)) (ho.trans (by decide +kernel)) hn, ok5 X (hb.trans (by decide +kernel)) (ho.trans (by decide +kernel)) hn⟩
  · exact ⟨code6 X (hb.trans (by decide +kernel)) (ho.trans (by decide +kernel)) hn, ok6 X (hb.trans (by decide +kernel)) (ho.trans (by decide +kernel)) hn⟩
structure LS where
  i : Nat
  ra : List Nat
  bv : Value
  Eb : List (Nat × Obj)
def LS.tail (s : LS) : List (Nat × Obj) := s.Eb ++ argE s.ra (bodyN 12)
structure LSI (s : LS) (j : Nat) : Prop where
  rl : s.ra.length = j
  row : Row s.bv j (fl lc s.ra) 4 34 s.Eb
theorem has_lit {D : List Nat} {w0 w : World} {x y : Nat × Obj} {T E : List (Nat × Obj)} (h : Has D w0 (x :: y :: (T ++ E)) w) : Has D w0 (x :: (E ++ (T ++ [y]))) w := by
  refine h.perm (List.Perm.cons _ ?_)
  rw [← List.append_assoc]
  exact (List.perm_append_comm (l₁ := [y]) (l₂ := T ++ E)).trans (List.Perm.append_right [y] List.perm_append_comm)
theorem bp1 (i s : Nat) (h : s < 2) : (3 * (i : Int) + (s : Int)) = ((bp (2 * i + s)).1 : Int) := by unfold bp; simp only; omega
theorem bp_le (i s : Nat) (h : s < 2) (hi : i < 6) : (bp (2 * i + s)).1 ≤ 100 := by unfold bp; simp only; omega
theorem bp2 (i s : Nat) (h : s < 2) : (((bp (2 * i + s)).1 : Nat) : Int) + 1 = ((bp (2 * i + s)).2 : Int) := by unfold bp; simp only; omega
theorem ruN {k : Nat} {ra : List Nat} {rb : Nat} {rj : List Value} {Eb : List (Nat × Obj)} (hk : k ≤ 6) (hl : ra.length = 2 * k) (hb : Eb = [(rb, C (fl lc ra ++ rj) 34)]) : RuIn (bodyN (2 * k)) ra rb (2 * k) rj (Eb ++ argE ra (bodyN 12)) := by
  refine ⟨by rw [hb]; simp, fun j b p h1 h2 => ?_, bodyN_len _, hl, by omega, fun j p h => dnN h, fun j p h => vbN h⟩
  obtain ⟨hj, rfl⟩ := bodyN_get h2
  exact List.mem_append_right _ (argE_mem h1 (bodyN_at (by omega)))
theorem len3 {cs : List Value} (h : cs.length = 3) : ∃ a b c, cs = [a, b, c] := by
  match cs, h with
  | [a, b, c], _ => exact ⟨a, b, c, rfl⟩
attribute [local irreducible] codeP okP bodyN bp mAt ocA argE


set_option maxHeartbeats 16000000 in
theorem law3 : SpK Try.prog 3 #[] (fun _ => True) [] (fun u F' => u = .bool true ∧ F' = []) := by
  refine f_enter (args := []) Try.func3 rfl Try.ntmps3 rfl ?_
  intro w0 w a hpre hl hh
  simp only [slotsFrom, Nat.reduceAdd] at hl
  refine c_seq ?_
  refine c_region ?_
  refine wl (wl_val hl rfl trivial (r_assign hl rfl) ?_)
  clear hl a; intro a hl
  refine w_nil ?_
  have hl2 := hl.nil; clear hl; have hl := hl2; clear hl2
  refine then_normal ?_
  refine c_seq ?_
  refine c_seq ?_
  refine c_region ?_
  refine wl (wl_val hl rfl trivial (r_assign hl rfl) ?_)
  clear hl a; intro a hl
  refine w_nil ?_
  have hl2 := hl.add (t := 1) (hl.nil) rfl; clear hl; have hl := hl2; clear hl2
  refine then_normal ?_
  refine wp_block ?_
  obtain ⟨KS0, hKS0, hk⟩ := (hl.nil).name
  obtain ⟨HS0, hHS0, hh2⟩ := hh.name (keeps_nil)
  refine c_loop (α := Nat) (fun k => 7 - k) (fun k a w => (1 ≤ k ∧ k ≤ 7) ∧ Sl 56 ([(1, .int .i64 (k : Int))] ++ KS0) a ∧ Has _ w0 ([] ++ HS0) w) 1 ⟨⟨by decide, by decide⟩, hl.addE (t := 1) (hk) rfl (by first | rfl), hh2⟩ ?_
  clear hk hh2 hl hh a w
  intro k a w hI
  obtain ⟨⟨hk1, hk7⟩, hl, hh⟩ := hI
  subst hKS0; subst hHS0
  simp only [List.cons_append, List.nil_append, List.append_nil] at hl hh
  refine c_seq ?_
  refine c_seq ?_
  refine c_region ?_
  refine wl (wl_val hl rfl trivial (r_move hl rfl) ?_)
  clear hl a; intro a hl
  refine wl (wl_val hl rfl trivial (r_leq hl rfl rfl) ?_)
  clear hl a; intro a hl
  refine w_nil ?_
  have hl2 := hl.add (t := 1) (hl.add (t := 11) (hl.nil) rfl) rfl; clear hl; have hl := hl2; clear hl2
  refine then_normal ?_
  refine c_cond hl rfl ?_ ?_
  · intro hc0
    try simp only [decide_eq_true_eq, decide_eq_false_iff_not, Bool.not_eq_true', Bool.not_eq_false', Bool.not_eq_true, Bool.not_eq_false, Bool.and_eq_true, Bool.or_eq_true, Bool.and_eq_false_iff, Bool.or_eq_false_iff, Bool.not_not, ne_eq, Int.not_lt, Int.not_le, Decidable.not_not, beq_iff_eq, bne_iff_ne] at hc0
    skip
    refine wp_skip ?_
    refine then_normal ?_
    refine c_seq ?_
    refine wp_block ?_
    refine c_seq ?_
    refine c_region ?_
    refine wl (wl_val hl rfl trivial (r_build hl rfl zero24 bld24 (by simp only [fillL, setL, List.getElem?_cons_zero, List.getElem?_cons_succ, Value.cells, List.take_zero, List.take_succ_cons, List.take_nil, List.drop_zero, List.drop_succ_cons, List.drop_nil, List.length_cons, List.length_nil, List.cons_append, List.nil_append, List.append_nil, Nat.zero_add, Nat.add_zero, Nat.reduceAdd, Nat.reduceBEq, Nat.reduceEqDiff, Nat.ble, BEq.rfl, Bool.and_true, Bool.and_self, cond_true, beq_self_eq_true]; rfl)) ?_)
    clear hl a; intro a hl
    refine wl (wl_val hl rfl trivial (r_build hl rfl zero27 bld27 (by simp only [fillL, setL, List.getElem?_cons_zero, List.getElem?_cons_succ, Value.cells, List.take_zero, List.take_succ_cons, List.take_nil, List.drop_zero, List.drop_succ_cons, List.drop_nil, List.length_cons, List.length_nil, List.cons_append, List.nil_append, List.append_nil, Nat.zero_add, Nat.add_zero, Nat.reduceAdd, Nat.reduceBEq, Nat.reduceEqDiff, Nat.ble, BEq.rfl, Bool.and_true, Bool.and_self, cond_true, beq_self_eq_true]; rfl)) ?_)
    clear hl a; intro a hl
    refine wl (w_alloc hl hh rfl trivial zero27 rfl ?_)
    clear hl hh a w; intro k2 a w hl hh
    refine wl (w_storeA hl hh trivial agg27 rfl rfl (by repeat (first | exact find_head | apply find_tail)) (by first | rfl | (simp; done)) (by first | (simp; done) | (simp; omega)) (by first | rfl | (simp; done) | exact hc1) (by first | (simp only [setL, List.getElem?_cons_zero, List.getElem?_cons_succ, Value.cells, List.take_zero, List.take_succ_cons, List.take_nil, List.drop_zero, List.drop_succ_cons, List.drop_nil, List.length_cons, List.length_nil, List.cons_append, List.nil_append, List.append_nil, Nat.zero_add, Nat.add_zero, Nat.reduceAdd, Nat.reduceBEq, Nat.reduceEqDiff, Nat.ble, BEq.rfl, Bool.and_true, Bool.and_self, cond_true, beq_self_eq_true]; rfl)) ?_)
    clear hh w; intro w hh
    refine w_nil ?_
    have hl2 := hl.add (t := 1) (hl.add (t := 2) (hl.nil) rfl) rfl; clear hl; have hl := hl2; clear hl2
    refine then_normal ?_
    refine c_seq ?_
    refine c_seq ?_
    refine c_region ?_
    refine wl (wl_val hl rfl trivial (r_move hl rfl) ?_)
    clear hl a; intro a hl
    refine wl (wl_val hl rfl trivial (r_move hl rfl) ?_)
    clear hl a; intro a hl
    refine w_nil ?_
    have hl2 := hl.add (t := 1) (hl.add (t := 2) (hl.add (t := 16) (hl.add (t := 17) (hl.nil) rfl) rfl) rfl) rfl; clear hl; have hl := hl2; clear hl2
    refine then_normal ?_
    refine wp_block ?_
    obtain ⟨KS1, hKS1, hk⟩ := (hl.add (t := 1) (hl.add (t := 2) (hl.add (t := 16) (hl.nil) rfl) rfl) rfl).name
    obtain ⟨HS1, hHS1, hh2⟩ := hh.nameT (A := [(k2, C [.string ⟨#[104]⟩, .slice none 0 0, .slice none 0 0] 27)]) (U := []) (keeps_cons (b := k2) (o' := C [.string ⟨#[104]⟩, .slice none 0 0, .slice none 0 0] 27) (by repeat (first | exact find_head | apply find_tail)) (by first | rfl | rfl) ((by repeat (first | exact keeps_nil | exact keeps_self | exact keeps_swap | apply keeps_mv))))
    refine c_loop (α := LS) (fun s => k - s.i) (fun s a w => (s.i ≤ k ∧ LSI s (2 * s.i)) ∧ Sl 56 ([(17, .int .i64 (s.i : Int))] ++ KS1) a ∧ Has _ w0 ([(k2, C [.string ⟨#[104]⟩, .slice none 0 0, s.bv] 27)] ++ (HS1 ++ s.tail)) w) ⟨0, [], .slice none 0 0, []⟩ ⟨⟨Nat.zero_le _, rfl, Row.nil _ _⟩, hl.addE (t := 17) (hk) rfl (by first | rfl), (by simp only [LS.tail, argE_nil, List.append_nil]; first | exact hh2 | (simp only [List.append_nil] at hh2; exact hh2))⟩ ?_
    clear hk hh2 hl hh a w
    intro s a w hI
    obtain ⟨⟨hii, hI⟩, hl, hh⟩ := hI
    subst hKS1; subst hHS1
    simp only [List.cons_append, List.nil_append, List.append_nil] at hl hh
    obtain ⟨i, ra, bv, Eb⟩ := s
    obtain ⟨hrl, hrow⟩ := hI
    unfold LS.tail at hh
    simp only at hl hh hii hrl hrow
    have hone2 := hrow.one
    obtain ⟨bq, bc, hbv⟩ := row_val hrow
    subst hbv
    refine c_seq ?_
    refine c_region ?_
    refine wl (wl_val hl rfl trivial (r_lss hl rfl rfl) ?_)
    clear hl a; intro a hl
    refine w_nil ?_
    have hl2 := hl.add (t := 1) (hl.add (t := 2) (hl.add (t := 16) (hl.add (t := 17) (hl.add (t := 18) (hl.nil) rfl) rfl) rfl) rfl) rfl; clear hl; have hl := hl2; clear hl2
    refine then_normal ?_
    refine c_seq ?_
    refine c_cond hl rfl ?_ ?_
    · intro hc1
      try simp only [decide_eq_true_eq, decide_eq_false_iff_not, Bool.not_eq_true', Bool.not_eq_false', Bool.not_eq_true, Bool.not_eq_false, Bool.and_eq_true, Bool.or_eq_true, Bool.and_eq_false_iff, Bool.or_eq_false_iff, Bool.not_not, ne_eq, Int.not_lt, Int.not_le, Decidable.not_not, beq_iff_eq, bne_iff_ne] at hc1
      skip
      refine wp_skip ?_
      refine then_normal ?_
      refine c_seq ?_
      refine wp_block ?_
      refine c_seq ?_
      refine c_region ?_
      refine wl (wl_val hl rfl trivial (r_move hl rfl) ?_)
      clear hl a; intro a hl
      refine wl (wl_val hl rfl trivial (r_assign hl rfl) ?_)
      clear hl a; intro a hl
      refine w_nil ?_
      have hl2 := hl.add (t := 1) (hl.add (t := 2) (hl.add (t := 3) (hl.add (t := 16) (hl.add (t := 17) (hl.nil) rfl) rfl) rfl) rfl) rfl; clear hl; have hl := hl2; clear hl2
      refine then_normal ?_
      refine c_seq ?_
      refine c_region ?_
      refine wl (wl_val hl rfl trivial (r_move hl rfl) ?_)
      clear hl a; intro a hl
      refine w_nil ?_
      have hl2 := hl.add (t := 1) (hl.add (t := 2) (hl.add (t := 3) (hl.add (t := 16) (hl.add (t := 17) (hl.add (t := 20) (hl.nil) rfl) rfl) rfl) rfl) rfl) rfl; clear hl; have hl := hl2; clear hl2
      refine then_normal ?_
      refine wp_block ?_
      obtain ⟨KS2, hKS2, hk⟩ := (hl.add (t := 1) (hl.add (t := 2) (hl.add (t := 3) (hl.add (t := 16) (hl.add (t := 17) (hl.nil) rfl) rfl) rfl) rfl) rfl).name
      obtain ⟨HS2, hHS2, hh2⟩ := hh.nameT (A := [(k2, C [.string ⟨#[104]⟩, .slice none 0 0, .slice bq (2 * i) bc] 27)]) (U := (Eb ++ argE ra (bodyN 12))) (keeps_cons (b := k2) (o' := C [.string ⟨#[104]⟩, .slice none 0 0, .slice bq (2 * i) bc] 27) (by repeat (first | exact find_head | apply find_tail)) (by first | rfl | rfl) ((by repeat (first | exact keeps_nil | exact keeps_self | exact keeps_swap | apply keeps_mv))))
      refine c_loop (α := LS) (fun s => 2 - s.i) (fun s a w => (s.i ≤ 2 ∧ LSI s (2 * i + s.i)) ∧ Sl 56 ([(20, .int .i64 (s.i : Int))] ++ KS2) a ∧ Has _ w0 ([(k2, C [.string ⟨#[104]⟩, .slice none 0 0, s.bv] 27)] ++ (HS2 ++ s.tail)) w) ⟨0, ra, .slice bq (2 * i) bc, Eb⟩ ⟨⟨Nat.zero_le _, hrl, hrow⟩, hl.addE (t := 20) (hk) rfl (by first | rfl), hh2⟩ ?_
      clear hk hh2 hl hh a w hrow hone2 hrl
      intro s a w hI
      obtain ⟨⟨his, hI⟩, hl, hh⟩ := hI
      subst hKS2; subst hHS2
      simp only [List.cons_append, List.nil_append, List.append_nil] at hl hh
      obtain ⟨s, ra, bv, Eb⟩ := s
      obtain ⟨hrl, hrow⟩ := hI
      unfold LS.tail at hh
      simp only at hl hh his hrl hrow
      have hone2 := hrow.one
      obtain ⟨bq, bc, hbv⟩ := row_val hrow
      subst hbv
      refine c_seq ?_
      refine c_region ?_
      refine wl (wl_val hl rfl trivial (r_lss hl rfl rfl) ?_)
      clear hl a; intro a hl
      refine w_nil ?_
      have hl2 := hl.add (t := 1) (hl.add (t := 2) (hl.add (t := 3) (hl.add (t := 16) (hl.add (t := 17) (hl.add (t := 20) (hl.add (t := 21) (hl.nil) rfl) rfl) rfl) rfl) rfl) rfl) rfl; clear hl; have hl := hl2; clear hl2
      refine then_normal ?_
      refine c_seq ?_
      refine c_cond hl rfl ?_ ?_
      · intro hc2
        try simp only [decide_eq_true_eq, decide_eq_false_iff_not, Bool.not_eq_true', Bool.not_eq_false', Bool.not_eq_true, Bool.not_eq_false, Bool.and_eq_true, Bool.or_eq_true, Bool.and_eq_false_iff, Bool.or_eq_false_iff, Bool.not_not, ne_eq, Int.not_lt, Int.not_le, Decidable.not_not, beq_iff_eq, bne_iff_ne] at hc2
        skip
        refine wp_skip ?_
        refine then_normal ?_
        refine c_seq ?_
        refine wp_block ?_
        refine c_seq ?_
        refine c_region ?_
        refine wl (wl_val hl rfl trivial (r_move hl rfl) ?_)
        clear hl a; intro a hl
        refine wl (wl_val hl rfl trivial (r_assign hl rfl) ?_)
        clear hl a; intro a hl
        refine w_nil ?_
        have hl2 := hl.add (t := 1) (hl.add (t := 2) (hl.add (t := 3) (hl.add (t := 4) (hl.add (t := 16) (hl.add (t := 17) (hl.add (t := 20) (hl.nil) rfl) rfl) rfl) rfl) rfl) rfl) rfl; clear hl; have hl := hl2; clear hl2
        refine then_normal ?_
        refine c_seq ?_
        refine c_region ?_
        refine wl (wl_val hl rfl trivial (r_move hl rfl) ?_)
        clear hl a; intro a hl
        first | refine wl (wl_val hl rfl trivial (r_mul hl rfl rfl (by simp only [Fits]; omega)) ?_) | refine wl (wl_val hl rfl trivial (r_mulW hl rfl rfl) ?_)
        clear hl a; intro a hl
        refine wl (wl_val hl rfl trivial (r_move hl rfl) ?_)
        clear hl a; intro a hl
        first | refine wl (wl_val hl rfl trivial (r_add hl rfl rfl (by simp only [Fits]; omega)) ?_) | refine wl (wl_val hl rfl trivial (r_addW hl rfl rfl) ?_)
        clear hl a; intro a hl
        rw [bp1 i s (by omega)] at hl
        have hbpl := bp_le i s (by omega) (by omega)
        refine wl (wl_val hl rfl trivial (r_build hl rfl zero30 bld30 (by simp only [fillL, setL, List.getElem?_cons_zero, List.getElem?_cons_succ, Value.cells, List.take_zero, List.take_succ_cons, List.take_nil, List.drop_zero, List.drop_succ_cons, List.drop_nil, List.length_cons, List.length_nil, List.cons_append, List.nil_append, List.append_nil, Nat.zero_add, Nat.add_zero, Nat.reduceAdd, Nat.reduceBEq, Nat.reduceEqDiff, Nat.ble, BEq.rfl, Bool.and_true, Bool.and_self, cond_true, beq_self_eq_true]; rfl)) ?_)
        clear hl a; intro a hl
        refine wl (wl_val hl rfl trivial (r_move hl rfl) ?_)
        clear hl a; intro a hl
        first | refine wl (wl_val hl rfl trivial (r_mul hl rfl rfl (by simp only [Fits]; omega)) ?_) | refine wl (wl_val hl rfl trivial (r_mulW hl rfl rfl) ?_)
        clear hl a; intro a hl
        refine wl (wl_val hl rfl trivial (r_move hl rfl) ?_)
        clear hl a; intro a hl
        first | refine wl (wl_val hl rfl trivial (r_add hl rfl rfl (by simp only [Fits]; omega)) ?_) | refine wl (wl_val hl rfl trivial (r_addW hl rfl rfl) ?_)
        clear hl a; intro a hl
        rw [bp1 i s (by omega)] at hl
        first | refine wl (wl_val hl rfl trivial (r_add hl rfl rfl (by simp only [Fits]; omega)) ?_) | refine wl (wl_val hl rfl trivial (r_addW hl rfl rfl) ?_)
        clear hl a; intro a hl
        rw [bp2 i s (by omega)] at hl
        refine wl (wl_val hl rfl trivial (r_build hl rfl zero30 bld30 (by simp only [fillL, setL, List.getElem?_cons_zero, List.getElem?_cons_succ, Value.cells, List.take_zero, List.take_succ_cons, List.take_nil, List.drop_zero, List.drop_succ_cons, List.drop_nil, List.length_cons, List.length_nil, List.cons_append, List.nil_append, List.append_nil, Nat.zero_add, Nat.add_zero, Nat.reduceAdd, Nat.reduceBEq, Nat.reduceEqDiff, Nat.ble, BEq.rfl, Bool.and_true, Bool.and_self, cond_true, beq_self_eq_true]; rfl)) ?_)
        clear hl a; intro a hl
        refine wl (w_alloc hl hh rfl trivial zero30 rfl ?_)
        clear hl hh a w; intro k5 a w hl hh
        refine wl (w_alloc hl hh rfl trivial zero30 rfl ?_)
        clear hl hh a w; intro k6 a w hl hh
        refine wl (w_storeA hl hh trivial agg30 rfl rfl (by repeat (first | exact find_head | apply find_tail)) (by first | rfl | (simp; done)) (by first | (simp; done) | (simp; omega)) (by first | rfl | (simp; done) | exact hc1) (by first | (simp only [setL, List.getElem?_cons_zero, List.getElem?_cons_succ, Value.cells, List.take_zero, List.take_succ_cons, List.take_nil, List.drop_zero, List.drop_succ_cons, List.drop_nil, List.length_cons, List.length_nil, List.cons_append, List.nil_append, List.append_nil, Nat.zero_add, Nat.add_zero, Nat.reduceAdd, Nat.reduceBEq, Nat.reduceEqDiff, Nat.ble, BEq.rfl, Bool.and_true, Bool.and_self, cond_true, beq_self_eq_true]; rfl)) ?_)
        clear hh w; intro w hh
        refine wl (w_storeA hl hh trivial agg30 rfl rfl (by repeat (first | exact find_head | apply find_tail)) (by first | rfl | (simp; done)) (by first | (simp; done) | (simp; omega)) (by first | rfl | (simp; done) | exact hc1) (by first | (simp only [setL, List.getElem?_cons_zero, List.getElem?_cons_succ, Value.cells, List.take_zero, List.take_succ_cons, List.take_nil, List.drop_zero, List.drop_succ_cons, List.drop_nil, List.length_cons, List.length_nil, List.cons_append, List.nil_append, List.append_nil, Nat.zero_add, Nat.add_zero, Nat.reduceAdd, Nat.reduceBEq, Nat.reduceEqDiff, Nat.ble, BEq.rfl, Bool.and_true, Bool.and_self, cond_true, beq_self_eq_true]; rfl)) ?_)
        clear hh w; intro w hh
        refine w_nil ?_
        have hl2 := hl.add (t := 1) (hl.add (t := 2) (hl.add (t := 3) (hl.add (t := 5) (hl.add (t := 6) (hl.add (t := 16) (hl.add (t := 17) (hl.add (t := 20) (hl.nil) rfl) rfl) rfl) rfl) rfl) rfl) rfl) rfl; clear hl; have hl := hl2; clear hl2
        refine then_normal ?_
        refine c_region ?_
        refine wl (wl_val hl rfl trivial (r_field hl rfl fld27_1) ?_)
        clear hl a; intro a hl
        refine wl (w_load hl hh rfl trivial one25 rfl (by repeat (first | exact find_head | apply find_tail)) (by first | rfl) ?_)
        clear hl a; intro a hl
        refine wl (w_loadA hl hh rfl trivial agg30 rfl (by repeat (first | exact find_head | apply find_tail)) (by first | (simp only [List.getElem?_cons_zero, List.getElem?_cons_succ, Value.cells, List.take_zero, List.take_succ_cons, List.take_nil, List.drop_zero, List.drop_succ_cons, List.drop_nil, List.length_cons, List.length_nil, List.cons_append, List.nil_append, List.append_nil, Nat.zero_add, Nat.add_zero, Nat.reduceAdd, Nat.reduceBEq, Nat.reduceEqDiff, Nat.ble, BEq.rfl, Bool.and_true, Bool.and_self, cond_true, beq_self_eq_true]; rfl)) (by first | rfl | (simp; done)) ?_)
        clear hl a; intro a hl
        refine wl (w_loadA hl hh rfl trivial agg30 rfl (by repeat (first | exact find_head | apply find_tail)) (by first | (simp only [List.getElem?_cons_zero, List.getElem?_cons_succ, Value.cells, List.take_zero, List.take_succ_cons, List.take_nil, List.drop_zero, List.drop_succ_cons, List.drop_nil, List.length_cons, List.length_nil, List.cons_append, List.nil_append, List.append_nil, Nat.zero_add, Nat.add_zero, Nat.reduceAdd, Nat.reduceBEq, Nat.reduceEqDiff, Nat.ble, BEq.rfl, Bool.and_true, Bool.and_self, cond_true, beq_self_eq_true]; rfl)) (by first | rfl | (simp; done)) ?_)
        clear hl a; intro a hl
        refine wl (w_buildSlice hl hh rfl trivial app22 zero30 rfl rfl rfl rfl rfl (by simp only [fillL, arrPl, List.range_succ, List.range_zero, List.map_cons, List.map_nil, List.map_append, List.nil_append, List.replicate_succ, List.replicate_zero, List.flatten_cons, List.flatten_nil, Nat.zero_mul, Nat.mul_one, Nat.one_mul, Nat.reduceMul, setL, List.getElem?_cons_zero, List.getElem?_cons_succ, Value.cells, List.take_zero, List.take_succ_cons, List.take_nil, List.drop_zero, List.drop_succ_cons, List.drop_nil, List.length_cons, List.length_nil, List.cons_append, List.nil_append, List.append_nil, Nat.zero_add, Nat.add_zero, Nat.reduceAdd, Nat.reduceBEq, Nat.reduceEqDiff, Nat.ble, BEq.rfl, Bool.and_true, Bool.and_self, cond_true, beq_self_eq_true]; rfl) ?_)
        clear hl hh a w; intro k38 a w hl hh
        refine wl (wl_val hl rfl trivial (r_build hl rfl zero24 bld24 (by simp only [fillL, setL, List.getElem?_cons_zero, List.getElem?_cons_succ, Value.cells, List.take_zero, List.take_succ_cons, List.take_nil, List.drop_zero, List.drop_succ_cons, List.drop_nil, List.length_cons, List.length_nil, List.cons_append, List.nil_append, List.append_nil, Nat.zero_add, Nat.add_zero, Nat.reduceAdd, Nat.reduceBEq, Nat.reduceEqDiff, Nat.ble, BEq.rfl, Bool.and_true, Bool.and_self, cond_true, beq_self_eq_true]; rfl)) ?_)
        clear hl a; intro a hl
        refine wl (wl_val hl rfl trivial (r_build hl rfl zero34 bld34 (by simp only [fillL, setL, List.getElem?_cons_zero, List.getElem?_cons_succ, Value.cells, List.take_zero, List.take_succ_cons, List.take_nil, List.drop_zero, List.drop_succ_cons, List.drop_nil, List.length_cons, List.length_nil, List.cons_append, List.nil_append, List.append_nil, Nat.zero_add, Nat.add_zero, Nat.reduceAdd, Nat.reduceBEq, Nat.reduceEqDiff, Nat.ble, BEq.rfl, Bool.and_true, Bool.and_self, cond_true, beq_self_eq_true]; rfl)) ?_)
        clear hl a; intro a hl
        refine wl (w_buildSlice hl hh rfl trivial app25 zero34 rfl rfl rfl rfl rfl (by simp only [fillL, arrPl, List.range_succ, List.range_zero, List.map_cons, List.map_nil, List.map_append, List.nil_append, List.replicate_succ, List.replicate_zero, List.flatten_cons, List.flatten_nil, Nat.zero_mul, Nat.mul_one, Nat.one_mul, Nat.reduceMul, setL, List.getElem?_cons_zero, List.getElem?_cons_succ, Value.cells, List.take_zero, List.take_succ_cons, List.take_nil, List.drop_zero, List.drop_succ_cons, List.drop_nil, List.length_cons, List.length_nil, List.cons_append, List.nil_append, List.append_nil, Nat.zero_add, Nat.add_zero, Nat.reduceAdd, Nat.reduceBEq, Nat.reduceEqDiff, Nat.ble, BEq.rfl, Bool.and_true, Bool.and_self, cond_true, beq_self_eq_true]; rfl) ?_)
        clear hl hh a w; intro k41 a w hl hh
        refine wl (w_append (news := [.int .u8 0, .int .u8 0, .string ⟨#[101]⟩, .slice (some ⟨k38, 0, none⟩) 2 2]) hl hh rfl trivial app25 rfl rfl rfl hrow (by repeat (first | exact keeps_left | apply keeps_mv)) (hh.mem _ _ (Find.mem (by repeat (first | exact find_head | apply find_tail)))) rfl rfl rfl (by omega) (by omega) (by omega) (by decide) ?_)
        clear hl hh a w; intro rv2 E2 a w hR2 hl hh
        have hh3 := hh.comm; clear hh; have hh := hh3; clear hh3
        simp only [List.cons_append, List.nil_append] at hh
        refine wl (wl_val hl rfl trivial (r_field hl rfl fld27_1) ?_)
        clear hl a; intro a hl
        refine wl (w_store hl hh trivial one25 rfl rfl (by repeat (first | exact find_head | apply find_tail)) (by first | (simp; done) | (simp; omega)) (by first | rfl | assumption | (apply Row.one; assumption)) (by first | (simp only [setL, List.getElem?_cons_zero, List.getElem?_cons_succ, Value.cells, List.take_zero, List.take_succ_cons, List.take_nil, List.drop_zero, List.drop_succ_cons, List.drop_nil, List.length_cons, List.length_nil, List.cons_append, List.nil_append, List.append_nil, Nat.zero_add, Nat.add_zero, Nat.reduceAdd, Nat.reduceBEq, Nat.reduceEqDiff, Nat.ble, BEq.rfl, Bool.and_true, Bool.and_self, cond_true, beq_self_eq_true]; rfl)) ?_)
        clear hh w; intro w hh
        refine w_nil ?_
        have hl2 := hl.add (t := 1) (hl.add (t := 2) (hl.add (t := 3) (hl.add (t := 16) (hl.add (t := 17) (hl.add (t := 20) (hl.nil) rfl) rfl) rfl) rfl) rfl) rfl; clear hl; have hl := hl2; clear hl2
        refine blk_normal ?_
        refine then_normal ?_
        refine c_region ?_
        first | refine wl (wl_val hl rfl trivial (r_add hl rfl rfl (by simp only [Fits]; omega)) ?_) | refine wl (wl_val hl rfl trivial (r_addW hl rfl rfl) ?_)
        clear hl a; intro a hl
        refine wl (wl_val hl rfl trivial (r_move hl rfl) ?_)
        clear hl a; intro a hl
        refine w_nil ?_
        have hl2 := hl.add (t := 1) (hl.add (t := 2) (hl.add (t := 3) (hl.add (t := 16) (hl.add (t := 17) (hl.add (t := 20) (hl.nil) rfl) rfl) rfl) rfl) rfl) rfl; clear hl; have hl := hl2; clear hl2
        refine then_normal ?_
        have hh9 : Has _ w0 ((k2, C [.string ⟨#[104]⟩, .slice none 0 0, rv2] 27) :: (k38, C (fl tc [((bp (2 * i + s)).1 : Int), ((bp (2 * i + s)).2 : Int)]) 30) :: (argE ra (bodyN 12) ++ E2)) w := hh.keep (by repeat (first | exact keeps_nil | apply keeps_cons (by repeat (first | exact find_head | apply find_tail)) (by first  | rfl) | exact keeps_self | exact keeps_left | exact keeps_right | exact keeps_swap | apply keeps_mv))
        have hh8 := has_lit hh9
        rw [← argE_snoc ra (bodyN 12) (by rw [hrl]; exact bodyN_at (by omega))] at hh8
        clear hh hh9
        have hh := hh8
        refine ⟨⟨s + 1, ra ++ [k38], rv2, E2⟩, (by simp only; omega), ⟨by simp only; omega, by simp [hrl]; omega, by rw [fl_append]; exact hR2⟩, hl.addE (t := 20) (hl.addE (t := 1) (hl.addE (t := 2) (hl.addE (t := 3) (hl.addE (t := 16) (hl.addE (t := 17) (hl.nil) rfl (by first | rfl | rfl)) rfl (by first | rfl | rfl)) rfl (by first | rfl | rfl)) rfl (by first | rfl | rfl)) rfl (by first | rfl | rfl)) rfl (by first | rfl | rfl), hh.keep (by repeat (first | exact keeps_nil | apply keeps_cons (by repeat (first | exact find_head | apply find_tail)) (by first  | rfl) | exact keeps_self | exact keeps_left | exact keeps_right | exact keeps_swap | apply keeps_mv))⟩
      · intro hc2
        try simp only [decide_eq_true_eq, decide_eq_false_iff_not, Bool.not_eq_true', Bool.not_eq_false', Bool.not_eq_true, Bool.not_eq_false, Bool.and_eq_true, Bool.or_eq_true, Bool.and_eq_false_iff, Bool.or_eq_false_iff, Bool.not_not, ne_eq, Int.not_lt, Int.not_le, Decidable.not_not, beq_iff_eq, bne_iff_ne] at hc2
        skip
        refine wp_exit ?_
        refine then_exit ?_
        refine then_exit ?_
        refine blk_exit ?_
        refine blk_normal ?_
        refine then_normal ?_
        refine c_region ?_
        first | refine wl (wl_val hl rfl trivial (r_add hl rfl rfl (by simp only [Fits]; omega)) ?_) | refine wl (wl_val hl rfl trivial (r_addW hl rfl rfl) ?_)
        clear hl a; intro a hl
        refine wl (wl_val hl rfl trivial (r_move hl rfl) ?_)
        clear hl a; intro a hl
        refine w_nil ?_
        have hl2 := hl.add (t := 1) (hl.add (t := 2) (hl.add (t := 16) (hl.add (t := 17) (hl.nil) rfl) rfl) rfl) rfl; clear hl; have hl := hl2; clear hl2
        refine then_normal ?_
        refine ⟨⟨i + 1, ra, .slice bq (2 * i + s) bc, Eb⟩, (by simp only; omega), ⟨by simp only; omega, by show ra.length = 2 * (i + 1); omega, by have hs2 : s = 2 := (by omega); subst hs2; exact hrow⟩, hl.addE (t := 17) (hl.addE (t := 1) (hl.addE (t := 2) (hl.addE (t := 16) (hl.nil) rfl (by first | rfl | rfl)) rfl (by first | rfl | rfl)) rfl (by first | rfl | rfl)) rfl (by first | rfl | rfl), hh.keep (by repeat (first | exact keeps_nil | apply keeps_cons (by repeat (first | exact find_head | apply find_tail)) (by first  | rfl) | exact keeps_self | exact keeps_left | exact keeps_right | exact keeps_swap | apply keeps_mv))⟩
    · intro hc1
      try simp only [decide_eq_true_eq, decide_eq_false_iff_not, Bool.not_eq_true', Bool.not_eq_false', Bool.not_eq_true, Bool.not_eq_false, Bool.and_eq_true, Bool.or_eq_true, Bool.and_eq_false_iff, Bool.or_eq_false_iff, Bool.not_not, ne_eq, Int.not_lt, Int.not_le, Decidable.not_not, beq_iff_eq, bne_iff_ne] at hc1
      have hik : k = i := by omega
      subst hik
      obtain ⟨rb, rj, hbp, _, _, hEb⟩ := row_pos hrow (by omega)
      subst hbp
      refine wp_exit ?_
      refine then_exit ?_
      refine then_exit ?_
      refine blk_exit ?_
      refine then_normal ?_
      refine c_seq ?_
      refine c_region ?_
      refine wl (wl_val hl rfl trivial (r_assign hl rfl) ?_)
      clear hl a; intro a hl
      refine w_nil ?_
      have hl2 := hl.add (t := 1) (hl.add (t := 2) (hl.add (t := 7) (hl.nil) rfl) rfl) rfl; clear hl; have hl := hl2; clear hl2
      refine then_normal ?_
      refine c_seq ?_
      refine c_seq ?_
      refine c_region ?_
      refine wl (wl_val hl rfl trivial (r_move hl rfl) ?_)
      clear hl a; intro a hl
      refine wl (wl_val hl rfl trivial (r_eql hl rfl rfl) ?_)
      clear hl a; intro a hl
      refine w_nil ?_
      have hl2 := hl.add (t := 1) (hl.add (t := 2) (hl.add (t := 7) (hl.add (t := 47) (hl.nil) rfl) rfl) rfl) rfl; clear hl; have hl := hl2; clear hl2
      refine then_normal ?_
      refine c_cond hl rfl ?_ ?_
      · intro hc3
        try simp only [decide_eq_true_eq, decide_eq_false_iff_not, Bool.not_eq_true', Bool.not_eq_false', Bool.not_eq_true, Bool.not_eq_false, Bool.and_eq_true, Bool.or_eq_true, Bool.and_eq_false_iff, Bool.or_eq_false_iff, Bool.not_not, ne_eq, Int.not_lt, Int.not_le, Decidable.not_not, beq_iff_eq, bne_iff_ne] at hc3
        have hk6 : k = 6 := by omega
        refine c_region ?_
        refine wl (wl_val hl rfl trivial (r_assign hl rfl) ?_)
        clear hl a; intro a hl
        refine w_nil ?_
        have hl2 := hl.add (t := 1) (hl.add (t := 2) (hl.add (t := 7) (hl.nil) rfl) rfl) rfl; clear hl; have hl := hl2; clear hl2
        refine then_normal ?_
        refine c_seq ?_
        refine c_region ?_
        refine wl (w_loadA hl hh rfl trivial agg27 rfl (by repeat (first | exact find_head | apply find_tail)) (by first | (simp only [List.getElem?_cons_zero, List.getElem?_cons_succ, Value.cells, List.take_zero, List.take_succ_cons, List.take_nil, List.drop_zero, List.drop_succ_cons, List.drop_nil, List.length_cons, List.length_nil, List.cons_append, List.nil_append, List.append_nil, Nat.zero_add, Nat.add_zero, Nat.reduceAdd, Nat.reduceBEq, Nat.reduceEqDiff, Nat.ble, BEq.rfl, Bool.and_true, Bool.and_self, cond_true, beq_self_eq_true]; rfl)) (by first | rfl | (simp; done)) ?_)
        clear hl a; intro a hl
        refine wl (w_call hl hh rfl trivial rfl cal4 rfl (canon_spec (bodyN (2 * k)) ra rb (2 * k) bc rj ⟨#[104]⟩ (Eb ++ argE ra (bodyN 12)) (ruN (by omega) (by omega) hEb) (fun X h1 h2 h3 => (code_all k (by omega) (by omega) X h1 h2 h3).2)) (by repeat (first | exact keeps_nil | apply keeps_cons (by repeat (first | exact find_head | apply find_tail)) (by first  | rfl) | exact keeps_self | exact keeps_left | exact keeps_right | exact keeps_swap | apply keeps_mv)) (fun b o m => hh.mem b o (by repeat (first | exact m | exact List.mem_append_left _ m | exact List.mem_append_right _ m | apply List.mem_cons_of_mem))) ?_)
        clear hl hh a w; intro vc Fc a w hR hl hh
        obtain ⟨X, cs, hXb, hXo, hXn, hcl, hc1, rfl, rfl⟩ := hR
        try simp only [List.cons_append, List.nil_append] at hh
        rw [(code_all k (by omega) (by omega) X hXb hXo hXn).1] at hl
        first | rw [if_pos hk6] at hl | rw [if_neg hk6] at hl
        obtain ⟨c0, c1, c2, hcs⟩ := len3 hcl
        subst hcs
        refine wl (wl_val hl rfl trivial (r_move hl rfl) ?_)
        clear hl a; intro a hl
        refine wl (wl_val hl rfl trivial (r_extract hl rfl (by simp only [List.getElem?_toArray, List.getElem?_cons_zero, List.getElem?_cons_succ]; rfl)) ?_)
        clear hl a; intro a hl
        refine wl (wl_val hl rfl trivial (r_extract hl rfl (by simp only [List.getElem?_toArray, List.getElem?_cons_zero, List.getElem?_cons_succ]; rfl)) ?_)
        clear hl a; intro a hl
        refine wl (w_alloc hl hh rfl trivial zero27 rfl ?_)
        clear hl hh a w; intro k8 a w hl hh
        refine wl (w_storeA hl hh trivial agg27 rfl rfl (by repeat (first | exact find_head | apply find_tail)) (by first | rfl | (simp; done)) (by first | (simp; done) | (simp; omega)) (by first | rfl | (simp; done) | exact hc1) (by first | (simp only [setL, List.getElem?_cons_zero, List.getElem?_cons_succ, Value.cells, List.take_zero, List.take_succ_cons, List.take_nil, List.drop_zero, List.drop_succ_cons, List.drop_nil, List.length_cons, List.length_nil, List.cons_append, List.nil_append, List.append_nil, Nat.zero_add, Nat.add_zero, Nat.reduceAdd, Nat.reduceBEq, Nat.reduceEqDiff, Nat.ble, BEq.rfl, Bool.and_true, Bool.and_self, cond_true, beq_self_eq_true]; rfl)) ?_)
        clear hh w; intro w hh
        refine wl (wl_val hl rfl trivial (r_assign hl rfl) ?_)
        clear hl a; intro a hl
        refine w_nil ?_
        have hl2 := hl.add (t := 1) (hl.add (t := 7) (hl.add (t := 9) (hl.nil) rfl) rfl) rfl; clear hl; have hl := hl2; clear hl2
        refine then_normal ?_
        refine c_seq ?_
        refine c_region ?_
        refine wl (wl_val hl rfl trivial (r_move hl rfl) ?_)
        clear hl a; intro a hl
        refine wl (wl_val hl rfl trivial (r_move hl rfl) ?_)
        clear hl a; intro a hl
        refine wl (wl_val hl rfl trivial (r_neq hl rfl rfl) ?_)
        clear hl a; intro a hl
        refine w_nil ?_
        have hl2 := hl.add (t := 1) (hl.add (t := 55) (hl.nil) rfl) rfl; clear hl; have hl := hl2; clear hl2
        refine then_normal ?_
        refine c_cond hl rfl ?_ ?_
        · intro hc4
          try simp only [decide_eq_true_eq, decide_eq_false_iff_not, Bool.not_eq_true', Bool.not_eq_false', Bool.not_eq_true, Bool.not_eq_false, Bool.and_eq_true, Bool.or_eq_true, Bool.and_eq_false_iff, Bool.or_eq_false_iff, Bool.not_not, ne_eq, Int.not_lt, Int.not_le, Decidable.not_not, beq_iff_eq, bne_iff_ne] at hc4
          refine c_seq ?_
          refine c_region ?_
          refine wl (wl_val hl rfl trivial (r_assign hl rfl) ?_)
          clear hl a; intro a hl
          refine w_nil ?_
          have hl2 := hl.add (t := 0) (hl.nil) rfl; clear hl; have hl := hl2; clear hl2
          refine then_normal ?_
          refine wp_ret ?_
          refine blk_ret ?_
          refine then_ret ?_
          refine then_ret ?_
          refine blk_ret ?_
          refine then_ret ?_
          refine f_ret1 (F' := []) hl hh rfl rfl (by repeat (first | exact keeps_nil | apply keeps_cons (by repeat (first | exact find_head | apply find_tail)) (by first  | rfl) | exact keeps_self | exact keeps_left | exact keeps_right | exact keeps_swap | apply keeps_mv)) ?_
          exfalso; first | contradiction | omega
        · intro hc4
          try simp only [decide_eq_true_eq, decide_eq_false_iff_not, Bool.not_eq_true', Bool.not_eq_false', Bool.not_eq_true, Bool.not_eq_false, Bool.and_eq_true, Bool.or_eq_true, Bool.and_eq_false_iff, Bool.or_eq_false_iff, Bool.not_not, ne_eq, Int.not_lt, Int.not_le, Decidable.not_not, beq_iff_eq, bne_iff_ne] at hc4
          refine wp_skip ?_
          refine blk_normal ?_
          refine then_normal ?_
          refine c_region ?_
          refine wl (wl_val hl rfl trivial (r_move hl rfl) ?_)
          clear hl a; intro a hl
          first | refine wl (wl_val hl rfl trivial (r_add hl rfl rfl (by simp only [Fits]; omega)) ?_) | refine wl (wl_val hl rfl trivial (r_addW hl rfl rfl) ?_)
          clear hl a; intro a hl
          refine wl (wl_val hl rfl trivial (r_assign hl rfl) ?_)
          clear hl a; intro a hl
          refine w_nil ?_
          have hl2 := hl.add (t := 1) (hl.nil) rfl; clear hl; have hl := hl2; clear hl2
          refine then_normal ?_
          refine ⟨(k + 1), (by omega), ⟨by omega, by omega⟩, hl.addE (t := 1) (hl.nil) rfl (by first | rfl | rfl | exact congrArg (Value.int .i64) (by omega)), hh.keep (by repeat (first | exact keeps_nil | apply keeps_cons (by repeat (first | exact find_head | apply find_tail)) (by first  | rfl) | exact keeps_self | exact keeps_left | exact keeps_right | exact keeps_swap | apply keeps_mv))⟩
      · intro hc3
        try simp only [decide_eq_true_eq, decide_eq_false_iff_not, Bool.not_eq_true', Bool.not_eq_false', Bool.not_eq_true, Bool.not_eq_false, Bool.and_eq_true, Bool.or_eq_true, Bool.and_eq_false_iff, Bool.or_eq_false_iff, Bool.not_not, ne_eq, Int.not_lt, Int.not_le, Decidable.not_not, beq_iff_eq, bne_iff_ne] at hc3
        have hk6 : ¬ k = 6 := by omega
        refine wp_skip ?_
        refine then_normal ?_
        refine c_seq ?_
        refine c_region ?_
        refine wl (w_loadA hl hh rfl trivial agg27 rfl (by repeat (first | exact find_head | apply find_tail)) (by first | (simp only [List.getElem?_cons_zero, List.getElem?_cons_succ, Value.cells, List.take_zero, List.take_succ_cons, List.take_nil, List.drop_zero, List.drop_succ_cons, List.drop_nil, List.length_cons, List.length_nil, List.cons_append, List.nil_append, List.append_nil, Nat.zero_add, Nat.add_zero, Nat.reduceAdd, Nat.reduceBEq, Nat.reduceEqDiff, Nat.ble, BEq.rfl, Bool.and_true, Bool.and_self, cond_true, beq_self_eq_true]; rfl)) (by first | rfl | (simp; done)) ?_)
        clear hl a; intro a hl
        refine wl (w_call hl hh rfl trivial rfl cal4 rfl (canon_spec (bodyN (2 * k)) ra rb (2 * k) bc rj ⟨#[104]⟩ (Eb ++ argE ra (bodyN 12)) (ruN (by omega) (by omega) hEb) (fun X h1 h2 h3 => (code_all k (by omega) (by omega) X h1 h2 h3).2)) (by repeat (first | exact keeps_nil | apply keeps_cons (by repeat (first | exact find_head | apply find_tail)) (by first  | rfl) | exact keeps_self | exact keeps_left | exact keeps_right | exact keeps_swap | apply keeps_mv)) (fun b o m => hh.mem b o (by repeat (first | exact m | exact List.mem_append_left _ m | exact List.mem_append_right _ m | apply List.mem_cons_of_mem))) ?_)
        clear hl hh a w; intro vc Fc a w hR hl hh
        obtain ⟨X, cs, hXb, hXo, hXn, hcl, hc1, rfl, rfl⟩ := hR
        try simp only [List.cons_append, List.nil_append] at hh
        rw [(code_all k (by omega) (by omega) X hXb hXo hXn).1] at hl
        first | rw [if_pos hk6] at hl | rw [if_neg hk6] at hl
        obtain ⟨c0, c1, c2, hcs⟩ := len3 hcl
        subst hcs
        refine wl (wl_val hl rfl trivial (r_move hl rfl) ?_)
        clear hl a; intro a hl
        refine wl (wl_val hl rfl trivial (r_extract hl rfl (by simp only [List.getElem?_toArray, List.getElem?_cons_zero, List.getElem?_cons_succ]; rfl)) ?_)
        clear hl a; intro a hl
        refine wl (wl_val hl rfl trivial (r_extract hl rfl (by simp only [List.getElem?_toArray, List.getElem?_cons_zero, List.getElem?_cons_succ]; rfl)) ?_)
        clear hl a; intro a hl
        refine wl (w_alloc hl hh rfl trivial zero27 rfl ?_)
        clear hl hh a w; intro k8 a w hl hh
        refine wl (w_storeA hl hh trivial agg27 rfl rfl (by repeat (first | exact find_head | apply find_tail)) (by first | rfl | (simp; done)) (by first | (simp; done) | (simp; omega)) (by first | rfl | (simp; done) | exact hc1) (by first | (simp only [setL, List.getElem?_cons_zero, List.getElem?_cons_succ, Value.cells, List.take_zero, List.take_succ_cons, List.take_nil, List.drop_zero, List.drop_succ_cons, List.drop_nil, List.length_cons, List.length_nil, List.cons_append, List.nil_append, List.append_nil, Nat.zero_add, Nat.add_zero, Nat.reduceAdd, Nat.reduceBEq, Nat.reduceEqDiff, Nat.ble, BEq.rfl, Bool.and_true, Bool.and_self, cond_true, beq_self_eq_true]; rfl)) ?_)
        clear hh w; intro w hh
        refine wl (wl_val hl rfl trivial (r_assign hl rfl) ?_)
        clear hl a; intro a hl
        refine w_nil ?_
        have hl2 := hl.add (t := 1) (hl.add (t := 7) (hl.add (t := 9) (hl.nil) rfl) rfl) rfl; clear hl; have hl := hl2; clear hl2
        refine then_normal ?_
        refine c_seq ?_
        refine c_region ?_
        refine wl (wl_val hl rfl trivial (r_move hl rfl) ?_)
        clear hl a; intro a hl
        refine wl (wl_val hl rfl trivial (r_move hl rfl) ?_)
        clear hl a; intro a hl
        refine wl (wl_val hl rfl trivial (r_neq hl rfl rfl) ?_)
        clear hl a; intro a hl
        refine w_nil ?_
        have hl2 := hl.add (t := 1) (hl.add (t := 55) (hl.nil) rfl) rfl; clear hl; have hl := hl2; clear hl2
        refine then_normal ?_
        refine c_cond hl rfl ?_ ?_
        · intro hc4
          try simp only [decide_eq_true_eq, decide_eq_false_iff_not, Bool.not_eq_true', Bool.not_eq_false', Bool.not_eq_true, Bool.not_eq_false, Bool.and_eq_true, Bool.or_eq_true, Bool.and_eq_false_iff, Bool.or_eq_false_iff, Bool.not_not, ne_eq, Int.not_lt, Int.not_le, Decidable.not_not, beq_iff_eq, bne_iff_ne] at hc4
          refine c_seq ?_
          refine c_region ?_
          refine wl (wl_val hl rfl trivial (r_assign hl rfl) ?_)
          clear hl a; intro a hl
          refine w_nil ?_
          have hl2 := hl.add (t := 0) (hl.nil) rfl; clear hl; have hl := hl2; clear hl2
          refine then_normal ?_
          refine wp_ret ?_
          refine blk_ret ?_
          refine then_ret ?_
          refine then_ret ?_
          refine blk_ret ?_
          refine then_ret ?_
          refine f_ret1 (F' := []) hl hh rfl rfl (by repeat (first | exact keeps_nil | apply keeps_cons (by repeat (first | exact find_head | apply find_tail)) (by first  | rfl) | exact keeps_self | exact keeps_left | exact keeps_right | exact keeps_swap | apply keeps_mv)) ?_
          exfalso; first | contradiction | omega
        · intro hc4
          try simp only [decide_eq_true_eq, decide_eq_false_iff_not, Bool.not_eq_true', Bool.not_eq_false', Bool.not_eq_true, Bool.not_eq_false, Bool.and_eq_true, Bool.or_eq_true, Bool.and_eq_false_iff, Bool.or_eq_false_iff, Bool.not_not, ne_eq, Int.not_lt, Int.not_le, Decidable.not_not, beq_iff_eq, bne_iff_ne] at hc4
          refine wp_skip ?_
          refine blk_normal ?_
          refine then_normal ?_
          refine c_region ?_
          refine wl (wl_val hl rfl trivial (r_move hl rfl) ?_)
          clear hl a; intro a hl
          first | refine wl (wl_val hl rfl trivial (r_add hl rfl rfl (by simp only [Fits]; omega)) ?_) | refine wl (wl_val hl rfl trivial (r_addW hl rfl rfl) ?_)
          clear hl a; intro a hl
          refine wl (wl_val hl rfl trivial (r_assign hl rfl) ?_)
          clear hl a; intro a hl
          refine w_nil ?_
          have hl2 := hl.add (t := 1) (hl.nil) rfl; clear hl; have hl := hl2; clear hl2
          refine then_normal ?_
          refine ⟨(k + 1), (by omega), ⟨by omega, by omega⟩, hl.addE (t := 1) (hl.nil) rfl (by first | rfl | rfl | exact congrArg (Value.int .i64) (by omega)), hh.keep (by repeat (first | exact keeps_nil | apply keeps_cons (by repeat (first | exact find_head | apply find_tail)) (by first  | rfl) | exact keeps_self | exact keeps_left | exact keeps_right | exact keeps_swap | apply keeps_mv))⟩
  · intro hc0
    try simp only [decide_eq_true_eq, decide_eq_false_iff_not, Bool.not_eq_true', Bool.not_eq_false', Bool.not_eq_true, Bool.not_eq_false, Bool.and_eq_true, Bool.or_eq_true, Bool.and_eq_false_iff, Bool.or_eq_false_iff, Bool.not_not, ne_eq, Int.not_lt, Int.not_le, Decidable.not_not, beq_iff_eq, bne_iff_ne] at hc0
    refine wp_exit ?_
    refine then_exit ?_
    refine then_exit ?_
    refine blk_exit ?_
    refine then_normal ?_
    refine c_seq ?_
    refine c_region ?_
    refine wl (wl_val hl rfl trivial (r_assign hl rfl) ?_)
    clear hl a; intro a hl
    refine w_nil ?_
    have hl2 := hl.add (t := 0) (hl.nil) rfl; clear hl; have hl := hl2; clear hl2
    refine then_normal ?_
    refine wp_ret ?_
    refine f_ret1 (F' := []) hl hh rfl rfl (by repeat (first | exact keeps_nil | apply keeps_cons (by repeat (first | exact find_head | apply find_tail)) (by first  | rfl) | exact keeps_self | exact keeps_left | exact keeps_right | exact keeps_swap | apply keeps_mv)) ?_
    exact ⟨rfl, rfl⟩
end Go.Proofs.Qxb6500915a

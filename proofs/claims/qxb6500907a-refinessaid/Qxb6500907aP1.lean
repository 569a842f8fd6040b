import Derived.Test.Qxb6500907aP0
namespace Go.Proofs.Qxb6500907a
open Go.Eng
set_option linter.unusedVariables false
set_option linter.unusedSimpArgs false
theorem fld93_2 : fieldOk Try.prog 93 2 6 = true := by kernel_rfl
theorem one77 : oneOk Try.prog 77 = true := by kernel_rfl
theorem ptr77 : ptrT Try.prog 77 = true := by kernel_rfl
theorem fld93_0 : fieldOk Try.prog 93 0 0 = true := by kernel_rfl
theorem cal52 : callable Try.prog 52 = true := by kernel_rfl
theorem fld93_1 : fieldOk Try.prog 93 1 2 = true := by kernel_rfl
theorem fld91_0 : fieldOk Try.prog 91 0 0 = true := by kernel_rfl
theorem one89 : oneOk Try.prog 89 = true := by kernel_rfl
theorem fld91_1 : fieldOk Try.prog 91 1 1 = true := by kernel_rfl
theorem cal39 : callable Try.prog 39 = true := by kernel_rfl
theorem cal54 : callable Try.prog 54 = true := by kernel_rfl
theorem fld91_2 : fieldOk Try.prog 91 2 2 = true := by kernel_rfl
theorem one9 : oneOk Try.prog 9 = true := by kernel_rfl
theorem cal34 : callable Try.prog 34 = true := by kernel_rfl
theorem cal55 : callable Try.prog 55 = true := by kernel_rfl
theorem cal53 : callable Try.prog 53 = true := by kernel_rfl
theorem fld91_3 : fieldOk Try.prog 91 3 3 = true := by kernel_rfl
theorem one34 : oneOk Try.prog 34 = true := by kernel_rfl
theorem cal35 : callable Try.prog 35 = true := by kernel_rfl
theorem fld51_1 : fieldOk Try.prog 51 1 1 = true := by kernel_rfl
theorem fld51_0 : fieldOk Try.prog 51 0 0 = true := by kernel_rfl
theorem zero51 : zeroOk Try.prog 51 (.agg #[(.int .u8 0), (.int .u8 0)]) := by unfold zeroOk; kernel_rfl
theorem cal37 : callable Try.prog 37 = true := by kernel_rfl
theorem bld51 : buildOk Try.prog 51 [(0, 1), (1, 1)] = true := by kernel_rfl
theorem agg51 : aggOk Try.prog 51 2 = true := by kernel_rfl
theorem cal48 : callable Try.prog 48 = true := by kernel_rfl
theorem PW.nil {N : Nat} {Sc : List (Nat × Obj)} {q : PS} {X : List (Nat × Obj)} (h : PW N Sc q X) (he : q.err = none) : X = Sc := by
  rcases h.err with e | ⟨k, code, ep, e, _⟩
  · exact e.2
  · rw [he] at e; cases e
theorem Tok.lt {N : Nat} {q : PS} (h : Tok N q) (he : q.err = none) (hk : q.kind ≠ 0) : q.tpos < N := (h he).2 hk
theorem Tok.of_err {N : Nat} {q : PS} (h : q.err ≠ none) : Tok N q := fun e => absurd e h
theorem pr_same {b : Nat} {sv : Value} {N : Nat} {Sc : List (Nat × Obj)} {q : PS} {X : List (Nat × Obj)} {Q : PS → Prop} (hq : PW N Sc q X) (ht : Tok N q) (h : Q q) : PR b sv N Sc q Q ((b, C (q.cells sv) 93) :: X) := ⟨q, X, rfl, hq, ht, St.refl _ _, h⟩
theorem pr_fail {b : Nat} {sv : Value} {N : Nat} {Sc : List (Nat × Obj)} {q : PS} {X : List (Nat × Obj)} (hq : PW N Sc q X) (he : q.err = none) (k : Nat) {code p : Int} (h1 : 1 ≤ code) (h2 : code ≤ 255) (h3 : 0 ≤ p ∧ ((code = 4 ∧ p = N) ∨ (code ≠ 4 ∧ p < N))) :
    PR b sv N Sc q (fun q' => q'.err ≠ none ∧ (q.err = none → q'.mu N < q.mu N)) ((b, C [sv, .int .i64 q.pos, .int .u8 q.kind, .int .i64 q.tpos, .string q.text, .int .u32 q.num, .pointer (some ⟨k, 0, none⟩)] 93) :: (k, C [.int .u8 code, .int .i64 p] 79) :: X) := by
  have hX := hq.nil he
  subst hX
  have hm : PS.mu N ⟨q.pos, q.kind, q.tpos, q.text, q.num, some ⟨k, 0, none⟩⟩ < q.mu N := mu_failed he (Nat.le_refl _) (by simp)
  exact ⟨⟨q.pos, q.kind, q.tpos, q.text, q.num, some ⟨k, 0, none⟩⟩, _, rfl, ⟨hq.pos, hq.kind, hq.num, hq.tpos, hq.text, hq.Nle, .inr ⟨k, code, p, rfl, rfl, h1, h2, h3.1, by omega, by omega⟩⟩, Tok.of_err (by simp), ⟨Nat.le_of_lt hm, fun h => by cases h⟩, by simp, fun _ => hm⟩
theorem adv_ok {b : Nat} {sv : Value} {N : Nat} {Sc : List (Nat × Obj)} {q : PS} {X : List (Nat × Obj)} (hq : PW N Sc q X) (he : q.err = none) {pos1 : Nat} {kd tp nm : Int} {tx : ByteArray} (h1 : q.pos ≤ pos1) (h2 : pos1 ≤ N) (h3 : 0 ≤ kd) (h4 : kd ≤ 4) (h5 : 0 ≤ tp) (h6 : tx.size ≤ N) (h7 : 0 ≤ nm) (h8 : nm ≤ 4294967295)
    (h9 : kd = 0 → tp = N) (h10 : kd ≠ 0 → tp < N ∧ q.pos < pos1) :
    PR b sv N Sc q (fun q' => q.err = none → q.kind ≠ 0 → q'.mu N < q.mu N) ((b, C [sv, .int .i64 pos1, .int .u8 kd, .int .i64 tp, .string tx, .int .u32 nm, .pointer none] 93) :: Sc) := by
  have hp := hq.pos
  refine ⟨⟨pos1, kd, tp, tx, nm, none⟩, Sc, rfl, ⟨h2, ⟨h3, h4⟩, ⟨h7, h8⟩, ⟨h5, ?_⟩, h6, hq.Nle, .inl ⟨rfl, rfl⟩⟩, fun _ => ⟨h9, fun h => (h10 h).1⟩, ⟨?_, fun _ => he⟩, fun _ hk => ?_⟩
  · show tp ≤ N
    by_cases c : kd = 0
    · have := h9 c; omega
    · have := h10 c; omega
  · unfold PS.mu
    simp only [he, if_true]
    by_cases c : kd = 0
    · simp only [c, if_true]
      split <;> omega
    · have := (h10 c).2
      simp only [c, if_false]
      split <;> omega
  · unfold PS.mu
    simp only [he, if_true, hk, if_false]
    by_cases c : kd = 0
    · simp only [c, if_true]; omega
    · have := (h10 c).2
      simp only [c, if_false]; omega
theorem adv_err {b : Nat} {sv : Value} {N : Nat} {Sc : List (Nat × Obj)} {q : PS} {X : List (Nat × Obj)} (hq : PW N Sc q X) (he : q.err = none) {pos1 k : Nat} {code ep : Int} (h1 : q.pos ≤ pos1) (h2 : pos1 ≤ N) (h3 : code = 1 ∨ code = 3) (h4 : 0 ≤ ep) (h5 : ep < N) :
    PR b sv N Sc q (fun q' => q.err = none → q.kind ≠ 0 → q'.mu N < q.mu N) ((b, C [sv, .int .i64 pos1, .int .u8 0, .int .i64 0, .string ⟨#[]⟩, .int .u32 0, .pointer (some ⟨k, 0, none⟩)] 93) :: (k, C [.int .u8 code, .int .i64 ep] 79) :: Sc) := by
  have hm : PS.mu N ⟨pos1, 0, 0, ⟨#[]⟩, 0, some ⟨k, 0, none⟩⟩ < q.mu N := mu_failed he h1 (by simp)
  exact ⟨⟨pos1, 0, 0, ⟨#[]⟩, 0, some ⟨k, 0, none⟩⟩, _, rfl, ⟨h2, ⟨by simp, by simp⟩, ⟨by simp, by simp⟩, ⟨by simp, by simp⟩, by simp [ByteArray.size], hq.Nle, .inr ⟨k, code, ep, rfl, rfl, by omega, by omega, h4, by omega, by omega⟩⟩, Tok.of_err (by simp), ⟨Nat.le_of_lt hm, fun h => by cases h⟩, fun _ _ => hm⟩
theorem bytes_fn {l : List Value} {n : Nat} (h : ∀ i, i < n → ∃ x : Int, l[i]? = some (.int .u8 x) ∧ 0 ≤ x ∧ x ≤ 255) : ∃ bs : Nat → Int, ∀ i, i < n → l[0 + i]? = some (.int .u8 (bs i)) ∧ 0 ≤ bs i ∧ bs i ≤ 255 := by
  refine ⟨fun i => if hi : i < n then (h i hi).choose else 0, fun i hi => ?_⟩
  rw [Nat.zero_add]
  simp only [hi, dif_pos]
  exact (h i hi).choose_spec


set_option maxHeartbeats 1000000 in
theorem fail_spec (b : Nat) (sv : Value) (N : Nat) (Sc : List (Nat × Obj)) (hS : Src sv N Sc) (q : PS) (X : List (Nat × Obj)) (hq : PW N Sc q X) (ht : Tok N q) (code p : Int) (h1 : 1 ≤ code) (h2 : code ≤ 255) (h3 : q.err = none → 0 ≤ p ∧ ((code = 4 ∧ p = N) ∨ (code ≠ 4 ∧ p < N))) : Sp Try.prog 39 #[.pointer (some ⟨b, 0, none⟩), .int .u8 code, .int .i64 p] ((b, C (q.cells sv) 93) :: X) (fun v F' => v = .tuple #[] ∧ PR b sv N Sc q (fun q' => q'.err ≠ none ∧ (q.err = none → q'.mu N < q.mu N)) F') := by
  refine f_enter (args := [.pointer (some ⟨b, 0, none⟩), .int .u8 code, .int .i64 p]) Try.func39 rfl Try.ntmps39 rfl ?_
  intro w0 w a hpre hl hh
  simp only [slotsFrom, Nat.reduceAdd] at hl
  refine c_seq ?_
  refine c_region ?_
  refine wl (wl_val hl rfl trivial (r_move hl rfl) ?_)
  clear hl a; intro a hl
  refine wl (wl_val hl rfl trivial (r_nilCheck hl rfl) ?_)
  clear hl a; intro a hl
  refine wl (wl_val hl rfl trivial (r_field hl rfl fld93_2) ?_)
  clear hl a; intro a hl
  refine wl (w_load hl hh rfl trivial one77 rfl (by repeat (first | exact find_head | apply find_tail)) (by first | rfl) ?_)
  clear hl a; intro a hl
  refine wl (wl_val hl rfl trivial (r_eql_pointer hl rfl rfl ptr77) ?_)
  clear hl a; intro a hl
  refine w_nil ?_
  have hl2 := hl.add (t := 0) (hl.add (t := 1) (hl.add (t := 2) (hl.add (t := 10) (hl.nil) rfl) rfl) rfl) rfl; clear hl; have hl := hl2; clear hl2
  refine then_normal ?_
  refine c_cond hl rfl ?_ ?_
  · intro hc0
    try simp only [decide_eq_true_eq, decide_eq_false_iff_not, Bool.not_eq_true', Bool.not_eq_false', Bool.not_eq_true, Bool.not_eq_false, Bool.and_eq_true, Bool.or_eq_true, Bool.and_eq_false_iff, Bool.or_eq_false_iff, Bool.not_not, ne_eq, Int.not_lt, Int.not_le, Decidable.not_not, beq_iff_eq, bne_iff_ne, Option.isNone_iff_eq_none, Option.isNone_eq_false_iff, Option.isSome_iff_ne_none] at hc0
    have h4 := h3 hc0
    refine c_region ?_
    refine wl (wl_val hl rfl trivial (r_move hl rfl) ?_)
    clear hl a; intro a hl
    refine wl (wl_val hl rfl trivial (r_move hl rfl) ?_)
    clear hl a; intro a hl
    refine wl (wl_val hl rfl trivial (r_move hl rfl) ?_)
    clear hl a; intro a hl
    refine wl (wl_val hl rfl trivial (r_build hl rfl zero79 bld79 (by simp only [fillL, setL, List.getElem?_cons_zero, List.getElem?_cons_succ, Value.cells, List.take_zero, List.take_succ_cons, List.take_nil, List.drop_zero, List.drop_succ_cons, List.drop_nil, List.length_cons, List.length_nil, List.cons_append, List.nil_append, List.append_nil, Nat.zero_add, Nat.add_zero, Nat.reduceAdd, Nat.reduceBEq, Nat.reduceEqDiff, Nat.ble, BEq.rfl, Bool.and_true, Bool.and_self, cond_true, beq_self_eq_true]; rfl)) ?_)
    clear hl a; intro a hl
    refine wl (w_box hl hh rfl trivial rfl rfl ?_)
    clear hl hh a w; intro k15 a w hl hh
    refine wl (wl_val hl rfl trivial (r_nilCheck hl rfl) ?_)
    clear hl a; intro a hl
    refine wl (wl_val hl rfl trivial (r_field hl rfl fld93_2) ?_)
    clear hl a; intro a hl
    refine wl (w_store hl hh trivial one77 rfl rfl (by repeat (first | exact find_head | apply find_tail)) (by first | (simp; done) | (simp; omega) | (simp only [PS.cells, List.length_cons, List.length_nil]; omega)) (by first | rfl | (apply Row.one; assumption)) (by first | (simp only [PS.cells, setL, List.getElem?_cons_zero, List.getElem?_cons_succ, Value.cells, List.take_zero, List.take_succ_cons, List.take_nil, List.drop_zero, List.drop_succ_cons, List.drop_nil, List.length_cons, List.length_nil, List.cons_append, List.nil_append, List.append_nil, Nat.zero_add, Nat.add_zero, Nat.reduceAdd, Nat.reduceBEq, Nat.reduceEqDiff, Nat.ble, BEq.rfl, Bool.and_true, Bool.and_self, cond_true, beq_self_eq_true]; rfl) | (simp only [setL, List.getElem?_cons_zero, List.getElem?_cons_succ, Value.cells, List.take_zero, List.take_succ_cons, List.take_nil, List.drop_zero, List.drop_succ_cons, List.drop_nil, List.length_cons, List.length_nil, List.cons_append, List.nil_append, List.append_nil, Nat.zero_add, Nat.add_zero, Nat.reduceAdd, Nat.reduceBEq, Nat.reduceEqDiff, Nat.ble, BEq.rfl, Bool.and_true, Bool.and_self, cond_true, beq_self_eq_true]; rfl)) ?_)
    clear hh w; intro w hh
    refine w_nil ?_
    have hl2 := hl.nil; clear hl; have hl := hl2; clear hl2
    first
    | (refine f_end0 (F' := (b, C [sv, .int .i64 q.pos, .int .u8 q.kind, .int .i64 q.tpos, .string q.text, .int .u32 q.num, .pointer (some ⟨k15, 0, none⟩)] 93) :: (k15, C [.int .u8 code, .int .i64 p] 79) :: X) hl hh rfl (by repeat (first | exact keeps_nil | apply keeps_cons (by repeat (first | exact find_head | apply find_tail)) (by first  | rfl) | exact keeps_self | apply keeps_mv)) ?_; exact ⟨rfl, pr_fail hq hc0 k15 h1 h2 h4⟩)
    | (refine f_end0 (F' := (b, C (q.cells sv) 93) :: X) hl hh rfl (by repeat (first | exact keeps_nil | apply keeps_cons (by repeat (first | exact find_head | apply find_tail)) (by first  | rfl) | exact keeps_self | apply keeps_mv)) ?_; exact ⟨rfl, pr_same hq ht ⟨hc1, fun e => absurd e hc1⟩⟩)
  · intro hc0
    try simp only [decide_eq_true_eq, decide_eq_false_iff_not, Bool.not_eq_true', Bool.not_eq_false', Bool.not_eq_true, Bool.not_eq_false, Bool.and_eq_true, Bool.or_eq_true, Bool.and_eq_false_iff, Bool.or_eq_false_iff, Bool.not_not, ne_eq, Int.not_lt, Int.not_le, Decidable.not_not, beq_iff_eq, bne_iff_ne, Option.isNone_iff_eq_none, Option.isNone_eq_false_iff, Option.isSome_iff_ne_none] at hc0
    have hc1 := hc0
    refine wp_skip ?_
    first
    | (refine f_end0 (F' := (b, C [sv, .int .i64 q.pos, .int .u8 q.kind, .int .i64 q.tpos, .string q.text, .int .u32 q.num, .pointer (some ⟨k15, 0, none⟩)] 93) :: (k15, C [.int .u8 code, .int .i64 p] 79) :: X) hl hh rfl (by repeat (first | exact keeps_nil | apply keeps_cons (by repeat (first | exact find_head | apply find_tail)) (by first  | rfl) | exact keeps_self | apply keeps_mv)) ?_; exact ⟨rfl, pr_fail hq hc0 k15 h1 h2 h4⟩)
    | (refine f_end0 (F' := (b, C (q.cells sv) 93) :: X) hl hh rfl (by repeat (first | exact keeps_nil | apply keeps_cons (by repeat (first | exact find_head | apply find_tail)) (by first  | rfl) | exact keeps_self | apply keeps_mv)) ?_; exact ⟨rfl, pr_same hq ht ⟨hc1, fun e => absurd e hc1⟩⟩)

set_option maxHeartbeats 1000000 in
theorem advance_spec (b : Nat) (sv : Value) (N : Nat) (Sc : List (Nat × Obj)) (hS : Src sv N Sc) (q : PS) (X : List (Nat × Obj)) (hq : PW N Sc q X)  : Sp Try.prog 34 #[.pointer (some ⟨b, 0, none⟩)] ((b, C (q.cells sv) 93) :: X) (fun v F' => v = .tuple #[] ∧ PR b sv N Sc q (fun q' => q.err = none → q.kind ≠ 0 → q'.mu N < q.mu N) F') := by
  refine f_enter (args := [.pointer (some ⟨b, 0, none⟩)]) Try.func34 rfl Try.ntmps34 rfl ?_
  intro w0 w a hpre hl hh
  simp only [slotsFrom, Nat.reduceAdd] at hl
  refine c_seq ?_
  refine c_region ?_
  refine wl (wl_val hl rfl trivial (r_move hl rfl) ?_)
  clear hl a; intro a hl
  refine wl (wl_val hl rfl trivial (r_nilCheck hl rfl) ?_)
  clear hl a; intro a hl
  refine wl (wl_val hl rfl trivial (r_field hl rfl fld93_2) ?_)
  clear hl a; intro a hl
  refine wl (w_load hl hh rfl trivial one77 rfl (by repeat (first | exact find_head | apply find_tail)) (by first | rfl) ?_)
  clear hl a; intro a hl
  refine wl (wl_val hl rfl trivial (r_eql_pointer hl rfl rfl ptr77) ?_)
  clear hl a; intro a hl
  refine w_nil ?_
  have hl2 := hl.add (t := 0) (hl.add (t := 6) (hl.nil) rfl) rfl; clear hl; have hl := hl2; clear hl2
  refine then_normal ?_
  refine c_cond hl rfl ?_ ?_
  · intro hc0
    try simp only [decide_eq_true_eq, decide_eq_false_iff_not, Bool.not_eq_true', Bool.not_eq_false', Bool.not_eq_true, Bool.not_eq_false, Bool.and_eq_true, Bool.or_eq_true, Bool.and_eq_false_iff, Bool.or_eq_false_iff, Bool.not_not, ne_eq, Int.not_lt, Int.not_le, Decidable.not_not, beq_iff_eq, bne_iff_ne, Option.isNone_iff_eq_none, Option.isNone_eq_false_iff, Option.isSome_iff_ne_none] at hc0
    obtain rfl := (hq.nil hc0).symm
    refine c_region ?_
    refine wl (wl_val hl rfl trivial (r_move hl rfl) ?_)
    clear hl a; intro a hl
    refine wl (wl_val hl rfl trivial (r_move hl rfl) ?_)
    clear hl a; intro a hl
    refine wl (wl_val hl rfl trivial (r_move hl rfl) ?_)
    clear hl a; intro a hl
    refine wl (wl_val hl rfl trivial (r_nilCheck hl rfl) ?_)
    clear hl a; intro a hl
    refine wl (wl_val hl rfl trivial (r_field hl rfl fld93_0) ?_)
    clear hl a; intro a hl
    refine wl (w_call hl hh rfl trivial rfl cal52 rfl (next_spec b sv N Sc hS q.pos hq.pos (.int .u8 q.kind) (.int .i64 q.tpos) (.string q.text) (.int .u32 q.num) (.pointer q.err)) (by repeat (first | exact keeps_nil | apply keeps_cons (by repeat (first | exact find_head | apply find_tail)) (by first  | rfl) | exact keeps_self | apply keeps_mv)) trivial ?_)
    clear hl hh a w; intro vc Fc a w hR hl hh
    rcases hR with ⟨pos1, hp1, hp2, ⟨kd, tp, tx, nm, rfl, rfl, h3, h4, h5, h6, h7, h8, h9, h10⟩ | ⟨k, code, ep, rfl, rfl, h3, h4, h5⟩⟩
    ·
      try simp only [List.cons_append, List.nil_append, List.append_nil] at hh
      refine wl (wl_val hl rfl trivial (r_move hl rfl) ?_)
      clear hl a; intro a hl
      refine wl (wl_val hl rfl trivial (r_extract hl rfl (by simp only [List.getElem?_toArray, List.getElem?_cons_zero, List.getElem?_cons_succ]; rfl)) ?_)
      clear hl a; intro a hl
      refine wl (wl_val hl rfl trivial (r_extract hl rfl (by simp only [List.getElem?_toArray, List.getElem?_cons_zero, List.getElem?_cons_succ]; rfl)) ?_)
      clear hl a; intro a hl
      refine wl (wl_val hl rfl trivial (r_nilCheck hl rfl) ?_)
      clear hl a; intro a hl
      refine wl (wl_val hl rfl trivial (r_field hl rfl fld93_1) ?_)
      clear hl a; intro a hl
      refine wl (w_storeA hl hh trivial agg91 rfl rfl (by repeat (first | exact find_head | apply find_tail)) (by first | rfl | (simp; done)) (by first | (simp; done) | (simp; omega) | (simp only [PS.cells, List.length_cons, List.length_nil]; omega)) (by first | rfl | (simp; done)) (by first | (simp only [PS.cells, setL, List.getElem?_cons_zero, List.getElem?_cons_succ, Value.cells, List.take_zero, List.take_succ_cons, List.take_nil, List.drop_zero, List.drop_succ_cons, List.drop_nil, List.length_cons, List.length_nil, List.cons_append, List.nil_append, List.append_nil, Nat.zero_add, Nat.add_zero, Nat.reduceAdd, Nat.reduceBEq, Nat.reduceEqDiff, Nat.ble, BEq.rfl, Bool.and_true, Bool.and_self, cond_true, beq_self_eq_true]; rfl) | (simp only [setL, List.getElem?_cons_zero, List.getElem?_cons_succ, Value.cells, List.take_zero, List.take_succ_cons, List.take_nil, List.drop_zero, List.drop_succ_cons, List.drop_nil, List.length_cons, List.length_nil, List.cons_append, List.nil_append, List.append_nil, Nat.zero_add, Nat.add_zero, Nat.reduceAdd, Nat.reduceBEq, Nat.reduceEqDiff, Nat.ble, BEq.rfl, Bool.and_true, Bool.and_self, cond_true, beq_self_eq_true]; rfl)) ?_)
      clear hh w; intro w hh
      refine wl (wl_val hl rfl trivial (r_nilCheck hl rfl) ?_)
      clear hl a; intro a hl
      refine wl (wl_val hl rfl trivial (r_field hl rfl fld93_2) ?_)
      clear hl a; intro a hl
      refine wl (w_store hl hh trivial one77 rfl rfl (by repeat (first | exact find_head | apply find_tail)) (by first | (simp; done) | (simp; omega) | (simp only [PS.cells, List.length_cons, List.length_nil]; omega)) (by first | rfl | (apply Row.one; assumption)) (by first | (simp only [PS.cells, setL, List.getElem?_cons_zero, List.getElem?_cons_succ, Value.cells, List.take_zero, List.take_succ_cons, List.take_nil, List.drop_zero, List.drop_succ_cons, List.drop_nil, List.length_cons, List.length_nil, List.cons_append, List.nil_append, List.append_nil, Nat.zero_add, Nat.add_zero, Nat.reduceAdd, Nat.reduceBEq, Nat.reduceEqDiff, Nat.ble, BEq.rfl, Bool.and_true, Bool.and_self, cond_true, beq_self_eq_true]; rfl) | (simp only [setL, List.getElem?_cons_zero, List.getElem?_cons_succ, Value.cells, List.take_zero, List.take_succ_cons, List.take_nil, List.drop_zero, List.drop_succ_cons, List.drop_nil, List.length_cons, List.length_nil, List.cons_append, List.nil_append, List.append_nil, Nat.zero_add, Nat.add_zero, Nat.reduceAdd, Nat.reduceBEq, Nat.reduceEqDiff, Nat.ble, BEq.rfl, Bool.and_true, Bool.and_self, cond_true, beq_self_eq_true]; rfl)) ?_)
      clear hh w; intro w hh
      refine w_nil ?_
      have hl2 := hl.nil; clear hl; have hl := hl2; clear hl2
      first
      | (refine f_end0 (F' := (b, C [sv, .int .i64 pos1, .int .u8 kd, .int .i64 tp, .string tx, .int .u32 nm, .pointer none] 93) :: Sc) hl hh rfl (by repeat (first | exact keeps_nil | apply keeps_cons (by repeat (first | exact find_head | apply find_tail)) (by first  | rfl) | exact keeps_self | apply keeps_mv)) ?_; exact ⟨rfl, adv_ok hq hc0 hp1 hp2 h3 h4 h5 h6 h7 h8 h9 h10⟩)
      | (refine f_end0 (F' := (b, C [sv, .int .i64 pos1, .int .u8 0, .int .i64 0, .string ⟨#[]⟩, .int .u32 0, .pointer (some ⟨k, 0, none⟩)] 93) :: (k, C [.int .u8 code, .int .i64 ep] 79) :: Sc) hl hh rfl (by repeat (first | exact keeps_nil | apply keeps_cons (by repeat (first | exact find_head | apply find_tail)) (by first  | rfl) | exact keeps_self | apply keeps_mv)) ?_; exact ⟨rfl, adv_err hq hc0 hp1 hp2 h3 h4 h5⟩)
      | (refine f_end0 (F' := (b, C (q.cells sv) 93) :: X) hl hh rfl (by repeat (first | exact keeps_nil | apply keeps_cons (by repeat (first | exact find_head | apply find_tail)) (by first  | rfl) | exact keeps_self | apply keeps_mv)) ?_; exact ⟨rfl, pr_same hq (Tok.of_err hne) (fun e => absurd e hne)⟩)
    ·
      try simp only [List.cons_append, List.nil_append, List.append_nil] at hh
      refine wl (wl_val hl rfl trivial (r_move hl rfl) ?_)
      clear hl a; intro a hl
      refine wl (wl_val hl rfl trivial (r_extract hl rfl (by simp only [List.getElem?_toArray, List.getElem?_cons_zero, List.getElem?_cons_succ]; rfl)) ?_)
      clear hl a; intro a hl
      refine wl (wl_val hl rfl trivial (r_extract hl rfl (by simp only [List.getElem?_toArray, List.getElem?_cons_zero, List.getElem?_cons_succ]; rfl)) ?_)
      clear hl a; intro a hl
      refine wl (wl_val hl rfl trivial (r_nilCheck hl rfl) ?_)
      clear hl a; intro a hl
      refine wl (wl_val hl rfl trivial (r_field hl rfl fld93_1) ?_)
      clear hl a; intro a hl
      refine wl (w_storeA hl hh trivial agg91 rfl rfl (by repeat (first | exact find_head | apply find_tail)) (by first | rfl | (simp; done)) (by first | (simp; done) | (simp; omega) | (simp only [PS.cells, List.length_cons, List.length_nil]; omega)) (by first | rfl | (simp; done)) (by first | (simp only [PS.cells, setL, List.getElem?_cons_zero, List.getElem?_cons_succ, Value.cells, List.take_zero, List.take_succ_cons, List.take_nil, List.drop_zero, List.drop_succ_cons, List.drop_nil, List.length_cons, List.length_nil, List.cons_append, List.nil_append, List.append_nil, Nat.zero_add, Nat.add_zero, Nat.reduceAdd, Nat.reduceBEq, Nat.reduceEqDiff, Nat.ble, BEq.rfl, Bool.and_true, Bool.and_self, cond_true, beq_self_eq_true]; rfl) | (simp only [setL, List.getElem?_cons_zero, List.getElem?_cons_succ, Value.cells, List.take_zero, List.take_succ_cons, List.take_nil, List.drop_zero, List.drop_succ_cons, List.drop_nil, List.length_cons, List.length_nil, List.cons_append, List.nil_append, List.append_nil, Nat.zero_add, Nat.add_zero, Nat.reduceAdd, Nat.reduceBEq, Nat.reduceEqDiff, Nat.ble, BEq.rfl, Bool.and_true, Bool.and_self, cond_true, beq_self_eq_true]; rfl)) ?_)
      clear hh w; intro w hh
      refine wl (wl_val hl rfl trivial (r_nilCheck hl rfl) ?_)
      clear hl a; intro a hl
      refine wl (wl_val hl rfl trivial (r_field hl rfl fld93_2) ?_)
      clear hl a; intro a hl
      refine wl (w_store hl hh trivial one77 rfl rfl (by repeat (first | exact find_head | apply find_tail)) (by first | (simp; done) | (simp; omega) | (simp only [PS.cells, List.length_cons, List.length_nil]; omega)) (by first | rfl | (apply Row.one; assumption)) (by first | (simp only [PS.cells, setL, List.getElem?_cons_zero, List.getElem?_cons_succ, Value.cells, List.take_zero, List.take_succ_cons, List.take_nil, List.drop_zero, List.drop_succ_cons, List.drop_nil, List.length_cons, List.length_nil, List.cons_append, List.nil_append, List.append_nil, Nat.zero_add, Nat.add_zero, Nat.reduceAdd, Nat.reduceBEq, Nat.reduceEqDiff, Nat.ble, BEq.rfl, Bool.and_true, Bool.and_self, cond_true, beq_self_eq_true]; rfl) | (simp only [setL, List.getElem?_cons_zero, List.getElem?_cons_succ, Value.cells, List.take_zero, List.take_succ_cons, List.take_nil, List.drop_zero, List.drop_succ_cons, List.drop_nil, List.length_cons, List.length_nil, List.cons_append, List.nil_append, List.append_nil, Nat.zero_add, Nat.add_zero, Nat.reduceAdd, Nat.reduceBEq, Nat.reduceEqDiff, Nat.ble, BEq.rfl, Bool.and_true, Bool.and_self, cond_true, beq_self_eq_true]; rfl)) ?_)
      clear hh w; intro w hh
      refine w_nil ?_
      have hl2 := hl.nil; clear hl; have hl := hl2; clear hl2
      first
      | (refine f_end0 (F' := (b, C [sv, .int .i64 pos1, .int .u8 kd, .int .i64 tp, .string tx, .int .u32 nm, .pointer none] 93) :: Sc) hl hh rfl (by repeat (first | exact keeps_nil | apply keeps_cons (by repeat (first | exact find_head | apply find_tail)) (by first  | rfl) | exact keeps_self | apply keeps_mv)) ?_; exact ⟨rfl, adv_ok hq hc0 hp1 hp2 h3 h4 h5 h6 h7 h8 h9 h10⟩)
      | (refine f_end0 (F' := (b, C [sv, .int .i64 pos1, .int .u8 0, .int .i64 0, .string ⟨#[]⟩, .int .u32 0, .pointer (some ⟨k, 0, none⟩)] 93) :: (k, C [.int .u8 code, .int .i64 ep] 79) :: Sc) hl hh rfl (by repeat (first | exact keeps_nil | apply keeps_cons (by repeat (first | exact find_head | apply find_tail)) (by first  | rfl) | exact keeps_self | apply keeps_mv)) ?_; exact ⟨rfl, adv_err hq hc0 hp1 hp2 h3 h4 h5⟩)
      | (refine f_end0 (F' := (b, C (q.cells sv) 93) :: X) hl hh rfl (by repeat (first | exact keeps_nil | apply keeps_cons (by repeat (first | exact find_head | apply find_tail)) (by first  | rfl) | exact keeps_self | apply keeps_mv)) ?_; exact ⟨rfl, pr_same hq (Tok.of_err hne) (fun e => absurd e hne)⟩)
  · intro hc0
    try simp only [decide_eq_true_eq, decide_eq_false_iff_not, Bool.not_eq_true', Bool.not_eq_false', Bool.not_eq_true, Bool.not_eq_false, Bool.and_eq_true, Bool.or_eq_true, Bool.and_eq_false_iff, Bool.or_eq_false_iff, Bool.not_not, ne_eq, Int.not_lt, Int.not_le, Decidable.not_not, beq_iff_eq, bne_iff_ne, Option.isNone_iff_eq_none, Option.isNone_eq_false_iff, Option.isSome_iff_ne_none] at hc0
    have hne := hc0
    refine wp_skip ?_
    first
    | (refine f_end0 (F' := (b, C [sv, .int .i64 pos1, .int .u8 kd, .int .i64 tp, .string tx, .int .u32 nm, .pointer none] 93) :: Sc) hl hh rfl (by repeat (first | exact keeps_nil | apply keeps_cons (by repeat (first | exact find_head | apply find_tail)) (by first  | rfl) | exact keeps_self | apply keeps_mv)) ?_; exact ⟨rfl, adv_ok hq hc0 hp1 hp2 h3 h4 h5 h6 h7 h8 h9 h10⟩)
    | (refine f_end0 (F' := (b, C [sv, .int .i64 pos1, .int .u8 0, .int .i64 0, .string ⟨#[]⟩, .int .u32 0, .pointer (some ⟨k, 0, none⟩)] 93) :: (k, C [.int .u8 code, .int .i64 ep] 79) :: Sc) hl hh rfl (by repeat (first | exact keeps_nil | apply keeps_cons (by repeat (first | exact find_head | apply find_tail)) (by first  | rfl) | exact keeps_self | apply keeps_mv)) ?_; exact ⟨rfl, adv_err hq hc0 hp1 hp2 h3 h4 h5⟩)
    | (refine f_end0 (F' := (b, C (q.cells sv) 93) :: X) hl hh rfl (by repeat (first | exact keeps_nil | apply keeps_cons (by repeat (first | exact find_head | apply find_tail)) (by first  | rfl) | exact keeps_self | apply keeps_mv)) ?_; exact ⟨rfl, pr_same hq (Tok.of_err hne) (fun e => absurd e hne)⟩)

set_option maxHeartbeats 1000000 in
theorem unexpected_spec (b : Nat) (sv : Value) (N : Nat) (Sc : List (Nat × Obj)) (hS : Src sv N Sc) (q : PS) (X : List (Nat × Obj)) (hq : PW N Sc q X) (ht : Tok N q) (he : q.err = none) : Sp Try.prog 54 #[.pointer (some ⟨b, 0, none⟩)] ((b, C (q.cells sv) 93) :: X) (fun v F' => v = .tuple #[] ∧ PR b sv N Sc q (fun q' => q'.err ≠ none ∧ q'.mu N < q.mu N) F') := by
  refine f_enter (args := [.pointer (some ⟨b, 0, none⟩)]) Try.func54 rfl Try.ntmps54 rfl ?_
  intro w0 w a hpre hl hh
  have h0 := hq.tpos; have h1 := ht he
  simp only [slotsFrom, Nat.reduceAdd] at hl
  refine c_seq ?_
  refine c_region ?_
  refine wl (wl_val hl rfl trivial (r_move hl rfl) ?_)
  clear hl a; intro a hl
  refine wl (wl_val hl rfl trivial (r_nilCheck hl rfl) ?_)
  clear hl a; intro a hl
  refine wl (wl_val hl rfl trivial (r_field hl rfl fld93_1) ?_)
  clear hl a; intro a hl
  refine wl (wl_val hl rfl trivial (r_field hl rfl fld91_0) ?_)
  clear hl a; intro a hl
  refine wl (w_load hl hh rfl trivial one89 rfl (by repeat (first | exact find_head | apply find_tail)) (by first | rfl) ?_)
  clear hl a; intro a hl
  refine wl (wl_val hl rfl trivial (r_eql hl rfl rfl) ?_)
  clear hl a; intro a hl
  refine w_nil ?_
  have hl2 := hl.add (t := 0) (hl.add (t := 7) (hl.nil) rfl) rfl; clear hl; have hl := hl2; clear hl2
  refine then_normal ?_
  refine c_cond hl rfl ?_ ?_
  · intro hc0
    try simp only [decide_eq_true_eq, decide_eq_false_iff_not, Bool.not_eq_true', Bool.not_eq_false', Bool.not_eq_true, Bool.not_eq_false, Bool.and_eq_true, Bool.or_eq_true, Bool.and_eq_false_iff, Bool.or_eq_false_iff, Bool.not_not, ne_eq, Int.not_lt, Int.not_le, Decidable.not_not, beq_iff_eq, bne_iff_ne, Option.isNone_iff_eq_none, Option.isNone_eq_false_iff, Option.isSome_iff_ne_none] at hc0
    refine c_region ?_
    refine wl (wl_val hl rfl trivial (r_move hl rfl) ?_)
    clear hl a; intro a hl
    refine wl (wl_val hl rfl trivial (r_move hl rfl) ?_)
    clear hl a; intro a hl
    refine wl (wl_val hl rfl trivial (r_nilCheck hl rfl) ?_)
    clear hl a; intro a hl
    refine wl (wl_val hl rfl trivial (r_field hl rfl fld93_1) ?_)
    clear hl a; intro a hl
    refine wl (wl_val hl rfl trivial (r_field hl rfl fld91_1) ?_)
    clear hl a; intro a hl
    refine wl (w_load hl hh rfl trivial one3 rfl (by repeat (first | exact find_head | apply find_tail)) (by first | rfl) ?_)
    clear hl a; intro a hl
    refine wl (w_call hl hh rfl trivial rfl cal39 rfl (fail_spec b sv N Sc hS q X hq ht _ _ (by omega) (by omega) (fun _ => ⟨h0.1, by omega⟩)) (by repeat (first | exact keeps_nil | apply keeps_cons (by repeat (first | exact find_head | apply find_tail)) (by first  | rfl) | exact keeps_self | apply keeps_mv)) trivial ?_)
    clear hl hh a w; intro vc Fc a w hR hl hh
    obtain ⟨rfl, q1, X1, rfl, hq1, ht1, hs1, hQ1⟩ := hR
    try simp only [List.cons_append, List.nil_append] at hh
    (try replace hh := has_tail1 hh); (try simp only [List.cons_append, List.nil_append, List.append_nil] at hh); have htp1 := hq1.tpos; have hkd1 := hq1.kind; have hNle := hq1.Nle
    refine w_nil ?_
    have hl2 := hl.nil; clear hl; have hl := hl2; clear hl2
    refine f_end0 (F' := (b, C (q1.cells sv) 93) :: X1) hl hh rfl (by repeat (first | exact keeps_nil | apply keeps_cons (by repeat (first | exact find_head | apply find_tail)) (by first  | rfl) | exact keeps_self | apply keeps_mv)) ?_
    exact ⟨rfl, q1, X1, rfl, hq1, ht1, hs1, hQ1.1, hQ1.2 he⟩
  · intro hc0
    try simp only [decide_eq_true_eq, decide_eq_false_iff_not, Bool.not_eq_true', Bool.not_eq_false', Bool.not_eq_true, Bool.not_eq_false, Bool.and_eq_true, Bool.or_eq_true, Bool.and_eq_false_iff, Bool.or_eq_false_iff, Bool.not_not, ne_eq, Int.not_lt, Int.not_le, Decidable.not_not, beq_iff_eq, bne_iff_ne, Option.isNone_iff_eq_none, Option.isNone_eq_false_iff, Option.isSome_iff_ne_none] at hc0
    refine c_region ?_
    refine wl (wl_val hl rfl trivial (r_move hl rfl) ?_)
    clear hl a; intro a hl
    refine wl (wl_val hl rfl trivial (r_move hl rfl) ?_)
    clear hl a; intro a hl
    refine wl (wl_val hl rfl trivial (r_nilCheck hl rfl) ?_)
    clear hl a; intro a hl
    refine wl (wl_val hl rfl trivial (r_field hl rfl fld93_1) ?_)
    clear hl a; intro a hl
    refine wl (wl_val hl rfl trivial (r_field hl rfl fld91_1) ?_)
    clear hl a; intro a hl
    refine wl (w_load hl hh rfl trivial one3 rfl (by repeat (first | exact find_head | apply find_tail)) (by first | rfl) ?_)
    clear hl a; intro a hl
    refine wl (w_call hl hh rfl trivial rfl cal39 rfl (fail_spec b sv N Sc hS q X hq ht _ _ (by omega) (by omega) (fun _ => ⟨h0.1, by omega⟩)) (by repeat (first | exact keeps_nil | apply keeps_cons (by repeat (first | exact find_head | apply find_tail)) (by first  | rfl) | exact keeps_self | apply keeps_mv)) trivial ?_)
    clear hl hh a w; intro vc Fc a w hR hl hh
    obtain ⟨rfl, q1, X1, rfl, hq1, ht1, hs1, hQ1⟩ := hR
    try simp only [List.cons_append, List.nil_append] at hh
    (try replace hh := has_tail1 hh); (try simp only [List.cons_append, List.nil_append, List.append_nil] at hh); have htp1 := hq1.tpos; have hkd1 := hq1.kind; have hNle := hq1.Nle
    refine w_nil ?_
    have hl2 := hl.nil; clear hl; have hl := hl2; clear hl2
    refine f_end0 (F' := (b, C (q1.cells sv) 93) :: X1) hl hh rfl (by repeat (first | exact keeps_nil | apply keeps_cons (by repeat (first | exact find_head | apply find_tail)) (by first  | rfl) | exact keeps_self | apply keeps_mv)) ?_
    exact ⟨rfl, q1, X1, rfl, hq1, ht1, hs1, hQ1.1, hQ1.2 he⟩

set_option maxHeartbeats 1000000 in
theorem word_spec (b : Nat) (sv : Value) (N : Nat) (Sc : List (Nat × Obj)) (hS : Src sv N Sc) (q : PS) (X : List (Nat × Obj)) (hq : PW N Sc q X) (ht : Tok N q)  : Sp Try.prog 55 #[.pointer (some ⟨b, 0, none⟩)] ((b, C (q.cells sv) 93) :: X) (fun v F' => (∃ t : ByteArray, v = .string t ∧ t.size ≤ N) ∧ PR b sv N Sc q (fun q' => (q.err = none → q'.mu N < q.mu N) ∧ (q'.err = none → q.kind = 2)) F') := by
  refine f_enter (args := [.pointer (some ⟨b, 0, none⟩)]) Try.func55 rfl Try.ntmps55 rfl ?_
  intro w0 w a hpre hl hh
  simp only [slotsFrom, Nat.reduceAdd] at hl
  refine c_seq ?_
  refine c_region ?_
  refine wl (wl_val hl rfl trivial (r_assign hl rfl) ?_)
  clear hl a; intro a hl
  refine w_nil ?_
  have hl2 := hl.add (t := 0) (hl.nil) rfl; clear hl; have hl := hl2; clear hl2
  refine then_normal ?_
  refine c_seq ?_
  refine c_seq ?_
  refine c_region ?_
  refine wl (wl_val hl rfl trivial (r_move hl rfl) ?_)
  clear hl a; intro a hl
  refine wl (wl_val hl rfl trivial (r_nilCheck hl rfl) ?_)
  clear hl a; intro a hl
  refine wl (wl_val hl rfl trivial (r_field hl rfl fld93_2) ?_)
  clear hl a; intro a hl
  refine wl (w_load hl hh rfl trivial one77 rfl (by repeat (first | exact find_head | apply find_tail)) (by first | rfl) ?_)
  clear hl a; intro a hl
  refine wl (wl_val hl rfl trivial (r_neq_pointer hl rfl rfl ptr77) ?_)
  clear hl a; intro a hl
  refine w_nil ?_
  have hl2 := hl.add (t := 0) (hl.add (t := 8) (hl.nil) rfl) rfl; clear hl; have hl := hl2; clear hl2
  refine then_normal ?_
  refine c_cond hl rfl ?_ ?_
  · intro hc0
    try simp only [decide_eq_true_eq, decide_eq_false_iff_not, Bool.not_eq_true', Bool.not_eq_false', Bool.not_eq_true, Bool.not_eq_false, Bool.and_eq_true, Bool.or_eq_true, Bool.and_eq_false_iff, Bool.or_eq_false_iff, Bool.not_not, ne_eq, Int.not_lt, Int.not_le, Decidable.not_not, beq_iff_eq, bne_iff_ne, Option.isNone_iff_eq_none, Option.isNone_eq_false_iff, Option.isSome_iff_ne_none] at hc0
    have hne := hc0
    refine c_seq ?_
    refine c_region ?_
    refine wl (wl_val hl rfl trivial (r_assign hl rfl) ?_)
    clear hl a; intro a hl
    refine w_nil ?_
    have hl2 := hl.add (t := 2) (hl.nil) rfl; clear hl; have hl := hl2; clear hl2
    refine then_normal ?_
    refine wp_ret ?_
    refine then_ret ?_
    refine f_ret1 (F' := (b, C (q.cells sv) 93) :: X) hl hh rfl rfl (by repeat (first | exact keeps_nil | apply keeps_cons (by repeat (first | exact find_head | apply find_tail)) (by first  | rfl) | exact keeps_self | apply keeps_mv)) ?_
    exact ⟨⟨_, rfl, by simp [ByteArray.size]⟩, pr_same hq ht ⟨fun e => absurd e hne, fun e => absurd e hne⟩⟩
  · intro hc0
    try simp only [decide_eq_true_eq, decide_eq_false_iff_not, Bool.not_eq_true', Bool.not_eq_false', Bool.not_eq_true, Bool.not_eq_false, Bool.and_eq_true, Bool.or_eq_true, Bool.and_eq_false_iff, Bool.or_eq_false_iff, Bool.not_not, ne_eq, Int.not_lt, Int.not_le, Decidable.not_not, beq_iff_eq, bne_iff_ne, Option.isNone_iff_eq_none, Option.isNone_eq_false_iff, Option.isSome_iff_ne_none] at hc0
    have he := hc0
    refine wp_skip ?_
    refine then_normal ?_
    refine c_seq ?_
    refine c_seq ?_
    refine c_region ?_
    refine wl (wl_val hl rfl trivial (r_move hl rfl) ?_)
    clear hl a; intro a hl
    refine wl (wl_val hl rfl trivial (r_nilCheck hl rfl) ?_)
    clear hl a; intro a hl
    refine wl (wl_val hl rfl trivial (r_field hl rfl fld93_1) ?_)
    clear hl a; intro a hl
    refine wl (wl_val hl rfl trivial (r_field hl rfl fld91_0) ?_)
    clear hl a; intro a hl
    refine wl (w_load hl hh rfl trivial one89 rfl (by repeat (first | exact find_head | apply find_tail)) (by first | rfl) ?_)
    clear hl a; intro a hl
    refine wl (wl_val hl rfl trivial (r_neq hl rfl rfl) ?_)
    clear hl a; intro a hl
    refine w_nil ?_
    have hl2 := hl.add (t := 0) (hl.add (t := 14) (hl.nil) rfl) rfl; clear hl; have hl := hl2; clear hl2
    refine then_normal ?_
    refine c_cond hl rfl ?_ ?_
    · intro hc1
      try simp only [decide_eq_true_eq, decide_eq_false_iff_not, Bool.not_eq_true', Bool.not_eq_false', Bool.not_eq_true, Bool.not_eq_false, Bool.and_eq_true, Bool.or_eq_true, Bool.and_eq_false_iff, Bool.or_eq_false_iff, Bool.not_not, ne_eq, Int.not_lt, Int.not_le, Decidable.not_not, beq_iff_eq, bne_iff_ne, Option.isNone_iff_eq_none, Option.isNone_eq_false_iff, Option.isSome_iff_ne_none] at hc1
      refine c_seq ?_
      refine c_region ?_
      refine wl (wl_val hl rfl trivial (r_move hl rfl) ?_)
      clear hl a; intro a hl
      refine wl (w_call hl hh rfl trivial rfl cal54 rfl (unexpected_spec b sv N Sc hS q X hq ht he) (by repeat (first | exact keeps_nil | apply keeps_cons (by repeat (first | exact find_head | apply find_tail)) (by first  | rfl) | exact keeps_self | apply keeps_mv)) trivial ?_)
      clear hl hh a w; intro vc Fc a w hR hl hh
      obtain ⟨rfl, q1, X1, rfl, hq1, ht1, hs1, hQ1⟩ := hR
      try simp only [List.cons_append, List.nil_append] at hh
      (try replace hh := has_tail1 hh); (try simp only [List.cons_append, List.nil_append, List.append_nil] at hh); have htp1 := hq1.tpos; have hkd1 := hq1.kind; have hNle := hq1.Nle
      refine w_nil ?_
      have hl2 := hl.nil; clear hl; have hl := hl2; clear hl2
      refine then_normal ?_
      refine c_seq ?_
      refine c_region ?_
      refine wl (wl_val hl rfl trivial (r_assign hl rfl) ?_)
      clear hl a; intro a hl
      refine w_nil ?_
      have hl2 := hl.add (t := 2) (hl.nil) rfl; clear hl; have hl := hl2; clear hl2
      refine then_normal ?_
      refine wp_ret ?_
      refine then_ret ?_
      refine f_ret1 (F' := (b, C (q1.cells sv) 93) :: X1) hl hh rfl rfl (by repeat (first | exact keeps_nil | apply keeps_cons (by repeat (first | exact find_head | apply find_tail)) (by first  | rfl) | exact keeps_self | apply keeps_mv)) ?_
      exact ⟨⟨_, rfl, by simp [ByteArray.size]⟩, q1, X1, rfl, hq1, ht1, hs1, fun _ => hQ1.2, fun e => absurd e hQ1.1⟩
    · intro hc1
      try simp only [decide_eq_true_eq, decide_eq_false_iff_not, Bool.not_eq_true', Bool.not_eq_false', Bool.not_eq_true, Bool.not_eq_false, Bool.and_eq_true, Bool.or_eq_true, Bool.and_eq_false_iff, Bool.or_eq_false_iff, Bool.not_not, ne_eq, Int.not_lt, Int.not_le, Decidable.not_not, beq_iff_eq, bne_iff_ne, Option.isNone_iff_eq_none, Option.isNone_eq_false_iff, Option.isSome_iff_ne_none] at hc1
      refine wp_skip ?_
      refine then_normal ?_
      refine c_seq ?_
      refine c_region ?_
      refine wl (wl_val hl rfl trivial (r_move hl rfl) ?_)
      clear hl a; intro a hl
      refine wl (wl_val hl rfl trivial (r_nilCheck hl rfl) ?_)
      clear hl a; intro a hl
      refine wl (wl_val hl rfl trivial (r_field hl rfl fld93_1) ?_)
      clear hl a; intro a hl
      refine wl (wl_val hl rfl trivial (r_field hl rfl fld91_2) ?_)
      clear hl a; intro a hl
      refine wl (w_load hl hh rfl trivial one9 rfl (by repeat (first | exact find_head | apply find_tail)) (by first | rfl) ?_)
      clear hl a; intro a hl
      refine wl (wl_val hl rfl trivial (r_assign hl rfl) ?_)
      clear hl a; intro a hl
      refine w_nil ?_
      have hl2 := hl.add (t := 0) (hl.add (t := 3) (hl.nil) rfl) rfl; clear hl; have hl := hl2; clear hl2
      refine then_normal ?_
      refine c_seq ?_
      refine c_region ?_
      refine wl (wl_val hl rfl trivial (r_move hl rfl) ?_)
      clear hl a; intro a hl
      refine wl (w_call hl hh rfl trivial rfl cal34 rfl (advance_spec b sv N Sc hS q X hq) (by repeat (first | exact keeps_nil | apply keeps_cons (by repeat (first | exact find_head | apply find_tail)) (by first  | rfl) | exact keeps_self | apply keeps_mv)) trivial ?_)
      clear hl hh a w; intro vc Fc a w hR hl hh
      obtain ⟨rfl, q1, X1, rfl, hq1, ht1, hs1, hQ1⟩ := hR
      try simp only [List.cons_append, List.nil_append] at hh
      (try replace hh := has_tail1 hh); (try simp only [List.cons_append, List.nil_append, List.append_nil] at hh); have htp1 := hq1.tpos; have hkd1 := hq1.kind; have hNle := hq1.Nle
      refine w_nil ?_
      have hl2 := hl.add (t := 3) (hl.nil) rfl; clear hl; have hl := hl2; clear hl2
      refine then_normal ?_
      refine c_seq ?_
      refine c_region ?_
      refine wl (wl_val hl rfl trivial (r_move hl rfl) ?_)
      clear hl a; intro a hl
      refine wl (wl_val hl rfl trivial (r_assign hl rfl) ?_)
      clear hl a; intro a hl
      refine w_nil ?_
      have hl2 := hl.add (t := 2) (hl.nil) rfl; clear hl; have hl := hl2; clear hl2
      refine then_normal ?_
      refine wp_ret ?_
      refine f_ret1 (F' := (b, C (q1.cells sv) 93) :: X1) hl hh rfl rfl (by repeat (first | exact keeps_nil | apply keeps_cons (by repeat (first | exact find_head | apply find_tail)) (by first  | rfl) | exact keeps_self | apply keeps_mv)) ?_
      exact ⟨⟨_, rfl, hq.text⟩, q1, X1, rfl, hq1, ht1, hs1, fun e => hQ1 e (by omega), fun _ => by omega⟩

set_option maxHeartbeats 1000000 in
theorem keyword_spec (b : Nat) (sv : Value) (N : Nat) (Sc : List (Nat × Obj)) (hS : Src sv N Sc) (q : PS) (X : List (Nat × Obj)) (hq : PW N Sc q X) (ht : Tok N q) (s1 s2 : ByteArray) : Sp Try.prog 53 #[.pointer (some ⟨b, 0, none⟩), .string s1, .string s2] ((b, C (q.cells sv) 93) :: X) (fun v F' => (∃ t, v = .bool t) ∧ PR b sv N Sc q (fun q' => q'.err = none → q.kind = 2) F') := by
  refine f_enter (args := [.pointer (some ⟨b, 0, none⟩), .string s1, .string s2]) Try.func53 rfl Try.ntmps53 rfl ?_
  intro w0 w a hpre hl hh
  have htp := hq.tpos
  simp only [slotsFrom, Nat.reduceAdd] at hl
  refine c_seq ?_
  refine c_region ?_
  refine wl (wl_val hl rfl trivial (r_assign hl rfl) ?_)
  clear hl a; intro a hl
  refine w_nil ?_
  have hl2 := hl.add (t := 0) (hl.add (t := 1) (hl.add (t := 2) (hl.nil) rfl) rfl) rfl; clear hl; have hl := hl2; clear hl2
  refine then_normal ?_
  refine c_seq ?_
  refine c_region ?_
  refine wl (wl_val hl rfl trivial (r_move hl rfl) ?_)
  clear hl a; intro a hl
  refine wl (wl_val hl rfl trivial (r_nilCheck hl rfl) ?_)
  clear hl a; intro a hl
  refine wl (wl_val hl rfl trivial (r_field hl rfl fld93_1) ?_)
  clear hl a; intro a hl
  refine wl (wl_val hl rfl trivial (r_field hl rfl fld91_1) ?_)
  clear hl a; intro a hl
  refine wl (w_load hl hh rfl trivial one3 rfl (by repeat (first | exact find_head | apply find_tail)) (by first | rfl) ?_)
  clear hl a; intro a hl
  refine wl (wl_val hl rfl trivial (r_assign hl rfl) ?_)
  clear hl a; intro a hl
  refine w_nil ?_
  have hl2 := hl.add (t := 0) (hl.add (t := 1) (hl.add (t := 2) (hl.add (t := 7) (hl.nil) rfl) rfl) rfl) rfl; clear hl; have hl := hl2; clear hl2
  refine then_normal ?_
  refine c_seq ?_
  refine c_region ?_
  refine wl (wl_val hl rfl trivial (r_move hl rfl) ?_)
  clear hl a; intro a hl
  refine wl (w_call hl hh rfl trivial rfl cal55 rfl (word_spec b sv N Sc hS q X hq ht) (by repeat (first | exact keeps_nil | apply keeps_cons (by repeat (first | exact find_head | apply find_tail)) (by first  | rfl) | exact keeps_self | apply keeps_mv)) trivial ?_)
  clear hl hh a w; intro vc Fc a w hR hl hh
  obtain ⟨⟨t1, rfl, hz1⟩, q1, X1, rfl, hq1, ht1, hs1, hQ1⟩ := hR
  try simp only [List.cons_append, List.nil_append] at hh
  (try replace hh := has_tail1 hh); (try simp only [List.cons_append, List.nil_append, List.append_nil] at hh); have htp1 := hq1.tpos; have hkd1 := hq1.kind; have hNle := hq1.Nle
  refine wl (wl_val hl rfl trivial (r_assign hl rfl) ?_)
  clear hl a; intro a hl
  refine w_nil ?_
  have hl2 := hl.add (t := 0) (hl.add (t := 1) (hl.add (t := 2) (hl.add (t := 7) (hl.add (t := 8) (hl.nil) rfl) rfl) rfl) rfl) rfl; clear hl; have hl := hl2; clear hl2
  refine then_normal ?_
  refine c_seq ?_
  refine c_seq ?_
  refine c_region ?_
  refine wl (wl_val hl rfl trivial (r_move hl rfl) ?_)
  clear hl a; intro a hl
  refine wl (wl_val hl rfl trivial (r_nilCheck hl rfl) ?_)
  clear hl a; intro a hl
  refine wl (wl_val hl rfl trivial (r_field hl rfl fld93_2) ?_)
  clear hl a; intro a hl
  refine wl (w_load hl hh rfl trivial one77 rfl (by repeat (first | exact find_head | apply find_tail)) (by first | rfl) ?_)
  clear hl a; intro a hl
  refine wl (wl_val hl rfl trivial (r_eql_pointer hl rfl rfl ptr77) ?_)
  clear hl a; intro a hl
  refine wl (wl_val hl rfl trivial (r_move hl rfl) ?_)
  clear hl a; intro a hl
  refine sl_split (t := 21) hl rfl ?_ ?_
  · intro hg1; clear hl; intro hl
    try simp only [decide_eq_true_eq, decide_eq_false_iff_not, Bool.not_eq_true', Bool.not_eq_false', Bool.not_eq_true, Bool.not_eq_false, Bool.and_eq_true, Bool.or_eq_true, Bool.and_eq_false_iff, Bool.or_eq_false_iff, Bool.not_not, ne_eq, Int.not_lt, Int.not_le, Decidable.not_not, beq_iff_eq, bne_iff_ne, Option.isNone_iff_eq_none, Option.isNone_eq_false_iff, Option.isSome_iff_ne_none] at hg1
    refine wl (wl_val hl rfl ⟨_, _, rfl, rfl, rfl⟩ (r_move hl rfl) ?_)
    clear hl a; intro a hl
    refine wl (wl_val hl rfl ⟨_, _, rfl, rfl, rfl⟩ (r_move hl rfl) ?_)
    clear hl a; intro a hl
    refine wl (wl_val hl rfl ⟨_, _, rfl, rfl, rfl⟩ (r_neq_string hl rfl rfl) ?_)
    clear hl a; intro a hl
    refine wl (wl_val hl rfl trivial (r_pickT hl rfl rfl) ?_)
    clear hl a; intro a hl
    refine wl (wl_val hl rfl trivial (r_move hl rfl) ?_)
    clear hl a; intro a hl
    refine sl_split (t := 26) hl rfl ?_ ?_
    · intro hg2; clear hl; intro hl
      try simp only [decide_eq_true_eq, decide_eq_false_iff_not, Bool.not_eq_true', Bool.not_eq_false', Bool.not_eq_true, Bool.not_eq_false, Bool.and_eq_true, Bool.or_eq_true, Bool.and_eq_false_iff, Bool.or_eq_false_iff, Bool.not_not, ne_eq, Int.not_lt, Int.not_le, Decidable.not_not, beq_iff_eq, bne_iff_ne, Option.isNone_iff_eq_none, Option.isNone_eq_false_iff, Option.isSome_iff_ne_none] at hg2
      refine wl (wl_val hl rfl ⟨_, _, rfl, rfl, rfl⟩ (r_move hl rfl) ?_)
      clear hl a; intro a hl
      refine wl (wl_val hl rfl ⟨_, _, rfl, rfl, rfl⟩ (r_move hl rfl) ?_)
      clear hl a; intro a hl
      refine wl (wl_val hl rfl ⟨_, _, rfl, rfl, rfl⟩ (r_neq_string hl rfl rfl) ?_)
      clear hl a; intro a hl
      refine wl (wl_val hl rfl trivial (r_pickT hl rfl rfl) ?_)
      clear hl a; intro a hl
      refine w_nil ?_
      have hl2 := hl.add (t := 0) (hl.add (t := 1) (hl.add (t := 7) (hl.add (t := 8) (hl.add (t := 30) (hl.nil) rfl) rfl) rfl) rfl) rfl; clear hl; have hl := hl2; clear hl2
      refine then_normal ?_
      refine c_cond hl rfl ?_ ?_
      · intro hc0
        try simp only [decide_eq_true_eq, decide_eq_false_iff_not, Bool.not_eq_true', Bool.not_eq_false', Bool.not_eq_true, Bool.not_eq_false, Bool.and_eq_true, Bool.or_eq_true, Bool.and_eq_false_iff, Bool.or_eq_false_iff, Bool.not_not, ne_eq, Int.not_lt, Int.not_le, Decidable.not_not, beq_iff_eq, bne_iff_ne, Option.isNone_iff_eq_none, Option.isNone_eq_false_iff, Option.isSome_iff_ne_none] at hc0
        refine c_region ?_
        refine wl (wl_val hl rfl trivial (r_move hl rfl) ?_)
        clear hl a; intro a hl
        refine wl (wl_val hl rfl trivial (r_move hl rfl) ?_)
        clear hl a; intro a hl
        refine wl (w_call hl hh rfl trivial rfl cal39 rfl (fail_spec b sv N Sc hS q1 X1 hq1 ht1 _ _ (by omega) (by omega) (fun he => ⟨htp.1, .inr ⟨by omega, ht.lt (hs1.err he) (by have := hQ1.2 he; omega)⟩⟩)) (by repeat (first | exact keeps_nil | apply keeps_cons (by repeat (first | exact find_head | apply find_tail)) (by first  | rfl) | exact keeps_self | apply keeps_mv)) trivial ?_)
        clear hl hh a w; intro vc Fc a w hR hl hh
        obtain ⟨rfl, q2, X2, rfl, hq2, ht2, hs2, hQ2⟩ := hR
        try simp only [List.cons_append, List.nil_append] at hh
        (try replace hh := has_tail1 hh); (try simp only [List.cons_append, List.nil_append, List.append_nil] at hh); have htp2 := hq2.tpos; have hkd2 := hq2.kind; have hNle := hq2.Nle
        refine w_nil ?_
        have hl2 := hl.add (t := 1) (hl.add (t := 8) (hl.nil) rfl) rfl; clear hl; have hl := hl2; clear hl2
        refine then_normal ?_
        refine c_seq ?_
        refine c_region ?_
        refine wl (wl_val hl rfl trivial (r_move hl rfl) ?_)
        clear hl a; intro a hl
        refine wl (wl_val hl rfl trivial (r_move hl rfl) ?_)
        clear hl a; intro a hl
        refine wl (wl_val hl rfl trivial (r_eql_string hl rfl rfl) ?_)
        clear hl a; intro a hl
        refine wl (wl_val hl rfl trivial (r_assign hl rfl) ?_)
        clear hl a; intro a hl
        refine w_nil ?_
        have hl2 := hl.add (t := 6) (hl.nil) rfl; clear hl; have hl := hl2; clear hl2
        refine then_normal ?_
        refine wp_ret ?_
        refine f_ret1 (F' := (b, C (q2.cells sv) 93) :: X2) hl hh rfl rfl (by repeat (first | exact keeps_nil | apply keeps_cons (by repeat (first | exact find_head | apply find_tail)) (by first  | rfl) | exact keeps_self | apply keeps_mv)) ?_
        exact ⟨⟨_, rfl⟩, q2, X2, rfl, hq2, ht2, hs1.trans hs2, fun e => hQ1.2 (hs2.err e)⟩
      · intro hc0
        try simp only [decide_eq_true_eq, decide_eq_false_iff_not, Bool.not_eq_true', Bool.not_eq_false', Bool.not_eq_true, Bool.not_eq_false, Bool.and_eq_true, Bool.or_eq_true, Bool.and_eq_false_iff, Bool.or_eq_false_iff, Bool.not_not, ne_eq, Int.not_lt, Int.not_le, Decidable.not_not, beq_iff_eq, bne_iff_ne, Option.isNone_iff_eq_none, Option.isNone_eq_false_iff, Option.isSome_iff_ne_none] at hc0
        obtain ⟨q2, rfl⟩ : ∃ z, z = q1 := ⟨_, rfl⟩
        obtain ⟨X2, rfl⟩ : ∃ z, z = X1 := ⟨_, rfl⟩
        have hq2 := hq1
        have ht2 := ht1
        have hs2 := St.refl N q2
        refine wp_skip ?_
        refine then_normal ?_
        refine c_seq ?_
        refine c_region ?_
        refine wl (wl_val hl rfl trivial (r_move hl rfl) ?_)
        clear hl a; intro a hl
        refine wl (wl_val hl rfl trivial (r_move hl rfl) ?_)
        clear hl a; intro a hl
        refine wl (wl_val hl rfl trivial (r_eql_string hl rfl rfl) ?_)
        clear hl a; intro a hl
        refine wl (wl_val hl rfl trivial (r_assign hl rfl) ?_)
        clear hl a; intro a hl
        refine w_nil ?_
        have hl2 := hl.add (t := 6) (hl.nil) rfl; clear hl; have hl := hl2; clear hl2
        refine then_normal ?_
        refine wp_ret ?_
        refine f_ret1 (F' := (b, C (q2.cells sv) 93) :: X2) hl hh rfl rfl (by repeat (first | exact keeps_nil | apply keeps_cons (by repeat (first | exact find_head | apply find_tail)) (by first  | rfl) | exact keeps_self | apply keeps_mv)) ?_
        exact ⟨⟨_, rfl⟩, q2, X2, rfl, hq2, ht2, hs1.trans hs2, fun e => hQ1.2 (hs2.err e)⟩
    · intro hg2; clear hl; intro hl
      try simp only [decide_eq_true_eq, decide_eq_false_iff_not, Bool.not_eq_true', Bool.not_eq_false', Bool.not_eq_true, Bool.not_eq_false, Bool.and_eq_true, Bool.or_eq_true, Bool.and_eq_false_iff, Bool.or_eq_false_iff, Bool.not_not, ne_eq, Int.not_lt, Int.not_le, Decidable.not_not, beq_iff_eq, bne_iff_ne, Option.isNone_iff_eq_none, Option.isNone_eq_false_iff, Option.isSome_iff_ne_none] at hg2
      refine wl (wl_skip hl rfl ⟨_, _, rfl, rfl, rfl⟩ ?_)
      clear hl a; intro a hl
      refine wl (wl_skip hl rfl ⟨_, _, rfl, rfl, rfl⟩ ?_)
      clear hl a; intro a hl
      refine wl (wl_skip hl rfl ⟨_, _, rfl, rfl, rfl⟩ ?_)
      clear hl a; intro a hl
      refine wl (wl_val hl rfl trivial (r_pickF hl rfl rfl) ?_)
      clear hl a; intro a hl
      refine w_nil ?_
      have hl2 := hl.add (t := 0) (hl.add (t := 1) (hl.add (t := 7) (hl.add (t := 8) (hl.add (t := 30) (hl.nil) rfl) rfl) rfl) rfl) rfl; clear hl; have hl := hl2; clear hl2
      refine then_normal ?_
      refine c_condF hl rfl ?_
      obtain ⟨q2, rfl⟩ : ∃ z, z = q1 := ⟨_, rfl⟩
      obtain ⟨X2, rfl⟩ : ∃ z, z = X1 := ⟨_, rfl⟩
      have hq2 := hq1
      have ht2 := ht1
      have hs2 := St.refl N q2
      refine wp_skip ?_
      refine then_normal ?_
      refine c_seq ?_
      refine c_region ?_
      refine wl (wl_val hl rfl trivial (r_move hl rfl) ?_)
      clear hl a; intro a hl
      refine wl (wl_val hl rfl trivial (r_move hl rfl) ?_)
      clear hl a; intro a hl
      refine wl (wl_val hl rfl trivial (r_eql_string hl rfl rfl) ?_)
      clear hl a; intro a hl
      refine wl (wl_val hl rfl trivial (r_assign hl rfl) ?_)
      clear hl a; intro a hl
      refine w_nil ?_
      have hl2 := hl.add (t := 6) (hl.nil) rfl; clear hl; have hl := hl2; clear hl2
      refine then_normal ?_
      refine wp_ret ?_
      refine f_ret1 (F' := (b, C (q2.cells sv) 93) :: X2) hl hh rfl rfl (by repeat (first | exact keeps_nil | apply keeps_cons (by repeat (first | exact find_head | apply find_tail)) (by first  | rfl) | exact keeps_self | apply keeps_mv)) ?_
      exact ⟨⟨_, rfl⟩, q2, X2, rfl, hq2, ht2, hs1.trans hs2, fun e => hQ1.2 (hs2.err e)⟩
  · intro hg1; clear hl; intro hl
    try simp only [decide_eq_true_eq, decide_eq_false_iff_not, Bool.not_eq_true', Bool.not_eq_false', Bool.not_eq_true, Bool.not_eq_false, Bool.and_eq_true, Bool.or_eq_true, Bool.and_eq_false_iff, Bool.or_eq_false_iff, Bool.not_not, ne_eq, Int.not_lt, Int.not_le, Decidable.not_not, beq_iff_eq, bne_iff_ne, Option.isNone_iff_eq_none, Option.isNone_eq_false_iff, Option.isSome_iff_ne_none] at hg1
    refine wl (wl_skip hl rfl ⟨_, _, rfl, rfl, rfl⟩ ?_)
    clear hl a; intro a hl
    refine wl (wl_skip hl rfl ⟨_, _, rfl, rfl, rfl⟩ ?_)
    clear hl a; intro a hl
    refine wl (wl_skip hl rfl ⟨_, _, rfl, rfl, rfl⟩ ?_)
    clear hl a; intro a hl
    refine wl (wl_val hl rfl trivial (r_pickF hl rfl rfl) ?_)
    clear hl a; intro a hl
    refine wl (wl_val hl rfl trivial (r_move hl rfl) ?_)
    clear hl a; intro a hl
    refine wl (wl_skip hl rfl ⟨_, _, rfl, rfl, rfl⟩ ?_)
    clear hl a; intro a hl
    refine wl (wl_skip hl rfl ⟨_, _, rfl, rfl, rfl⟩ ?_)
    clear hl a; intro a hl
    refine wl (wl_skip hl rfl ⟨_, _, rfl, rfl, rfl⟩ ?_)
    clear hl a; intro a hl
    refine wl (wl_val hl rfl trivial (r_pickF hl rfl rfl) ?_)
    clear hl a; intro a hl
    refine w_nil ?_
    have hl2 := hl.add (t := 0) (hl.add (t := 1) (hl.add (t := 7) (hl.add (t := 8) (hl.add (t := 30) (hl.nil) rfl) rfl) rfl) rfl) rfl; clear hl; have hl := hl2; clear hl2
    refine then_normal ?_
    refine c_condF hl rfl ?_
    obtain ⟨q2, rfl⟩ : ∃ z, z = q1 := ⟨_, rfl⟩
    obtain ⟨X2, rfl⟩ : ∃ z, z = X1 := ⟨_, rfl⟩
    have hq2 := hq1
    have ht2 := ht1
    have hs2 := St.refl N q2
    refine wp_skip ?_
    refine then_normal ?_
    refine c_seq ?_
    refine c_region ?_
    refine wl (wl_val hl rfl trivial (r_move hl rfl) ?_)
    clear hl a; intro a hl
    refine wl (wl_val hl rfl trivial (r_move hl rfl) ?_)
    clear hl a; intro a hl
    refine wl (wl_val hl rfl trivial (r_eql_string hl rfl rfl) ?_)
    clear hl a; intro a hl
    refine wl (wl_val hl rfl trivial (r_assign hl rfl) ?_)
    clear hl a; intro a hl
    refine w_nil ?_
    have hl2 := hl.add (t := 6) (hl.nil) rfl; clear hl; have hl := hl2; clear hl2
    refine then_normal ?_
    refine wp_ret ?_
    refine f_ret1 (F' := (b, C (q2.cells sv) 93) :: X2) hl hh rfl rfl (by repeat (first | exact keeps_nil | apply keeps_cons (by repeat (first | exact find_head | apply find_tail)) (by first  | rfl) | exact keeps_self | apply keeps_mv)) ?_
    exact ⟨⟨_, rfl⟩, q2, X2, rfl, hq2, ht2, hs1.trans hs2, fun e => hQ1.2 (hs2.err e)⟩

set_option maxHeartbeats 1000000 in
theorem expect_spec (b : Nat) (sv : Value) (N : Nat) (Sc : List (Nat × Obj)) (hS : Src sv N Sc) (q : PS) (X : List (Nat × Obj)) (hq : PW N Sc q X) (ht : Tok N q) (s1 : ByteArray) : Sp Try.prog 36 #[.pointer (some ⟨b, 0, none⟩), .string s1] ((b, C (q.cells sv) 93) :: X) (fun v F' => v = .tuple #[] ∧ PR b sv N Sc q (fun q' => q'.err = none → q.kind = 2) F') := by
  refine f_enter (args := [.pointer (some ⟨b, 0, none⟩), .string s1]) Try.func36 rfl Try.ntmps36 rfl ?_
  intro w0 w a hpre hl hh
  simp only [slotsFrom, Nat.reduceAdd] at hl
  refine c_region ?_
  refine wl (wl_val hl rfl trivial (r_move hl rfl) ?_)
  clear hl a; intro a hl
  refine wl (wl_val hl rfl trivial (r_move hl rfl) ?_)
  clear hl a; intro a hl
  refine wl (wl_val hl rfl trivial (r_move hl rfl) ?_)
  clear hl a; intro a hl
  refine wl (w_call hl hh rfl trivial rfl cal53 rfl (keyword_spec b sv N Sc hS q X hq ht s1 s1) (by repeat (first | exact keeps_nil | apply keeps_cons (by repeat (first | exact find_head | apply find_tail)) (by first  | rfl) | exact keeps_self | apply keeps_mv)) trivial ?_)
  clear hl hh a w; intro vc Fc a w hR hl hh
  obtain ⟨⟨t1, rfl⟩, q1, X1, rfl, hq1, ht1, hs1, hQ1⟩ := hR
  try simp only [List.cons_append, List.nil_append] at hh
  (try replace hh := has_tail1 hh); (try simp only [List.cons_append, List.nil_append, List.append_nil] at hh); have htp1 := hq1.tpos; have hkd1 := hq1.kind; have hNle := hq1.Nle
  refine w_nil ?_
  have hl2 := hl.nil; clear hl; have hl := hl2; clear hl2
  refine f_end0 (F' := (b, C (q1.cells sv) 93) :: X1) hl hh rfl (by repeat (first | exact keeps_nil | apply keeps_cons (by repeat (first | exact find_head | apply find_tail)) (by first  | rfl) | exact keeps_self | apply keeps_mv)) ?_
  exact ⟨rfl, q1, X1, rfl, hq1, ht1, hs1, hQ1⟩

set_option maxHeartbeats 1000000 in
theorem number_spec (b : Nat) (sv : Value) (N : Nat) (Sc : List (Nat × Obj)) (hS : Src sv N Sc) (q : PS) (X : List (Nat × Obj)) (hq : PW N Sc q X) (ht : Tok N q) (mx code : Int) (hm : 0 ≤ mx) (hc1 : 1 ≤ code) (hc2 : code ≤ 255) (hc4 : code ≠ 4) : Sp Try.prog 37 #[.pointer (some ⟨b, 0, none⟩), .int .u32 mx, .int .u8 code] ((b, C (q.cells sv) 93) :: X) (fun v F' => (∃ m : Int, v = .int .u32 m ∧ 0 ≤ m ∧ m ≤ mx) ∧ PR b sv N Sc q (fun q' => q'.err = none → q.kind = 3) F') := by
  refine f_enter (args := [.pointer (some ⟨b, 0, none⟩), .int .u32 mx, .int .u8 code]) Try.func37 rfl Try.ntmps37 rfl ?_
  intro w0 w a hpre hl hh
  have htp := hq.tpos; have hnm := hq.num
  simp only [slotsFrom, Nat.reduceAdd] at hl
  refine c_seq ?_
  refine c_region ?_
  refine wl (wl_val hl rfl trivial (r_assign hl rfl) ?_)
  clear hl a; intro a hl
  refine w_nil ?_
  have hl2 := hl.add (t := 0) (hl.add (t := 1) (hl.add (t := 2) (hl.nil) rfl) rfl) rfl; clear hl; have hl := hl2; clear hl2
  refine then_normal ?_
  refine c_seq ?_
  refine c_seq ?_
  refine c_region ?_
  refine wl (wl_val hl rfl trivial (r_move hl rfl) ?_)
  clear hl a; intro a hl
  refine wl (wl_val hl rfl trivial (r_nilCheck hl rfl) ?_)
  clear hl a; intro a hl
  refine wl (wl_val hl rfl trivial (r_field hl rfl fld93_2) ?_)
  clear hl a; intro a hl
  refine wl (w_load hl hh rfl trivial one77 rfl (by repeat (first | exact find_head | apply find_tail)) (by first | rfl) ?_)
  clear hl a; intro a hl
  refine wl (wl_val hl rfl trivial (r_neq_pointer hl rfl rfl ptr77) ?_)
  clear hl a; intro a hl
  refine w_nil ?_
  have hl2 := hl.add (t := 0) (hl.add (t := 1) (hl.add (t := 2) (hl.add (t := 12) (hl.nil) rfl) rfl) rfl) rfl; clear hl; have hl := hl2; clear hl2
  refine then_normal ?_
  refine c_cond hl rfl ?_ ?_
  · intro hc0
    try simp only [decide_eq_true_eq, decide_eq_false_iff_not, Bool.not_eq_true', Bool.not_eq_false', Bool.not_eq_true, Bool.not_eq_false, Bool.and_eq_true, Bool.or_eq_true, Bool.and_eq_false_iff, Bool.or_eq_false_iff, Bool.not_not, ne_eq, Int.not_lt, Int.not_le, Decidable.not_not, beq_iff_eq, bne_iff_ne, Option.isNone_iff_eq_none, Option.isNone_eq_false_iff, Option.isSome_iff_ne_none] at hc0
    refine c_seq ?_
    refine c_region ?_
    refine wl (wl_val hl rfl trivial (r_assign hl rfl) ?_)
    clear hl a; intro a hl
    refine w_nil ?_
    have hl2 := hl.add (t := 6) (hl.nil) rfl; clear hl; have hl := hl2; clear hl2
    refine then_normal ?_
    refine wp_ret ?_
    refine then_ret ?_
    refine f_ret1 (F' := (b, C (q.cells sv) 93) :: X) hl hh rfl rfl (by repeat (first | exact keeps_nil | apply keeps_cons (by repeat (first | exact find_head | apply find_tail)) (by first  | rfl) | exact keeps_self | apply keeps_mv)) ?_
    exact ⟨⟨_, rfl, by omega, by omega⟩, pr_same hq ht (fun e => absurd e (by assumption))⟩
  · intro hc0
    try simp only [decide_eq_true_eq, decide_eq_false_iff_not, Bool.not_eq_true', Bool.not_eq_false', Bool.not_eq_true, Bool.not_eq_false, Bool.and_eq_true, Bool.or_eq_true, Bool.and_eq_false_iff, Bool.or_eq_false_iff, Bool.not_not, ne_eq, Int.not_lt, Int.not_le, Decidable.not_not, beq_iff_eq, bne_iff_ne, Option.isNone_iff_eq_none, Option.isNone_eq_false_iff, Option.isSome_iff_ne_none] at hc0
    refine wp_skip ?_
    refine then_normal ?_
    refine c_seq ?_
    refine c_seq ?_
    refine c_region ?_
    refine wl (wl_val hl rfl trivial (r_move hl rfl) ?_)
    clear hl a; intro a hl
    refine wl (wl_val hl rfl trivial (r_nilCheck hl rfl) ?_)
    clear hl a; intro a hl
    refine wl (wl_val hl rfl trivial (r_field hl rfl fld93_1) ?_)
    clear hl a; intro a hl
    refine wl (wl_val hl rfl trivial (r_field hl rfl fld91_0) ?_)
    clear hl a; intro a hl
    refine wl (w_load hl hh rfl trivial one89 rfl (by repeat (first | exact find_head | apply find_tail)) (by first | rfl) ?_)
    clear hl a; intro a hl
    refine wl (wl_val hl rfl trivial (r_neq hl rfl rfl) ?_)
    clear hl a; intro a hl
    refine w_nil ?_
    have hl2 := hl.add (t := 0) (hl.add (t := 1) (hl.add (t := 2) (hl.add (t := 18) (hl.nil) rfl) rfl) rfl) rfl; clear hl; have hl := hl2; clear hl2
    refine then_normal ?_
    refine c_cond hl rfl ?_ ?_
    · intro hc1
      try simp only [decide_eq_true_eq, decide_eq_false_iff_not, Bool.not_eq_true', Bool.not_eq_false', Bool.not_eq_true, Bool.not_eq_false, Bool.and_eq_true, Bool.or_eq_true, Bool.and_eq_false_iff, Bool.or_eq_false_iff, Bool.not_not, ne_eq, Int.not_lt, Int.not_le, Decidable.not_not, beq_iff_eq, bne_iff_ne, Option.isNone_iff_eq_none, Option.isNone_eq_false_iff, Option.isSome_iff_ne_none] at hc1
      refine c_seq ?_
      refine c_region ?_
      refine wl (wl_val hl rfl trivial (r_move hl rfl) ?_)
      clear hl a; intro a hl
      refine wl (w_call hl hh rfl trivial rfl cal54 rfl (unexpected_spec b sv N Sc hS q X hq ht (by assumption)) (by repeat (first | exact keeps_nil | apply keeps_cons (by repeat (first | exact find_head | apply find_tail)) (by first  | rfl) | exact keeps_self | apply keeps_mv)) trivial ?_)
      clear hl hh a w; intro vc Fc a w hR hl hh
      obtain ⟨rfl, q1, X1, rfl, hq1, ht1, hs1, hQ1⟩ := hR
      try simp only [List.cons_append, List.nil_append] at hh
      (try replace hh := has_tail1 hh); (try simp only [List.cons_append, List.nil_append, List.append_nil] at hh); have htp1 := hq1.tpos; have hkd1 := hq1.kind; have hNle := hq1.Nle
      refine w_nil ?_
      have hl2 := hl.nil; clear hl; have hl := hl2; clear hl2
      refine then_normal ?_
      refine c_seq ?_
      refine c_region ?_
      refine wl (wl_val hl rfl trivial (r_assign hl rfl) ?_)
      clear hl a; intro a hl
      refine w_nil ?_
      have hl2 := hl.add (t := 6) (hl.nil) rfl; clear hl; have hl := hl2; clear hl2
      refine then_normal ?_
      refine wp_ret ?_
      refine then_ret ?_
      refine f_ret1 (F' := (b, C (q1.cells sv) 93) :: X1) hl hh rfl rfl (by repeat (first | exact keeps_nil | apply keeps_cons (by repeat (first | exact find_head | apply find_tail)) (by first  | rfl) | exact keeps_self | apply keeps_mv)) ?_
      exact ⟨⟨_, rfl, by omega, by omega⟩, q1, X1, rfl, hq1, ht1, hs1, fun e => absurd e hQ1.1⟩
    · intro hc1
      try simp only [decide_eq_true_eq, decide_eq_false_iff_not, Bool.not_eq_true', Bool.not_eq_false', Bool.not_eq_true, Bool.not_eq_false, Bool.and_eq_true, Bool.or_eq_true, Bool.and_eq_false_iff, Bool.or_eq_false_iff, Bool.not_not, ne_eq, Int.not_lt, Int.not_le, Decidable.not_not, beq_iff_eq, bne_iff_ne, Option.isNone_iff_eq_none, Option.isNone_eq_false_iff, Option.isSome_iff_ne_none] at hc1
      refine wp_skip ?_
      refine then_normal ?_
      refine c_seq ?_
      refine c_region ?_
      refine wl (wl_val hl rfl trivial (r_move hl rfl) ?_)
      clear hl a; intro a hl
      refine wl (wl_val hl rfl trivial (r_nilCheck hl rfl) ?_)
      clear hl a; intro a hl
      refine wl (wl_val hl rfl trivial (r_field hl rfl fld93_1) ?_)
      clear hl a; intro a hl
      refine wl (wl_val hl rfl trivial (r_field hl rfl fld91_3) ?_)
      clear hl a; intro a hl
      refine wl (w_load hl hh rfl trivial one34 rfl (by repeat (first | exact find_head | apply find_tail)) (by first | rfl) ?_)
      clear hl a; intro a hl
      refine wl (wl_val hl rfl trivial (r_assign hl rfl) ?_)
      clear hl a; intro a hl
      refine w_nil ?_
      have hl2 := hl.add (t := 0) (hl.add (t := 1) (hl.add (t := 2) (hl.add (t := 7) (hl.nil) rfl) rfl) rfl) rfl; clear hl; have hl := hl2; clear hl2
      refine then_normal ?_
      refine c_seq ?_
      refine c_seq ?_
      refine c_region ?_
      refine wl (wl_val hl rfl trivial (r_move hl rfl) ?_)
      clear hl a; intro a hl
      refine wl (wl_val hl rfl trivial (r_move hl rfl) ?_)
      clear hl a; intro a hl
      refine wl (wl_val hl rfl trivial (r_gtr hl rfl rfl) ?_)
      clear hl a; intro a hl
      refine w_nil ?_
      have hl2 := hl.add (t := 0) (hl.add (t := 2) (hl.add (t := 7) (hl.add (t := 28) (hl.nil) rfl) rfl) rfl) rfl; clear hl; have hl := hl2; clear hl2
      refine then_normal ?_
      refine c_cond hl rfl ?_ ?_
      · intro hc2
        try simp only [decide_eq_true_eq, decide_eq_false_iff_not, Bool.not_eq_true', Bool.not_eq_false', Bool.not_eq_true, Bool.not_eq_false, Bool.and_eq_true, Bool.or_eq_true, Bool.and_eq_false_iff, Bool.or_eq_false_iff, Bool.not_not, ne_eq, Int.not_lt, Int.not_le, Decidable.not_not, beq_iff_eq, bne_iff_ne, Option.isNone_iff_eq_none, Option.isNone_eq_false_iff, Option.isSome_iff_ne_none] at hc2
        refine c_seq ?_
        refine c_region ?_
        refine wl (wl_val hl rfl trivial (r_move hl rfl) ?_)
        clear hl a; intro a hl
        refine wl (wl_val hl rfl trivial (r_move hl rfl) ?_)
        clear hl a; intro a hl
        refine wl (wl_val hl rfl trivial (r_move hl rfl) ?_)
        clear hl a; intro a hl
        refine wl (wl_val hl rfl trivial (r_nilCheck hl rfl) ?_)
        clear hl a; intro a hl
        refine wl (wl_val hl rfl trivial (r_field hl rfl fld93_1) ?_)
        clear hl a; intro a hl
        refine wl (wl_val hl rfl trivial (r_field hl rfl fld91_1) ?_)
        clear hl a; intro a hl
        refine wl (w_load hl hh rfl trivial one3 rfl (by repeat (first | exact find_head | apply find_tail)) (by first | rfl) ?_)
        clear hl a; intro a hl
        refine wl (w_call hl hh rfl trivial rfl cal39 rfl (fail_spec b sv N Sc hS q X hq ht _ _ (by omega) (by omega) (fun he => ⟨htp.1, .inr ⟨by omega, ht.lt he (by omega)⟩⟩)) (by repeat (first | exact keeps_nil | apply keeps_cons (by repeat (first | exact find_head | apply find_tail)) (by first  | rfl) | exact keeps_self | apply keeps_mv)) trivial ?_)
        clear hl hh a w; intro vc Fc a w hR hl hh
        obtain ⟨rfl, q1, X1, rfl, hq1, ht1, hs1, hQ1⟩ := hR
        try simp only [List.cons_append, List.nil_append] at hh
        (try replace hh := has_tail1 hh); (try simp only [List.cons_append, List.nil_append, List.append_nil] at hh); have htp1 := hq1.tpos; have hkd1 := hq1.kind; have hNle := hq1.Nle
        refine w_nil ?_
        have hl2 := hl.nil; clear hl; have hl := hl2; clear hl2
        refine then_normal ?_
        refine c_seq ?_
        refine c_region ?_
        refine wl (wl_val hl rfl trivial (r_assign hl rfl) ?_)
        clear hl a; intro a hl
        refine w_nil ?_
        have hl2 := hl.add (t := 6) (hl.nil) rfl; clear hl; have hl := hl2; clear hl2
        refine then_normal ?_
        refine wp_ret ?_
        refine then_ret ?_
        refine f_ret1 (F' := (b, C (q1.cells sv) 93) :: X1) hl hh rfl rfl (by repeat (first | exact keeps_nil | apply keeps_cons (by repeat (first | exact find_head | apply find_tail)) (by first  | rfl) | exact keeps_self | apply keeps_mv)) ?_
        exact ⟨⟨_, rfl, by omega, by omega⟩, q1, X1, rfl, hq1, ht1, hs1, fun e => absurd e hQ1.1⟩
      · intro hc2
        try simp only [decide_eq_true_eq, decide_eq_false_iff_not, Bool.not_eq_true', Bool.not_eq_false', Bool.not_eq_true, Bool.not_eq_false, Bool.and_eq_true, Bool.or_eq_true, Bool.and_eq_false_iff, Bool.or_eq_false_iff, Bool.not_not, ne_eq, Int.not_lt, Int.not_le, Decidable.not_not, beq_iff_eq, bne_iff_ne, Option.isNone_iff_eq_none, Option.isNone_eq_false_iff, Option.isSome_iff_ne_none] at hc2
        refine wp_skip ?_
        refine then_normal ?_
        refine c_seq ?_
        refine c_region ?_
        refine wl (wl_val hl rfl trivial (r_move hl rfl) ?_)
        clear hl a; intro a hl
        refine wl (w_call hl hh rfl trivial rfl cal34 rfl (advance_spec b sv N Sc hS q X hq) (by repeat (first | exact keeps_nil | apply keeps_cons (by repeat (first | exact find_head | apply find_tail)) (by first  | rfl) | exact keeps_self | apply keeps_mv)) trivial ?_)
        clear hl hh a w; intro vc Fc a w hR hl hh
        obtain ⟨rfl, q1, X1, rfl, hq1, ht1, hs1, hQ1⟩ := hR
        try simp only [List.cons_append, List.nil_append] at hh
        (try replace hh := has_tail1 hh); (try simp only [List.cons_append, List.nil_append, List.append_nil] at hh); have htp1 := hq1.tpos; have hkd1 := hq1.kind; have hNle := hq1.Nle
        refine w_nil ?_
        have hl2 := hl.add (t := 7) (hl.nil) rfl; clear hl; have hl := hl2; clear hl2
        refine then_normal ?_
        refine c_seq ?_
        refine c_region ?_
        refine wl (wl_val hl rfl trivial (r_move hl rfl) ?_)
        clear hl a; intro a hl
        refine wl (wl_val hl rfl trivial (r_assign hl rfl) ?_)
        clear hl a; intro a hl
        refine w_nil ?_
        have hl2 := hl.add (t := 6) (hl.nil) rfl; clear hl; have hl := hl2; clear hl2
        refine then_normal ?_
        refine wp_ret ?_
        refine f_ret1 (F' := (b, C (q1.cells sv) 93) :: X1) hl hh rfl rfl (by repeat (first | exact keeps_nil | apply keeps_cons (by repeat (first | exact find_head | apply find_tail)) (by first  | rfl) | exact keeps_self | apply keeps_mv)) ?_
        exact ⟨⟨_, rfl, by omega, by omega⟩, q1, X1, rfl, hq1, ht1, hs1, fun _ => by omega⟩

set_option maxHeartbeats 1000000 in
theorem blankLines_spec (b : Nat) (sv : Value) (N : Nat) (Sc : List (Nat × Obj)) (hS : Src sv N Sc) (q : PS) (X : List (Nat × Obj)) (hq : PW N Sc q X) (ht : Tok N q)  : Sp Try.prog 35 #[.pointer (some ⟨b, 0, none⟩)] ((b, C (q.cells sv) 93) :: X) (fun v F' => v = .tuple #[] ∧ PR b sv N Sc q (fun q' => True) F') := by
  refine f_enter (args := [.pointer (some ⟨b, 0, none⟩)]) Try.func35 rfl Try.ntmps35 rfl ?_
  intro w0 w a hpre hl hh
  simp only [slotsFrom, Nat.reduceAdd] at hl
  refine wp_block ?_
  obtain ⟨KS0, hKS0, hk⟩ := (hl.add (t := 0) (hl.nil) rfl).name
  obtain ⟨HS0, hHS0, hh2⟩ := hh.nameT (A := [(b, C (q.cells sv) 93)]) (U := X) (keeps_cons (b := b) (o' := C (q.cells sv) 93) (by repeat (first | exact find_head | apply find_tail)) (by first | rfl) ((by repeat (first | exact keeps_nil | exact keeps_self | exact keeps_swap | apply keeps_mv))))
  refine c_loop (α := PS × List (Nat × Obj)) (fun s => s.1.mu N) (fun s a w => (PW N Sc s.1 s.2 ∧ Tok N s.1 ∧ St N q s.1) ∧ Sl 17 ([] ++ KS0) a ∧ Has _ w0 ([(b, C (s.1.cells sv) 93)] ++ (HS0 ++ s.2)) w) (q, X) ⟨⟨hq, ht, St.refl _ _⟩, hk, hh2⟩ ?_
  clear hk hh2 hl hh a w
  intro s a w hI
  obtain ⟨⟨hqs, hts, hss⟩, hl, hh⟩ := hI
  subst hKS0; subst hHS0
  simp only [List.cons_append, List.nil_append, List.append_nil] at hl hh
  refine c_seq ?_
  refine c_seq ?_
  refine c_region ?_
  refine wl (wl_val hl rfl trivial (r_move hl rfl) ?_)
  clear hl a; intro a hl
  refine wl (wl_val hl rfl trivial (r_nilCheck hl rfl) ?_)
  clear hl a; intro a hl
  refine wl (wl_val hl rfl trivial (r_field hl rfl fld93_2) ?_)
  clear hl a; intro a hl
  refine wl (w_load hl hh rfl trivial one77 rfl (by repeat (first | exact find_head | apply find_tail)) (by first | rfl) ?_)
  clear hl a; intro a hl
  refine wl (wl_val hl rfl trivial (r_eql_pointer hl rfl rfl ptr77) ?_)
  clear hl a; intro a hl
  refine wl (wl_val hl rfl trivial (r_move hl rfl) ?_)
  clear hl a; intro a hl
  refine sl_split (t := 7) hl rfl ?_ ?_
  · intro hg1; clear hl; intro hl
    try simp only [decide_eq_true_eq, decide_eq_false_iff_not, Bool.not_eq_true', Bool.not_eq_false', Bool.not_eq_true, Bool.not_eq_false, Bool.and_eq_true, Bool.or_eq_true, Bool.and_eq_false_iff, Bool.or_eq_false_iff, Bool.not_not, ne_eq, Int.not_lt, Int.not_le, Decidable.not_not, beq_iff_eq, bne_iff_ne, Option.isNone_iff_eq_none, Option.isNone_eq_false_iff, Option.isSome_iff_ne_none] at hg1
    refine wl (wl_val hl rfl ⟨_, _, rfl, rfl, rfl⟩ (r_move hl rfl) ?_)
    clear hl a; intro a hl
    refine wl (wl_val hl rfl ⟨_, _, rfl, rfl, rfl⟩ (r_nilCheck hl rfl) ?_)
    clear hl a; intro a hl
    refine wl (wl_val hl rfl ⟨_, _, rfl, rfl, rfl⟩ (r_field hl rfl fld93_1) ?_)
    clear hl a; intro a hl
    refine wl (wl_val hl rfl ⟨_, _, rfl, rfl, rfl⟩ (r_field hl rfl fld91_0) ?_)
    clear hl a; intro a hl
    refine wl (w_load hl hh rfl ⟨_, _, rfl, rfl, rfl⟩ one89 rfl (by repeat (first | exact find_head | apply find_tail)) (by first | rfl) ?_)
    clear hl a; intro a hl
    refine wl (wl_val hl rfl ⟨_, _, rfl, rfl, rfl⟩ (r_eql hl rfl rfl) ?_)
    clear hl a; intro a hl
    refine wl (wl_val hl rfl trivial (r_pickT hl rfl rfl) ?_)
    clear hl a; intro a hl
    refine w_nil ?_
    have hl2 := hl.add (t := 0) (hl.add (t := 14) (hl.nil) rfl) rfl; clear hl; have hl := hl2; clear hl2
    refine then_normal ?_
    refine c_cond hl rfl ?_ ?_
    · intro hc0
      try simp only [decide_eq_true_eq, decide_eq_false_iff_not, Bool.not_eq_true', Bool.not_eq_false', Bool.not_eq_true, Bool.not_eq_false, Bool.and_eq_true, Bool.or_eq_true, Bool.and_eq_false_iff, Bool.or_eq_false_iff, Bool.not_not, ne_eq, Int.not_lt, Int.not_le, Decidable.not_not, beq_iff_eq, bne_iff_ne, Option.isNone_iff_eq_none, Option.isNone_eq_false_iff, Option.isSome_iff_ne_none] at hc0
      refine wp_skip ?_
      refine then_normal ?_
      refine wp_block ?_
      refine c_region ?_
      refine wl (wl_val hl rfl trivial (r_move hl rfl) ?_)
      clear hl a; intro a hl
      refine wl (w_call hl hh rfl trivial rfl cal34 rfl (advance_spec b sv N Sc hS s.1 s.2 hqs) (by repeat (first | exact keeps_nil | apply keeps_cons (by repeat (first | exact find_head | apply find_tail)) (by first  | rfl) | exact keeps_self | apply keeps_mv)) trivial ?_)
      clear hl hh a w; intro vc Fc a w hR hl hh
      obtain ⟨rfl, q1, X1, rfl, hq1, ht1, hs1, hQ1⟩ := hR
      try simp only [List.cons_append, List.nil_append] at hh
      (try replace hh := has_tail1 hh); (try simp only [List.cons_append, List.nil_append, List.append_nil] at hh)
      refine w_nil ?_
      have hl2 := hl.add (t := 0) (hl.nil) rfl; clear hl; have hl := hl2; clear hl2
      refine blk_normal ?_
      refine then_normal ?_
      refine ⟨(q1, X1), (hQ1 (by assumption) (by omega)), ⟨hq1, ht1, hss.trans hs1⟩, hl.addE (t := 0) (hl.nil) rfl (by first | rfl | (congr 1; omega)), (by simp only [List.cons_append, List.nil_append, List.append_nil]; exact hh.keep (by repeat (first | exact keeps_nil | apply keeps_cons (by repeat (first | exact find_head | apply find_tail)) (by first  | rfl) | exact keeps_self | apply keeps_mv)))⟩
    · intro hc0
      try simp only [decide_eq_true_eq, decide_eq_false_iff_not, Bool.not_eq_true', Bool.not_eq_false', Bool.not_eq_true, Bool.not_eq_false, Bool.and_eq_true, Bool.or_eq_true, Bool.and_eq_false_iff, Bool.or_eq_false_iff, Bool.not_not, ne_eq, Int.not_lt, Int.not_le, Decidable.not_not, beq_iff_eq, bne_iff_ne, Option.isNone_iff_eq_none, Option.isNone_eq_false_iff, Option.isSome_iff_ne_none] at hc0
      refine wp_exit ?_
      refine then_exit ?_
      refine then_exit ?_
      refine blk_exit ?_
      refine f_end0 (F' := (b, C (s.1.cells sv) 93) :: s.2) hl hh rfl (by repeat (first | exact keeps_nil | apply keeps_cons (by repeat (first | exact find_head | apply find_tail)) (by first  | rfl) | exact keeps_self | apply keeps_mv)) ?_
      exact ⟨rfl, s.1, s.2, rfl, hqs, hts, hss, trivial⟩
  · intro hg1; clear hl; intro hl
    try simp only [decide_eq_true_eq, decide_eq_false_iff_not, Bool.not_eq_true', Bool.not_eq_false', Bool.not_eq_true, Bool.not_eq_false, Bool.and_eq_true, Bool.or_eq_true, Bool.and_eq_false_iff, Bool.or_eq_false_iff, Bool.not_not, ne_eq, Int.not_lt, Int.not_le, Decidable.not_not, beq_iff_eq, bne_iff_ne, Option.isNone_iff_eq_none, Option.isNone_eq_false_iff, Option.isSome_iff_ne_none] at hg1
    refine wl (wl_skip hl rfl ⟨_, _, rfl, rfl, rfl⟩ ?_)
    clear hl a; intro a hl
    refine wl (wl_skip hl rfl ⟨_, _, rfl, rfl, rfl⟩ ?_)
    clear hl a; intro a hl
    refine wl (wl_skip hl rfl ⟨_, _, rfl, rfl, rfl⟩ ?_)
    clear hl a; intro a hl
    refine wl (wl_skip hl rfl ⟨_, _, rfl, rfl, rfl⟩ ?_)
    clear hl a; intro a hl
    refine wl (wl_skip hl rfl ⟨_, _, rfl, rfl, rfl⟩ ?_)
    clear hl a; intro a hl
    refine wl (wl_skip hl rfl ⟨_, _, rfl, rfl, rfl⟩ ?_)
    clear hl a; intro a hl
    refine wl (wl_val hl rfl trivial (r_pickF hl rfl rfl) ?_)
    clear hl a; intro a hl
    refine w_nil ?_
    have hl2 := hl.add (t := 0) (hl.add (t := 14) (hl.nil) rfl) rfl; clear hl; have hl := hl2; clear hl2
    refine then_normal ?_
    refine c_condF hl rfl ?_
    refine wp_exit ?_
    refine then_exit ?_
    refine then_exit ?_
    refine blk_exit ?_
    refine f_end0 (F' := (b, C (s.1.cells sv) 93) :: s.2) hl hh rfl (by repeat (first | exact keeps_nil | apply keeps_cons (by repeat (first | exact find_head | apply find_tail)) (by first  | rfl) | exact keeps_self | apply keeps_mv)) ?_
    exact ⟨rfl, s.1, s.2, rfl, hqs, hts, hss, trivial⟩

set_option maxHeartbeats 1000000 in
theorem endOfLine_spec (b : Nat) (sv : Value) (N : Nat) (Sc : List (Nat × Obj)) (hS : Src sv N Sc) (q : PS) (X : List (Nat × Obj)) (hq : PW N Sc q X) (ht : Tok N q)  : Sp Try.prog 38 #[.pointer (some ⟨b, 0, none⟩)] ((b, C (q.cells sv) 93) :: X) (fun v F' => v = .tuple #[] ∧ PR b sv N Sc q (fun q' => True) F') := by
  refine f_enter (args := [.pointer (some ⟨b, 0, none⟩)]) Try.func38 rfl Try.ntmps38 rfl ?_
  intro w0 w a hpre hl hh
  simp only [slotsFrom, Nat.reduceAdd] at hl
  refine c_seq ?_
  refine c_seq ?_
  refine c_region ?_
  refine wl (wl_val hl rfl trivial (r_move hl rfl) ?_)
  clear hl a; intro a hl
  refine wl (wl_val hl rfl trivial (r_nilCheck hl rfl) ?_)
  clear hl a; intro a hl
  refine wl (wl_val hl rfl trivial (r_field hl rfl fld93_2) ?_)
  clear hl a; intro a hl
  refine wl (w_load hl hh rfl trivial one77 rfl (by repeat (first | exact find_head | apply find_tail)) (by first | rfl) ?_)
  clear hl a; intro a hl
  refine wl (wl_val hl rfl trivial (r_eql_pointer hl rfl rfl ptr77) ?_)
  clear hl a; intro a hl
  refine wl (wl_val hl rfl trivial (r_move hl rfl) ?_)
  clear hl a; intro a hl
  refine sl_split (t := 7) hl rfl ?_ ?_
  · intro hg1; clear hl; intro hl
    try simp only [decide_eq_true_eq, decide_eq_false_iff_not, Bool.not_eq_true', Bool.not_eq_false', Bool.not_eq_true, Bool.not_eq_false, Bool.and_eq_true, Bool.or_eq_true, Bool.and_eq_false_iff, Bool.or_eq_false_iff, Bool.not_not, ne_eq, Int.not_lt, Int.not_le, Decidable.not_not, beq_iff_eq, bne_iff_ne, Option.isNone_iff_eq_none, Option.isNone_eq_false_iff, Option.isSome_iff_ne_none] at hg1
    refine wl (wl_val hl rfl ⟨_, _, rfl, rfl, rfl⟩ (r_move hl rfl) ?_)
    clear hl a; intro a hl
    refine wl (wl_val hl rfl ⟨_, _, rfl, rfl, rfl⟩ (r_nilCheck hl rfl) ?_)
    clear hl a; intro a hl
    refine wl (wl_val hl rfl ⟨_, _, rfl, rfl, rfl⟩ (r_field hl rfl fld93_1) ?_)
    clear hl a; intro a hl
    refine wl (wl_val hl rfl ⟨_, _, rfl, rfl, rfl⟩ (r_field hl rfl fld91_0) ?_)
    clear hl a; intro a hl
    refine wl (w_load hl hh rfl ⟨_, _, rfl, rfl, rfl⟩ one89 rfl (by repeat (first | exact find_head | apply find_tail)) (by first | rfl) ?_)
    clear hl a; intro a hl
    refine wl (wl_val hl rfl ⟨_, _, rfl, rfl, rfl⟩ (r_neq hl rfl rfl) ?_)
    clear hl a; intro a hl
    refine wl (wl_val hl rfl trivial (r_pickT hl rfl rfl) ?_)
    clear hl a; intro a hl
    refine w_nil ?_
    have hl2 := hl.add (t := 0) (hl.add (t := 14) (hl.nil) rfl) rfl; clear hl; have hl := hl2; clear hl2
    refine then_normal ?_
    refine c_cond hl rfl ?_ ?_
    · intro hc0
      try simp only [decide_eq_true_eq, decide_eq_false_iff_not, Bool.not_eq_true', Bool.not_eq_false', Bool.not_eq_true, Bool.not_eq_false, Bool.and_eq_true, Bool.or_eq_true, Bool.and_eq_false_iff, Bool.or_eq_false_iff, Bool.not_not, ne_eq, Int.not_lt, Int.not_le, Decidable.not_not, beq_iff_eq, bne_iff_ne, Option.isNone_iff_eq_none, Option.isNone_eq_false_iff, Option.isSome_iff_ne_none] at hc0
      refine c_region ?_
      refine wl (wl_val hl rfl trivial (r_move hl rfl) ?_)
      clear hl a; intro a hl
      refine wl (w_call hl hh rfl trivial rfl cal54 rfl (unexpected_spec b sv N Sc hS q X hq ht (by assumption)) (by repeat (first | exact keeps_nil | apply keeps_cons (by repeat (first | exact find_head | apply find_tail)) (by first  | rfl) | exact keeps_self | apply keeps_mv)) trivial ?_)
      clear hl hh a w; intro vc Fc a w hR hl hh
      obtain ⟨rfl, q1, X1, rfl, hq1, ht1, hs1, hQ1⟩ := hR
      try simp only [List.cons_append, List.nil_append] at hh
      (try replace hh := has_tail1 hh); (try simp only [List.cons_append, List.nil_append, List.append_nil] at hh); have htp1 := hq1.tpos; have hkd1 := hq1.kind; have hNle := hq1.Nle
      refine w_nil ?_
      have hl2 := hl.add (t := 0) (hl.nil) rfl; clear hl; have hl := hl2; clear hl2
      refine then_normal ?_
      refine c_region ?_
      refine wl (wl_val hl rfl trivial (r_move hl rfl) ?_)
      clear hl a; intro a hl
      refine wl (w_call hl hh rfl trivial rfl cal35 rfl (blankLines_spec b sv N Sc hS q1 X1 hq1 ht1) (by repeat (first | exact keeps_nil | apply keeps_cons (by repeat (first | exact find_head | apply find_tail)) (by first  | rfl) | exact keeps_self | apply keeps_mv)) trivial ?_)
      clear hl hh a w; intro vc Fc a w hR hl hh
      obtain ⟨rfl, q2, X2, rfl, hq2, ht2, hs2, hQ2⟩ := hR
      try simp only [List.cons_append, List.nil_append] at hh
      (try replace hh := has_tail1 hh); (try simp only [List.cons_append, List.nil_append, List.append_nil] at hh); have htp2 := hq2.tpos; have hkd2 := hq2.kind; have hNle := hq2.Nle
      refine w_nil ?_
      have hl2 := hl.nil; clear hl; have hl := hl2; clear hl2
      refine f_end0 (F' := (b, C (q2.cells sv) 93) :: X2) hl hh rfl (by repeat (first | exact keeps_nil | apply keeps_cons (by repeat (first | exact find_head | apply find_tail)) (by first  | rfl) | exact keeps_self | apply keeps_mv)) ?_
      exact ⟨rfl, q2, X2, rfl, hq2, ht2, hs1.trans hs2, trivial⟩
    · intro hc0
      try simp only [decide_eq_true_eq, decide_eq_false_iff_not, Bool.not_eq_true', Bool.not_eq_false', Bool.not_eq_true, Bool.not_eq_false, Bool.and_eq_true, Bool.or_eq_true, Bool.and_eq_false_iff, Bool.or_eq_false_iff, Bool.not_not, ne_eq, Int.not_lt, Int.not_le, Decidable.not_not, beq_iff_eq, bne_iff_ne, Option.isNone_iff_eq_none, Option.isNone_eq_false_iff, Option.isSome_iff_ne_none] at hc0
      obtain ⟨q1, rfl⟩ : ∃ z, z = q := ⟨_, rfl⟩
      obtain ⟨X1, rfl⟩ : ∃ z, z = X := ⟨_, rfl⟩
      have hq1 := hq
      have ht1 := ht
      have hs1 := St.refl N q1
      refine wp_skip ?_
      refine then_normal ?_
      refine c_region ?_
      refine wl (wl_val hl rfl trivial (r_move hl rfl) ?_)
      clear hl a; intro a hl
      refine wl (w_call hl hh rfl trivial rfl cal35 rfl (blankLines_spec b sv N Sc hS q1 X1 hq1 ht1) (by repeat (first | exact keeps_nil | apply keeps_cons (by repeat (first | exact find_head | apply find_tail)) (by first  | rfl) | exact keeps_self | apply keeps_mv)) trivial ?_)
      clear hl hh a w; intro vc Fc a w hR hl hh
      obtain ⟨rfl, q2, X2, rfl, hq2, ht2, hs2, hQ2⟩ := hR
      try simp only [List.cons_append, List.nil_append] at hh
      (try replace hh := has_tail1 hh); (try simp only [List.cons_append, List.nil_append, List.append_nil] at hh); have htp2 := hq2.tpos; have hkd2 := hq2.kind; have hNle := hq2.Nle
      refine w_nil ?_
      have hl2 := hl.nil; clear hl; have hl := hl2; clear hl2
      refine f_end0 (F' := (b, C (q2.cells sv) 93) :: X2) hl hh rfl (by repeat (first | exact keeps_nil | apply keeps_cons (by repeat (first | exact find_head | apply find_tail)) (by first  | rfl) | exact keeps_self | apply keeps_mv)) ?_
      exact ⟨rfl, q2, X2, rfl, hq2, ht2, hs1.trans hs2, trivial⟩
  · intro hg1; clear hl; intro hl
    try simp only [decide_eq_true_eq, decide_eq_false_iff_not, Bool.not_eq_true', Bool.not_eq_false', Bool.not_eq_true, Bool.not_eq_false, Bool.and_eq_true, Bool.or_eq_true, Bool.and_eq_false_iff, Bool.or_eq_false_iff, Bool.not_not, ne_eq, Int.not_lt, Int.not_le, Decidable.not_not, beq_iff_eq, bne_iff_ne, Option.isNone_iff_eq_none, Option.isNone_eq_false_iff, Option.isSome_iff_ne_none] at hg1
    refine wl (wl_skip hl rfl ⟨_, _, rfl, rfl, rfl⟩ ?_)
    clear hl a; intro a hl
    refine wl (wl_skip hl rfl ⟨_, _, rfl, rfl, rfl⟩ ?_)
    clear hl a; intro a hl
    refine wl (wl_skip hl rfl ⟨_, _, rfl, rfl, rfl⟩ ?_)
    clear hl a; intro a hl
    refine wl (wl_skip hl rfl ⟨_, _, rfl, rfl, rfl⟩ ?_)
    clear hl a; intro a hl
    refine wl (wl_skip hl rfl ⟨_, _, rfl, rfl, rfl⟩ ?_)
    clear hl a; intro a hl
    refine wl (wl_skip hl rfl ⟨_, _, rfl, rfl, rfl⟩ ?_)
    clear hl a; intro a hl
    refine wl (wl_val hl rfl trivial (r_pickF hl rfl rfl) ?_)
    clear hl a; intro a hl
    refine w_nil ?_
    have hl2 := hl.add (t := 0) (hl.add (t := 14) (hl.nil) rfl) rfl; clear hl; have hl := hl2; clear hl2
    refine then_normal ?_
    refine c_condF hl rfl ?_
    obtain ⟨q1, rfl⟩ : ∃ z, z = q := ⟨_, rfl⟩
    obtain ⟨X1, rfl⟩ : ∃ z, z = X := ⟨_, rfl⟩
    have hq1 := hq
    have ht1 := ht
    have hs1 := St.refl N q1
    refine wp_skip ?_
    refine then_normal ?_
    refine c_region ?_
    refine wl (wl_val hl rfl trivial (r_move hl rfl) ?_)
    clear hl a; intro a hl
    refine wl (w_call hl hh rfl trivial rfl cal35 rfl (blankLines_spec b sv N Sc hS q1 X1 hq1 ht1) (by repeat (first | exact keeps_nil | apply keeps_cons (by repeat (first | exact find_head | apply find_tail)) (by first  | rfl) | exact keeps_self | apply keeps_mv)) trivial ?_)
    clear hl hh a w; intro vc Fc a w hR hl hh
    obtain ⟨rfl, q2, X2, rfl, hq2, ht2, hs2, hQ2⟩ := hR
    try simp only [List.cons_append, List.nil_append] at hh
    (try replace hh := has_tail1 hh); (try simp only [List.cons_append, List.nil_append, List.append_nil] at hh); have htp2 := hq2.tpos; have hkd2 := hq2.kind; have hNle := hq2.Nle
    refine w_nil ?_
    have hl2 := hl.nil; clear hl; have hl := hl2; clear hl2
    refine f_end0 (F' := (b, C (q2.cells sv) 93) :: X2) hl hh rfl (by repeat (first | exact keeps_nil | apply keeps_cons (by repeat (first | exact find_head | apply find_tail)) (by first  | rfl) | exact keeps_self | apply keeps_mv)) ?_
    exact ⟨rfl, q2, X2, rfl, hq2, ht2, hs1.trans hs2, trivial⟩

/-- what the check of a prefix says -/
def gpF (x l : Int) : Bool := decide (l ≤ 8) && decide (bitsOf .and .u16 (IntKind.u16.wrap (x * 2 ^ (min l.toNat IntKind.u16.bits))) 255 = 0)

set_option maxHeartbeats 1000000 in
theorem goodPrefix_spec (x l : Int) (h1 : 0 ≤ x) (h2 : x ≤ 255) (h3 : 0 ≤ l) (h4 : l ≤ 255) : Sp Try.prog 48 #[.agg ⟨[.int .u8 x, .int .u8 l]⟩] [] (fun v F' => v = .bool (gpF x l) ∧ F' = []) := by
  refine f_enter (args := [.agg ⟨[.int .u8 x, .int .u8 l]⟩]) Try.func48 rfl Try.ntmps48 rfl ?_
  intro w0 w a hpre hl hh
  simp only [slotsFrom, Nat.reduceAdd] at hl
  refine c_seq ?_
  refine c_region ?_
  refine wl (w_box hl hh rfl trivial rfl rfl ?_)
  clear hl hh a w; intro k1 a w hl hh
  refine wl (wl_val hl rfl trivial (r_assign hl rfl) ?_)
  clear hl a; intro a hl
  refine w_nil ?_
  have hl2 := hl.add (t := 1) (hl.nil) rfl; clear hl; have hl := hl2; clear hl2
  refine then_normal ?_
  refine c_seq ?_
  refine c_region ?_
  refine wl (wl_val hl rfl trivial (r_field hl rfl fld51_1) ?_)
  clear hl a; intro a hl
  refine wl (w_load hl hh rfl trivial one5 rfl (by repeat (first | exact find_head | apply find_tail)) (by first | rfl) ?_)
  clear hl a; intro a hl
  refine wl (wl_val hl rfl trivial (r_leq hl rfl rfl) ?_)
  clear hl a; intro a hl
  refine wl (wl_val hl rfl trivial (r_move hl rfl) ?_)
  clear hl a; intro a hl
  refine sl_split (t := 6) hl rfl ?_ ?_
  · intro hg1; clear hl; intro hl
    try simp only [decide_eq_true_eq, decide_eq_false_iff_not, Bool.not_eq_true', Bool.not_eq_false', Bool.not_eq_true, Bool.not_eq_false, Bool.and_eq_true, Bool.or_eq_true, Bool.and_eq_false_iff, Bool.or_eq_false_iff, Bool.not_not, ne_eq, Int.not_lt, Int.not_le, Decidable.not_not, beq_iff_eq, bne_iff_ne] at hg1
    refine wl (wl_val hl rfl ⟨_, _, rfl, rfl, rfl⟩ (r_field hl rfl fld51_0) ?_)
    clear hl a; intro a hl
    refine wl (w_load hl hh rfl ⟨_, _, rfl, rfl, rfl⟩ one5 rfl (by repeat (first | exact find_head | apply find_tail)) (by first | rfl) ?_)
    clear hl a; intro a hl
    first | refine wl (wl_val hl rfl ⟨_, _, rfl, rfl, rfl⟩ (r_conv hl rfl Try.underlying5 Try.underlying27 (by simp only [Fits]; omega)) ?_) | refine wl (wl_val hl rfl ⟨_, _, rfl, rfl, rfl⟩ (r_convW hl rfl Try.underlying5 Try.underlying27) ?_)
    clear hl a; intro a hl
    refine wl (wl_val hl rfl ⟨_, _, rfl, rfl, rfl⟩ (r_field hl rfl fld51_1) ?_)
    clear hl a; intro a hl
    refine wl (w_load hl hh rfl ⟨_, _, rfl, rfl, rfl⟩ one5 rfl (by repeat (first | exact find_head | apply find_tail)) (by first | rfl) ?_)
    clear hl a; intro a hl
    refine wl (wl_val hl rfl ⟨_, _, rfl, rfl, rfl⟩ (r_shl hl rfl rfl (by omega)) ?_)
    clear hl a; intro a hl
    refine wl (wl_val hl rfl ⟨_, _, rfl, rfl, rfl⟩ (r_and hl rfl rfl) ?_)
    clear hl a; intro a hl
    refine wl (wl_val hl rfl ⟨_, _, rfl, rfl, rfl⟩ (r_eql hl rfl rfl) ?_)
    clear hl a; intro a hl
    refine wl (wl_val hl rfl trivial (r_pickT hl rfl rfl) ?_)
    clear hl a; intro a hl
    refine wl (wl_val hl rfl trivial (r_assign hl rfl) ?_)
    clear hl a; intro a hl
    refine w_nil ?_
    have hl2 := hl.add (t := 2) (hl.nil) rfl; clear hl; have hl := hl2; clear hl2
    refine then_normal ?_
    refine wp_ret ?_
    refine f_ret1 (F' := []) hl hh rfl rfl (by repeat (first | exact keeps_nil | apply keeps_cons (by repeat (first | exact find_head | apply find_tail)) (by first  | rfl) | exact keeps_self | apply keeps_mv)) ?_
    exact ⟨by unfold gpF; first | rfl | (simp_all; done) | (simp_all; omega), rfl⟩
  · intro hg1; clear hl; intro hl
    try simp only [decide_eq_true_eq, decide_eq_false_iff_not, Bool.not_eq_true', Bool.not_eq_false', Bool.not_eq_true, Bool.not_eq_false, Bool.and_eq_true, Bool.or_eq_true, Bool.and_eq_false_iff, Bool.or_eq_false_iff, Bool.not_not, ne_eq, Int.not_lt, Int.not_le, Decidable.not_not, beq_iff_eq, bne_iff_ne] at hg1
    refine wl (wl_skip hl rfl ⟨_, _, rfl, rfl, rfl⟩ ?_)
    clear hl a; intro a hl
    refine wl (wl_skip hl rfl ⟨_, _, rfl, rfl, rfl⟩ ?_)
    clear hl a; intro a hl
    refine wl (wl_skip hl rfl ⟨_, _, rfl, rfl, rfl⟩ ?_)
    clear hl a; intro a hl
    refine wl (wl_skip hl rfl ⟨_, _, rfl, rfl, rfl⟩ ?_)
    clear hl a; intro a hl
    refine wl (wl_skip hl rfl ⟨_, _, rfl, rfl, rfl⟩ ?_)
    clear hl a; intro a hl
    refine wl (wl_skip hl rfl ⟨_, _, rfl, rfl, rfl⟩ ?_)
    clear hl a; intro a hl
    refine wl (wl_skip hl rfl ⟨_, _, rfl, rfl, rfl⟩ ?_)
    clear hl a; intro a hl
    refine wl (wl_skip hl rfl ⟨_, _, rfl, rfl, rfl⟩ ?_)
    clear hl a; intro a hl
    refine wl (wl_val hl rfl trivial (r_pickF hl rfl rfl) ?_)
    clear hl a; intro a hl
    refine wl (wl_val hl rfl trivial (r_assign hl rfl) ?_)
    clear hl a; intro a hl
    refine w_nil ?_
    have hl2 := hl.add (t := 2) (hl.nil) rfl; clear hl; have hl := hl2; clear hl2
    refine then_normal ?_
    refine wp_ret ?_
    refine f_ret1 (F' := []) hl hh rfl rfl (by repeat (first | exact keeps_nil | apply keeps_cons (by repeat (first | exact find_head | apply find_tail)) (by first  | rfl) | exact keeps_self | apply keeps_mv)) ?_
    exact ⟨by unfold gpF; first | rfl | (simp_all; done) | (simp_all; omega), rfl⟩

set_option maxHeartbeats 1000000 in
theorem device_spec (b : Nat) (sv : Value) (N : Nat) (Sc : List (Nat × Obj)) (hS : Src sv N Sc) (q : PS) (X : List (Nat × Obj)) (hq : PW N Sc q X) (ht : Tok N q)  : Sp Try.prog 56 #[.pointer (some ⟨b, 0, none⟩)] ((b, C (q.cells sv) 93) :: X) (fun v F' => (∃ m : Int, v = .int .u8 m ∧ 0 ≤ m ∧ m ≤ 15) ∧ PR b sv N Sc q (fun q' => True) F') := by
  refine f_enter (args := [.pointer (some ⟨b, 0, none⟩)]) Try.func56 rfl Try.ntmps56 rfl ?_
  intro w0 w a hpre hl hh
  have htp := hq.tpos; have hNle := hq.Nle
  simp only [slotsFrom, Nat.reduceAdd] at hl
  refine c_seq ?_
  refine c_region ?_
  refine wl (wl_val hl rfl trivial (r_assign hl rfl) ?_)
  clear hl a; intro a hl
  refine w_nil ?_
  have hl2 := hl.add (t := 0) (hl.nil) rfl; clear hl; have hl := hl2; clear hl2
  refine then_normal ?_
  refine c_seq ?_
  refine c_region ?_
  refine wl (wl_val hl rfl trivial (r_move hl rfl) ?_)
  clear hl a; intro a hl
  refine wl (wl_val hl rfl trivial (r_nilCheck hl rfl) ?_)
  clear hl a; intro a hl
  refine wl (wl_val hl rfl trivial (r_field hl rfl fld93_1) ?_)
  clear hl a; intro a hl
  refine wl (wl_val hl rfl trivial (r_field hl rfl fld91_1) ?_)
  clear hl a; intro a hl
  refine wl (w_load hl hh rfl trivial one3 rfl (by repeat (first | exact find_head | apply find_tail)) (by first | rfl) ?_)
  clear hl a; intro a hl
  refine wl (wl_val hl rfl trivial (r_assign hl rfl) ?_)
  clear hl a; intro a hl
  refine w_nil ?_
  have hl2 := hl.add (t := 0) (hl.add (t := 3) (hl.nil) rfl) rfl; clear hl; have hl := hl2; clear hl2
  refine then_normal ?_
  refine c_seq ?_
  refine c_region ?_
  refine wl (wl_val hl rfl trivial (r_move hl rfl) ?_)
  clear hl a; intro a hl
  refine wl (w_call hl hh rfl trivial rfl cal55 rfl (word_spec b sv N Sc hS q X hq ht) (by repeat (first | exact keeps_nil | apply keeps_cons (by repeat (first | exact find_head | apply find_tail)) (by first  | rfl) | exact keeps_self | apply keeps_mv)) trivial ?_)
  clear hl hh a w; intro vc Fc a w hR hl hh
  obtain ⟨⟨t1, rfl, hz1⟩, q1, X1, rfl, hq1, ht1, hs1, hQ1⟩ := hR
  try simp only [List.cons_append, List.nil_append] at hh
  (try replace hh := has_tail1 hh); (try simp only [List.cons_append, List.nil_append, List.append_nil] at hh); have htp1 := hq1.tpos; have hkd1 := hq1.kind; have hNle := hq1.Nle
  refine wl (wl_val hl rfl trivial (r_assign hl rfl) ?_)
  clear hl a; intro a hl
  refine w_nil ?_
  have hl2 := hl.add (t := 0) (hl.add (t := 3) (hl.add (t := 4) (hl.nil) rfl) rfl) rfl; clear hl; have hl := hl2; clear hl2
  refine then_normal ?_
  refine c_seq ?_
  refine c_seq ?_
  refine c_region ?_
  refine wl (wl_val hl rfl trivial (r_move hl rfl) ?_)
  clear hl a; intro a hl
  refine wl (wl_val hl rfl trivial (r_nilCheck hl rfl) ?_)
  clear hl a; intro a hl
  refine wl (wl_val hl rfl trivial (r_field hl rfl fld93_2) ?_)
  clear hl a; intro a hl
  refine wl (w_load hl hh rfl trivial one77 rfl (by repeat (first | exact find_head | apply find_tail)) (by first | rfl) ?_)
  clear hl a; intro a hl
  refine wl (wl_val hl rfl trivial (r_neq_pointer hl rfl rfl ptr77) ?_)
  clear hl a; intro a hl
  refine w_nil ?_
  have hl2 := hl.add (t := 0) (hl.add (t := 3) (hl.add (t := 4) (hl.add (t := 19) (hl.nil) rfl) rfl) rfl) rfl; clear hl; have hl := hl2; clear hl2
  refine then_normal ?_
  refine c_cond hl rfl ?_ ?_
  · intro hc0
    try simp only [decide_eq_true_eq, decide_eq_false_iff_not, Bool.not_eq_true', Bool.not_eq_false', Bool.not_eq_true, Bool.not_eq_false, Bool.and_eq_true, Bool.or_eq_true, Bool.and_eq_false_iff, Bool.or_eq_false_iff, Bool.not_not, ne_eq, Int.not_lt, Int.not_le, Decidable.not_not, beq_iff_eq, bne_iff_ne, Option.isNone_iff_eq_none, Option.isNone_eq_false_iff, Option.isSome_iff_ne_none] at hc0
    refine c_seq ?_
    refine c_region ?_
    refine wl (wl_val hl rfl trivial (r_assign hl rfl) ?_)
    clear hl a; intro a hl
    refine w_nil ?_
    have hl2 := hl.add (t := 2) (hl.nil) rfl; clear hl; have hl := hl2; clear hl2
    refine then_normal ?_
    refine wp_ret ?_
    refine then_ret ?_
    refine f_ret1 (F' := (b, C (q1.cells sv) 93) :: X1) hl hh rfl rfl (by repeat (first | exact keeps_nil | apply keeps_cons (by repeat (first | exact find_head | apply find_tail)) (by first  | rfl) | exact keeps_self | apply keeps_mv)) ?_
    exact ⟨⟨_, rfl, by omega, by omega⟩, q1, X1, rfl, hq1, ht1, hs1, trivial⟩
  · intro hc0
    try simp only [decide_eq_true_eq, decide_eq_false_iff_not, Bool.not_eq_true', Bool.not_eq_false', Bool.not_eq_true, Bool.not_eq_false, Bool.and_eq_true, Bool.or_eq_true, Bool.and_eq_false_iff, Bool.or_eq_false_iff, Bool.not_not, ne_eq, Int.not_lt, Int.not_le, Decidable.not_not, beq_iff_eq, bne_iff_ne, Option.isNone_iff_eq_none, Option.isNone_eq_false_iff, Option.isSome_iff_ne_none] at hc0
    refine wp_skip ?_
    refine then_normal ?_
    refine c_seq ?_
    refine c_seq ?_
    refine c_region ?_
    refine wl (wl_val hl rfl trivial (r_move hl rfl) ?_)
    clear hl a; intro a hl
    refine wl (wl_val hl rfl trivial (r_lenStr hl rfl Try.underlying9) ?_)
    clear hl a; intro a hl
    refine wl (wl_val hl rfl trivial (r_lss hl rfl rfl) ?_)
    clear hl a; intro a hl
    refine wl (wl_val hl rfl trivial (r_move hl rfl) ?_)
    clear hl a; intro a hl
    refine sl_split (t := 23) hl rfl ?_ ?_
    · intro hg1; clear hl; intro hl
      try simp only [decide_eq_true_eq, decide_eq_false_iff_not, Bool.not_eq_true', Bool.not_eq_false', Bool.not_eq_true, Bool.not_eq_false, Bool.and_eq_true, Bool.or_eq_true, Bool.and_eq_false_iff, Bool.or_eq_false_iff, Bool.not_not, ne_eq, Int.not_lt, Int.not_le, Decidable.not_not, beq_iff_eq, bne_iff_ne, Option.isNone_iff_eq_none, Option.isNone_eq_false_iff, Option.isSome_iff_ne_none] at hg1
      refine wl (wl_skip hl rfl ⟨_, _, rfl, rfl, rfl⟩ ?_)
      clear hl a; intro a hl
      refine wl (wl_skip hl rfl ⟨_, _, rfl, rfl, rfl⟩ ?_)
      clear hl a; intro a hl
      refine wl (wl_skip hl rfl ⟨_, _, rfl, rfl, rfl⟩ ?_)
      clear hl a; intro a hl
      refine wl (wl_val hl rfl trivial (r_pickT hl rfl rfl) ?_)
      clear hl a; intro a hl
      refine w_nil ?_
      have hl2 := hl.add (t := 0) (hl.add (t := 3) (hl.add (t := 4) (hl.add (t := 27) (hl.nil) rfl) rfl) rfl) rfl; clear hl; have hl := hl2; clear hl2
      refine then_normal ?_
      refine c_condT hl rfl ?_
      refine c_seq ?_
      refine c_region ?_
      refine wl (wl_val hl rfl trivial (r_move hl rfl) ?_)
      clear hl a; intro a hl
      refine wl (wl_val hl rfl trivial (r_move hl rfl) ?_)
      clear hl a; intro a hl
      refine wl (w_call hl hh rfl trivial rfl cal39 rfl (fail_spec b sv N Sc hS q1 X1 hq1 ht1 _ _ (by omega) (by omega) (fun he => ⟨htp.1, .inr ⟨by omega, ht.lt (hs1.err he) (by have := hQ1.2 he; omega)⟩⟩)) (by repeat (first | exact keeps_nil | apply keeps_cons (by repeat (first | exact find_head | apply find_tail)) (by first  | rfl) | exact keeps_self | apply keeps_mv)) trivial ?_)
      clear hl hh a w; intro vc Fc a w hR hl hh
      obtain ⟨rfl, q2, X2, rfl, hq2, ht2, hs2, hQ2⟩ := hR
      try simp only [List.cons_append, List.nil_append] at hh
      (try replace hh := has_tail1 hh); (try simp only [List.cons_append, List.nil_append, List.append_nil] at hh); have htp2 := hq2.tpos; have hkd2 := hq2.kind; have hNle := hq2.Nle
      refine w_nil ?_
      have hl2 := hl.nil; clear hl; have hl := hl2; clear hl2
      refine then_normal ?_
      refine c_seq ?_
      refine c_region ?_
      refine wl (wl_val hl rfl trivial (r_assign hl rfl) ?_)
      clear hl a; intro a hl
      refine w_nil ?_
      have hl2 := hl.add (t := 2) (hl.nil) rfl; clear hl; have hl := hl2; clear hl2
      refine then_normal ?_
      refine wp_ret ?_
      refine then_ret ?_
      refine f_ret1 (F' := (b, C (q2.cells sv) 93) :: X2) hl hh rfl rfl (by repeat (first | exact keeps_nil | apply keeps_cons (by repeat (first | exact find_head | apply find_tail)) (by first  | rfl) | exact keeps_self | apply keeps_mv)) ?_
      exact ⟨⟨_, rfl, by omega, by omega⟩, q2, X2, rfl, hq2, ht2, hs1.trans hs2, trivial⟩
    · intro hg1; clear hl; intro hl
      try simp only [decide_eq_true_eq, decide_eq_false_iff_not, Bool.not_eq_true', Bool.not_eq_false', Bool.not_eq_true, Bool.not_eq_false, Bool.and_eq_true, Bool.or_eq_true, Bool.and_eq_false_iff, Bool.or_eq_false_iff, Bool.not_not, ne_eq, Int.not_lt, Int.not_le, Decidable.not_not, beq_iff_eq, bne_iff_ne, Option.isNone_iff_eq_none, Option.isNone_eq_false_iff, Option.isSome_iff_ne_none] at hg1
      refine wl (wl_val hl rfl ⟨_, _, rfl, rfl, rfl⟩ (r_move hl rfl) ?_)
      clear hl a; intro a hl
      refine wl (wl_val hl rfl ⟨_, _, rfl, rfl, rfl⟩ (r_indexStr hl rfl rfl Try.underlying9 (by omega) (by omega) (by first | (simp only [Int.reduceToNat]; rfl) | exact toNat_add1 _ | exact toNat_add2 _ _ | exact toNat_emod _ _ | exact Int.toNat_natCast _ | rfl)) ?_)
      clear hl a; intro a hl
      refine wl (wl_val hl rfl ⟨_, _, rfl, rfl, rfl⟩ (r_neq hl rfl rfl) ?_)
      clear hl a; intro a hl
      refine wl (wl_val hl rfl trivial (r_pickF hl rfl rfl) ?_)
      clear hl a; intro a hl
      refine w_nil ?_
      have hl2 := hl.add (t := 0) (hl.add (t := 3) (hl.add (t := 4) (hl.add (t := 27) (hl.nil) rfl) rfl) rfl) rfl; clear hl; have hl := hl2; clear hl2
      refine then_normal ?_
      refine c_cond hl rfl ?_ ?_
      · intro hc1
        try simp only [decide_eq_true_eq, decide_eq_false_iff_not, Bool.not_eq_true', Bool.not_eq_false', Bool.not_eq_true, Bool.not_eq_false, Bool.and_eq_true, Bool.or_eq_true, Bool.and_eq_false_iff, Bool.or_eq_false_iff, Bool.not_not, ne_eq, Int.not_lt, Int.not_le, Decidable.not_not, beq_iff_eq, bne_iff_ne, Option.isNone_iff_eq_none, Option.isNone_eq_false_iff, Option.isSome_iff_ne_none] at hc1
        refine c_seq ?_
        refine c_region ?_
        refine wl (wl_val hl rfl trivial (r_move hl rfl) ?_)
        clear hl a; intro a hl
        refine wl (wl_val hl rfl trivial (r_move hl rfl) ?_)
        clear hl a; intro a hl
        refine wl (w_call hl hh rfl trivial rfl cal39 rfl (fail_spec b sv N Sc hS q1 X1 hq1 ht1 _ _ (by omega) (by omega) (fun he => ⟨htp.1, .inr ⟨by omega, ht.lt (hs1.err he) (by have := hQ1.2 he; omega)⟩⟩)) (by repeat (first | exact keeps_nil | apply keeps_cons (by repeat (first | exact find_head | apply find_tail)) (by first  | rfl) | exact keeps_self | apply keeps_mv)) trivial ?_)
        clear hl hh a w; intro vc Fc a w hR hl hh
        obtain ⟨rfl, q2, X2, rfl, hq2, ht2, hs2, hQ2⟩ := hR
        try simp only [List.cons_append, List.nil_append] at hh
        (try replace hh := has_tail1 hh); (try simp only [List.cons_append, List.nil_append, List.append_nil] at hh); have htp2 := hq2.tpos; have hkd2 := hq2.kind; have hNle := hq2.Nle
        refine w_nil ?_
        have hl2 := hl.nil; clear hl; have hl := hl2; clear hl2
        refine then_normal ?_
        refine c_seq ?_
        refine c_region ?_
        refine wl (wl_val hl rfl trivial (r_assign hl rfl) ?_)
        clear hl a; intro a hl
        refine w_nil ?_
        have hl2 := hl.add (t := 2) (hl.nil) rfl; clear hl; have hl := hl2; clear hl2
        refine then_normal ?_
        refine wp_ret ?_
        refine then_ret ?_
        refine f_ret1 (F' := (b, C (q2.cells sv) 93) :: X2) hl hh rfl rfl (by repeat (first | exact keeps_nil | apply keeps_cons (by repeat (first | exact find_head | apply find_tail)) (by first  | rfl) | exact keeps_self | apply keeps_mv)) ?_
        exact ⟨⟨_, rfl, by omega, by omega⟩, q2, X2, rfl, hq2, ht2, hs1.trans hs2, trivial⟩
      · intro hc1
        try simp only [decide_eq_true_eq, decide_eq_false_iff_not, Bool.not_eq_true', Bool.not_eq_false', Bool.not_eq_true, Bool.not_eq_false, Bool.and_eq_true, Bool.or_eq_true, Bool.and_eq_false_iff, Bool.or_eq_false_iff, Bool.not_not, ne_eq, Int.not_lt, Int.not_le, Decidable.not_not, beq_iff_eq, bne_iff_ne, Option.isNone_iff_eq_none, Option.isNone_eq_false_iff, Option.isSome_iff_ne_none] at hc1
        refine wp_skip ?_
        refine then_normal ?_
        refine c_seq ?_
        refine c_seq ?_
        refine c_region ?_
        refine wl (wl_val hl rfl trivial (r_assign hl rfl) ?_)
        clear hl a; intro a hl
        refine w_nil ?_
        have hl2 := hl.add (t := 0) (hl.add (t := 3) (hl.add (t := 4) (hl.add (t := 5) (hl.nil) rfl) rfl) rfl) rfl; clear hl; have hl := hl2; clear hl2
        refine then_normal ?_
        refine wp_block ?_
        obtain ⟨KS0, hKS0, hk⟩ := (hl.add (t := 0) (hl.add (t := 3) (hl.add (t := 4) (hl.nil) rfl) rfl) rfl).name
        obtain ⟨HS0, hHS0, hh2⟩ := hh.name (keeps_nil)
        refine c_loop (α := Nat) (fun i => t1.size - i) (fun i a w => (1 ≤ i ∧ i ≤ t1.size) ∧ Sl 63 ([(5, .int .i64 i)] ++ KS0) a ∧ Has _ w0 ([] ++ HS0) w) 1 ⟨⟨by omega, by omega⟩, hl.addE (t := 5) (hk) rfl (by first | rfl), hh2⟩ ?_
        clear hk hh2 hl hh a w
        intro i a w hI
        obtain ⟨⟨hi1, hi2⟩, hl, hh⟩ := hI
        subst hKS0; subst hHS0
        simp only [List.cons_append, List.nil_append, List.append_nil] at hl hh
        refine c_seq ?_
        refine c_seq ?_
        refine c_region ?_
        refine wl (wl_val hl rfl trivial (r_move hl rfl) ?_)
        clear hl a; intro a hl
        refine wl (wl_val hl rfl trivial (r_move hl rfl) ?_)
        clear hl a; intro a hl
        refine wl (wl_val hl rfl trivial (r_lenStr hl rfl Try.underlying9) ?_)
        clear hl a; intro a hl
        refine wl (wl_val hl rfl trivial (r_lss hl rfl rfl) ?_)
        clear hl a; intro a hl
        refine w_nil ?_
        have hl2 := hl.add (t := 0) (hl.add (t := 3) (hl.add (t := 4) (hl.add (t := 5) (hl.add (t := 34) (hl.nil) rfl) rfl) rfl) rfl) rfl; clear hl; have hl := hl2; clear hl2
        refine then_normal ?_
        refine c_cond hl rfl ?_ ?_
        · intro hc2
          try simp only [decide_eq_true_eq, decide_eq_false_iff_not, Bool.not_eq_true', Bool.not_eq_false', Bool.not_eq_true, Bool.not_eq_false, Bool.and_eq_true, Bool.or_eq_true, Bool.and_eq_false_iff, Bool.or_eq_false_iff, Bool.not_not, ne_eq, Int.not_lt, Int.not_le, Decidable.not_not, beq_iff_eq, bne_iff_ne, Option.isNone_iff_eq_none, Option.isNone_eq_false_iff, Option.isSome_iff_ne_none] at hc2
          refine wp_skip ?_
          refine then_normal ?_
          refine c_seq ?_
          refine wp_block ?_
          refine c_seq ?_
          refine c_region ?_
          refine wl (wl_val hl rfl trivial (r_move hl rfl) ?_)
          clear hl a; intro a hl
          refine wl (wl_val hl rfl trivial (r_move hl rfl) ?_)
          clear hl a; intro a hl
          refine wl (wl_val hl rfl trivial (r_indexStr hl rfl rfl Try.underlying9 (by omega) (by omega) (by first | (simp only [Int.reduceToNat]; rfl) | exact toNat_add1 _ | exact toNat_add2 _ _ | exact toNat_emod _ _ | exact Int.toNat_natCast _ | rfl)) ?_)
          clear hl a; intro a hl
          refine wl (w_call hl hh rfl trivial rfl cal67 rfl (isDigit_spec _) (by repeat (first | exact keeps_nil | apply keeps_cons (by repeat (first | exact find_head | apply find_tail)) (by first  | rfl) | exact keeps_self | apply keeps_mv)) trivial ?_)
          clear hl hh a w; intro vc Fc a w hR hl hh
          obtain ⟨⟨td, rfl⟩, rfl⟩ := hR
          try simp only [List.cons_append, List.nil_append] at hh
          refine wl (wl_val hl rfl trivial (r_not hl rfl) ?_)
          clear hl a; intro a hl
          refine w_nil ?_
          have hl2 := hl.add (t := 0) (hl.add (t := 3) (hl.add (t := 4) (hl.add (t := 5) (hl.add (t := 41) (hl.nil) rfl) rfl) rfl) rfl) rfl; clear hl; have hl := hl2; clear hl2
          refine then_normal ?_
          refine c_cond hl rfl ?_ ?_
          · intro hc3
            try simp only [decide_eq_true_eq, decide_eq_false_iff_not, Bool.not_eq_true', Bool.not_eq_false', Bool.not_eq_true, Bool.not_eq_false, Bool.and_eq_true, Bool.or_eq_true, Bool.and_eq_false_iff, Bool.or_eq_false_iff, Bool.not_not, ne_eq, Int.not_lt, Int.not_le, Decidable.not_not, beq_iff_eq, bne_iff_ne, Option.isNone_iff_eq_none, Option.isNone_eq_false_iff, Option.isSome_iff_ne_none] at hc3
            refine c_seq ?_
            refine c_region ?_
            refine wl (wl_val hl rfl trivial (r_move hl rfl) ?_)
            clear hl a; intro a hl
            refine wl (wl_val hl rfl trivial (r_move hl rfl) ?_)
            clear hl a; intro a hl
            refine wl (w_call hl hh rfl trivial rfl cal39 rfl (fail_spec b sv N Sc hS q1 X1 hq1 ht1 _ _ (by omega) (by omega) (fun he => ⟨htp.1, .inr ⟨by omega, ht.lt (hs1.err he) (by have := hQ1.2 he; omega)⟩⟩)) (by repeat (first | exact keeps_nil | apply keeps_cons (by repeat (first | exact find_head | apply find_tail)) (by first  | rfl) | exact keeps_self | apply keeps_mv)) trivial ?_)
            clear hl hh a w; intro vc Fc a w hR hl hh
            obtain ⟨rfl, q2, X2, rfl, hq2, ht2, hs2, hQ2⟩ := hR
            try simp only [List.cons_append, List.nil_append] at hh
            (try replace hh := has_tail1 hh); (try simp only [List.cons_append, List.nil_append, List.append_nil] at hh); have htp2 := hq2.tpos; have hkd2 := hq2.kind; have hNle := hq2.Nle
            refine w_nil ?_
            have hl2 := hl.nil; clear hl; have hl := hl2; clear hl2
            refine then_normal ?_
            refine c_seq ?_
            refine c_region ?_
            refine wl (wl_val hl rfl trivial (r_assign hl rfl) ?_)
            clear hl a; intro a hl
            refine w_nil ?_
            have hl2 := hl.add (t := 2) (hl.nil) rfl; clear hl; have hl := hl2; clear hl2
            refine then_normal ?_
            refine wp_ret ?_
            refine blk_ret ?_
            refine then_ret ?_
            refine then_ret ?_
            refine blk_ret ?_
            refine then_ret ?_
            refine f_ret1 (F' := (b, C (q2.cells sv) 93) :: X2) hl hh rfl rfl (by repeat (first | exact keeps_nil | apply keeps_cons (by repeat (first | exact find_head | apply find_tail)) (by first  | rfl) | exact keeps_self | apply keeps_mv)) ?_
            exact ⟨⟨_, rfl, by omega, by omega⟩, q2, X2, rfl, hq2, ht2, hs1.trans hs2, trivial⟩
          · intro hc3
            try simp only [decide_eq_true_eq, decide_eq_false_iff_not, Bool.not_eq_true', Bool.not_eq_false', Bool.not_eq_true, Bool.not_eq_false, Bool.and_eq_true, Bool.or_eq_true, Bool.and_eq_false_iff, Bool.or_eq_false_iff, Bool.not_not, ne_eq, Int.not_lt, Int.not_le, Decidable.not_not, beq_iff_eq, bne_iff_ne, Option.isNone_iff_eq_none, Option.isNone_eq_false_iff, Option.isSome_iff_ne_none] at hc3
            refine wp_skip ?_
            refine blk_normal ?_
            refine then_normal ?_
            refine c_region ?_
            refine wl (wl_val hl rfl trivial (r_move hl rfl) ?_)
            clear hl a; intro a hl
            first | refine wl (wl_val hl rfl trivial (r_add hl rfl rfl (by simp only [Fits]; omega)) ?_) | refine wl (wl_val hl rfl trivial (r_addW hl rfl rfl) ?_)
            clear hl a; intro a hl
            refine wl (wl_val hl rfl trivial (r_assign hl rfl) ?_)
            clear hl a; intro a hl
            refine w_nil ?_
            have hl2 := hl.add (t := 0) (hl.add (t := 3) (hl.add (t := 4) (hl.add (t := 5) (hl.nil) rfl) rfl) rfl) rfl; clear hl; have hl := hl2; clear hl2
            refine then_normal ?_
            refine ⟨i + 1, (by omega), ⟨by omega, by omega⟩, hl.addE (t := 5) (hl.addE (t := 0) (hl.addE (t := 3) (hl.addE (t := 4) (hl.nil) rfl (by first | rfl | rfl)) rfl (by first | rfl | rfl)) rfl (by first | rfl | rfl)) rfl (by first | rfl | rfl), hh.keep (by repeat (first | exact keeps_nil | apply keeps_cons (by repeat (first | exact find_head | apply find_tail)) (by first  | rfl) | exact keeps_self | apply keeps_mv))⟩
        · intro hc2
          try simp only [decide_eq_true_eq, decide_eq_false_iff_not, Bool.not_eq_true', Bool.not_eq_false', Bool.not_eq_true, Bool.not_eq_false, Bool.and_eq_true, Bool.or_eq_true, Bool.and_eq_false_iff, Bool.or_eq_false_iff, Bool.not_not, ne_eq, Int.not_lt, Int.not_le, Decidable.not_not, beq_iff_eq, bne_iff_ne, Option.isNone_iff_eq_none, Option.isNone_eq_false_iff, Option.isSome_iff_ne_none] at hc2
          refine wp_exit ?_
          refine then_exit ?_
          refine then_exit ?_
          refine blk_exit ?_
          refine then_normal ?_
          refine c_seq ?_
          refine c_region ?_
          refine wl (wl_val hl rfl trivial (r_move hl rfl) ?_)
          clear hl a; intro a hl
          refine wl (wl_val hl rfl trivial (r_sliceStr10 hl rfl rfl Try.underlying9 (by omega) (by omega) (by first | (simp only [Int.reduceToNat]; rfl) | exact toNat_add1 _ | exact toNat_add2 _ _ | exact toNat_emod _ _ | exact Int.toNat_natCast _ | rfl)) ?_)
          clear hl a; intro a hl
          refine wl (w_stringToBytes hl hh rfl trivial Try.underlying9 Try.underlying41 Try.underlying5 rfl ?_)
          clear hl hh a w; intro k48 cp48 l48 fr48 a w hbs48 hl hh
          obtain ⟨bs48, hb48⟩ := bytes_fn hbs48
          refine wl (w_call hl hh rfl trivial rfl cal68 rfl (decimal_spec k48 0 _ cp48 l48 5 fr48 bs48 (by rw [ByteArray.size_extract]; omega) hb48) (by repeat (first | exact keeps_nil | apply keeps_cons (by repeat (first | exact find_head | apply find_tail)) (by first  | rfl) | exact keeps_self | apply keeps_mv)) trivial ?_)
          clear hl hh a w; intro vc Fc a w hR hl hh
          obtain ⟨⟨m, ok, rfl, hm1, hm2⟩, rfl⟩ := hR
          try simp only [List.cons_append, List.nil_append] at hh
          refine wl (wl_val hl rfl trivial (r_move hl rfl) ?_)
          clear hl a; intro a hl
          refine wl (wl_val hl rfl trivial (r_extract hl rfl (by simp only [List.getElem?_toArray, List.getElem?_cons_zero, List.getElem?_cons_succ]; rfl)) ?_)
          clear hl a; intro a hl
          refine wl (wl_val hl rfl trivial (r_extract hl rfl (by simp only [List.getElem?_toArray, List.getElem?_cons_zero, List.getElem?_cons_succ]; rfl)) ?_)
          clear hl a; intro a hl
          refine wl (wl_val hl rfl trivial (r_assign hl rfl) ?_)
          clear hl a; intro a hl
          refine wl (wl_val hl rfl trivial (r_assign hl rfl) ?_)
          clear hl a; intro a hl
          refine w_nil ?_
          have hl2 := hl.add (t := 0) (hl.add (t := 3) (hl.add (t := 6) (hl.add (t := 7) (hl.nil) rfl) rfl) rfl) rfl; clear hl; have hl := hl2; clear hl2
          refine then_normal ?_
          refine c_seq ?_
          refine c_seq ?_
          refine c_region ?_
          refine wl (wl_val hl rfl trivial (r_move hl rfl) ?_)
          clear hl a; intro a hl
          refine wl (wl_val hl rfl trivial (r_not hl rfl) ?_)
          clear hl a; intro a hl
          refine wl (wl_val hl rfl trivial (r_move hl rfl) ?_)
          clear hl a; intro a hl
          refine sl_split (t := 54) hl rfl ?_ ?_
          · intro hg2; clear hl; intro hl
            try simp only [decide_eq_true_eq, decide_eq_false_iff_not, Bool.not_eq_true', Bool.not_eq_false', Bool.not_eq_true, Bool.not_eq_false, Bool.and_eq_true, Bool.or_eq_true, Bool.and_eq_false_iff, Bool.or_eq_false_iff, Bool.not_not, ne_eq, Int.not_lt, Int.not_le, Decidable.not_not, beq_iff_eq, bne_iff_ne, Option.isNone_iff_eq_none, Option.isNone_eq_false_iff, Option.isSome_iff_ne_none] at hg2
            refine wl (wl_skip hl rfl ⟨_, _, rfl, rfl, rfl⟩ ?_)
            clear hl a; intro a hl
            refine wl (wl_skip hl rfl ⟨_, _, rfl, rfl, rfl⟩ ?_)
            clear hl a; intro a hl
            refine wl (wl_val hl rfl trivial (r_pickT hl rfl rfl) ?_)
            clear hl a; intro a hl
            refine w_nil ?_
            have hl2 := hl.add (t := 0) (hl.add (t := 3) (hl.add (t := 6) (hl.add (t := 57) (hl.nil) rfl) rfl) rfl) rfl; clear hl; have hl := hl2; clear hl2
            refine then_normal ?_
            refine c_condT hl rfl ?_
            refine c_seq ?_
            refine c_region ?_
            refine wl (wl_val hl rfl trivial (r_move hl rfl) ?_)
            clear hl a; intro a hl
            refine wl (wl_val hl rfl trivial (r_move hl rfl) ?_)
            clear hl a; intro a hl
            refine wl (w_call hl hh rfl trivial rfl cal39 rfl (fail_spec b sv N Sc hS q1 X1 hq1 ht1 _ _ (by omega) (by omega) (fun he => ⟨htp.1, .inr ⟨by omega, ht.lt (hs1.err he) (by have := hQ1.2 he; omega)⟩⟩)) (by repeat (first | exact keeps_nil | apply keeps_cons (by repeat (first | exact find_head | apply find_tail)) (by first  | rfl) | exact keeps_self | apply keeps_mv)) trivial ?_)
            clear hl hh a w; intro vc Fc a w hR hl hh
            obtain ⟨rfl, q2, X2, rfl, hq2, ht2, hs2, hQ2⟩ := hR
            try simp only [List.cons_append, List.nil_append] at hh
            (try replace hh := has_tail1 hh); (try simp only [List.cons_append, List.nil_append, List.append_nil] at hh); have htp2 := hq2.tpos; have hkd2 := hq2.kind; have hNle := hq2.Nle
            refine w_nil ?_
            have hl2 := hl.nil; clear hl; have hl := hl2; clear hl2
            refine then_normal ?_
            refine c_seq ?_
            refine c_region ?_
            refine wl (wl_val hl rfl trivial (r_assign hl rfl) ?_)
            clear hl a; intro a hl
            refine w_nil ?_
            have hl2 := hl.add (t := 2) (hl.nil) rfl; clear hl; have hl := hl2; clear hl2
            refine then_normal ?_
            refine wp_ret ?_
            refine then_ret ?_
            refine f_ret1 (F' := (b, C (q2.cells sv) 93) :: X2) hl hh rfl rfl (by repeat (first | exact keeps_nil | apply keeps_cons (by repeat (first | exact find_head | apply find_tail)) (by first  | rfl) | exact keeps_self | apply keeps_mv)) ?_
            exact ⟨⟨_, rfl, by omega, by omega⟩, q2, X2, rfl, hq2, ht2, hs1.trans hs2, trivial⟩
          · intro hg2; clear hl; intro hl
            try simp only [decide_eq_true_eq, decide_eq_false_iff_not, Bool.not_eq_true', Bool.not_eq_false', Bool.not_eq_true, Bool.not_eq_false, Bool.and_eq_true, Bool.or_eq_true, Bool.and_eq_false_iff, Bool.or_eq_false_iff, Bool.not_not, ne_eq, Int.not_lt, Int.not_le, Decidable.not_not, beq_iff_eq, bne_iff_ne, Option.isNone_iff_eq_none, Option.isNone_eq_false_iff, Option.isSome_iff_ne_none] at hg2
            refine wl (wl_val hl rfl ⟨_, _, rfl, rfl, rfl⟩ (r_move hl rfl) ?_)
            clear hl a; intro a hl
            refine wl (wl_val hl rfl ⟨_, _, rfl, rfl, rfl⟩ (r_geq hl rfl rfl) ?_)
            clear hl a; intro a hl
            refine wl (wl_val hl rfl trivial (r_pickF hl rfl rfl) ?_)
            clear hl a; intro a hl
            refine w_nil ?_
            have hl2 := hl.add (t := 0) (hl.add (t := 3) (hl.add (t := 6) (hl.add (t := 57) (hl.nil) rfl) rfl) rfl) rfl; clear hl; have hl := hl2; clear hl2
            refine then_normal ?_
            refine c_cond hl rfl ?_ ?_
            · intro hc4
              try simp only [decide_eq_true_eq, decide_eq_false_iff_not, Bool.not_eq_true', Bool.not_eq_false', Bool.not_eq_true, Bool.not_eq_false, Bool.and_eq_true, Bool.or_eq_true, Bool.and_eq_false_iff, Bool.or_eq_false_iff, Bool.not_not, ne_eq, Int.not_lt, Int.not_le, Decidable.not_not, beq_iff_eq, bne_iff_ne, Option.isNone_iff_eq_none, Option.isNone_eq_false_iff, Option.isSome_iff_ne_none] at hc4
              refine c_seq ?_
              refine c_region ?_
              refine wl (wl_val hl rfl trivial (r_move hl rfl) ?_)
              clear hl a; intro a hl
              refine wl (wl_val hl rfl trivial (r_move hl rfl) ?_)
              clear hl a; intro a hl
              refine wl (w_call hl hh rfl trivial rfl cal39 rfl (fail_spec b sv N Sc hS q1 X1 hq1 ht1 _ _ (by omega) (by omega) (fun he => ⟨htp.1, .inr ⟨by omega, ht.lt (hs1.err he) (by have := hQ1.2 he; omega)⟩⟩)) (by repeat (first | exact keeps_nil | apply keeps_cons (by repeat (first | exact find_head | apply find_tail)) (by first  | rfl) | exact keeps_self | apply keeps_mv)) trivial ?_)
              clear hl hh a w; intro vc Fc a w hR hl hh
              obtain ⟨rfl, q2, X2, rfl, hq2, ht2, hs2, hQ2⟩ := hR
              try simp only [List.cons_append, List.nil_append] at hh
              (try replace hh := has_tail1 hh); (try simp only [List.cons_append, List.nil_append, List.append_nil] at hh); have htp2 := hq2.tpos; have hkd2 := hq2.kind; have hNle := hq2.Nle
              refine w_nil ?_
              have hl2 := hl.nil; clear hl; have hl := hl2; clear hl2
              refine then_normal ?_
              refine c_seq ?_
              refine c_region ?_
              refine wl (wl_val hl rfl trivial (r_assign hl rfl) ?_)
              clear hl a; intro a hl
              refine w_nil ?_
              have hl2 := hl.add (t := 2) (hl.nil) rfl; clear hl; have hl := hl2; clear hl2
              refine then_normal ?_
              refine wp_ret ?_
              refine then_ret ?_
              refine f_ret1 (F' := (b, C (q2.cells sv) 93) :: X2) hl hh rfl rfl (by repeat (first | exact keeps_nil | apply keeps_cons (by repeat (first | exact find_head | apply find_tail)) (by first  | rfl) | exact keeps_self | apply keeps_mv)) ?_
              exact ⟨⟨_, rfl, by omega, by omega⟩, q2, X2, rfl, hq2, ht2, hs1.trans hs2, trivial⟩
            · intro hc4
              try simp only [decide_eq_true_eq, decide_eq_false_iff_not, Bool.not_eq_true', Bool.not_eq_false', Bool.not_eq_true, Bool.not_eq_false, Bool.and_eq_true, Bool.or_eq_true, Bool.and_eq_false_iff, Bool.or_eq_false_iff, Bool.not_not, ne_eq, Int.not_lt, Int.not_le, Decidable.not_not, beq_iff_eq, bne_iff_ne, Option.isNone_iff_eq_none, Option.isNone_eq_false_iff, Option.isSome_iff_ne_none] at hc4
              refine wp_skip ?_
              refine then_normal ?_
              refine c_seq ?_
              refine c_region ?_
              refine wl (wl_val hl rfl trivial (r_move hl rfl) ?_)
              clear hl a; intro a hl
              first | refine wl (wl_val hl rfl trivial (r_conv hl rfl Try.underlying34 Try.underlying5 (by simp only [Fits]; omega)) ?_) | refine wl (wl_val hl rfl trivial (r_convW hl rfl Try.underlying34 Try.underlying5) ?_)
              clear hl a; intro a hl
              refine wl (wl_val hl rfl trivial (r_assign hl rfl) ?_)
              clear hl a; intro a hl
              refine w_nil ?_
              have hl2 := hl.add (t := 2) (hl.nil) rfl; clear hl; have hl := hl2; clear hl2
              refine then_normal ?_
              refine wp_ret ?_
              refine f_ret1 (F' := (b, C (q1.cells sv) 93) :: X1) hl hh rfl rfl (by repeat (first | exact keeps_nil | apply keeps_cons (by repeat (first | exact find_head | apply find_tail)) (by first  | rfl) | exact keeps_self | apply keeps_mv)) ?_
              exact ⟨⟨_, rfl, by omega, by omega⟩, q1, X1, rfl, hq1, ht1, hs1, trivial⟩

set_option maxHeartbeats 1000000 in
theorem prefix_spec (b : Nat) (sv : Value) (N : Nat) (Sc : List (Nat × Obj)) (hS : Src sv N Sc) (q : PS) (X : List (Nat × Obj)) (hq : PW N Sc q X) (ht : Tok N q)  : Sp Try.prog 57 #[.pointer (some ⟨b, 0, none⟩)] ((b, C (q.cells sv) 93) :: X) (fun v F' => (∃ x l : Int, v = .agg ⟨[.int .u8 x, .int .u8 l]⟩ ∧ 0 ≤ x ∧ x ≤ 255 ∧ 0 ≤ l ∧ l ≤ 8) ∧ PR b sv N Sc q (fun q' => True) F') := by
  refine f_enter (args := [.pointer (some ⟨b, 0, none⟩)]) Try.func57 rfl Try.ntmps57 rfl ?_
  intro w0 w a hpre hl hh
  have htp := hq.tpos; have hNle := hq.Nle
  simp only [slotsFrom, Nat.reduceAdd] at hl
  refine c_seq ?_
  refine c_region ?_
  refine wl (w_alloc hl hh rfl trivial zero51 rfl ?_)
  clear hl hh a w; intro k2 a w hl hh
  refine w_nil ?_
  have hl2 := hl.add (t := 0) (hl.add (t := 2) (hl.nil) rfl) rfl; clear hl; have hl := hl2; clear hl2
  refine then_normal ?_
  refine c_seq ?_
  refine c_region ?_
  refine wl (wl_val hl rfl trivial (r_move hl rfl) ?_)
  clear hl a; intro a hl
  refine wl (wl_val hl rfl trivial (r_nilCheck hl rfl) ?_)
  clear hl a; intro a hl
  refine wl (wl_val hl rfl trivial (r_field hl rfl fld93_1) ?_)
  clear hl a; intro a hl
  refine wl (wl_val hl rfl trivial (r_field hl rfl fld91_1) ?_)
  clear hl a; intro a hl
  refine wl (w_load hl hh rfl trivial one3 rfl (by repeat (first | exact find_head | apply find_tail)) (by first | rfl) ?_)
  clear hl a; intro a hl
  refine wl (wl_val hl rfl trivial (r_assign hl rfl) ?_)
  clear hl a; intro a hl
  refine w_nil ?_
  have hl2 := hl.add (t := 0) (hl.add (t := 2) (hl.add (t := 3) (hl.nil) rfl) rfl) rfl; clear hl; have hl := hl2; clear hl2
  refine then_normal ?_
  refine c_seq ?_
  refine c_region ?_
  refine wl (wl_val hl rfl trivial (r_move hl rfl) ?_)
  clear hl a; intro a hl
  refine wl (w_call hl hh rfl trivial rfl cal37 rfl (number_spec b sv N Sc hS q X hq ht 255 7 (by omega) (by omega) (by omega) (by omega)) (by repeat (first | exact keeps_nil | apply keeps_cons (by repeat (first | exact find_head | apply find_tail)) (by first  | rfl) | exact keeps_self | apply keeps_mv)) trivial ?_)
  clear hl hh a w; intro vc Fc a w hR hl hh
  obtain ⟨⟨m1, rfl, hm1, hm2⟩, q1, X1, rfl, hq1, ht1, hs1, hQ1⟩ := hR
  try simp only [List.cons_append, List.nil_append] at hh
  (try replace hh := has_tail1 hh); (try simp only [List.cons_append, List.nil_append, List.append_nil] at hh); have htp1 := hq1.tpos; have hkd1 := hq1.kind; have hNle := hq1.Nle
  refine wl (wl_val hl rfl trivial (r_assign hl rfl) ?_)
  clear hl a; intro a hl
  refine w_nil ?_
  have hl2 := hl.add (t := 0) (hl.add (t := 2) (hl.add (t := 3) (hl.add (t := 4) (hl.nil) rfl) rfl) rfl) rfl; clear hl; have hl := hl2; clear hl2
  refine then_normal ?_
  refine c_seq ?_
  refine c_seq ?_
  refine c_region ?_
  refine wl (wl_val hl rfl trivial (r_move hl rfl) ?_)
  clear hl a; intro a hl
  refine wl (wl_val hl rfl trivial (r_nilCheck hl rfl) ?_)
  clear hl a; intro a hl
  refine wl (wl_val hl rfl trivial (r_field hl rfl fld93_2) ?_)
  clear hl a; intro a hl
  refine wl (w_load hl hh rfl trivial one77 rfl (by repeat (first | exact find_head | apply find_tail)) (by first | rfl) ?_)
  clear hl a; intro a hl
  refine wl (wl_val hl rfl trivial (r_eql_pointer hl rfl rfl ptr77) ?_)
  clear hl a; intro a hl
  refine wl (wl_val hl rfl trivial (r_move hl rfl) ?_)
  clear hl a; intro a hl
  refine sl_split (t := 19) hl rfl ?_ ?_
  · intro hg1; clear hl; intro hl
    try simp only [decide_eq_true_eq, decide_eq_false_iff_not, Bool.not_eq_true', Bool.not_eq_false', Bool.not_eq_true, Bool.not_eq_false, Bool.and_eq_true, Bool.or_eq_true, Bool.and_eq_false_iff, Bool.or_eq_false_iff, Bool.not_not, ne_eq, Int.not_lt, Int.not_le, Decidable.not_not, beq_iff_eq, bne_iff_ne, Option.isNone_iff_eq_none, Option.isNone_eq_false_iff, Option.isSome_iff_ne_none] at hg1
    refine wl (wl_val hl rfl ⟨_, _, rfl, rfl, rfl⟩ (r_move hl rfl) ?_)
    clear hl a; intro a hl
    refine wl (wl_val hl rfl ⟨_, _, rfl, rfl, rfl⟩ (r_nilCheck hl rfl) ?_)
    clear hl a; intro a hl
    refine wl (wl_val hl rfl ⟨_, _, rfl, rfl, rfl⟩ (r_field hl rfl fld93_1) ?_)
    clear hl a; intro a hl
    refine wl (wl_val hl rfl ⟨_, _, rfl, rfl, rfl⟩ (r_field hl rfl fld91_0) ?_)
    clear hl a; intro a hl
    refine wl (w_load hl hh rfl ⟨_, _, rfl, rfl, rfl⟩ one89 rfl (by repeat (first | exact find_head | apply find_tail)) (by first | rfl) ?_)
    clear hl a; intro a hl
    refine wl (wl_val hl rfl ⟨_, _, rfl, rfl, rfl⟩ (r_neq hl rfl rfl) ?_)
    clear hl a; intro a hl
    refine wl (wl_val hl rfl trivial (r_pickT hl rfl rfl) ?_)
    clear hl a; intro a hl
    refine w_nil ?_
    have hl2 := hl.add (t := 0) (hl.add (t := 2) (hl.add (t := 3) (hl.add (t := 4) (hl.add (t := 26) (hl.nil) rfl) rfl) rfl) rfl) rfl; clear hl; have hl := hl2; clear hl2
    refine then_normal ?_
    refine c_cond hl rfl ?_ ?_
    · intro hc0
      try simp only [decide_eq_true_eq, decide_eq_false_iff_not, Bool.not_eq_true', Bool.not_eq_false', Bool.not_eq_true, Bool.not_eq_false, Bool.and_eq_true, Bool.or_eq_true, Bool.and_eq_false_iff, Bool.or_eq_false_iff, Bool.not_not, ne_eq, Int.not_lt, Int.not_le, Decidable.not_not, beq_iff_eq, bne_iff_ne, Option.isNone_iff_eq_none, Option.isNone_eq_false_iff, Option.isSome_iff_ne_none] at hc0
      refine c_region ?_
      refine wl (wl_val hl rfl trivial (r_move hl rfl) ?_)
      clear hl a; intro a hl
      refine wl (w_call hl hh rfl trivial rfl cal54 rfl (unexpected_spec b sv N Sc hS q1 X1 hq1 ht1 (by assumption)) (by repeat (first | exact keeps_nil | apply keeps_cons (by repeat (first | exact find_head | apply find_tail)) (by first  | rfl) | exact keeps_self | apply keeps_mv)) trivial ?_)
      clear hl hh a w; intro vc Fc a w hR hl hh
      obtain ⟨rfl, q2, X2, rfl, hq2, ht2, hs2, hQ2⟩ := hR
      try simp only [List.cons_append, List.nil_append] at hh
      (try replace hh := has_tail1 hh); (try simp only [List.cons_append, List.nil_append, List.append_nil] at hh); have htp2 := hq2.tpos; have hkd2 := hq2.kind; have hNle := hq2.Nle
      refine w_nil ?_
      have hl2 := hl.add (t := 0) (hl.add (t := 2) (hl.add (t := 3) (hl.add (t := 4) (hl.nil) rfl) rfl) rfl) rfl; clear hl; have hl := hl2; clear hl2
      refine then_normal ?_
      refine c_seq ?_
      refine c_region ?_
      refine wl (wl_val hl rfl trivial (r_move hl rfl) ?_)
      clear hl a; intro a hl
      refine wl (w_call hl hh rfl trivial rfl cal34 rfl (advance_spec b sv N Sc hS q2 X2 hq2) (by repeat (first | exact keeps_nil | apply keeps_cons (by repeat (first | exact find_head | apply find_tail)) (by first  | rfl) | exact keeps_self | apply keeps_mv)) trivial ?_)
      clear hl hh a w; intro vc Fc a w hR hl hh
      obtain ⟨rfl, q3, X3, rfl, hq3, ht3, hs3, hQ3⟩ := hR
      try simp only [List.cons_append, List.nil_append] at hh
      (try replace hh := has_tail1 hh); (try simp only [List.cons_append, List.nil_append, List.append_nil] at hh); have htp3 := hq3.tpos; have hkd3 := hq3.kind; have hNle := hq3.Nle
      refine w_nil ?_
      have hl2 := hl.add (t := 0) (hl.add (t := 2) (hl.add (t := 3) (hl.add (t := 4) (hl.nil) rfl) rfl) rfl) rfl; clear hl; have hl := hl2; clear hl2
      refine then_normal ?_
      refine c_seq ?_
      refine c_region ?_
      refine wl (wl_val hl rfl trivial (r_move hl rfl) ?_)
      clear hl a; intro a hl
      refine wl (w_call hl hh rfl trivial rfl cal37 rfl (number_spec b sv N Sc hS q3 X3 hq3 ht3 8 7 (by omega) (by omega) (by omega) (by omega)) (by repeat (first | exact keeps_nil | apply keeps_cons (by repeat (first | exact find_head | apply find_tail)) (by first  | rfl) | exact keeps_self | apply keeps_mv)) trivial ?_)
      clear hl hh a w; intro vc Fc a w hR hl hh
      obtain ⟨⟨m2, rfl, hm3, hm4⟩, q4, X4, rfl, hq4, ht4, hs4, hQ4⟩ := hR
      try simp only [List.cons_append, List.nil_append] at hh
      (try replace hh := has_tail1 hh); (try simp only [List.cons_append, List.nil_append, List.append_nil] at hh); have htp4 := hq4.tpos; have hkd4 := hq4.kind; have hNle := hq4.Nle
      refine wl (wl_val hl rfl trivial (r_assign hl rfl) ?_)
      clear hl a; intro a hl
      refine w_nil ?_
      have hl2 := hl.add (t := 0) (hl.add (t := 2) (hl.add (t := 3) (hl.add (t := 4) (hl.add (t := 5) (hl.nil) rfl) rfl) rfl) rfl) rfl; clear hl; have hl := hl2; clear hl2
      refine then_normal ?_
      refine c_seq ?_
      refine c_region ?_
      refine wl (wl_val hl rfl trivial (r_move hl rfl) ?_)
      clear hl a; intro a hl
      first | refine wl (wl_val hl rfl trivial (r_conv hl rfl Try.underlying34 Try.underlying5 (by simp only [Fits]; omega)) ?_) | refine wl (wl_val hl rfl trivial (r_convW hl rfl Try.underlying34 Try.underlying5) ?_)
      clear hl a; intro a hl
      refine wl (wl_val hl rfl trivial (r_move hl rfl) ?_)
      clear hl a; intro a hl
      first | refine wl (wl_val hl rfl trivial (r_conv hl rfl Try.underlying34 Try.underlying5 (by simp only [Fits]; omega)) ?_) | refine wl (wl_val hl rfl trivial (r_convW hl rfl Try.underlying34 Try.underlying5) ?_)
      clear hl a; intro a hl
      refine wl (wl_val hl rfl trivial (r_build hl rfl zero51 bld51 (by simp only [fillL, setL, List.getElem?_cons_zero, List.getElem?_cons_succ, Value.cells, List.take_zero, List.take_succ_cons, List.take_nil, List.drop_zero, List.drop_succ_cons, List.drop_nil, List.length_cons, List.length_nil, List.cons_append, List.nil_append, List.append_nil, Nat.zero_add, Nat.add_zero, Nat.reduceAdd, Nat.reduceBEq, Nat.reduceEqDiff, Nat.ble, BEq.rfl, Bool.and_true, Bool.and_self, cond_true, beq_self_eq_true]; rfl)) ?_)
      clear hl a; intro a hl
      refine wl (w_alloc hl hh rfl trivial zero51 rfl ?_)
      clear hl hh a w; intro k6 a w hl hh
      refine wl (w_storeA hl hh trivial agg51 rfl rfl (by repeat (first | exact find_head | apply find_tail)) (by first | rfl | (simp; done)) (by first | (simp; done) | (simp; omega) | (simp only [PS.cells, List.length_cons, List.length_nil]; omega)) (by first | rfl | (simp; done)) (by first | (simp only [PS.cells, setL, List.getElem?_cons_zero, List.getElem?_cons_succ, Value.cells, List.take_zero, List.take_succ_cons, List.take_nil, List.drop_zero, List.drop_succ_cons, List.drop_nil, List.length_cons, List.length_nil, List.cons_append, List.nil_append, List.append_nil, Nat.zero_add, Nat.add_zero, Nat.reduceAdd, Nat.reduceBEq, Nat.reduceEqDiff, Nat.ble, BEq.rfl, Bool.and_true, Bool.and_self, cond_true, beq_self_eq_true]; rfl) | (simp only [setL, List.getElem?_cons_zero, List.getElem?_cons_succ, Value.cells, List.take_zero, List.take_succ_cons, List.take_nil, List.drop_zero, List.drop_succ_cons, List.drop_nil, List.length_cons, List.length_nil, List.cons_append, List.nil_append, List.append_nil, Nat.zero_add, Nat.add_zero, Nat.reduceAdd, Nat.reduceBEq, Nat.reduceEqDiff, Nat.ble, BEq.rfl, Bool.and_true, Bool.and_self, cond_true, beq_self_eq_true]; rfl)) ?_)
      clear hh w; intro w hh
      refine w_nil ?_
      have hl2 := hl.add (t := 0) (hl.add (t := 2) (hl.add (t := 3) (hl.add (t := 6) (hl.nil) rfl) rfl) rfl) rfl; clear hl; have hl := hl2; clear hl2
      refine then_normal ?_
      refine c_seq ?_
      refine c_seq ?_
      refine c_region ?_
      refine wl (w_loadA hl hh rfl trivial agg51 rfl (by repeat (first | exact find_head | apply find_tail)) (by first | (simp only [List.getElem?_cons_zero, List.getElem?_cons_succ, Value.cells, List.take_zero, List.take_succ_cons, List.take_nil, List.drop_zero, List.drop_succ_cons, List.drop_nil, List.length_cons, List.length_nil, List.cons_append, List.nil_append, List.append_nil, Nat.zero_add, Nat.add_zero, Nat.reduceAdd, Nat.reduceBEq, Nat.reduceEqDiff, Nat.ble, BEq.rfl, Bool.and_true, Bool.and_self, cond_true, beq_self_eq_true]; rfl)) (by first | rfl | (simp; done)) ?_)
      clear hl a; intro a hl
      refine wl (w_call hl hh rfl trivial rfl cal48 rfl (goodPrefix_spec m1 m2 (by omega) (by omega) (by omega) (by omega)) (by repeat (first | exact keeps_nil | apply keeps_cons (by repeat (first | exact find_head | apply find_tail)) (by first  | rfl) | exact keeps_self | apply keeps_mv)) trivial ?_)
      clear hl hh a w; intro vc Fc a w hR hl hh
      obtain ⟨rfl, rfl⟩ := hR
      try simp only [List.cons_append, List.nil_append] at hh
      refine wl (wl_val hl rfl trivial (r_not hl rfl) ?_)
      clear hl a; intro a hl
      refine w_nil ?_
      have hl2 := hl.add (t := 0) (hl.add (t := 2) (hl.add (t := 3) (hl.add (t := 6) (hl.add (t := 40) (hl.nil) rfl) rfl) rfl) rfl) rfl; clear hl; have hl := hl2; clear hl2
      refine then_normal ?_
      refine c_cond hl rfl ?_ ?_
      · intro hc1
        try simp only [decide_eq_true_eq, decide_eq_false_iff_not, Bool.not_eq_true', Bool.not_eq_false', Bool.not_eq_true, Bool.not_eq_false, Bool.and_eq_true, Bool.or_eq_true, Bool.and_eq_false_iff, Bool.or_eq_false_iff, Bool.not_not, ne_eq, Int.not_lt, Int.not_le, Decidable.not_not, beq_iff_eq, bne_iff_ne, Option.isNone_iff_eq_none, Option.isNone_eq_false_iff, Option.isSome_iff_ne_none] at hc1
        refine c_region ?_
        refine wl (wl_val hl rfl trivial (r_move hl rfl) ?_)
        clear hl a; intro a hl
        refine wl (wl_val hl rfl trivial (r_move hl rfl) ?_)
        clear hl a; intro a hl
        refine wl (w_call hl hh rfl trivial rfl cal39 rfl (fail_spec b sv N Sc hS q4 X4 hq4 ht4 _ _ (by omega) (by omega) (fun he => ⟨htp.1, .inr ⟨by omega, ht.lt (hs1.err (hs2.err (hs3.err (hs4.err he)))) (by have := hQ1 (hs2.err (hs3.err (hs4.err he))); omega)⟩⟩)) (by repeat (first | exact keeps_nil | apply keeps_cons (by repeat (first | exact find_head | apply find_tail)) (by first  | rfl) | exact keeps_self | apply keeps_mv)) trivial ?_)
        clear hl hh a w; intro vc Fc a w hR hl hh
        obtain ⟨rfl, q5, X5, rfl, hq5, ht5, hs5, hQ5⟩ := hR
        try simp only [List.cons_append, List.nil_append] at hh
        (try replace hh := has_tail1 hh); (try simp only [List.cons_append, List.nil_append, List.append_nil] at hh); have htp5 := hq5.tpos; have hkd5 := hq5.kind; have hNle := hq5.Nle
        refine w_nil ?_
        have hl2 := hl.add (t := 2) (hl.add (t := 6) (hl.nil) rfl) rfl; clear hl; have hl := hl2; clear hl2
        refine then_normal ?_
        refine c_seq ?_
        refine c_region ?_
        refine wl (w_loadA hl hh rfl trivial agg51 rfl (by repeat (first | exact find_head | apply find_tail)) (by first | (simp only [List.getElem?_cons_zero, List.getElem?_cons_succ, Value.cells, List.take_zero, List.take_succ_cons, List.take_nil, List.drop_zero, List.drop_succ_cons, List.drop_nil, List.length_cons, List.length_nil, List.cons_append, List.nil_append, List.append_nil, Nat.zero_add, Nat.add_zero, Nat.reduceAdd, Nat.reduceBEq, Nat.reduceEqDiff, Nat.ble, BEq.rfl, Bool.and_true, Bool.and_self, cond_true, beq_self_eq_true]; rfl)) (by first | rfl | (simp; done)) ?_)
        clear hl a; intro a hl
        refine wl (w_storeA hl hh trivial agg51 rfl rfl (by repeat (first | exact find_head | apply find_tail)) (by first | rfl | (simp; done)) (by first | (simp; done) | (simp; omega) | (simp only [PS.cells, List.length_cons, List.length_nil]; omega)) (by first | rfl | (simp; done)) (by first | (simp only [PS.cells, setL, List.getElem?_cons_zero, List.getElem?_cons_succ, Value.cells, List.take_zero, List.take_succ_cons, List.take_nil, List.drop_zero, List.drop_succ_cons, List.drop_nil, List.length_cons, List.length_nil, List.cons_append, List.nil_append, List.append_nil, Nat.zero_add, Nat.add_zero, Nat.reduceAdd, Nat.reduceBEq, Nat.reduceEqDiff, Nat.ble, BEq.rfl, Bool.and_true, Bool.and_self, cond_true, beq_self_eq_true]; rfl) | (simp only [setL, List.getElem?_cons_zero, List.getElem?_cons_succ, Value.cells, List.take_zero, List.take_succ_cons, List.take_nil, List.drop_zero, List.drop_succ_cons, List.drop_nil, List.length_cons, List.length_nil, List.cons_append, List.nil_append, List.append_nil, Nat.zero_add, Nat.add_zero, Nat.reduceAdd, Nat.reduceBEq, Nat.reduceEqDiff, Nat.ble, BEq.rfl, Bool.and_true, Bool.and_self, cond_true, beq_self_eq_true]; rfl)) ?_)
        clear hh w; intro w hh
        refine w_nil ?_
        have hl2 := hl.add (t := 2) (hl.nil) rfl; clear hl; have hl := hl2; clear hl2
        refine then_normal ?_
        refine wp_ret ?_
        refine f_retC (F' := (b, C (q5.cells sv) 93) :: X5) hl hh rfl rfl agg51 (by repeat (first | exact find_head | apply find_tail)) (by first | rfl | (simp; done)) (by repeat (first | exact keeps_nil | apply keeps_cons (by repeat (first | exact find_head | apply find_tail)) (by first  | rfl) | exact keeps_self | apply keeps_mv)) ?_
        exact ⟨⟨_, _, rfl, by omega, by omega, by omega, by omega⟩, q5, X5, rfl, hq5, ht5, hs1.trans (hs2.trans (hs3.trans (hs4.trans hs5))), trivial⟩
      · intro hc1
        try simp only [decide_eq_true_eq, decide_eq_false_iff_not, Bool.not_eq_true', Bool.not_eq_false', Bool.not_eq_true, Bool.not_eq_false, Bool.and_eq_true, Bool.or_eq_true, Bool.and_eq_false_iff, Bool.or_eq_false_iff, Bool.not_not, ne_eq, Int.not_lt, Int.not_le, Decidable.not_not, beq_iff_eq, bne_iff_ne, Option.isNone_iff_eq_none, Option.isNone_eq_false_iff, Option.isSome_iff_ne_none] at hc1
        obtain ⟨q5, rfl⟩ : ∃ z, z = q4 := ⟨_, rfl⟩
        obtain ⟨X5, rfl⟩ : ∃ z, z = X4 := ⟨_, rfl⟩
        have hq5 := hq4
        have ht5 := ht4
        have hs5 := St.refl N q5
        refine wp_skip ?_
        refine then_normal ?_
        refine c_seq ?_
        refine c_region ?_
        refine wl (w_loadA hl hh rfl trivial agg51 rfl (by repeat (first | exact find_head | apply find_tail)) (by first | (simp only [List.getElem?_cons_zero, List.getElem?_cons_succ, Value.cells, List.take_zero, List.take_succ_cons, List.take_nil, List.drop_zero, List.drop_succ_cons, List.drop_nil, List.length_cons, List.length_nil, List.cons_append, List.nil_append, List.append_nil, Nat.zero_add, Nat.add_zero, Nat.reduceAdd, Nat.reduceBEq, Nat.reduceEqDiff, Nat.ble, BEq.rfl, Bool.and_true, Bool.and_self, cond_true, beq_self_eq_true]; rfl)) (by first | rfl | (simp; done)) ?_)
        clear hl a; intro a hl
        refine wl (w_storeA hl hh trivial agg51 rfl rfl (by repeat (first | exact find_head | apply find_tail)) (by first | rfl | (simp; done)) (by first | (simp; done) | (simp; omega) | (simp only [PS.cells, List.length_cons, List.length_nil]; omega)) (by first | rfl | (simp; done)) (by first | (simp only [PS.cells, setL, List.getElem?_cons_zero, List.getElem?_cons_succ, Value.cells, List.take_zero, List.take_succ_cons, List.take_nil, List.drop_zero, List.drop_succ_cons, List.drop_nil, List.length_cons, List.length_nil, List.cons_append, List.nil_append, List.append_nil, Nat.zero_add, Nat.add_zero, Nat.reduceAdd, Nat.reduceBEq, Nat.reduceEqDiff, Nat.ble, BEq.rfl, Bool.and_true, Bool.and_self, cond_true, beq_self_eq_true]; rfl) | (simp only [setL, List.getElem?_cons_zero, List.getElem?_cons_succ, Value.cells, List.take_zero, List.take_succ_cons, List.take_nil, List.drop_zero, List.drop_succ_cons, List.drop_nil, List.length_cons, List.length_nil, List.cons_append, List.nil_append, List.append_nil, Nat.zero_add, Nat.add_zero, Nat.reduceAdd, Nat.reduceBEq, Nat.reduceEqDiff, Nat.ble, BEq.rfl, Bool.and_true, Bool.and_self, cond_true, beq_self_eq_true]; rfl)) ?_)
        clear hh w; intro w hh
        refine w_nil ?_
        have hl2 := hl.add (t := 2) (hl.nil) rfl; clear hl; have hl := hl2; clear hl2
        refine then_normal ?_
        refine wp_ret ?_
        refine f_retC (F' := (b, C (q5.cells sv) 93) :: X5) hl hh rfl rfl agg51 (by repeat (first | exact find_head | apply find_tail)) (by first | rfl | (simp; done)) (by repeat (first | exact keeps_nil | apply keeps_cons (by repeat (first | exact find_head | apply find_tail)) (by first  | rfl) | exact keeps_self | apply keeps_mv)) ?_
        exact ⟨⟨_, _, rfl, by omega, by omega, by omega, by omega⟩, q5, X5, rfl, hq5, ht5, hs1.trans (hs2.trans (hs3.trans (hs4.trans hs5))), trivial⟩
    · intro hc0
      try simp only [decide_eq_true_eq, decide_eq_false_iff_not, Bool.not_eq_true', Bool.not_eq_false', Bool.not_eq_true, Bool.not_eq_false, Bool.and_eq_true, Bool.or_eq_true, Bool.and_eq_false_iff, Bool.or_eq_false_iff, Bool.not_not, ne_eq, Int.not_lt, Int.not_le, Decidable.not_not, beq_iff_eq, bne_iff_ne, Option.isNone_iff_eq_none, Option.isNone_eq_false_iff, Option.isSome_iff_ne_none] at hc0
      obtain ⟨q2, rfl⟩ : ∃ z, z = q1 := ⟨_, rfl⟩
      obtain ⟨X2, rfl⟩ : ∃ z, z = X1 := ⟨_, rfl⟩
      have hq2 := hq1
      have ht2 := ht1
      have hs2 := St.refl N q2
      refine wp_skip ?_
      refine then_normal ?_
      refine c_seq ?_
      refine c_region ?_
      refine wl (wl_val hl rfl trivial (r_move hl rfl) ?_)
      clear hl a; intro a hl
      refine wl (w_call hl hh rfl trivial rfl cal34 rfl (advance_spec b sv N Sc hS q2 X2 hq2) (by repeat (first | exact keeps_nil | apply keeps_cons (by repeat (first | exact find_head | apply find_tail)) (by first  | rfl) | exact keeps_self | apply keeps_mv)) trivial ?_)
      clear hl hh a w; intro vc Fc a w hR hl hh
      obtain ⟨rfl, q3, X3, rfl, hq3, ht3, hs3, hQ3⟩ := hR
      try simp only [List.cons_append, List.nil_append] at hh
      (try replace hh := has_tail1 hh); (try simp only [List.cons_append, List.nil_append, List.append_nil] at hh); have htp3 := hq3.tpos; have hkd3 := hq3.kind; have hNle := hq3.Nle
      refine w_nil ?_
      have hl2 := hl.add (t := 0) (hl.add (t := 2) (hl.add (t := 3) (hl.add (t := 4) (hl.nil) rfl) rfl) rfl) rfl; clear hl; have hl := hl2; clear hl2
      refine then_normal ?_
      refine c_seq ?_
      refine c_region ?_
      refine wl (wl_val hl rfl trivial (r_move hl rfl) ?_)
      clear hl a; intro a hl
      refine wl (w_call hl hh rfl trivial rfl cal37 rfl (number_spec b sv N Sc hS q3 X3 hq3 ht3 8 7 (by omega) (by omega) (by omega) (by omega)) (by repeat (first | exact keeps_nil | apply keeps_cons (by repeat (first | exact find_head | apply find_tail)) (by first  | rfl) | exact keeps_self | apply keeps_mv)) trivial ?_)
      clear hl hh a w; intro vc Fc a w hR hl hh
      obtain ⟨⟨m2, rfl, hm3, hm4⟩, q4, X4, rfl, hq4, ht4, hs4, hQ4⟩ := hR
      try simp only [List.cons_append, List.nil_append] at hh
      (try replace hh := has_tail1 hh); (try simp only [List.cons_append, List.nil_append, List.append_nil] at hh); have htp4 := hq4.tpos; have hkd4 := hq4.kind; have hNle := hq4.Nle
      refine wl (wl_val hl rfl trivial (r_assign hl rfl) ?_)
      clear hl a; intro a hl
      refine w_nil ?_
      have hl2 := hl.add (t := 0) (hl.add (t := 2) (hl.add (t := 3) (hl.add (t := 4) (hl.add (t := 5) (hl.nil) rfl) rfl) rfl) rfl) rfl; clear hl; have hl := hl2; clear hl2
      refine then_normal ?_
      refine c_seq ?_
      refine c_region ?_
      refine wl (wl_val hl rfl trivial (r_move hl rfl) ?_)
      clear hl a; intro a hl
      first | refine wl (wl_val hl rfl trivial (r_conv hl rfl Try.underlying34 Try.underlying5 (by simp only [Fits]; omega)) ?_) | refine wl (wl_val hl rfl trivial (r_convW hl rfl Try.underlying34 Try.underlying5) ?_)
      clear hl a; intro a hl
      refine wl (wl_val hl rfl trivial (r_move hl rfl) ?_)
      clear hl a; intro a hl
      first | refine wl (wl_val hl rfl trivial (r_conv hl rfl Try.underlying34 Try.underlying5 (by simp only [Fits]; omega)) ?_) | refine wl (wl_val hl rfl trivial (r_convW hl rfl Try.underlying34 Try.underlying5) ?_)
      clear hl a; intro a hl
      refine wl (wl_val hl rfl trivial (r_build hl rfl zero51 bld51 (by simp only [fillL, setL, List.getElem?_cons_zero, List.getElem?_cons_succ, Value.cells, List.take_zero, List.take_succ_cons, List.take_nil, List.drop_zero, List.drop_succ_cons, List.drop_nil, List.length_cons, List.length_nil, List.cons_append, List.nil_append, List.append_nil, Nat.zero_add, Nat.add_zero, Nat.reduceAdd, Nat.reduceBEq, Nat.reduceEqDiff, Nat.ble, BEq.rfl, Bool.and_true, Bool.and_self, cond_true, beq_self_eq_true]; rfl)) ?_)
      clear hl a; intro a hl
      refine wl (w_alloc hl hh rfl trivial zero51 rfl ?_)
      clear hl hh a w; intro k6 a w hl hh
      refine wl (w_storeA hl hh trivial agg51 rfl rfl (by repeat (first | exact find_head | apply find_tail)) (by first | rfl | (simp; done)) (by first | (simp; done) | (simp; omega) | (simp only [PS.cells, List.length_cons, List.length_nil]; omega)) (by first | rfl | (simp; done)) (by first | (simp only [PS.cells, setL, List.getElem?_cons_zero, List.getElem?_cons_succ, Value.cells, List.take_zero, List.take_succ_cons, List.take_nil, List.drop_zero, List.drop_succ_cons, List.drop_nil, List.length_cons, List.length_nil, List.cons_append, List.nil_append, List.append_nil, Nat.zero_add, Nat.add_zero, Nat.reduceAdd, Nat.reduceBEq, Nat.reduceEqDiff, Nat.ble, BEq.rfl, Bool.and_true, Bool.and_self, cond_true, beq_self_eq_true]; rfl) | (simp only [setL, List.getElem?_cons_zero, List.getElem?_cons_succ, Value.cells, List.take_zero, List.take_succ_cons, List.take_nil, List.drop_zero, List.drop_succ_cons, List.drop_nil, List.length_cons, List.length_nil, List.cons_append, List.nil_append, List.append_nil, Nat.zero_add, Nat.add_zero, Nat.reduceAdd, Nat.reduceBEq, Nat.reduceEqDiff, Nat.ble, BEq.rfl, Bool.and_true, Bool.and_self, cond_true, beq_self_eq_true]; rfl)) ?_)
      clear hh w; intro w hh
      refine w_nil ?_
      have hl2 := hl.add (t := 0) (hl.add (t := 2) (hl.add (t := 3) (hl.add (t := 6) (hl.nil) rfl) rfl) rfl) rfl; clear hl; have hl := hl2; clear hl2
      refine then_normal ?_
      refine c_seq ?_
      refine c_seq ?_
      refine c_region ?_
      refine wl (w_loadA hl hh rfl trivial agg51 rfl (by repeat (first | exact find_head | apply find_tail)) (by first | (simp only [List.getElem?_cons_zero, List.getElem?_cons_succ, Value.cells, List.take_zero, List.take_succ_cons, List.take_nil, List.drop_zero, List.drop_succ_cons, List.drop_nil, List.length_cons, List.length_nil, List.cons_append, List.nil_append, List.append_nil, Nat.zero_add, Nat.add_zero, Nat.reduceAdd, Nat.reduceBEq, Nat.reduceEqDiff, Nat.ble, BEq.rfl, Bool.and_true, Bool.and_self, cond_true, beq_self_eq_true]; rfl)) (by first | rfl | (simp; done)) ?_)
      clear hl a; intro a hl
      refine wl (w_call hl hh rfl trivial rfl cal48 rfl (goodPrefix_spec m1 m2 (by omega) (by omega) (by omega) (by omega)) (by repeat (first | exact keeps_nil | apply keeps_cons (by repeat (first | exact find_head | apply find_tail)) (by first  | rfl) | exact keeps_self | apply keeps_mv)) trivial ?_)
      clear hl hh a w; intro vc Fc a w hR hl hh
      obtain ⟨rfl, rfl⟩ := hR
      try simp only [List.cons_append, List.nil_append] at hh
      refine wl (wl_val hl rfl trivial (r_not hl rfl) ?_)
      clear hl a; intro a hl
      refine w_nil ?_
      have hl2 := hl.add (t := 0) (hl.add (t := 2) (hl.add (t := 3) (hl.add (t := 6) (hl.add (t := 40) (hl.nil) rfl) rfl) rfl) rfl) rfl; clear hl; have hl := hl2; clear hl2
      refine then_normal ?_
      refine c_cond hl rfl ?_ ?_
      · intro hc1
        try simp only [decide_eq_true_eq, decide_eq_false_iff_not, Bool.not_eq_true', Bool.not_eq_false', Bool.not_eq_true, Bool.not_eq_false, Bool.and_eq_true, Bool.or_eq_true, Bool.and_eq_false_iff, Bool.or_eq_false_iff, Bool.not_not, ne_eq, Int.not_lt, Int.not_le, Decidable.not_not, beq_iff_eq, bne_iff_ne, Option.isNone_iff_eq_none, Option.isNone_eq_false_iff, Option.isSome_iff_ne_none] at hc1
        refine c_region ?_
        refine wl (wl_val hl rfl trivial (r_move hl rfl) ?_)
        clear hl a; intro a hl
        refine wl (wl_val hl rfl trivial (r_move hl rfl) ?_)
        clear hl a; intro a hl
        refine wl (w_call hl hh rfl trivial rfl cal39 rfl (fail_spec b sv N Sc hS q4 X4 hq4 ht4 _ _ (by omega) (by omega) (fun he => ⟨htp.1, .inr ⟨by omega, ht.lt (hs1.err (hs2.err (hs3.err (hs4.err he)))) (by have := hQ1 (hs2.err (hs3.err (hs4.err he))); omega)⟩⟩)) (by repeat (first | exact keeps_nil | apply keeps_cons (by repeat (first | exact find_head | apply find_tail)) (by first  | rfl) | exact keeps_self | apply keeps_mv)) trivial ?_)
        clear hl hh a w; intro vc Fc a w hR hl hh
        obtain ⟨rfl, q5, X5, rfl, hq5, ht5, hs5, hQ5⟩ := hR
        try simp only [List.cons_append, List.nil_append] at hh
        (try replace hh := has_tail1 hh); (try simp only [List.cons_append, List.nil_append, List.append_nil] at hh); have htp5 := hq5.tpos; have hkd5 := hq5.kind; have hNle := hq5.Nle
        refine w_nil ?_
        have hl2 := hl.add (t := 2) (hl.add (t := 6) (hl.nil) rfl) rfl; clear hl; have hl := hl2; clear hl2
        refine then_normal ?_
        refine c_seq ?_
        refine c_region ?_
        refine wl (w_loadA hl hh rfl trivial agg51 rfl (by repeat (first | exact find_head | apply find_tail)) (by first | (simp only [List.getElem?_cons_zero, List.getElem?_cons_succ, Value.cells, List.take_zero, List.take_succ_cons, List.take_nil, List.drop_zero, List.drop_succ_cons, List.drop_nil, List.length_cons, List.length_nil, List.cons_append, List.nil_append, List.append_nil, Nat.zero_add, Nat.add_zero, Nat.reduceAdd, Nat.reduceBEq, Nat.reduceEqDiff, Nat.ble, BEq.rfl, Bool.and_true, Bool.and_self, cond_true, beq_self_eq_true]; rfl)) (by first | rfl | (simp; done)) ?_)
        clear hl a; intro a hl
        refine wl (w_storeA hl hh trivial agg51 rfl rfl (by repeat (first | exact find_head | apply find_tail)) (by first | rfl | (simp; done)) (by first | (simp; done) | (simp; omega) | (simp only [PS.cells, List.length_cons, List.length_nil]; omega)) (by first | rfl | (simp; done)) (by first | (simp only [PS.cells, setL, List.getElem?_cons_zero, List.getElem?_cons_succ, Value.cells, List.take_zero, List.take_succ_cons, List.take_nil, List.drop_zero, List.drop_succ_cons, List.drop_nil, List.length_cons, List.length_nil, List.cons_append, List.nil_append, List.append_nil, Nat.zero_add, Nat.add_zero, Nat.reduceAdd, Nat.reduceBEq, Nat.reduceEqDiff, Nat.ble, BEq.rfl, Bool.and_true, Bool.and_self, cond_true, beq_self_eq_true]; rfl) | (simp only [setL, List.getElem?_cons_zero, List.getElem?_cons_succ, Value.cells, List.take_zero, List.take_succ_cons, List.take_nil, List.drop_zero, List.drop_succ_cons, List.drop_nil, List.length_cons, List.length_nil, List.cons_append, List.nil_append, List.append_nil, Nat.zero_add, Nat.add_zero, Nat.reduceAdd, Nat.reduceBEq, Nat.reduceEqDiff, Nat.ble, BEq.rfl, Bool.and_true, Bool.and_self, cond_true, beq_self_eq_true]; rfl)) ?_)
        clear hh w; intro w hh
        refine w_nil ?_
        have hl2 := hl.add (t := 2) (hl.nil) rfl; clear hl; have hl := hl2; clear hl2
        refine then_normal ?_
        refine wp_ret ?_
        refine f_retC (F' := (b, C (q5.cells sv) 93) :: X5) hl hh rfl rfl agg51 (by repeat (first | exact find_head | apply find_tail)) (by first | rfl | (simp; done)) (by repeat (first | exact keeps_nil | apply keeps_cons (by repeat (first | exact find_head | apply find_tail)) (by first  | rfl) | exact keeps_self | apply keeps_mv)) ?_
        exact ⟨⟨_, _, rfl, by omega, by omega, by omega, by omega⟩, q5, X5, rfl, hq5, ht5, hs1.trans (hs2.trans (hs3.trans (hs4.trans hs5))), trivial⟩
      · intro hc1
        try simp only [decide_eq_true_eq, decide_eq_false_iff_not, Bool.not_eq_true', Bool.not_eq_false', Bool.not_eq_true, Bool.not_eq_false, Bool.and_eq_true, Bool.or_eq_true, Bool.and_eq_false_iff, Bool.or_eq_false_iff, Bool.not_not, ne_eq, Int.not_lt, Int.not_le, Decidable.not_not, beq_iff_eq, bne_iff_ne, Option.isNone_iff_eq_none, Option.isNone_eq_false_iff, Option.isSome_iff_ne_none] at hc1
        obtain ⟨q5, rfl⟩ : ∃ z, z = q4 := ⟨_, rfl⟩
        obtain ⟨X5, rfl⟩ : ∃ z, z = X4 := ⟨_, rfl⟩
        have hq5 := hq4
        have ht5 := ht4
        have hs5 := St.refl N q5
        refine wp_skip ?_
        refine then_normal ?_
        refine c_seq ?_
        refine c_region ?_
        refine wl (w_loadA hl hh rfl trivial agg51 rfl (by repeat (first | exact find_head | apply find_tail)) (by first | (simp only [List.getElem?_cons_zero, List.getElem?_cons_succ, Value.cells, List.take_zero, List.take_succ_cons, List.take_nil, List.drop_zero, List.drop_succ_cons, List.drop_nil, List.length_cons, List.length_nil, List.cons_append, List.nil_append, List.append_nil, Nat.zero_add, Nat.add_zero, Nat.reduceAdd, Nat.reduceBEq, Nat.reduceEqDiff, Nat.ble, BEq.rfl, Bool.and_true, Bool.and_self, cond_true, beq_self_eq_true]; rfl)) (by first | rfl | (simp; done)) ?_)
        clear hl a; intro a hl
        refine wl (w_storeA hl hh trivial agg51 rfl rfl (by repeat (first | exact find_head | apply find_tail)) (by first | rfl | (simp; done)) (by first | (simp; done) | (simp; omega) | (simp only [PS.cells, List.length_cons, List.length_nil]; omega)) (by first | rfl | (simp; done)) (by first | (simp only [PS.cells, setL, List.getElem?_cons_zero, List.getElem?_cons_succ, Value.cells, List.take_zero, List.take_succ_cons, List.take_nil, List.drop_zero, List.drop_succ_cons, List.drop_nil, List.length_cons, List.length_nil, List.cons_append, List.nil_append, List.append_nil, Nat.zero_add, Nat.add_zero, Nat.reduceAdd, Nat.reduceBEq, Nat.reduceEqDiff, Nat.ble, BEq.rfl, Bool.and_true, Bool.and_self, cond_true, beq_self_eq_true]; rfl) | (simp only [setL, List.getElem?_cons_zero, List.getElem?_cons_succ, Value.cells, List.take_zero, List.take_succ_cons, List.take_nil, List.drop_zero, List.drop_succ_cons, List.drop_nil, List.length_cons, List.length_nil, List.cons_append, List.nil_append, List.append_nil, Nat.zero_add, Nat.add_zero, Nat.reduceAdd, Nat.reduceBEq, Nat.reduceEqDiff, Nat.ble, BEq.rfl, Bool.and_true, Bool.and_self, cond_true, beq_self_eq_true]; rfl)) ?_)
        clear hh w; intro w hh
        refine w_nil ?_
        have hl2 := hl.add (t := 2) (hl.nil) rfl; clear hl; have hl := hl2; clear hl2
        refine then_normal ?_
        refine wp_ret ?_
        refine f_retC (F' := (b, C (q5.cells sv) 93) :: X5) hl hh rfl rfl agg51 (by repeat (first | exact find_head | apply find_tail)) (by first | rfl | (simp; done)) (by repeat (first | exact keeps_nil | apply keeps_cons (by repeat (first | exact find_head | apply find_tail)) (by first  | rfl) | exact keeps_self | apply keeps_mv)) ?_
        exact ⟨⟨_, _, rfl, by omega, by omega, by omega, by omega⟩, q5, X5, rfl, hq5, ht5, hs1.trans (hs2.trans (hs3.trans (hs4.trans hs5))), trivial⟩
  · intro hg1; clear hl; intro hl
    try simp only [decide_eq_true_eq, decide_eq_false_iff_not, Bool.not_eq_true', Bool.not_eq_false', Bool.not_eq_true, Bool.not_eq_false, Bool.and_eq_true, Bool.or_eq_true, Bool.and_eq_false_iff, Bool.or_eq_false_iff, Bool.not_not, ne_eq, Int.not_lt, Int.not_le, Decidable.not_not, beq_iff_eq, bne_iff_ne, Option.isNone_iff_eq_none, Option.isNone_eq_false_iff, Option.isSome_iff_ne_none] at hg1
    refine wl (wl_skip hl rfl ⟨_, _, rfl, rfl, rfl⟩ ?_)
    clear hl a; intro a hl
    refine wl (wl_skip hl rfl ⟨_, _, rfl, rfl, rfl⟩ ?_)
    clear hl a; intro a hl
    refine wl (wl_skip hl rfl ⟨_, _, rfl, rfl, rfl⟩ ?_)
    clear hl a; intro a hl
    refine wl (wl_skip hl rfl ⟨_, _, rfl, rfl, rfl⟩ ?_)
    clear hl a; intro a hl
    refine wl (wl_skip hl rfl ⟨_, _, rfl, rfl, rfl⟩ ?_)
    clear hl a; intro a hl
    refine wl (wl_skip hl rfl ⟨_, _, rfl, rfl, rfl⟩ ?_)
    clear hl a; intro a hl
    refine wl (wl_val hl rfl trivial (r_pickF hl rfl rfl) ?_)
    clear hl a; intro a hl
    refine w_nil ?_
    have hl2 := hl.add (t := 0) (hl.add (t := 2) (hl.add (t := 3) (hl.add (t := 4) (hl.add (t := 26) (hl.nil) rfl) rfl) rfl) rfl) rfl; clear hl; have hl := hl2; clear hl2
    refine then_normal ?_
    refine c_condF hl rfl ?_
    obtain ⟨q2, rfl⟩ : ∃ z, z = q1 := ⟨_, rfl⟩
    obtain ⟨X2, rfl⟩ : ∃ z, z = X1 := ⟨_, rfl⟩
    have hq2 := hq1
    have ht2 := ht1
    have hs2 := St.refl N q2
    refine wp_skip ?_
    refine then_normal ?_
    refine c_seq ?_
    refine c_region ?_
    refine wl (wl_val hl rfl trivial (r_move hl rfl) ?_)
    clear hl a; intro a hl
    refine wl (w_call hl hh rfl trivial rfl cal34 rfl (advance_spec b sv N Sc hS q2 X2 hq2) (by repeat (first | exact keeps_nil | apply keeps_cons (by repeat (first | exact find_head | apply find_tail)) (by first  | rfl) | exact keeps_self | apply keeps_mv)) trivial ?_)
    clear hl hh a w; intro vc Fc a w hR hl hh
    obtain ⟨rfl, q3, X3, rfl, hq3, ht3, hs3, hQ3⟩ := hR
    try simp only [List.cons_append, List.nil_append] at hh
    (try replace hh := has_tail1 hh); (try simp only [List.cons_append, List.nil_append, List.append_nil] at hh); have htp3 := hq3.tpos; have hkd3 := hq3.kind; have hNle := hq3.Nle
    refine w_nil ?_
    have hl2 := hl.add (t := 0) (hl.add (t := 2) (hl.add (t := 3) (hl.add (t := 4) (hl.nil) rfl) rfl) rfl) rfl; clear hl; have hl := hl2; clear hl2
    refine then_normal ?_
    refine c_seq ?_
    refine c_region ?_
    refine wl (wl_val hl rfl trivial (r_move hl rfl) ?_)
    clear hl a; intro a hl
    refine wl (w_call hl hh rfl trivial rfl cal37 rfl (number_spec b sv N Sc hS q3 X3 hq3 ht3 8 7 (by omega) (by omega) (by omega) (by omega)) (by repeat (first | exact keeps_nil | apply keeps_cons (by repeat (first | exact find_head | apply find_tail)) (by first  | rfl) | exact keeps_self | apply keeps_mv)) trivial ?_)
    clear hl hh a w; intro vc Fc a w hR hl hh
    obtain ⟨⟨m2, rfl, hm3, hm4⟩, q4, X4, rfl, hq4, ht4, hs4, hQ4⟩ := hR
    try simp only [List.cons_append, List.nil_append] at hh
    (try replace hh := has_tail1 hh); (try simp only [List.cons_append, List.nil_append, List.append_nil] at hh); have htp4 := hq4.tpos; have hkd4 := hq4.kind; have hNle := hq4.Nle
    refine wl (wl_val hl rfl trivial (r_assign hl rfl) ?_)
    clear hl a; intro a hl
    refine w_nil ?_
    have hl2 := hl.add (t := 0) (hl.add (t := 2) (hl.add (t := 3) (hl.add (t := 4) (hl.add (t := 5) (hl.nil) rfl) rfl) rfl) rfl) rfl; clear hl; have hl := hl2; clear hl2
    refine then_normal ?_
    refine c_seq ?_
    refine c_region ?_
    refine wl (wl_val hl rfl trivial (r_move hl rfl) ?_)
    clear hl a; intro a hl
    first | refine wl (wl_val hl rfl trivial (r_conv hl rfl Try.underlying34 Try.underlying5 (by simp only [Fits]; omega)) ?_) | refine wl (wl_val hl rfl trivial (r_convW hl rfl Try.underlying34 Try.underlying5) ?_)
    clear hl a; intro a hl
    refine wl (wl_val hl rfl trivial (r_move hl rfl) ?_)
    clear hl a; intro a hl
    first | refine wl (wl_val hl rfl trivial (r_conv hl rfl Try.underlying34 Try.underlying5 (by simp only [Fits]; omega)) ?_) | refine wl (wl_val hl rfl trivial (r_convW hl rfl Try.underlying34 Try.underlying5) ?_)
    clear hl a; intro a hl
    refine wl (wl_val hl rfl trivial (r_build hl rfl zero51 bld51 (by simp only [fillL, setL, List.getElem?_cons_zero, List.getElem?_cons_succ, Value.cells, List.take_zero, List.take_succ_cons, List.take_nil, List.drop_zero, List.drop_succ_cons, List.drop_nil, List.length_cons, List.length_nil, List.cons_append, List.nil_append, List.append_nil, Nat.zero_add, Nat.add_zero, Nat.reduceAdd, Nat.reduceBEq, Nat.reduceEqDiff, Nat.ble, BEq.rfl, Bool.and_true, Bool.and_self, cond_true, beq_self_eq_true]; rfl)) ?_)
    clear hl a; intro a hl
    refine wl (w_alloc hl hh rfl trivial zero51 rfl ?_)
    clear hl hh a w; intro k6 a w hl hh
    refine wl (w_storeA hl hh trivial agg51 rfl rfl (by repeat (first | exact find_head | apply find_tail)) (by first | rfl | (simp; done)) (by first | (simp; done) | (simp; omega) | (simp only [PS.cells, List.length_cons, List.length_nil]; omega)) (by first | rfl | (simp; done)) (by first | (simp only [PS.cells, setL, List.getElem?_cons_zero, List.getElem?_cons_succ, Value.cells, List.take_zero, List.take_succ_cons, List.take_nil, List.drop_zero, List.drop_succ_cons, List.drop_nil, List.length_cons, List.length_nil, List.cons_append, List.nil_append, List.append_nil, Nat.zero_add, Nat.add_zero, Nat.reduceAdd, Nat.reduceBEq, Nat.reduceEqDiff, Nat.ble, BEq.rfl, Bool.and_true, Bool.and_self, cond_true, beq_self_eq_true]; rfl) | (simp only [setL, List.getElem?_cons_zero, List.getElem?_cons_succ, Value.cells, List.take_zero, List.take_succ_cons, List.take_nil, List.drop_zero, List.drop_succ_cons, List.drop_nil, List.length_cons, List.length_nil, List.cons_append, List.nil_append, List.append_nil, Nat.zero_add, Nat.add_zero, Nat.reduceAdd, Nat.reduceBEq, Nat.reduceEqDiff, Nat.ble, BEq.rfl, Bool.and_true, Bool.and_self, cond_true, beq_self_eq_true]; rfl)) ?_)
    clear hh w; intro w hh
    refine w_nil ?_
    have hl2 := hl.add (t := 0) (hl.add (t := 2) (hl.add (t := 3) (hl.add (t := 6) (hl.nil) rfl) rfl) rfl) rfl; clear hl; have hl := hl2; clear hl2
    refine then_normal ?_
    refine c_seq ?_
    refine c_seq ?_
    refine c_region ?_
    refine wl (w_loadA hl hh rfl trivial agg51 rfl (by repeat (first | exact find_head | apply find_tail)) (by first | (simp only [List.getElem?_cons_zero, List.getElem?_cons_succ, Value.cells, List.take_zero, List.take_succ_cons, List.take_nil, List.drop_zero, List.drop_succ_cons, List.drop_nil, List.length_cons, List.length_nil, List.cons_append, List.nil_append, List.append_nil, Nat.zero_add, Nat.add_zero, Nat.reduceAdd, Nat.reduceBEq, Nat.reduceEqDiff, Nat.ble, BEq.rfl, Bool.and_true, Bool.and_self, cond_true, beq_self_eq_true]; rfl)) (by first | rfl | (simp; done)) ?_)
    clear hl a; intro a hl
    refine wl (w_call hl hh rfl trivial rfl cal48 rfl (goodPrefix_spec m1 m2 (by omega) (by omega) (by omega) (by omega)) (by repeat (first | exact keeps_nil | apply keeps_cons (by repeat (first | exact find_head | apply find_tail)) (by first  | rfl) | exact keeps_self | apply keeps_mv)) trivial ?_)
    clear hl hh a w; intro vc Fc a w hR hl hh
    obtain ⟨rfl, rfl⟩ := hR
    try simp only [List.cons_append, List.nil_append] at hh
    refine wl (wl_val hl rfl trivial (r_not hl rfl) ?_)
    clear hl a; intro a hl
    refine w_nil ?_
    have hl2 := hl.add (t := 0) (hl.add (t := 2) (hl.add (t := 3) (hl.add (t := 6) (hl.add (t := 40) (hl.nil) rfl) rfl) rfl) rfl) rfl; clear hl; have hl := hl2; clear hl2
    refine then_normal ?_
    refine c_cond hl rfl ?_ ?_
    · intro hc1
      try simp only [decide_eq_true_eq, decide_eq_false_iff_not, Bool.not_eq_true', Bool.not_eq_false', Bool.not_eq_true, Bool.not_eq_false, Bool.and_eq_true, Bool.or_eq_true, Bool.and_eq_false_iff, Bool.or_eq_false_iff, Bool.not_not, ne_eq, Int.not_lt, Int.not_le, Decidable.not_not, beq_iff_eq, bne_iff_ne, Option.isNone_iff_eq_none, Option.isNone_eq_false_iff, Option.isSome_iff_ne_none] at hc1
      refine c_region ?_
      refine wl (wl_val hl rfl trivial (r_move hl rfl) ?_)
      clear hl a; intro a hl
      refine wl (wl_val hl rfl trivial (r_move hl rfl) ?_)
      clear hl a; intro a hl
      refine wl (w_call hl hh rfl trivial rfl cal39 rfl (fail_spec b sv N Sc hS q4 X4 hq4 ht4 _ _ (by omega) (by omega) (fun he => ⟨htp.1, .inr ⟨by omega, ht.lt (hs1.err (hs2.err (hs3.err (hs4.err he)))) (by have := hQ1 (hs2.err (hs3.err (hs4.err he))); omega)⟩⟩)) (by repeat (first | exact keeps_nil | apply keeps_cons (by repeat (first | exact find_head | apply find_tail)) (by first  | rfl) | exact keeps_self | apply keeps_mv)) trivial ?_)
      clear hl hh a w; intro vc Fc a w hR hl hh
      obtain ⟨rfl, q5, X5, rfl, hq5, ht5, hs5, hQ5⟩ := hR
      try simp only [List.cons_append, List.nil_append] at hh
      (try replace hh := has_tail1 hh); (try simp only [List.cons_append, List.nil_append, List.append_nil] at hh); have htp5 := hq5.tpos; have hkd5 := hq5.kind; have hNle := hq5.Nle
      refine w_nil ?_
      have hl2 := hl.add (t := 2) (hl.add (t := 6) (hl.nil) rfl) rfl; clear hl; have hl := hl2; clear hl2
      refine then_normal ?_
      refine c_seq ?_
      refine c_region ?_
      refine wl (w_loadA hl hh rfl trivial agg51 rfl (by repeat (first | exact find_head | apply find_tail)) (by first | (simp only [List.getElem?_cons_zero, List.getElem?_cons_succ, Value.cells, List.take_zero, List.take_succ_cons, List.take_nil, List.drop_zero, List.drop_succ_cons, List.drop_nil, List.length_cons, List.length_nil, List.cons_append, List.nil_append, List.append_nil, Nat.zero_add, Nat.add_zero, Nat.reduceAdd, Nat.reduceBEq, Nat.reduceEqDiff, Nat.ble, BEq.rfl, Bool.and_true, Bool.and_self, cond_true, beq_self_eq_true]; rfl)) (by first | rfl | (simp; done)) ?_)
      clear hl a; intro a hl
      refine wl (w_storeA hl hh trivial agg51 rfl rfl (by repeat (first | exact find_head | apply find_tail)) (by first | rfl | (simp; done)) (by first | (simp; done) | (simp; omega) | (simp only [PS.cells, List.length_cons, List.length_nil]; omega)) (by first | rfl | (simp; done)) (by first | (simp only [PS.cells, setL, List.getElem?_cons_zero, List.getElem?_cons_succ, Value.cells, List.take_zero, List.take_succ_cons, List.take_nil, List.drop_zero, List.drop_succ_cons, List.drop_nil, List.length_cons, List.length_nil, List.cons_append, List.nil_append, List.append_nil, Nat.zero_add, Nat.add_zero, Nat.reduceAdd, Nat.reduceBEq, Nat.reduceEqDiff, Nat.ble, BEq.rfl, Bool.and_true, Bool.and_self, cond_true, beq_self_eq_true]; rfl) | (simp only [setL, List.getElem?_cons_zero, List.getElem?_cons_succ, Value.cells, List.take_zero, List.take_succ_cons, List.take_nil, List.drop_zero, List.drop_succ_cons, List.drop_nil, List.length_cons, List.length_nil, List.cons_append, List.nil_append, List.append_nil, Nat.zero_add, Nat.add_zero, Nat.reduceAdd, Nat.reduceBEq, Nat.reduceEqDiff, Nat.ble, BEq.rfl, Bool.and_true, Bool.and_self, cond_true, beq_self_eq_true]; rfl)) ?_)
      clear hh w; intro w hh
      refine w_nil ?_
      have hl2 := hl.add (t := 2) (hl.nil) rfl; clear hl; have hl := hl2; clear hl2
      refine then_normal ?_
      refine wp_ret ?_
      refine f_retC (F' := (b, C (q5.cells sv) 93) :: X5) hl hh rfl rfl agg51 (by repeat (first | exact find_head | apply find_tail)) (by first | rfl | (simp; done)) (by repeat (first | exact keeps_nil | apply keeps_cons (by repeat (first | exact find_head | apply find_tail)) (by first  | rfl) | exact keeps_self | apply keeps_mv)) ?_
      exact ⟨⟨_, _, rfl, by omega, by omega, by omega, by omega⟩, q5, X5, rfl, hq5, ht5, hs1.trans (hs2.trans (hs3.trans (hs4.trans hs5))), trivial⟩
    · intro hc1
      try simp only [decide_eq_true_eq, decide_eq_false_iff_not, Bool.not_eq_true', Bool.not_eq_false', Bool.not_eq_true, Bool.not_eq_false, Bool.and_eq_true, Bool.or_eq_true, Bool.and_eq_false_iff, Bool.or_eq_false_iff, Bool.not_not, ne_eq, Int.not_lt, Int.not_le, Decidable.not_not, beq_iff_eq, bne_iff_ne, Option.isNone_iff_eq_none, Option.isNone_eq_false_iff, Option.isSome_iff_ne_none] at hc1
      obtain ⟨q5, rfl⟩ : ∃ z, z = q4 := ⟨_, rfl⟩
      obtain ⟨X5, rfl⟩ : ∃ z, z = X4 := ⟨_, rfl⟩
      have hq5 := hq4
      have ht5 := ht4
      have hs5 := St.refl N q5
      refine wp_skip ?_
      refine then_normal ?_
      refine c_seq ?_
      refine c_region ?_
      refine wl (w_loadA hl hh rfl trivial agg51 rfl (by repeat (first | exact find_head | apply find_tail)) (by first | (simp only [List.getElem?_cons_zero, List.getElem?_cons_succ, Value.cells, List.take_zero, List.take_succ_cons, List.take_nil, List.drop_zero, List.drop_succ_cons, List.drop_nil, List.length_cons, List.length_nil, List.cons_append, List.nil_append, List.append_nil, Nat.zero_add, Nat.add_zero, Nat.reduceAdd, Nat.reduceBEq, Nat.reduceEqDiff, Nat.ble, BEq.rfl, Bool.and_true, Bool.and_self, cond_true, beq_self_eq_true]; rfl)) (by first | rfl | (simp; done)) ?_)
      clear hl a; intro a hl
      refine wl (w_storeA hl hh trivial agg51 rfl rfl (by repeat (first | exact find_head | apply find_tail)) (by first | rfl | (simp; done)) (by first | (simp; done) | (simp; omega) | (simp only [PS.cells, List.length_cons, List.length_nil]; omega)) (by first | rfl | (simp; done)) (by first | (simp only [PS.cells, setL, List.getElem?_cons_zero, List.getElem?_cons_succ, Value.cells, List.take_zero, List.take_succ_cons, List.take_nil, List.drop_zero, List.drop_succ_cons, List.drop_nil, List.length_cons, List.length_nil, List.cons_append, List.nil_append, List.append_nil, Nat.zero_add, Nat.add_zero, Nat.reduceAdd, Nat.reduceBEq, Nat.reduceEqDiff, Nat.ble, BEq.rfl, Bool.and_true, Bool.and_self, cond_true, beq_self_eq_true]; rfl) | (simp only [setL, List.getElem?_cons_zero, List.getElem?_cons_succ, Value.cells, List.take_zero, List.take_succ_cons, List.take_nil, List.drop_zero, List.drop_succ_cons, List.drop_nil, List.length_cons, List.length_nil, List.cons_append, List.nil_append, List.append_nil, Nat.zero_add, Nat.add_zero, Nat.reduceAdd, Nat.reduceBEq, Nat.reduceEqDiff, Nat.ble, BEq.rfl, Bool.and_true, Bool.and_self, cond_true, beq_self_eq_true]; rfl)) ?_)
      clear hh w; intro w hh
      refine w_nil ?_
      have hl2 := hl.add (t := 2) (hl.nil) rfl; clear hl; have hl := hl2; clear hl2
      refine then_normal ?_
      refine wp_ret ?_
      refine f_retC (F' := (b, C (q5.cells sv) 93) :: X5) hl hh rfl rfl agg51 (by repeat (first | exact find_head | apply find_tail)) (by first | rfl | (simp; done)) (by repeat (first | exact keeps_nil | apply keeps_cons (by repeat (first | exact find_head | apply find_tail)) (by first  | rfl) | exact keeps_self | apply keeps_mv)) ?_
      exact ⟨⟨_, _, rfl, by omega, by omega, by omega, by omega⟩, q5, X5, rfl, hq5, ht5, hs1.trans (hs2.trans (hs3.trans (hs4.trans hs5))), trivial⟩
end Go.Proofs.Qxb6500907a

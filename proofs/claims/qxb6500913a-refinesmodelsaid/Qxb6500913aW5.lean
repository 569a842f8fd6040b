import Derived.Test.Qxb6500913aW4
namespace Go.Proofs.Qxb6500913a
open Go.Eng
set_option linter.unusedVariables false
set_option linter.unusedSimpArgs false
theorem zero44 : zeroOk Try.prog 44 (.agg #[(.int .u8 0), (.bool false), (.int .u64 0), (.int .u64 0)]) := by unfold zeroOk; kernel_rfl
theorem fld36_0 : fieldOk Try.prog 36 0 0 = true := by kernel_rfl
theorem one32 : oneOk Try.prog 32 = true := by kernel_rfl
theorem fld36_1 : fieldOk Try.prog 36 1 1 = true := by kernel_rfl
theorem cal21 : callable Try.prog 21 = true := by kernel_rfl
theorem fld44_2 : fieldOk Try.prog 44 2 2 = true := by kernel_rfl
theorem fld44_0 : fieldOk Try.prog 44 0 0 = true := by kernel_rfl
theorem one42 : oneOk Try.prog 42 = true := by kernel_rfl
theorem agg44 : aggOk Try.prog 44 4 = true := by kernel_rfl
theorem fld36_2 : fieldOk Try.prog 36 2 2 = true := by kernel_rfl
theorem cal36 : callable Try.prog 36 = true := by kernel_rfl
theorem fld36_3 : fieldOk Try.prog 36 3 3 = true := by kernel_rfl
theorem cal47 : callable Try.prog 47 = true := by kernel_rfl
theorem fld44_1 : fieldOk Try.prog 44 1 1 = true := by kernel_rfl
theorem one4 : oneOk Try.prog 4 = true := by kernel_rfl
theorem cal48 : callable Try.prog 48 = true := by kernel_rfl
theorem fld36_4 : fieldOk Try.prog 36 4 4 = true := by kernel_rfl
theorem fld36_5 : fieldOk Try.prog 36 5 5 = true := by kernel_rfl
theorem cal49 : callable Try.prog 49 = true := by kernel_rfl
theorem fld44_3 : fieldOk Try.prog 44 3 3 = true := by kernel_rfl
theorem cal37 : callable Try.prog 37 = true := by kernel_rfl
theorem cal34 : callable Try.prog 34 = true := by kernel_rfl

structure MOp where
  kd : Nat
  x : Nat
  a : Nat
  b : Nat
  c : Nat
  d : Nat
def MOp.vals (o : MOp) : List Value := [.int .u8 o.kd, .int .u32 o.x, .int .u64 o.a, .int .u64 o.b, .int .u64 o.c, .int .u64 o.d]
def MOp.ok (o : MOp) : Prop := o.kd < 256 ∧ o.x < 4294967296 ∧ o.a < 18446744073709551616 ∧ o.b < 18446744073709551616 ∧ o.c < 18446744073709551616 ∧ o.d < 18446744073709551616
structure Ans where
  st : Int
  dn : Bool
  w0 : Int
  w1 : Int
def Ans.v (r : Ans) : Value := .agg #[.int .u8 r.st, .bool r.dn, .int .u64 r.w0, .int .u64 r.w1]
def Ans.l (r : Ans) : List Value := [.int .u8 r.st, .bool r.dn, .int .u64 r.w0, .int .u64 r.w1]

/-- what the allocator's walks ask of the memory -/
structure Good (f : Nat → Int) : Prop where
  lists : ∀ c, c < 16 → lst f c = 0 ∨ ∃ x : Nat, lst f c = x ∧ 2 ≤ x ∧ x + 2 * (c + 1) ≤ 4096 ∧ ∀ d, x ≤ d → d < x + 2 * (c + 1) → 0 ≤ gen f d ∧ gen f d < 281474976710655
  fresh : ∃ x : Nat, fresh f = x ∧ 2 ≤ x ∧ x ≤ 4096 ∧ (∀ d, x ≤ d → d < 4096 → gen f d = boot f)
  boot : 0 ≤ boot f ∧ boot f ≤ 281474976710655
  live : ∀ r, judgeF f r = 0 → ∃ s : Nat, sz f (r % 65536) = s ∧ 2 ≤ s ∧ s ≤ 32 ∧ r % 65536 + s ≤ 4096
  cn1 : -1000000000 ≤ cnLive f ∧ cnLive f ≤ 1000000000
  cn2 : -1000000000 ≤ cnFree f ∧ cnFree f ≤ 1000000000
  cn3 : -1000000000 ≤ cnSpent f ∧ cnSpent f ≤ 1000000000
  cn4 : -1000000000 ≤ cnUnt f ∧ cnUnt f ≤ 1000000000

structure AR where
  ref : Int
  st : Int
  f : Nat → Int
def allocF (f : Nat → Int) (n : Nat) : AR :=
  if n = 0 ∨ 32 < n then ⟨0, 3, f⟩ else
  let s := (n + 1) / 2 * 2
  if lst f (s / 2 - 1) ≠ 0 then
    let x := (lst f (s / 2 - 1)).toNat
    ⟨((gen f x).toNat + 1) * 65536 + x, 0, handF (popF f x s) x s⟩
  else if fresh f + s ≤ 4096 ∧ boot f < 281474976710655 then
    let x := (fresh f).toNat
    ⟨((gen f x).toNat + 1) * 65536 + x, 0, handF (carveF f x s) x s⟩
  else ⟨0, 4, f⟩
structure FR where
  st : Int
  f : Nat → Int
def freeF (f : Nat → Int) (r : Nat) : FR :=
  if judgeF f r ≠ 0 then ⟨judgeF f r, f⟩ else
  let x := r % 65536
  let s := (sz f x).toNat
  if gen f x = 281474976710655 then ⟨0, spendF f x s⟩ else ⟨0, pushF f x s⟩
theorem judge_addr {f : Nat → Int} {r : Nat} (h : judgeF f r = 0) : 2 ≤ r % 65536 ∧ r % 65536 < 4096 := by
  unfold judgeF at h
  split at h
  · cases h
  · rename_i h1; exact Decidable.not_not.1 h1

theorem alloc_spec (b : Nat) (f : Nat → Int) (n : Nat) (hG : Good f) : Sp Try.prog 37 #[.pointer (some ⟨b, 0, none⟩), .int .i64 n] [(b, C (encL f) 87)] (fun v F' => v = .tuple #[.int .u64 (allocF f n).ref, .int .u8 (allocF f n).st] ∧ F' = [(b, C (encL (allocF f n).f) 87)]) := by
  unfold allocF
  by_cases h1 : n = 0 ∨ 32 < n
  · rw [if_pos h1]; exact alloc_bad_spec b f n h1
  · rw [if_neg h1]
    obtain ⟨s, hs⟩ : ∃ s, (n + 1) / 2 * 2 = s := ⟨_, rfl⟩
    simp only [hs]
    by_cases h2 : lst f (s / 2 - 1) ≠ 0
    · rw [if_pos h2]
      rcases hG.lists (s / 2 - 1) (by omega) with h3 | ⟨x, h3, h4, h5, h6⟩
      · exact absurd h3 h2
      · have e5 : 2 * (s / 2 - 1 + 1) = s := by omega
        rw [e5] at h5 h6
        have hg := h6 x (by omega) (by omega)
        rw [h3, Int.toNat_natCast]
        have := alloc_list_spec b f x n s (by omega) (by omega) hs h3 h4 h5 h6 ((gen f x).toNat + 1) (by omega) (by have := hG.cn1; omega) (by have := hG.cn1; omega) (by have := hG.cn2; omega) (by have := hG.cn2; omega) (by have := hG.cn4; omega) (by have := hG.cn4; omega)
        have e : ((((gen f x).toNat + 1) * 65536 + x : Nat) : Int) = (((gen f x).toNat : Int) + 1) * 65536 + x := by omega
        rw [e] at this
        exact this
    · rw [if_neg h2]
      obtain ⟨x, g1, g2, g3, g4⟩ := hG.fresh
      have h0 : lst f (s / 2 - 1) = 0 := Decidable.not_not.1 h2
      by_cases h3 : fresh f + s ≤ 4096 ∧ boot f < 281474976710655
      · rw [if_pos h3, g1, Int.toNat_natCast]
        have hb := hG.boot
        have hgx := g4 x (by omega) (by omega)
        have := alloc_fresh_spec b f x n s (by omega) (by omega) hs h0 g1 h3.2 g2 (by omega) (fun c c1 c2 => by have := g4 c c1 (by omega); omega) ((gen f x).toNat + 1) (by omega) (by have := hG.cn1; omega) (by have := hG.cn1; omega) (by have := hG.cn2; omega) (by have := hG.cn2; omega) (by have := hG.cn4; omega) (by have := hG.cn4; omega)
        have e : ((((gen f x).toNat + 1) * 65536 + x : Nat) : Int) = (((gen f x).toNat : Int) + 1) * 65536 + x := by omega
        rw [e] at this
        exact this
      · rw [if_neg h3]
        exact alloc_oom_spec b f n s (by omega) (by omega) hs h0 (by omega) (by omega) (by have := hG.boot; omega) (by have := hG.boot; omega)
theorem free_spec (b : Nat) (f : Nat → Int) (r : Nat) (hG : Good f) : Sp Try.prog 34 #[.pointer (some ⟨b, 0, none⟩), .int .u64 r] [(b, C (encL f) 87)] (fun v F' => v = .int .u8 (freeF f r).st ∧ F' = [(b, C (encL (freeF f r).f) 87)]) := by
  unfold freeF
  by_cases h : judgeF f r ≠ 0
  · rw [if_pos h]; exact free_no_spec b f r h
  · rw [if_neg h]
    have h0 : judgeF f r = 0 := Decidable.not_not.1 h
    obtain ⟨s, s1, s2, s3, s4⟩ := hG.live r h0
    have ha := judge_addr h0
    have c1 := hG.cn1
    have c2 := hG.cn2
    have c3 := hG.cn3
    simp only [s1, Int.toNat_natCast]
    by_cases hg : gen f (r % 65536) = 281474976710655
    · rw [if_pos hg]
      exact free_spent_spec b f r _ s rfl h0 ha.1 s1 s2 s3 s4 c1.1 c1.2 c2.1 c2.2 c3.1 c3.2 hg
    · rw [if_neg hg]
      exact free_push_spec b f r _ s rfl h0 ha.1 s1 s2 s3 s4 c1.1 c1.2 c2.1 c2.2 c3.1 c3.2 hg



/-- one instruction: the answer, and the memory behind it -/
structure DR where
  ans : Ans
  f : Nat → Int
def doF (f : Nat → Int) (o : MOp) : DR :=
  if o.kd = 0 then ⟨if 2 ≤ o.x ∧ o.x < 4096 then ⟨0, false, word f o.x, 0⟩ else ⟨1, false, 0, 0⟩, f⟩
  else if o.kd = 1 then ⟨if 2 ≤ o.x ∧ o.x < 4096 then ⟨0, false, 0, 0⟩ else ⟨1, false, 0, 0⟩, storeF f o.x o.a⟩
  else if o.kd = 2 then ⟨if 2 ≤ o.x ∧ o.x < 4096 then ⟨0, decide (word f o.x = o.a), word f o.x, 0⟩ else ⟨1, false, 0, 0⟩, casF f o.x o.a o.b⟩
  else if o.kd = 3 then ⟨if 2 ≤ o.x ∧ o.x < 4096 then ⟨0, false, word f o.x, 0⟩ else ⟨1, false, 0, 0⟩, addF f o.x o.a⟩
  else if o.kd = 4 then ⟨if ¬ (2 ≤ o.x ∧ o.x < 4096) then ⟨1, false, 0, 0⟩ else if o.x % 2 ≠ 0 then ⟨2, false, 0, 0⟩ else ⟨0, decide (word f o.x = o.a ∧ word f (o.x + 1) = o.b), word f o.x, word f (o.x + 1)⟩, dcasF f o.x o.a o.b o.c o.d⟩
  else if o.kd = 5 then (if 32 < o.a then ⟨⟨3, false, 0, 0⟩, f⟩ else ⟨⟨(allocF f o.a).st, false, (allocF f o.a).ref, 0⟩, (allocF f o.a).f⟩)
  else if o.kd = 6 then ⟨⟨(freeF f o.a).st, false, 0, 0⟩, (freeF f o.a).f⟩
  else ⟨⟨7, false, 0, 0⟩, f⟩
def MOp.v (o : MOp) : Value := .agg ⟨o.vals⟩
theorem load_spec' (b : Nat) (f : Nat → Int) (x : Nat) (u t : Int) (h : (if 2 ≤ x ∧ x < 4096 then .tuple #[.int .u64 (word f x), .int .u8 0] else .tuple #[.int .u64 0, .int .u8 1] : Value) = .tuple #[.int .u64 u, .int .u8 t]) : Sp Try.prog 21 #[.pointer (some ⟨b, 0, none⟩), .int .u32 x] [(b, C (encL f) 87)] (fun v F' => v = .tuple #[.int .u64 u, .int .u8 t] ∧ F' = [(b, C (encL f) 87)]) := by
  rw [← h]; exact load_spec b f x


set_option maxHeartbeats 1000000 in
theorem do_load (b : Nat) (f f2 : Nat → Int) (kd x A B E D : Nat) (hk : kd = 0) (u t : Int) (hs : Sp Try.prog 21 #[.pointer (some ⟨b, 0, none⟩), .int .u32 x] [(b, C (encL (f)) 87)] (fun v F' => v = .tuple #[.int .u64 u, .int .u8 t] ∧ F' = [(b, C (encL f2) 87)])) : Sp Try.prog 39 #[.pointer (some ⟨b, 0, none⟩), .agg #[.int .u8 kd, .int .u32 x, .int .u64 A, .int .u64 B, .int .u64 E, .int .u64 D]] [(b, C (encL (f)) 87)] (fun v F' => v = .agg #[.int .u8 t, .bool false, .int .u64 u, .int .u64 0] ∧ F' = [(b, C (encL f2) 87)]) := by
  refine f_enter (args := [.pointer (some ⟨b, 0, none⟩), .agg #[.int .u8 kd, .int .u32 x, .int .u64 A, .int .u64 B, .int .u64 E, .int .u64 D]]) Try.func39 rfl Try.ntmps39 rfl ?_
  intro w0 w a hpre hl hh
  simp only [slotsFrom, Nat.reduceAdd] at hl
  refine c_seq ?_
  refine c_region ?_
  refine wl (w_box hl hh rfl trivial rfl rfl ?_)
  clear hl hh a w; intro k3 a w hl hh
  refine wl (w_alloc hl hh rfl trivial zero44 rfl ?_)
  clear hl hh a w; intro k4 a w hl hh
  refine w_nil ?_
  have hl2 := hl.add (t := 0) (hl.add (t := 3) (hl.add (t := 4) (hl.nil) rfl) rfl) rfl; clear hl; have hl := hl2; clear hl2
  refine then_normal ?_
  refine c_seq ?_
  refine c_region ?_
  refine wl (w_alloc hl hh rfl trivial zero44 rfl ?_)
  clear hl hh a w; intro k5 a w hl hh
  refine w_nil ?_
  have hl2 := hl.add (t := 0) (hl.add (t := 3) (hl.add (t := 4) (hl.add (t := 5) (hl.nil) rfl) rfl) rfl) rfl; clear hl; have hl := hl2; clear hl2
  refine then_normal ?_
  refine c_seq ?_
  refine c_seq ?_
  refine c_region ?_
  refine wl (wl_val hl rfl trivial (r_field hl rfl fld36_0) ?_)
  clear hl a; intro a hl
  refine wl (w_load hl hh rfl trivial one32 rfl (by repeat (first | exact find_head | apply find_tail)) (by first | rfl) ?_)
  clear hl a; intro a hl
  refine w_nil ?_
  have hl2 := hl.add (t := 0) (hl.add (t := 3) (hl.add (t := 4) (hl.add (t := 5) (hl.add (t := 9) (hl.nil) rfl) rfl) rfl) rfl) rfl; clear hl; have hl := hl2; clear hl2
  refine then_normal ?_
  refine wp_block ?_
  refine c_seq ?_
  refine c_region ?_
  refine wl (wl_val hl rfl trivial (r_eql hl rfl rfl) ?_)
  clear hl a; intro a hl
  refine wl (wl_val hl rfl trivial (r_assign hl rfl) ?_)
  clear hl a; intro a hl
  refine w_nil ?_
  have hl2 := hl.add (t := 0) (hl.add (t := 3) (hl.add (t := 4) (hl.add (t := 5) (hl.add (t := 9) (hl.add (t := 11) (hl.nil) rfl) rfl) rfl) rfl) rfl) rfl; clear hl; have hl := hl2; clear hl2
  refine then_normal ?_
  refine c_cond hl rfl ?_ ?_
  · intro hc0
    try simp only [decide_eq_true_eq, decide_eq_false_iff_not, Bool.not_eq_true', Bool.not_eq_false', Bool.not_eq_true, Bool.not_eq_false, Bool.and_eq_true, Bool.or_eq_true, Bool.and_eq_false_iff, Bool.or_eq_false_iff, Bool.not_not, ne_eq, Int.not_lt, Int.not_le, Decidable.not_not, beq_iff_eq, bne_iff_ne] at hc0
    refine c_region ?_
    refine wl (wl_val hl rfl trivial (r_move hl rfl) ?_)
    clear hl a; intro a hl
    refine wl (wl_val hl rfl trivial (r_field hl rfl fld36_1) ?_)
    clear hl a; intro a hl
    refine wl (w_load hl hh rfl trivial one34 rfl (by repeat (first | exact find_head | apply find_tail)) (by first | rfl) ?_)
    clear hl a; intro a hl
    refine wl (w_call hl hh rfl trivial rfl cal21 rfl (hs) (by repeat (first | exact keeps_nil | apply keeps_cons (by repeat (first | exact find_head | apply find_tail)) (by first  | rfl) | exact keeps_self | apply keeps_mv)) trivial ?_)
    clear hl hh a w; intro vc Fc a w hR hl hh
    obtain ⟨rfl, rfl⟩ := hR
    simp only [List.cons_append, List.nil_append] at hh
    refine wl (wl_val hl rfl trivial (r_move hl rfl) ?_)
    clear hl a; intro a hl
    refine wl (wl_val hl rfl trivial (r_extract hl rfl (by simp only [List.getElem?_toArray, List.getElem?_cons_zero, List.getElem?_cons_succ]; rfl)) ?_)
    clear hl a; intro a hl
    refine wl (wl_val hl rfl trivial (r_extract hl rfl (by simp only [List.getElem?_toArray, List.getElem?_cons_zero, List.getElem?_cons_succ]; rfl)) ?_)
    clear hl a; intro a hl
    refine wl (wl_val hl rfl trivial (r_field hl rfl fld44_2) ?_)
    clear hl a; intro a hl
    refine wl (w_store hl hh trivial one27 rfl rfl (by repeat (first | exact find_head | apply find_tail)) (by first | (simp; done) | (simp; omega)) (by first | rfl | (apply Row.one; assumption)) (by first | (simp only [setL, List.getElem?_cons_zero, List.getElem?_cons_succ, Value.cells, List.take_zero, List.take_succ_cons, List.take_nil, List.drop_zero, List.drop_succ_cons, List.drop_nil, List.length_cons, List.length_nil, List.cons_append, List.nil_append, List.append_nil, Nat.zero_add, Nat.add_zero, Nat.reduceAdd, Nat.reduceBEq, Nat.reduceEqDiff, Nat.ble, BEq.rfl, Bool.and_true, Bool.and_self, cond_true, beq_self_eq_true]; rfl)) ?_)
    clear hh w; intro w hh
    refine wl (wl_val hl rfl trivial (r_field hl rfl fld44_0) ?_)
    clear hl a; intro a hl
    refine wl (w_store hl hh trivial one42 rfl rfl (by repeat (first | exact find_head | apply find_tail)) (by first | (simp; done) | (simp; omega)) (by first | rfl | (apply Row.one; assumption)) (by first | (simp only [setL, List.getElem?_cons_zero, List.getElem?_cons_succ, Value.cells, List.take_zero, List.take_succ_cons, List.take_nil, List.drop_zero, List.drop_succ_cons, List.drop_nil, List.length_cons, List.length_nil, List.cons_append, List.nil_append, List.append_nil, Nat.zero_add, Nat.add_zero, Nat.reduceAdd, Nat.reduceBEq, Nat.reduceEqDiff, Nat.ble, BEq.rfl, Bool.and_true, Bool.and_self, cond_true, beq_self_eq_true]; rfl)) ?_)
    clear hh w; intro w hh
    refine w_nil ?_
    have hl2 := hl.add (t := 4) (hl.add (t := 5) (hl.nil) rfl) rfl; clear hl; have hl := hl2; clear hl2
    refine blk_normal ?_
    refine then_normal ?_
    refine c_seq ?_
    refine c_region ?_
    refine wl (w_loadA hl hh rfl trivial agg44 rfl (by repeat (first | exact find_head | apply find_tail)) (by first | (simp only [List.getElem?_cons_zero, List.getElem?_cons_succ, Value.cells, List.take_zero, List.take_succ_cons, List.take_nil, List.drop_zero, List.drop_succ_cons, List.drop_nil, List.length_cons, List.length_nil, List.cons_append, List.nil_append, List.append_nil, Nat.zero_add, Nat.add_zero, Nat.reduceAdd, Nat.reduceBEq, Nat.reduceEqDiff, Nat.ble, BEq.rfl, Bool.and_true, Bool.and_self, cond_true, beq_self_eq_true]; rfl)) (by first | rfl | (simp; done)) ?_)
    clear hl a; intro a hl
    refine wl (w_storeA hl hh trivial agg44 rfl rfl (by repeat (first | exact find_head | apply find_tail)) (by first | rfl | (simp; done)) (by first | (simp; done) | (simp; omega)) (by first | rfl | (simp; done)) (by first | (simp only [setL, List.getElem?_cons_zero, List.getElem?_cons_succ, Value.cells, List.take_zero, List.take_succ_cons, List.take_nil, List.drop_zero, List.drop_succ_cons, List.drop_nil, List.length_cons, List.length_nil, List.cons_append, List.nil_append, List.append_nil, Nat.zero_add, Nat.add_zero, Nat.reduceAdd, Nat.reduceBEq, Nat.reduceEqDiff, Nat.ble, BEq.rfl, Bool.and_true, Bool.and_self, cond_true, beq_self_eq_true]; rfl)) ?_)
    clear hh w; intro w hh
    refine w_nil ?_
    have hl2 := hl.add (t := 4) (hl.nil) rfl; clear hl; have hl := hl2; clear hl2
    refine then_normal ?_
    refine wp_ret ?_
    refine f_retC (F' := [(b, C (encL f2) 87)]) hl hh rfl rfl agg44 (by repeat (first | exact find_head | apply find_tail)) (by first | rfl | (simp; done)) (by repeat (first | exact keeps_nil | apply keeps_cons (by repeat (first | exact find_head | apply find_tail)) (by first  | rfl) | exact keeps_self | apply keeps_mv)) ?_
    exact ⟨rfl, rfl⟩
  · intro hc0
    try simp only [decide_eq_true_eq, decide_eq_false_iff_not, Bool.not_eq_true', Bool.not_eq_false', Bool.not_eq_true, Bool.not_eq_false, Bool.and_eq_true, Bool.or_eq_true, Bool.and_eq_false_iff, Bool.or_eq_false_iff, Bool.not_not, ne_eq, Int.not_lt, Int.not_le, Decidable.not_not, beq_iff_eq, bne_iff_ne] at hc0
    exfalso; omega

set_option maxHeartbeats 1000000 in
theorem do_store (b : Nat) (f f2 : Nat → Int) (kd x A B E D : Nat) (hk : kd = 1) (t : Int) (hs : Sp Try.prog 36 #[.pointer (some ⟨b, 0, none⟩), .int .u32 x, .int .u64 A] [(b, C (encL (f)) 87)] (fun v F' => v = .int .u8 t ∧ F' = [(b, C (encL f2) 87)])) : Sp Try.prog 39 #[.pointer (some ⟨b, 0, none⟩), .agg #[.int .u8 kd, .int .u32 x, .int .u64 A, .int .u64 B, .int .u64 E, .int .u64 D]] [(b, C (encL (f)) 87)] (fun v F' => v = .agg #[.int .u8 t, .bool false, .int .u64 0, .int .u64 0] ∧ F' = [(b, C (encL f2) 87)]) := by
  refine f_enter (args := [.pointer (some ⟨b, 0, none⟩), .agg #[.int .u8 kd, .int .u32 x, .int .u64 A, .int .u64 B, .int .u64 E, .int .u64 D]]) Try.func39 rfl Try.ntmps39 rfl ?_
  intro w0 w a hpre hl hh
  simp only [slotsFrom, Nat.reduceAdd] at hl
  refine c_seq ?_
  refine c_region ?_
  refine wl (w_box hl hh rfl trivial rfl rfl ?_)
  clear hl hh a w; intro k3 a w hl hh
  refine wl (w_alloc hl hh rfl trivial zero44 rfl ?_)
  clear hl hh a w; intro k4 a w hl hh
  refine w_nil ?_
  have hl2 := hl.add (t := 0) (hl.add (t := 3) (hl.add (t := 4) (hl.nil) rfl) rfl) rfl; clear hl; have hl := hl2; clear hl2
  refine then_normal ?_
  refine c_seq ?_
  refine c_region ?_
  refine wl (w_alloc hl hh rfl trivial zero44 rfl ?_)
  clear hl hh a w; intro k5 a w hl hh
  refine w_nil ?_
  have hl2 := hl.add (t := 0) (hl.add (t := 3) (hl.add (t := 4) (hl.add (t := 5) (hl.nil) rfl) rfl) rfl) rfl; clear hl; have hl := hl2; clear hl2
  refine then_normal ?_
  refine c_seq ?_
  refine c_seq ?_
  refine c_region ?_
  refine wl (wl_val hl rfl trivial (r_field hl rfl fld36_0) ?_)
  clear hl a; intro a hl
  refine wl (w_load hl hh rfl trivial one32 rfl (by repeat (first | exact find_head | apply find_tail)) (by first | rfl) ?_)
  clear hl a; intro a hl
  refine w_nil ?_
  have hl2 := hl.add (t := 0) (hl.add (t := 3) (hl.add (t := 4) (hl.add (t := 5) (hl.add (t := 9) (hl.nil) rfl) rfl) rfl) rfl) rfl; clear hl; have hl := hl2; clear hl2
  refine then_normal ?_
  refine wp_block ?_
  refine c_seq ?_
  refine c_region ?_
  refine wl (wl_val hl rfl trivial (r_eql hl rfl rfl) ?_)
  clear hl a; intro a hl
  refine wl (wl_val hl rfl trivial (r_assign hl rfl) ?_)
  clear hl a; intro a hl
  refine w_nil ?_
  have hl2 := hl.add (t := 0) (hl.add (t := 3) (hl.add (t := 4) (hl.add (t := 5) (hl.add (t := 9) (hl.add (t := 11) (hl.nil) rfl) rfl) rfl) rfl) rfl) rfl; clear hl; have hl := hl2; clear hl2
  refine then_normal ?_
  refine c_cond hl rfl ?_ ?_
  · intro hc0
    try simp only [decide_eq_true_eq, decide_eq_false_iff_not, Bool.not_eq_true', Bool.not_eq_false', Bool.not_eq_true, Bool.not_eq_false, Bool.and_eq_true, Bool.or_eq_true, Bool.and_eq_false_iff, Bool.or_eq_false_iff, Bool.not_not, ne_eq, Int.not_lt, Int.not_le, Decidable.not_not, beq_iff_eq, bne_iff_ne] at hc0
    exfalso; omega
  · intro hc0
    try simp only [decide_eq_true_eq, decide_eq_false_iff_not, Bool.not_eq_true', Bool.not_eq_false', Bool.not_eq_true, Bool.not_eq_false, Bool.and_eq_true, Bool.or_eq_true, Bool.and_eq_false_iff, Bool.or_eq_false_iff, Bool.not_not, ne_eq, Int.not_lt, Int.not_le, Decidable.not_not, beq_iff_eq, bne_iff_ne] at hc0
    refine c_seq ?_
    refine c_region ?_
    refine wl (wl_val hl rfl trivial (r_eql hl rfl rfl) ?_)
    clear hl a; intro a hl
    refine wl (wl_val hl rfl trivial (r_assign hl rfl) ?_)
    clear hl a; intro a hl
    refine w_nil ?_
    have hl2 := hl.add (t := 0) (hl.add (t := 3) (hl.add (t := 4) (hl.add (t := 5) (hl.add (t := 9) (hl.add (t := 22) (hl.nil) rfl) rfl) rfl) rfl) rfl) rfl; clear hl; have hl := hl2; clear hl2
    refine then_normal ?_
    refine c_cond hl rfl ?_ ?_
    · intro hc1
      try simp only [decide_eq_true_eq, decide_eq_false_iff_not, Bool.not_eq_true', Bool.not_eq_false', Bool.not_eq_true, Bool.not_eq_false, Bool.and_eq_true, Bool.or_eq_true, Bool.and_eq_false_iff, Bool.or_eq_false_iff, Bool.not_not, ne_eq, Int.not_lt, Int.not_le, Decidable.not_not, beq_iff_eq, bne_iff_ne] at hc1
      refine c_region ?_
      refine wl (wl_val hl rfl trivial (r_move hl rfl) ?_)
      clear hl a; intro a hl
      refine wl (wl_val hl rfl trivial (r_field hl rfl fld36_1) ?_)
      clear hl a; intro a hl
      refine wl (w_load hl hh rfl trivial one34 rfl (by repeat (first | exact find_head | apply find_tail)) (by first | rfl) ?_)
      clear hl a; intro a hl
      refine wl (wl_val hl rfl trivial (r_field hl rfl fld36_2) ?_)
      clear hl a; intro a hl
      refine wl (w_load hl hh rfl trivial one27 rfl (by repeat (first | exact find_head | apply find_tail)) (by first | rfl) ?_)
      clear hl a; intro a hl
      refine wl (w_call hl hh rfl trivial rfl cal36 rfl (hs) (by repeat (first | exact keeps_nil | apply keeps_cons (by repeat (first | exact find_head | apply find_tail)) (by first  | rfl) | exact keeps_self | apply keeps_mv)) trivial ?_)
      clear hl hh a w; intro vc Fc a w hR hl hh
      obtain ⟨rfl, rfl⟩ := hR
      simp only [List.cons_append, List.nil_append] at hh
      refine wl (wl_val hl rfl trivial (r_field hl rfl fld44_0) ?_)
      clear hl a; intro a hl
      refine wl (w_store hl hh trivial one42 rfl rfl (by repeat (first | exact find_head | apply find_tail)) (by first | (simp; done) | (simp; omega)) (by first | rfl | (apply Row.one; assumption)) (by first | (simp only [setL, List.getElem?_cons_zero, List.getElem?_cons_succ, Value.cells, List.take_zero, List.take_succ_cons, List.take_nil, List.drop_zero, List.drop_succ_cons, List.drop_nil, List.length_cons, List.length_nil, List.cons_append, List.nil_append, List.append_nil, Nat.zero_add, Nat.add_zero, Nat.reduceAdd, Nat.reduceBEq, Nat.reduceEqDiff, Nat.ble, BEq.rfl, Bool.and_true, Bool.and_self, cond_true, beq_self_eq_true]; rfl)) ?_)
      clear hh w; intro w hh
      refine w_nil ?_
      have hl2 := hl.add (t := 4) (hl.add (t := 5) (hl.nil) rfl) rfl; clear hl; have hl := hl2; clear hl2
      refine blk_normal ?_
      refine then_normal ?_
      refine c_seq ?_
      refine c_region ?_
      refine wl (w_loadA hl hh rfl trivial agg44 rfl (by repeat (first | exact find_head | apply find_tail)) (by first | (simp only [List.getElem?_cons_zero, List.getElem?_cons_succ, Value.cells, List.take_zero, List.take_succ_cons, List.take_nil, List.drop_zero, List.drop_succ_cons, List.drop_nil, List.length_cons, List.length_nil, List.cons_append, List.nil_append, List.append_nil, Nat.zero_add, Nat.add_zero, Nat.reduceAdd, Nat.reduceBEq, Nat.reduceEqDiff, Nat.ble, BEq.rfl, Bool.and_true, Bool.and_self, cond_true, beq_self_eq_true]; rfl)) (by first | rfl | (simp; done)) ?_)
      clear hl a; intro a hl
      refine wl (w_storeA hl hh trivial agg44 rfl rfl (by repeat (first | exact find_head | apply find_tail)) (by first | rfl | (simp; done)) (by first | (simp; done) | (simp; omega)) (by first | rfl | (simp; done)) (by first | (simp only [setL, List.getElem?_cons_zero, List.getElem?_cons_succ, Value.cells, List.take_zero, List.take_succ_cons, List.take_nil, List.drop_zero, List.drop_succ_cons, List.drop_nil, List.length_cons, List.length_nil, List.cons_append, List.nil_append, List.append_nil, Nat.zero_add, Nat.add_zero, Nat.reduceAdd, Nat.reduceBEq, Nat.reduceEqDiff, Nat.ble, BEq.rfl, Bool.and_true, Bool.and_self, cond_true, beq_self_eq_true]; rfl)) ?_)
      clear hh w; intro w hh
      refine w_nil ?_
      have hl2 := hl.add (t := 4) (hl.nil) rfl; clear hl; have hl := hl2; clear hl2
      refine then_normal ?_
      refine wp_ret ?_
      refine f_retC (F' := [(b, C (encL f2) 87)]) hl hh rfl rfl agg44 (by repeat (first | exact find_head | apply find_tail)) (by first | rfl | (simp; done)) (by repeat (first | exact keeps_nil | apply keeps_cons (by repeat (first | exact find_head | apply find_tail)) (by first  | rfl) | exact keeps_self | apply keeps_mv)) ?_
      exact ⟨rfl, rfl⟩
    · intro hc1
      try simp only [decide_eq_true_eq, decide_eq_false_iff_not, Bool.not_eq_true', Bool.not_eq_false', Bool.not_eq_true, Bool.not_eq_false, Bool.and_eq_true, Bool.or_eq_true, Bool.and_eq_false_iff, Bool.or_eq_false_iff, Bool.not_not, ne_eq, Int.not_lt, Int.not_le, Decidable.not_not, beq_iff_eq, bne_iff_ne] at hc1
      exfalso; omega

set_option maxHeartbeats 1000000 in
theorem do_cas (b : Nat) (f f2 : Nat → Int) (kd x A B E D : Nat) (hk : kd = 2) (u : Int) (p : Bool) (t : Int) (hs : Sp Try.prog 47 #[.pointer (some ⟨b, 0, none⟩), .int .u32 x, .int .u64 A, .int .u64 B] [(b, C (encL (f)) 87)] (fun v F' => v = .tuple #[.int .u64 u, .bool p, .int .u8 t] ∧ F' = [(b, C (encL f2) 87)])) : Sp Try.prog 39 #[.pointer (some ⟨b, 0, none⟩), .agg #[.int .u8 kd, .int .u32 x, .int .u64 A, .int .u64 B, .int .u64 E, .int .u64 D]] [(b, C (encL (f)) 87)] (fun v F' => v = .agg #[.int .u8 t, .bool p, .int .u64 u, .int .u64 0] ∧ F' = [(b, C (encL f2) 87)]) := by
  refine f_enter (args := [.pointer (some ⟨b, 0, none⟩), .agg #[.int .u8 kd, .int .u32 x, .int .u64 A, .int .u64 B, .int .u64 E, .int .u64 D]]) Try.func39 rfl Try.ntmps39 rfl ?_
  intro w0 w a hpre hl hh
  simp only [slotsFrom, Nat.reduceAdd] at hl
  refine c_seq ?_
  refine c_region ?_
  refine wl (w_box hl hh rfl trivial rfl rfl ?_)
  clear hl hh a w; intro k3 a w hl hh
  refine wl (w_alloc hl hh rfl trivial zero44 rfl ?_)
  clear hl hh a w; intro k4 a w hl hh
  refine w_nil ?_
  have hl2 := hl.add (t := 0) (hl.add (t := 3) (hl.add (t := 4) (hl.nil) rfl) rfl) rfl; clear hl; have hl := hl2; clear hl2
  refine then_normal ?_
  refine c_seq ?_
  refine c_region ?_
  refine wl (w_alloc hl hh rfl trivial zero44 rfl ?_)
  clear hl hh a w; intro k5 a w hl hh
  refine w_nil ?_
  have hl2 := hl.add (t := 0) (hl.add (t := 3) (hl.add (t := 4) (hl.add (t := 5) (hl.nil) rfl) rfl) rfl) rfl; clear hl; have hl := hl2; clear hl2
  refine then_normal ?_
  refine c_seq ?_
  refine c_seq ?_
  refine c_region ?_
  refine wl (wl_val hl rfl trivial (r_field hl rfl fld36_0) ?_)
  clear hl a; intro a hl
  refine wl (w_load hl hh rfl trivial one32 rfl (by repeat (first | exact find_head | apply find_tail)) (by first | rfl) ?_)
  clear hl a; intro a hl
  refine w_nil ?_
  have hl2 := hl.add (t := 0) (hl.add (t := 3) (hl.add (t := 4) (hl.add (t := 5) (hl.add (t := 9) (hl.nil) rfl) rfl) rfl) rfl) rfl; clear hl; have hl := hl2; clear hl2
  refine then_normal ?_
  refine wp_block ?_
  refine c_seq ?_
  refine c_region ?_
  refine wl (wl_val hl rfl trivial (r_eql hl rfl rfl) ?_)
  clear hl a; intro a hl
  refine wl (wl_val hl rfl trivial (r_assign hl rfl) ?_)
  clear hl a; intro a hl
  refine w_nil ?_
  have hl2 := hl.add (t := 0) (hl.add (t := 3) (hl.add (t := 4) (hl.add (t := 5) (hl.add (t := 9) (hl.add (t := 11) (hl.nil) rfl) rfl) rfl) rfl) rfl) rfl; clear hl; have hl := hl2; clear hl2
  refine then_normal ?_
  refine c_cond hl rfl ?_ ?_
  · intro hc0
    try simp only [decide_eq_true_eq, decide_eq_false_iff_not, Bool.not_eq_true', Bool.not_eq_false', Bool.not_eq_true, Bool.not_eq_false, Bool.and_eq_true, Bool.or_eq_true, Bool.and_eq_false_iff, Bool.or_eq_false_iff, Bool.not_not, ne_eq, Int.not_lt, Int.not_le, Decidable.not_not, beq_iff_eq, bne_iff_ne] at hc0
    exfalso; omega
  · intro hc0
    try simp only [decide_eq_true_eq, decide_eq_false_iff_not, Bool.not_eq_true', Bool.not_eq_false', Bool.not_eq_true, Bool.not_eq_false, Bool.and_eq_true, Bool.or_eq_true, Bool.and_eq_false_iff, Bool.or_eq_false_iff, Bool.not_not, ne_eq, Int.not_lt, Int.not_le, Decidable.not_not, beq_iff_eq, bne_iff_ne] at hc0
    refine c_seq ?_
    refine c_region ?_
    refine wl (wl_val hl rfl trivial (r_eql hl rfl rfl) ?_)
    clear hl a; intro a hl
    refine wl (wl_val hl rfl trivial (r_assign hl rfl) ?_)
    clear hl a; intro a hl
    refine w_nil ?_
    have hl2 := hl.add (t := 0) (hl.add (t := 3) (hl.add (t := 4) (hl.add (t := 5) (hl.add (t := 9) (hl.add (t := 22) (hl.nil) rfl) rfl) rfl) rfl) rfl) rfl; clear hl; have hl := hl2; clear hl2
    refine then_normal ?_
    refine c_cond hl rfl ?_ ?_
    · intro hc1
      try simp only [decide_eq_true_eq, decide_eq_false_iff_not, Bool.not_eq_true', Bool.not_eq_false', Bool.not_eq_true, Bool.not_eq_false, Bool.and_eq_true, Bool.or_eq_true, Bool.and_eq_false_iff, Bool.or_eq_false_iff, Bool.not_not, ne_eq, Int.not_lt, Int.not_le, Decidable.not_not, beq_iff_eq, bne_iff_ne] at hc1
      exfalso; omega
    · intro hc1
      try simp only [decide_eq_true_eq, decide_eq_false_iff_not, Bool.not_eq_true', Bool.not_eq_false', Bool.not_eq_true, Bool.not_eq_false, Bool.and_eq_true, Bool.or_eq_true, Bool.and_eq_false_iff, Bool.or_eq_false_iff, Bool.not_not, ne_eq, Int.not_lt, Int.not_le, Decidable.not_not, beq_iff_eq, bne_iff_ne] at hc1
      refine c_seq ?_
      refine c_region ?_
      refine wl (wl_val hl rfl trivial (r_eql hl rfl rfl) ?_)
      clear hl a; intro a hl
      refine wl (wl_val hl rfl trivial (r_assign hl rfl) ?_)
      clear hl a; intro a hl
      refine w_nil ?_
      have hl2 := hl.add (t := 0) (hl.add (t := 3) (hl.add (t := 4) (hl.add (t := 5) (hl.add (t := 9) (hl.add (t := 31) (hl.nil) rfl) rfl) rfl) rfl) rfl) rfl; clear hl; have hl := hl2; clear hl2
      refine then_normal ?_
      refine c_cond hl rfl ?_ ?_
      · intro hc2
        try simp only [decide_eq_true_eq, decide_eq_false_iff_not, Bool.not_eq_true', Bool.not_eq_false', Bool.not_eq_true, Bool.not_eq_false, Bool.and_eq_true, Bool.or_eq_true, Bool.and_eq_false_iff, Bool.or_eq_false_iff, Bool.not_not, ne_eq, Int.not_lt, Int.not_le, Decidable.not_not, beq_iff_eq, bne_iff_ne] at hc2
        refine c_region ?_
        refine wl (wl_val hl rfl trivial (r_move hl rfl) ?_)
        clear hl a; intro a hl
        refine wl (wl_val hl rfl trivial (r_field hl rfl fld36_1) ?_)
        clear hl a; intro a hl
        refine wl (w_load hl hh rfl trivial one34 rfl (by repeat (first | exact find_head | apply find_tail)) (by first | rfl) ?_)
        clear hl a; intro a hl
        refine wl (wl_val hl rfl trivial (r_field hl rfl fld36_2) ?_)
        clear hl a; intro a hl
        refine wl (w_load hl hh rfl trivial one27 rfl (by repeat (first | exact find_head | apply find_tail)) (by first | rfl) ?_)
        clear hl a; intro a hl
        refine wl (wl_val hl rfl trivial (r_field hl rfl fld36_3) ?_)
        clear hl a; intro a hl
        refine wl (w_load hl hh rfl trivial one27 rfl (by repeat (first | exact find_head | apply find_tail)) (by first | rfl) ?_)
        clear hl a; intro a hl
        refine wl (w_call hl hh rfl trivial rfl cal47 rfl (hs) (by repeat (first | exact keeps_nil | apply keeps_cons (by repeat (first | exact find_head | apply find_tail)) (by first  | rfl) | exact keeps_self | apply keeps_mv)) trivial ?_)
        clear hl hh a w; intro vc Fc a w hR hl hh
        obtain ⟨rfl, rfl⟩ := hR
        simp only [List.cons_append, List.nil_append] at hh
        refine wl (wl_val hl rfl trivial (r_move hl rfl) ?_)
        clear hl a; intro a hl
        refine wl (wl_val hl rfl trivial (r_extract hl rfl (by simp only [List.getElem?_toArray, List.getElem?_cons_zero, List.getElem?_cons_succ]; rfl)) ?_)
        clear hl a; intro a hl
        refine wl (wl_val hl rfl trivial (r_extract hl rfl (by simp only [List.getElem?_toArray, List.getElem?_cons_zero, List.getElem?_cons_succ]; rfl)) ?_)
        clear hl a; intro a hl
        refine wl (wl_val hl rfl trivial (r_extract hl rfl (by simp only [List.getElem?_toArray, List.getElem?_cons_zero, List.getElem?_cons_succ]; rfl)) ?_)
        clear hl a; intro a hl
        refine wl (wl_val hl rfl trivial (r_field hl rfl fld44_2) ?_)
        clear hl a; intro a hl
        refine wl (w_store hl hh trivial one27 rfl rfl (by repeat (first | exact find_head | apply find_tail)) (by first | (simp; done) | (simp; omega)) (by first | rfl | (apply Row.one; assumption)) (by first | (simp only [setL, List.getElem?_cons_zero, List.getElem?_cons_succ, Value.cells, List.take_zero, List.take_succ_cons, List.take_nil, List.drop_zero, List.drop_succ_cons, List.drop_nil, List.length_cons, List.length_nil, List.cons_append, List.nil_append, List.append_nil, Nat.zero_add, Nat.add_zero, Nat.reduceAdd, Nat.reduceBEq, Nat.reduceEqDiff, Nat.ble, BEq.rfl, Bool.and_true, Bool.and_self, cond_true, beq_self_eq_true]; rfl)) ?_)
        clear hh w; intro w hh
        refine wl (wl_val hl rfl trivial (r_field hl rfl fld44_1) ?_)
        clear hl a; intro a hl
        refine wl (w_store hl hh trivial one4 rfl rfl (by repeat (first | exact find_head | apply find_tail)) (by first | (simp; done) | (simp; omega)) (by first | rfl | (apply Row.one; assumption)) (by first | (simp only [setL, List.getElem?_cons_zero, List.getElem?_cons_succ, Value.cells, List.take_zero, List.take_succ_cons, List.take_nil, List.drop_zero, List.drop_succ_cons, List.drop_nil, List.length_cons, List.length_nil, List.cons_append, List.nil_append, List.append_nil, Nat.zero_add, Nat.add_zero, Nat.reduceAdd, Nat.reduceBEq, Nat.reduceEqDiff, Nat.ble, BEq.rfl, Bool.and_true, Bool.and_self, cond_true, beq_self_eq_true]; rfl)) ?_)
        clear hh w; intro w hh
        refine wl (wl_val hl rfl trivial (r_field hl rfl fld44_0) ?_)
        clear hl a; intro a hl
        refine wl (w_store hl hh trivial one42 rfl rfl (by repeat (first | exact find_head | apply find_tail)) (by first | (simp; done) | (simp; omega)) (by first | rfl | (apply Row.one; assumption)) (by first | (simp only [setL, List.getElem?_cons_zero, List.getElem?_cons_succ, Value.cells, List.take_zero, List.take_succ_cons, List.take_nil, List.drop_zero, List.drop_succ_cons, List.drop_nil, List.length_cons, List.length_nil, List.cons_append, List.nil_append, List.append_nil, Nat.zero_add, Nat.add_zero, Nat.reduceAdd, Nat.reduceBEq, Nat.reduceEqDiff, Nat.ble, BEq.rfl, Bool.and_true, Bool.and_self, cond_true, beq_self_eq_true]; rfl)) ?_)
        clear hh w; intro w hh
        refine w_nil ?_
        have hl2 := hl.add (t := 4) (hl.add (t := 5) (hl.nil) rfl) rfl; clear hl; have hl := hl2; clear hl2
        refine blk_normal ?_
        refine then_normal ?_
        refine c_seq ?_
        refine c_region ?_
        refine wl (w_loadA hl hh rfl trivial agg44 rfl (by repeat (first | exact find_head | apply find_tail)) (by first | (simp only [List.getElem?_cons_zero, List.getElem?_cons_succ, Value.cells, List.take_zero, List.take_succ_cons, List.take_nil, List.drop_zero, List.drop_succ_cons, List.drop_nil, List.length_cons, List.length_nil, List.cons_append, List.nil_append, List.append_nil, Nat.zero_add, Nat.add_zero, Nat.reduceAdd, Nat.reduceBEq, Nat.reduceEqDiff, Nat.ble, BEq.rfl, Bool.and_true, Bool.and_self, cond_true, beq_self_eq_true]; rfl)) (by first | rfl | (simp; done)) ?_)
        clear hl a; intro a hl
        refine wl (w_storeA hl hh trivial agg44 rfl rfl (by repeat (first | exact find_head | apply find_tail)) (by first | rfl | (simp; done)) (by first | (simp; done) | (simp; omega)) (by first | rfl | (simp; done)) (by first | (simp only [setL, List.getElem?_cons_zero, List.getElem?_cons_succ, Value.cells, List.take_zero, List.take_succ_cons, List.take_nil, List.drop_zero, List.drop_succ_cons, List.drop_nil, List.length_cons, List.length_nil, List.cons_append, List.nil_append, List.append_nil, Nat.zero_add, Nat.add_zero, Nat.reduceAdd, Nat.reduceBEq, Nat.reduceEqDiff, Nat.ble, BEq.rfl, Bool.and_true, Bool.and_self, cond_true, beq_self_eq_true]; rfl)) ?_)
        clear hh w; intro w hh
        refine w_nil ?_
        have hl2 := hl.add (t := 4) (hl.nil) rfl; clear hl; have hl := hl2; clear hl2
        refine then_normal ?_
        refine wp_ret ?_
        refine f_retC (F' := [(b, C (encL f2) 87)]) hl hh rfl rfl agg44 (by repeat (first | exact find_head | apply find_tail)) (by first | rfl | (simp; done)) (by repeat (first | exact keeps_nil | apply keeps_cons (by repeat (first | exact find_head | apply find_tail)) (by first  | rfl) | exact keeps_self | apply keeps_mv)) ?_
        exact ⟨rfl, rfl⟩
      · intro hc2
        try simp only [decide_eq_true_eq, decide_eq_false_iff_not, Bool.not_eq_true', Bool.not_eq_false', Bool.not_eq_true, Bool.not_eq_false, Bool.and_eq_true, Bool.or_eq_true, Bool.and_eq_false_iff, Bool.or_eq_false_iff, Bool.not_not, ne_eq, Int.not_lt, Int.not_le, Decidable.not_not, beq_iff_eq, bne_iff_ne] at hc2
        exfalso; omega

set_option maxHeartbeats 1000000 in
theorem do_add (b : Nat) (f f2 : Nat → Int) (kd x A B E D : Nat) (hk : kd = 3) (u t : Int) (hs : Sp Try.prog 48 #[.pointer (some ⟨b, 0, none⟩), .int .u32 x, .int .u64 A] [(b, C (encL (f)) 87)] (fun v F' => v = .tuple #[.int .u64 u, .int .u8 t] ∧ F' = [(b, C (encL f2) 87)])) : Sp Try.prog 39 #[.pointer (some ⟨b, 0, none⟩), .agg #[.int .u8 kd, .int .u32 x, .int .u64 A, .int .u64 B, .int .u64 E, .int .u64 D]] [(b, C (encL (f)) 87)] (fun v F' => v = .agg #[.int .u8 t, .bool false, .int .u64 u, .int .u64 0] ∧ F' = [(b, C (encL f2) 87)]) := by
  refine f_enter (args := [.pointer (some ⟨b, 0, none⟩), .agg #[.int .u8 kd, .int .u32 x, .int .u64 A, .int .u64 B, .int .u64 E, .int .u64 D]]) Try.func39 rfl Try.ntmps39 rfl ?_
  intro w0 w a hpre hl hh
  simp only [slotsFrom, Nat.reduceAdd] at hl
  refine c_seq ?_
  refine c_region ?_
  refine wl (w_box hl hh rfl trivial rfl rfl ?_)
  clear hl hh a w; intro k3 a w hl hh
  refine wl (w_alloc hl hh rfl trivial zero44 rfl ?_)
  clear hl hh a w; intro k4 a w hl hh
  refine w_nil ?_
  have hl2 := hl.add (t := 0) (hl.add (t := 3) (hl.add (t := 4) (hl.nil) rfl) rfl) rfl; clear hl; have hl := hl2; clear hl2
  refine then_normal ?_
  refine c_seq ?_
  refine c_region ?_
  refine wl (w_alloc hl hh rfl trivial zero44 rfl ?_)
  clear hl hh a w; intro k5 a w hl hh
  refine w_nil ?_
  have hl2 := hl.add (t := 0) (hl.add (t := 3) (hl.add (t := 4) (hl.add (t := 5) (hl.nil) rfl) rfl) rfl) rfl; clear hl; have hl := hl2; clear hl2
  refine then_normal ?_
  refine c_seq ?_
  refine c_seq ?_
  refine c_region ?_
  refine wl (wl_val hl rfl trivial (r_field hl rfl fld36_0) ?_)
  clear hl a; intro a hl
  refine wl (w_load hl hh rfl trivial one32 rfl (by repeat (first | exact find_head | apply find_tail)) (by first | rfl) ?_)
  clear hl a; intro a hl
  refine w_nil ?_
  have hl2 := hl.add (t := 0) (hl.add (t := 3) (hl.add (t := 4) (hl.add (t := 5) (hl.add (t := 9) (hl.nil) rfl) rfl) rfl) rfl) rfl; clear hl; have hl := hl2; clear hl2
  refine then_normal ?_
  refine wp_block ?_
  refine c_seq ?_
  refine c_region ?_
  refine wl (wl_val hl rfl trivial (r_eql hl rfl rfl) ?_)
  clear hl a; intro a hl
  refine wl (wl_val hl rfl trivial (r_assign hl rfl) ?_)
  clear hl a; intro a hl
  refine w_nil ?_
  have hl2 := hl.add (t := 0) (hl.add (t := 3) (hl.add (t := 4) (hl.add (t := 5) (hl.add (t := 9) (hl.add (t := 11) (hl.nil) rfl) rfl) rfl) rfl) rfl) rfl; clear hl; have hl := hl2; clear hl2
  refine then_normal ?_
  refine c_cond hl rfl ?_ ?_
  · intro hc0
    try simp only [decide_eq_true_eq, decide_eq_false_iff_not, Bool.not_eq_true', Bool.not_eq_false', Bool.not_eq_true, Bool.not_eq_false, Bool.and_eq_true, Bool.or_eq_true, Bool.and_eq_false_iff, Bool.or_eq_false_iff, Bool.not_not, ne_eq, Int.not_lt, Int.not_le, Decidable.not_not, beq_iff_eq, bne_iff_ne] at hc0
    exfalso; omega
  · intro hc0
    try simp only [decide_eq_true_eq, decide_eq_false_iff_not, Bool.not_eq_true', Bool.not_eq_false', Bool.not_eq_true, Bool.not_eq_false, Bool.and_eq_true, Bool.or_eq_true, Bool.and_eq_false_iff, Bool.or_eq_false_iff, Bool.not_not, ne_eq, Int.not_lt, Int.not_le, Decidable.not_not, beq_iff_eq, bne_iff_ne] at hc0
    refine c_seq ?_
    refine c_region ?_
    refine wl (wl_val hl rfl trivial (r_eql hl rfl rfl) ?_)
    clear hl a; intro a hl
    refine wl (wl_val hl rfl trivial (r_assign hl rfl) ?_)
    clear hl a; intro a hl
    refine w_nil ?_
    have hl2 := hl.add (t := 0) (hl.add (t := 3) (hl.add (t := 4) (hl.add (t := 5) (hl.add (t := 9) (hl.add (t := 22) (hl.nil) rfl) rfl) rfl) rfl) rfl) rfl; clear hl; have hl := hl2; clear hl2
    refine then_normal ?_
    refine c_cond hl rfl ?_ ?_
    · intro hc1
      try simp only [decide_eq_true_eq, decide_eq_false_iff_not, Bool.not_eq_true', Bool.not_eq_false', Bool.not_eq_true, Bool.not_eq_false, Bool.and_eq_true, Bool.or_eq_true, Bool.and_eq_false_iff, Bool.or_eq_false_iff, Bool.not_not, ne_eq, Int.not_lt, Int.not_le, Decidable.not_not, beq_iff_eq, bne_iff_ne] at hc1
      exfalso; omega
    · intro hc1
      try simp only [decide_eq_true_eq, decide_eq_false_iff_not, Bool.not_eq_true', Bool.not_eq_false', Bool.not_eq_true, Bool.not_eq_false, Bool.and_eq_true, Bool.or_eq_true, Bool.and_eq_false_iff, Bool.or_eq_false_iff, Bool.not_not, ne_eq, Int.not_lt, Int.not_le, Decidable.not_not, beq_iff_eq, bne_iff_ne] at hc1
      refine c_seq ?_
      refine c_region ?_
      refine wl (wl_val hl rfl trivial (r_eql hl rfl rfl) ?_)
      clear hl a; intro a hl
      refine wl (wl_val hl rfl trivial (r_assign hl rfl) ?_)
      clear hl a; intro a hl
      refine w_nil ?_
      have hl2 := hl.add (t := 0) (hl.add (t := 3) (hl.add (t := 4) (hl.add (t := 5) (hl.add (t := 9) (hl.add (t := 31) (hl.nil) rfl) rfl) rfl) rfl) rfl) rfl; clear hl; have hl := hl2; clear hl2
      refine then_normal ?_
      refine c_cond hl rfl ?_ ?_
      · intro hc2
        try simp only [decide_eq_true_eq, decide_eq_false_iff_not, Bool.not_eq_true', Bool.not_eq_false', Bool.not_eq_true, Bool.not_eq_false, Bool.and_eq_true, Bool.or_eq_true, Bool.and_eq_false_iff, Bool.or_eq_false_iff, Bool.not_not, ne_eq, Int.not_lt, Int.not_le, Decidable.not_not, beq_iff_eq, bne_iff_ne] at hc2
        exfalso; omega
      · intro hc2
        try simp only [decide_eq_true_eq, decide_eq_false_iff_not, Bool.not_eq_true', Bool.not_eq_false', Bool.not_eq_true, Bool.not_eq_false, Bool.and_eq_true, Bool.or_eq_true, Bool.and_eq_false_iff, Bool.or_eq_false_iff, Bool.not_not, ne_eq, Int.not_lt, Int.not_le, Decidable.not_not, beq_iff_eq, bne_iff_ne] at hc2
        refine c_seq ?_
        refine c_region ?_
        refine wl (wl_val hl rfl trivial (r_eql hl rfl rfl) ?_)
        clear hl a; intro a hl
        refine wl (wl_val hl rfl trivial (r_assign hl rfl) ?_)
        clear hl a; intro a hl
        refine w_nil ?_
        have hl2 := hl.add (t := 0) (hl.add (t := 3) (hl.add (t := 4) (hl.add (t := 5) (hl.add (t := 9) (hl.add (t := 48) (hl.nil) rfl) rfl) rfl) rfl) rfl) rfl; clear hl; have hl := hl2; clear hl2
        refine then_normal ?_
        refine c_cond hl rfl ?_ ?_
        · intro hc3
          try simp only [decide_eq_true_eq, decide_eq_false_iff_not, Bool.not_eq_true', Bool.not_eq_false', Bool.not_eq_true, Bool.not_eq_false, Bool.and_eq_true, Bool.or_eq_true, Bool.and_eq_false_iff, Bool.or_eq_false_iff, Bool.not_not, ne_eq, Int.not_lt, Int.not_le, Decidable.not_not, beq_iff_eq, bne_iff_ne] at hc3
          refine c_region ?_
          refine wl (wl_val hl rfl trivial (r_move hl rfl) ?_)
          clear hl a; intro a hl
          refine wl (wl_val hl rfl trivial (r_field hl rfl fld36_1) ?_)
          clear hl a; intro a hl
          refine wl (w_load hl hh rfl trivial one34 rfl (by repeat (first | exact find_head | apply find_tail)) (by first | rfl) ?_)
          clear hl a; intro a hl
          refine wl (wl_val hl rfl trivial (r_field hl rfl fld36_2) ?_)
          clear hl a; intro a hl
          refine wl (w_load hl hh rfl trivial one27 rfl (by repeat (first | exact find_head | apply find_tail)) (by first | rfl) ?_)
          clear hl a; intro a hl
          refine wl (w_call hl hh rfl trivial rfl cal48 rfl (hs) (by repeat (first | exact keeps_nil | apply keeps_cons (by repeat (first | exact find_head | apply find_tail)) (by first  | rfl) | exact keeps_self | apply keeps_mv)) trivial ?_)
          clear hl hh a w; intro vc Fc a w hR hl hh
          obtain ⟨rfl, rfl⟩ := hR
          simp only [List.cons_append, List.nil_append] at hh
          refine wl (wl_val hl rfl trivial (r_move hl rfl) ?_)
          clear hl a; intro a hl
          refine wl (wl_val hl rfl trivial (r_extract hl rfl (by simp only [List.getElem?_toArray, List.getElem?_cons_zero, List.getElem?_cons_succ]; rfl)) ?_)
          clear hl a; intro a hl
          refine wl (wl_val hl rfl trivial (r_extract hl rfl (by simp only [List.getElem?_toArray, List.getElem?_cons_zero, List.getElem?_cons_succ]; rfl)) ?_)
          clear hl a; intro a hl
          refine wl (wl_val hl rfl trivial (r_field hl rfl fld44_2) ?_)
          clear hl a; intro a hl
          refine wl (w_store hl hh trivial one27 rfl rfl (by repeat (first | exact find_head | apply find_tail)) (by first | (simp; done) | (simp; omega)) (by first | rfl | (apply Row.one; assumption)) (by first | (simp only [setL, List.getElem?_cons_zero, List.getElem?_cons_succ, Value.cells, List.take_zero, List.take_succ_cons, List.take_nil, List.drop_zero, List.drop_succ_cons, List.drop_nil, List.length_cons, List.length_nil, List.cons_append, List.nil_append, List.append_nil, Nat.zero_add, Nat.add_zero, Nat.reduceAdd, Nat.reduceBEq, Nat.reduceEqDiff, Nat.ble, BEq.rfl, Bool.and_true, Bool.and_self, cond_true, beq_self_eq_true]; rfl)) ?_)
          clear hh w; intro w hh
          refine wl (wl_val hl rfl trivial (r_field hl rfl fld44_0) ?_)
          clear hl a; intro a hl
          refine wl (w_store hl hh trivial one42 rfl rfl (by repeat (first | exact find_head | apply find_tail)) (by first | (simp; done) | (simp; omega)) (by first | rfl | (apply Row.one; assumption)) (by first | (simp only [setL, List.getElem?_cons_zero, List.getElem?_cons_succ, Value.cells, List.take_zero, List.take_succ_cons, List.take_nil, List.drop_zero, List.drop_succ_cons, List.drop_nil, List.length_cons, List.length_nil, List.cons_append, List.nil_append, List.append_nil, Nat.zero_add, Nat.add_zero, Nat.reduceAdd, Nat.reduceBEq, Nat.reduceEqDiff, Nat.ble, BEq.rfl, Bool.and_true, Bool.and_self, cond_true, beq_self_eq_true]; rfl)) ?_)
          clear hh w; intro w hh
          refine w_nil ?_
          have hl2 := hl.add (t := 4) (hl.add (t := 5) (hl.nil) rfl) rfl; clear hl; have hl := hl2; clear hl2
          refine blk_normal ?_
          refine then_normal ?_
          refine c_seq ?_
          refine c_region ?_
          refine wl (w_loadA hl hh rfl trivial agg44 rfl (by repeat (first | exact find_head | apply find_tail)) (by first | (simp only [List.getElem?_cons_zero, List.getElem?_cons_succ, Value.cells, List.take_zero, List.take_succ_cons, List.take_nil, List.drop_zero, List.drop_succ_cons, List.drop_nil, List.length_cons, List.length_nil, List.cons_append, List.nil_append, List.append_nil, Nat.zero_add, Nat.add_zero, Nat.reduceAdd, Nat.reduceBEq, Nat.reduceEqDiff, Nat.ble, BEq.rfl, Bool.and_true, Bool.and_self, cond_true, beq_self_eq_true]; rfl)) (by first | rfl | (simp; done)) ?_)
          clear hl a; intro a hl
          refine wl (w_storeA hl hh trivial agg44 rfl rfl (by repeat (first | exact find_head | apply find_tail)) (by first | rfl | (simp; done)) (by first | (simp; done) | (simp; omega)) (by first | rfl | (simp; done)) (by first | (simp only [setL, List.getElem?_cons_zero, List.getElem?_cons_succ, Value.cells, List.take_zero, List.take_succ_cons, List.take_nil, List.drop_zero, List.drop_succ_cons, List.drop_nil, List.length_cons, List.length_nil, List.cons_append, List.nil_append, List.append_nil, Nat.zero_add, Nat.add_zero, Nat.reduceAdd, Nat.reduceBEq, Nat.reduceEqDiff, Nat.ble, BEq.rfl, Bool.and_true, Bool.and_self, cond_true, beq_self_eq_true]; rfl)) ?_)
          clear hh w; intro w hh
          refine w_nil ?_
          have hl2 := hl.add (t := 4) (hl.nil) rfl; clear hl; have hl := hl2; clear hl2
          refine then_normal ?_
          refine wp_ret ?_
          refine f_retC (F' := [(b, C (encL f2) 87)]) hl hh rfl rfl agg44 (by repeat (first | exact find_head | apply find_tail)) (by first | rfl | (simp; done)) (by repeat (first | exact keeps_nil | apply keeps_cons (by repeat (first | exact find_head | apply find_tail)) (by first  | rfl) | exact keeps_self | apply keeps_mv)) ?_
          exact ⟨rfl, rfl⟩
        · intro hc3
          try simp only [decide_eq_true_eq, decide_eq_false_iff_not, Bool.not_eq_true', Bool.not_eq_false', Bool.not_eq_true, Bool.not_eq_false, Bool.and_eq_true, Bool.or_eq_true, Bool.and_eq_false_iff, Bool.or_eq_false_iff, Bool.not_not, ne_eq, Int.not_lt, Int.not_le, Decidable.not_not, beq_iff_eq, bne_iff_ne] at hc3
          exfalso; omega

set_option maxHeartbeats 1000000 in
theorem do_dcas (b : Nat) (f f2 : Nat → Int) (kd x A B E D : Nat) (hk : kd = 4) (u u1 : Int) (p : Bool) (t : Int) (hs : Sp Try.prog 49 #[.pointer (some ⟨b, 0, none⟩), .int .u32 x, .agg #[.int .u64 A, .int .u64 B], .agg #[.int .u64 E, .int .u64 D]] [(b, C (encL (f)) 87)] (fun v F' => v = .tuple #[.agg #[.int .u64 u, .int .u64 u1], .bool p, .int .u8 t] ∧ F' = [(b, C (encL f2) 87)])) : Sp Try.prog 39 #[.pointer (some ⟨b, 0, none⟩), .agg #[.int .u8 kd, .int .u32 x, .int .u64 A, .int .u64 B, .int .u64 E, .int .u64 D]] [(b, C (encL (f)) 87)] (fun v F' => v = .agg #[.int .u8 t, .bool p, .int .u64 u, .int .u64 u1] ∧ F' = [(b, C (encL f2) 87)]) := by
  refine f_enter (args := [.pointer (some ⟨b, 0, none⟩), .agg #[.int .u8 kd, .int .u32 x, .int .u64 A, .int .u64 B, .int .u64 E, .int .u64 D]]) Try.func39 rfl Try.ntmps39 rfl ?_
  intro w0 w a hpre hl hh
  simp only [slotsFrom, Nat.reduceAdd] at hl
  refine c_seq ?_
  refine c_region ?_
  refine wl (w_box hl hh rfl trivial rfl rfl ?_)
  clear hl hh a w; intro k3 a w hl hh
  refine wl (w_alloc hl hh rfl trivial zero44 rfl ?_)
  clear hl hh a w; intro k4 a w hl hh
  refine w_nil ?_
  have hl2 := hl.add (t := 0) (hl.add (t := 3) (hl.add (t := 4) (hl.nil) rfl) rfl) rfl; clear hl; have hl := hl2; clear hl2
  refine then_normal ?_
  refine c_seq ?_
  refine c_region ?_
  refine wl (w_alloc hl hh rfl trivial zero44 rfl ?_)
  clear hl hh a w; intro k5 a w hl hh
  refine w_nil ?_
  have hl2 := hl.add (t := 0) (hl.add (t := 3) (hl.add (t := 4) (hl.add (t := 5) (hl.nil) rfl) rfl) rfl) rfl; clear hl; have hl := hl2; clear hl2
  refine then_normal ?_
  refine c_seq ?_
  refine c_seq ?_
  refine c_region ?_
  refine wl (wl_val hl rfl trivial (r_field hl rfl fld36_0) ?_)
  clear hl a; intro a hl
  refine wl (w_load hl hh rfl trivial one32 rfl (by repeat (first | exact find_head | apply find_tail)) (by first | rfl) ?_)
  clear hl a; intro a hl
  refine w_nil ?_
  have hl2 := hl.add (t := 0) (hl.add (t := 3) (hl.add (t := 4) (hl.add (t := 5) (hl.add (t := 9) (hl.nil) rfl) rfl) rfl) rfl) rfl; clear hl; have hl := hl2; clear hl2
  refine then_normal ?_
  refine wp_block ?_
  refine c_seq ?_
  refine c_region ?_
  refine wl (wl_val hl rfl trivial (r_eql hl rfl rfl) ?_)
  clear hl a; intro a hl
  refine wl (wl_val hl rfl trivial (r_assign hl rfl) ?_)
  clear hl a; intro a hl
  refine w_nil ?_
  have hl2 := hl.add (t := 0) (hl.add (t := 3) (hl.add (t := 4) (hl.add (t := 5) (hl.add (t := 9) (hl.add (t := 11) (hl.nil) rfl) rfl) rfl) rfl) rfl) rfl; clear hl; have hl := hl2; clear hl2
  refine then_normal ?_
  refine c_cond hl rfl ?_ ?_
  · intro hc0
    try simp only [decide_eq_true_eq, decide_eq_false_iff_not, Bool.not_eq_true', Bool.not_eq_false', Bool.not_eq_true, Bool.not_eq_false, Bool.and_eq_true, Bool.or_eq_true, Bool.and_eq_false_iff, Bool.or_eq_false_iff, Bool.not_not, ne_eq, Int.not_lt, Int.not_le, Decidable.not_not, beq_iff_eq, bne_iff_ne] at hc0
    exfalso; omega
  · intro hc0
    try simp only [decide_eq_true_eq, decide_eq_false_iff_not, Bool.not_eq_true', Bool.not_eq_false', Bool.not_eq_true, Bool.not_eq_false, Bool.and_eq_true, Bool.or_eq_true, Bool.and_eq_false_iff, Bool.or_eq_false_iff, Bool.not_not, ne_eq, Int.not_lt, Int.not_le, Decidable.not_not, beq_iff_eq, bne_iff_ne] at hc0
    refine c_seq ?_
    refine c_region ?_
    refine wl (wl_val hl rfl trivial (r_eql hl rfl rfl) ?_)
    clear hl a; intro a hl
    refine wl (wl_val hl rfl trivial (r_assign hl rfl) ?_)
    clear hl a; intro a hl
    refine w_nil ?_
    have hl2 := hl.add (t := 0) (hl.add (t := 3) (hl.add (t := 4) (hl.add (t := 5) (hl.add (t := 9) (hl.add (t := 22) (hl.nil) rfl) rfl) rfl) rfl) rfl) rfl; clear hl; have hl := hl2; clear hl2
    refine then_normal ?_
    refine c_cond hl rfl ?_ ?_
    · intro hc1
      try simp only [decide_eq_true_eq, decide_eq_false_iff_not, Bool.not_eq_true', Bool.not_eq_false', Bool.not_eq_true, Bool.not_eq_false, Bool.and_eq_true, Bool.or_eq_true, Bool.and_eq_false_iff, Bool.or_eq_false_iff, Bool.not_not, ne_eq, Int.not_lt, Int.not_le, Decidable.not_not, beq_iff_eq, bne_iff_ne] at hc1
      exfalso; omega
    · intro hc1
      try simp only [decide_eq_true_eq, decide_eq_false_iff_not, Bool.not_eq_true', Bool.not_eq_false', Bool.not_eq_true, Bool.not_eq_false, Bool.and_eq_true, Bool.or_eq_true, Bool.and_eq_false_iff, Bool.or_eq_false_iff, Bool.not_not, ne_eq, Int.not_lt, Int.not_le, Decidable.not_not, beq_iff_eq, bne_iff_ne] at hc1
      refine c_seq ?_
      refine c_region ?_
      refine wl (wl_val hl rfl trivial (r_eql hl rfl rfl) ?_)
      clear hl a; intro a hl
      refine wl (wl_val hl rfl trivial (r_assign hl rfl) ?_)
      clear hl a; intro a hl
      refine w_nil ?_
      have hl2 := hl.add (t := 0) (hl.add (t := 3) (hl.add (t := 4) (hl.add (t := 5) (hl.add (t := 9) (hl.add (t := 31) (hl.nil) rfl) rfl) rfl) rfl) rfl) rfl; clear hl; have hl := hl2; clear hl2
      refine then_normal ?_
      refine c_cond hl rfl ?_ ?_
      · intro hc2
        try simp only [decide_eq_true_eq, decide_eq_false_iff_not, Bool.not_eq_true', Bool.not_eq_false', Bool.not_eq_true, Bool.not_eq_false, Bool.and_eq_true, Bool.or_eq_true, Bool.and_eq_false_iff, Bool.or_eq_false_iff, Bool.not_not, ne_eq, Int.not_lt, Int.not_le, Decidable.not_not, beq_iff_eq, bne_iff_ne] at hc2
        exfalso; omega
      · intro hc2
        try simp only [decide_eq_true_eq, decide_eq_false_iff_not, Bool.not_eq_true', Bool.not_eq_false', Bool.not_eq_true, Bool.not_eq_false, Bool.and_eq_true, Bool.or_eq_true, Bool.and_eq_false_iff, Bool.or_eq_false_iff, Bool.not_not, ne_eq, Int.not_lt, Int.not_le, Decidable.not_not, beq_iff_eq, bne_iff_ne] at hc2
        refine c_seq ?_
        refine c_region ?_
        refine wl (wl_val hl rfl trivial (r_eql hl rfl rfl) ?_)
        clear hl a; intro a hl
        refine wl (wl_val hl rfl trivial (r_assign hl rfl) ?_)
        clear hl a; intro a hl
        refine w_nil ?_
        have hl2 := hl.add (t := 0) (hl.add (t := 3) (hl.add (t := 4) (hl.add (t := 5) (hl.add (t := 9) (hl.add (t := 48) (hl.nil) rfl) rfl) rfl) rfl) rfl) rfl; clear hl; have hl := hl2; clear hl2
        refine then_normal ?_
        refine c_cond hl rfl ?_ ?_
        · intro hc3
          try simp only [decide_eq_true_eq, decide_eq_false_iff_not, Bool.not_eq_true', Bool.not_eq_false', Bool.not_eq_true, Bool.not_eq_false, Bool.and_eq_true, Bool.or_eq_true, Bool.and_eq_false_iff, Bool.or_eq_false_iff, Bool.not_not, ne_eq, Int.not_lt, Int.not_le, Decidable.not_not, beq_iff_eq, bne_iff_ne] at hc3
          exfalso; omega
        · intro hc3
          try simp only [decide_eq_true_eq, decide_eq_false_iff_not, Bool.not_eq_true', Bool.not_eq_false', Bool.not_eq_true, Bool.not_eq_false, Bool.and_eq_true, Bool.or_eq_true, Bool.and_eq_false_iff, Bool.or_eq_false_iff, Bool.not_not, ne_eq, Int.not_lt, Int.not_le, Decidable.not_not, beq_iff_eq, bne_iff_ne] at hc3
          refine c_seq ?_
          refine c_region ?_
          refine wl (wl_val hl rfl trivial (r_eql hl rfl rfl) ?_)
          clear hl a; intro a hl
          refine wl (wl_val hl rfl trivial (r_assign hl rfl) ?_)
          clear hl a; intro a hl
          refine w_nil ?_
          have hl2 := hl.add (t := 0) (hl.add (t := 3) (hl.add (t := 4) (hl.add (t := 5) (hl.add (t := 9) (hl.add (t := 61) (hl.nil) rfl) rfl) rfl) rfl) rfl) rfl; clear hl; have hl := hl2; clear hl2
          refine then_normal ?_
          refine c_cond hl rfl ?_ ?_
          · intro hc4
            try simp only [decide_eq_true_eq, decide_eq_false_iff_not, Bool.not_eq_true', Bool.not_eq_false', Bool.not_eq_true, Bool.not_eq_false, Bool.and_eq_true, Bool.or_eq_true, Bool.and_eq_false_iff, Bool.or_eq_false_iff, Bool.not_not, ne_eq, Int.not_lt, Int.not_le, Decidable.not_not, beq_iff_eq, bne_iff_ne] at hc4
            refine c_seq ?_
            refine c_region ?_
            refine wl (w_alloc hl hh rfl trivial zero97 rfl ?_)
            clear hl hh a w; intro k6 a w hl hh
            refine w_nil ?_
            have hl2 := hl.add (t := 0) (hl.add (t := 3) (hl.add (t := 4) (hl.add (t := 5) (hl.add (t := 6) (hl.nil) rfl) rfl) rfl) rfl) rfl; clear hl; have hl := hl2; clear hl2
            refine then_normal ?_
            refine c_seq ?_
            refine c_region ?_
            refine wl (wl_val hl rfl trivial (r_move hl rfl) ?_)
            clear hl a; intro a hl
            refine wl (wl_val hl rfl trivial (r_field hl rfl fld36_1) ?_)
            clear hl a; intro a hl
            refine wl (w_load hl hh rfl trivial one34 rfl (by repeat (first | exact find_head | apply find_tail)) (by first | rfl) ?_)
            clear hl a; intro a hl
            refine wl (wl_val hl rfl trivial (r_field hl rfl fld36_2) ?_)
            clear hl a; intro a hl
            refine wl (w_load hl hh rfl trivial one27 rfl (by repeat (first | exact find_head | apply find_tail)) (by first | rfl) ?_)
            clear hl a; intro a hl
            refine wl (wl_val hl rfl trivial (r_field hl rfl fld36_3) ?_)
            clear hl a; intro a hl
            refine wl (w_load hl hh rfl trivial one27 rfl (by repeat (first | exact find_head | apply find_tail)) (by first | rfl) ?_)
            clear hl a; intro a hl
            refine wl (wl_val hl rfl trivial (r_build hl rfl zero97 bld97 (by simp only [fillL, setL, List.getElem?_cons_zero, List.getElem?_cons_succ, Value.cells, List.take_zero, List.take_succ_cons, List.take_nil, List.drop_zero, List.drop_succ_cons, List.drop_nil, List.length_cons, List.length_nil, List.cons_append, List.nil_append, List.append_nil, Nat.zero_add, Nat.add_zero, Nat.reduceAdd, Nat.reduceBEq, Nat.reduceEqDiff, Nat.ble, BEq.rfl, Bool.and_true, Bool.and_self, cond_true, beq_self_eq_true]; rfl)) ?_)
            clear hl a; intro a hl
            refine wl (wl_val hl rfl trivial (r_field hl rfl fld36_4) ?_)
            clear hl a; intro a hl
            refine wl (w_load hl hh rfl trivial one27 rfl (by repeat (first | exact find_head | apply find_tail)) (by first | rfl) ?_)
            clear hl a; intro a hl
            refine wl (wl_val hl rfl trivial (r_field hl rfl fld36_5) ?_)
            clear hl a; intro a hl
            refine wl (w_load hl hh rfl trivial one27 rfl (by repeat (first | exact find_head | apply find_tail)) (by first | rfl) ?_)
            clear hl a; intro a hl
            refine wl (wl_val hl rfl trivial (r_build hl rfl zero97 bld97 (by simp only [fillL, setL, List.getElem?_cons_zero, List.getElem?_cons_succ, Value.cells, List.take_zero, List.take_succ_cons, List.take_nil, List.drop_zero, List.drop_succ_cons, List.drop_nil, List.length_cons, List.length_nil, List.cons_append, List.nil_append, List.append_nil, Nat.zero_add, Nat.add_zero, Nat.reduceAdd, Nat.reduceBEq, Nat.reduceEqDiff, Nat.ble, BEq.rfl, Bool.and_true, Bool.and_self, cond_true, beq_self_eq_true]; rfl)) ?_)
            clear hl a; intro a hl
            refine wl (w_call hl hh rfl trivial rfl cal49 rfl (hs) (by repeat (first | exact keeps_nil | apply keeps_cons (by repeat (first | exact find_head | apply find_tail)) (by first  | rfl) | exact keeps_self | apply keeps_mv)) trivial ?_)
            clear hl hh a w; intro vc Fc a w hR hl hh
            obtain ⟨rfl, rfl⟩ := hR
            simp only [List.cons_append, List.nil_append] at hh
            refine wl (wl_val hl rfl trivial (r_move hl rfl) ?_)
            clear hl a; intro a hl
            refine wl (wl_val hl rfl trivial (r_extract hl rfl (by simp only [List.getElem?_toArray, List.getElem?_cons_zero, List.getElem?_cons_succ]; rfl)) ?_)
            clear hl a; intro a hl
            refine wl (wl_val hl rfl trivial (r_extract hl rfl (by simp only [List.getElem?_toArray, List.getElem?_cons_zero, List.getElem?_cons_succ]; rfl)) ?_)
            clear hl a; intro a hl
            refine wl (wl_val hl rfl trivial (r_extract hl rfl (by simp only [List.getElem?_toArray, List.getElem?_cons_zero, List.getElem?_cons_succ]; rfl)) ?_)
            clear hl a; intro a hl
            refine wl (w_storeA hl hh trivial agg97 rfl rfl (by repeat (first | exact find_head | apply find_tail)) (by first | rfl | (simp; done)) (by first | (simp; done) | (simp; omega)) (by first | rfl | (simp; done)) (by first | (simp only [setL, List.getElem?_cons_zero, List.getElem?_cons_succ, Value.cells, List.take_zero, List.take_succ_cons, List.take_nil, List.drop_zero, List.drop_succ_cons, List.drop_nil, List.length_cons, List.length_nil, List.cons_append, List.nil_append, List.append_nil, Nat.zero_add, Nat.add_zero, Nat.reduceAdd, Nat.reduceBEq, Nat.reduceEqDiff, Nat.ble, BEq.rfl, Bool.and_true, Bool.and_self, cond_true, beq_self_eq_true]; rfl)) ?_)
            clear hh w; intro w hh
            refine wl (wl_val hl rfl trivial (r_field hl rfl fld44_1) ?_)
            clear hl a; intro a hl
            refine wl (w_store hl hh trivial one4 rfl rfl (by repeat (first | exact find_head | apply find_tail)) (by first | (simp; done) | (simp; omega)) (by first | rfl | (apply Row.one; assumption)) (by first | (simp only [setL, List.getElem?_cons_zero, List.getElem?_cons_succ, Value.cells, List.take_zero, List.take_succ_cons, List.take_nil, List.drop_zero, List.drop_succ_cons, List.drop_nil, List.length_cons, List.length_nil, List.cons_append, List.nil_append, List.append_nil, Nat.zero_add, Nat.add_zero, Nat.reduceAdd, Nat.reduceBEq, Nat.reduceEqDiff, Nat.ble, BEq.rfl, Bool.and_true, Bool.and_self, cond_true, beq_self_eq_true]; rfl)) ?_)
            clear hh w; intro w hh
            refine wl (wl_val hl rfl trivial (r_field hl rfl fld44_0) ?_)
            clear hl a; intro a hl
            refine wl (w_store hl hh trivial one42 rfl rfl (by repeat (first | exact find_head | apply find_tail)) (by first | (simp; done) | (simp; omega)) (by first | rfl | (apply Row.one; assumption)) (by first | (simp only [setL, List.getElem?_cons_zero, List.getElem?_cons_succ, Value.cells, List.take_zero, List.take_succ_cons, List.take_nil, List.drop_zero, List.drop_succ_cons, List.drop_nil, List.length_cons, List.length_nil, List.cons_append, List.nil_append, List.append_nil, Nat.zero_add, Nat.add_zero, Nat.reduceAdd, Nat.reduceBEq, Nat.reduceEqDiff, Nat.ble, BEq.rfl, Bool.and_true, Bool.and_self, cond_true, beq_self_eq_true]; rfl)) ?_)
            clear hh w; intro w hh
            refine w_nil ?_
            have hl2 := hl.add (t := 4) (hl.add (t := 5) (hl.add (t := 6) (hl.nil) rfl) rfl) rfl; clear hl; have hl := hl2; clear hl2
            refine then_normal ?_
            refine c_draw [(k6, C [.int .u64 u, .int .u64 u1] 97)] [6, 7] mixed hh ?_
            clear hh w; intro w hh
            have hM : Mem [(k6, C [.int .u64 u, .int .u64 u1] 97)] w := (by repeat (first | exact Mem.nil | refine Mem.cons hh.mem (by repeat (first | exact find_head | apply find_tail)) ?_ | refine Mem.consR hh (by assumption) (by simp) ?_))
            refine d_take (i := 0) hl rfl (by kernel_rfl) (by kernel_rfl) (by kernel_rfl) (by kernel_rfl) (by kernel_rfl) rfl trivial (fun _ _ _ h => h) hM (fun w hC => r_indexA hl rfl rfl arr97 (by omega) (by omega) (by first | (simp only [Int.reduceToNat]; rfl) | exact toNat_add1 _ | exact toNat_add2 _ _ | exact toNat_emod _ _ | exact Int.toNat_natCast _ | rfl)) rfl ?_
            clear hl a; intro a hl
            refine d_take (i := 1) hl rfl (by kernel_rfl) (by kernel_rfl) (by kernel_rfl) (by kernel_rfl) (by kernel_rfl) rfl trivial (fun _ _ _ h => h) hM (fun w hC => r_loadC hl rfl one27 hC (by repeat (first | exact find_head | apply find_tail)) (by first | rfl)) rfl ?_
            clear hl a; intro a hl
            refine d_take (i := 2) hl rfl (by kernel_rfl) (by kernel_rfl) (by kernel_rfl) (by kernel_rfl) (by kernel_rfl) rfl trivial (fun _ _ _ h => h) hM (fun w hC => r_indexA hl rfl rfl arr97 (by omega) (by omega) (by first | (simp only [Int.reduceToNat]; rfl) | exact toNat_add1 _ | exact toNat_add2 _ _ | exact toNat_emod _ _ | exact Int.toNat_natCast _ | rfl)) rfl ?_
            clear hl a; intro a hl
            refine d_take (i := 3) hl rfl (by kernel_rfl) (by kernel_rfl) (by kernel_rfl) (by kernel_rfl) (by kernel_rfl) rfl trivial (fun _ _ _ h => h) hM (fun w hC => r_loadC hl rfl one27 hC (by repeat (first | exact find_head | apply find_tail)) (by first | rfl)) rfl ?_
            clear hl a; intro a hl
            refine d_take (i := 4) hl rfl (by kernel_rfl) (by kernel_rfl) (by kernel_rfl) (by kernel_rfl) (by kernel_rfl) rfl trivial (fun _ _ _ h => h) hM (fun w hC => r_field hl rfl fld44_2) rfl ?_
            clear hl a; intro a hl
            refine d_one (i := 5) (by kernel_rfl) rfl ?_
            try clear hM
            refine id (w_store hl hh trivial one27 rfl rfl (by repeat (first | exact find_head | apply find_tail)) (by first | (simp; done) | (simp; omega)) (by first | rfl | (apply Row.one; assumption)) (by first | (simp only [setL, List.getElem?_cons_zero, List.getElem?_cons_succ, Value.cells, List.take_zero, List.take_succ_cons, List.take_nil, List.drop_zero, List.drop_succ_cons, List.drop_nil, List.length_cons, List.length_nil, List.cons_append, List.nil_append, List.append_nil, Nat.zero_add, Nat.add_zero, Nat.reduceAdd, Nat.reduceBEq, Nat.reduceEqDiff, Nat.ble, BEq.rfl, Bool.and_true, Bool.and_self, cond_true, beq_self_eq_true]; rfl)) ?_)
            clear hh w; intro w hh
            have hM : Mem [(k6, C [.int .u64 u, .int .u64 u1] 97)] w := (by repeat (first | exact Mem.nil | refine Mem.cons hh.mem (by repeat (first | exact find_head | apply find_tail)) ?_ | refine Mem.consR hh (by assumption) (by simp) ?_))
            refine d_step (fun _ => hM) ?_
            refine d_takeL (i := 6) hl rfl (by kernel_rfl) (by kernel_rfl) (by kernel_rfl) (by kernel_rfl) (by kernel_rfl) rfl trivial (fun _ _ _ h => h) (fun w => r_field hl rfl fld44_3) rfl ?_
            clear hl a; intro a hl
            refine d_one (i := 7) (by kernel_rfl) rfl ?_
            try clear hM
            refine id (w_store hl hh trivial one27 rfl rfl (by repeat (first | exact find_head | apply find_tail)) (by first | (simp; done) | (simp; omega)) (by first | rfl | (apply Row.one; assumption)) (by first | (simp only [setL, List.getElem?_cons_zero, List.getElem?_cons_succ, Value.cells, List.take_zero, List.take_succ_cons, List.take_nil, List.drop_zero, List.drop_succ_cons, List.drop_nil, List.length_cons, List.length_nil, List.cons_append, List.nil_append, List.append_nil, Nat.zero_add, Nat.add_zero, Nat.reduceAdd, Nat.reduceBEq, Nat.reduceEqDiff, Nat.ble, BEq.rfl, Bool.and_true, Bool.and_self, cond_true, beq_self_eq_true]; rfl)) ?_)
            clear hh w; intro w hh
            refine d_step (fun h => absurd h (by decide)) ?_
            refine d_done (by kernel_rfl) ?_
            try clear hM
            have hl2 := hl.add (t := 4) (hl.add (t := 5) (hl.nil) rfl) rfl; clear hl; have hl := hl2; clear hl2
            refine blk_normal ?_
            refine then_normal ?_
            refine c_seq ?_
            refine c_region ?_
            refine wl (w_loadA hl hh rfl trivial agg44 rfl (by repeat (first | exact find_head | apply find_tail)) (by first | (simp only [List.getElem?_cons_zero, List.getElem?_cons_succ, Value.cells, List.take_zero, List.take_succ_cons, List.take_nil, List.drop_zero, List.drop_succ_cons, List.drop_nil, List.length_cons, List.length_nil, List.cons_append, List.nil_append, List.append_nil, Nat.zero_add, Nat.add_zero, Nat.reduceAdd, Nat.reduceBEq, Nat.reduceEqDiff, Nat.ble, BEq.rfl, Bool.and_true, Bool.and_self, cond_true, beq_self_eq_true]; rfl)) (by first | rfl | (simp; done)) ?_)
            clear hl a; intro a hl
            refine wl (w_storeA hl hh trivial agg44 rfl rfl (by repeat (first | exact find_head | apply find_tail)) (by first | rfl | (simp; done)) (by first | (simp; done) | (simp; omega)) (by first | rfl | (simp; done)) (by first | (simp only [setL, List.getElem?_cons_zero, List.getElem?_cons_succ, Value.cells, List.take_zero, List.take_succ_cons, List.take_nil, List.drop_zero, List.drop_succ_cons, List.drop_nil, List.length_cons, List.length_nil, List.cons_append, List.nil_append, List.append_nil, Nat.zero_add, Nat.add_zero, Nat.reduceAdd, Nat.reduceBEq, Nat.reduceEqDiff, Nat.ble, BEq.rfl, Bool.and_true, Bool.and_self, cond_true, beq_self_eq_true]; rfl)) ?_)
            clear hh w; intro w hh
            refine w_nil ?_
            have hl2 := hl.add (t := 4) (hl.nil) rfl; clear hl; have hl := hl2; clear hl2
            refine then_normal ?_
            refine wp_ret ?_
            refine f_retC (F' := [(b, C (encL f2) 87)]) hl hh rfl rfl agg44 (by repeat (first | exact find_head | apply find_tail)) (by first | rfl | (simp; done)) (by repeat (first | exact keeps_nil | apply keeps_cons (by repeat (first | exact find_head | apply find_tail)) (by first  | rfl) | exact keeps_self | apply keeps_mv)) ?_
            exact ⟨rfl, rfl⟩
          · intro hc4
            try simp only [decide_eq_true_eq, decide_eq_false_iff_not, Bool.not_eq_true', Bool.not_eq_false', Bool.not_eq_true, Bool.not_eq_false, Bool.and_eq_true, Bool.or_eq_true, Bool.and_eq_false_iff, Bool.or_eq_false_iff, Bool.not_not, ne_eq, Int.not_lt, Int.not_le, Decidable.not_not, beq_iff_eq, bne_iff_ne] at hc4
            exfalso; omega

set_option maxHeartbeats 1000000 in
theorem do_big (b : Nat) (f f2 : Nat → Int) (kd x A B E D : Nat) (hk : kd = 5) (h : 32 < A) : Sp Try.prog 39 #[.pointer (some ⟨b, 0, none⟩), .agg #[.int .u8 kd, .int .u32 x, .int .u64 A, .int .u64 B, .int .u64 E, .int .u64 D]] [(b, C (encL (f)) 87)] (fun v F' => v = .agg #[.int .u8 3, .bool false, .int .u64 0, .int .u64 0] ∧ F' = [(b, C (encL f) 87)]) := by
  refine f_enter (args := [.pointer (some ⟨b, 0, none⟩), .agg #[.int .u8 kd, .int .u32 x, .int .u64 A, .int .u64 B, .int .u64 E, .int .u64 D]]) Try.func39 rfl Try.ntmps39 rfl ?_
  intro w0 w a hpre hl hh
  simp only [slotsFrom, Nat.reduceAdd] at hl
  refine c_seq ?_
  refine c_region ?_
  refine wl (w_box hl hh rfl trivial rfl rfl ?_)
  clear hl hh a w; intro k3 a w hl hh
  refine wl (w_alloc hl hh rfl trivial zero44 rfl ?_)
  clear hl hh a w; intro k4 a w hl hh
  refine w_nil ?_
  have hl2 := hl.add (t := 0) (hl.add (t := 3) (hl.add (t := 4) (hl.nil) rfl) rfl) rfl; clear hl; have hl := hl2; clear hl2
  refine then_normal ?_
  refine c_seq ?_
  refine c_region ?_
  refine wl (w_alloc hl hh rfl trivial zero44 rfl ?_)
  clear hl hh a w; intro k5 a w hl hh
  refine w_nil ?_
  have hl2 := hl.add (t := 0) (hl.add (t := 3) (hl.add (t := 4) (hl.add (t := 5) (hl.nil) rfl) rfl) rfl) rfl; clear hl; have hl := hl2; clear hl2
  refine then_normal ?_
  refine c_seq ?_
  refine c_seq ?_
  refine c_region ?_
  refine wl (wl_val hl rfl trivial (r_field hl rfl fld36_0) ?_)
  clear hl a; intro a hl
  refine wl (w_load hl hh rfl trivial one32 rfl (by repeat (first | exact find_head | apply find_tail)) (by first | rfl) ?_)
  clear hl a; intro a hl
  refine w_nil ?_
  have hl2 := hl.add (t := 0) (hl.add (t := 3) (hl.add (t := 4) (hl.add (t := 5) (hl.add (t := 9) (hl.nil) rfl) rfl) rfl) rfl) rfl; clear hl; have hl := hl2; clear hl2
  refine then_normal ?_
  refine wp_block ?_
  refine c_seq ?_
  refine c_region ?_
  refine wl (wl_val hl rfl trivial (r_eql hl rfl rfl) ?_)
  clear hl a; intro a hl
  refine wl (wl_val hl rfl trivial (r_assign hl rfl) ?_)
  clear hl a; intro a hl
  refine w_nil ?_
  have hl2 := hl.add (t := 0) (hl.add (t := 3) (hl.add (t := 4) (hl.add (t := 5) (hl.add (t := 9) (hl.add (t := 11) (hl.nil) rfl) rfl) rfl) rfl) rfl) rfl; clear hl; have hl := hl2; clear hl2
  refine then_normal ?_
  refine c_cond hl rfl ?_ ?_
  · intro hc0
    try simp only [decide_eq_true_eq, decide_eq_false_iff_not, Bool.not_eq_true', Bool.not_eq_false', Bool.not_eq_true, Bool.not_eq_false, Bool.and_eq_true, Bool.or_eq_true, Bool.and_eq_false_iff, Bool.or_eq_false_iff, Bool.not_not, ne_eq, Int.not_lt, Int.not_le, Decidable.not_not, beq_iff_eq, bne_iff_ne] at hc0
    exfalso; omega
  · intro hc0
    try simp only [decide_eq_true_eq, decide_eq_false_iff_not, Bool.not_eq_true', Bool.not_eq_false', Bool.not_eq_true, Bool.not_eq_false, Bool.and_eq_true, Bool.or_eq_true, Bool.and_eq_false_iff, Bool.or_eq_false_iff, Bool.not_not, ne_eq, Int.not_lt, Int.not_le, Decidable.not_not, beq_iff_eq, bne_iff_ne] at hc0
    refine c_seq ?_
    refine c_region ?_
    refine wl (wl_val hl rfl trivial (r_eql hl rfl rfl) ?_)
    clear hl a; intro a hl
    refine wl (wl_val hl rfl trivial (r_assign hl rfl) ?_)
    clear hl a; intro a hl
    refine w_nil ?_
    have hl2 := hl.add (t := 0) (hl.add (t := 3) (hl.add (t := 4) (hl.add (t := 5) (hl.add (t := 9) (hl.add (t := 22) (hl.nil) rfl) rfl) rfl) rfl) rfl) rfl; clear hl; have hl := hl2; clear hl2
    refine then_normal ?_
    refine c_cond hl rfl ?_ ?_
    · intro hc1
      try simp only [decide_eq_true_eq, decide_eq_false_iff_not, Bool.not_eq_true', Bool.not_eq_false', Bool.not_eq_true, Bool.not_eq_false, Bool.and_eq_true, Bool.or_eq_true, Bool.and_eq_false_iff, Bool.or_eq_false_iff, Bool.not_not, ne_eq, Int.not_lt, Int.not_le, Decidable.not_not, beq_iff_eq, bne_iff_ne] at hc1
      exfalso; omega
    · intro hc1
      try simp only [decide_eq_true_eq, decide_eq_false_iff_not, Bool.not_eq_true', Bool.not_eq_false', Bool.not_eq_true, Bool.not_eq_false, Bool.and_eq_true, Bool.or_eq_true, Bool.and_eq_false_iff, Bool.or_eq_false_iff, Bool.not_not, ne_eq, Int.not_lt, Int.not_le, Decidable.not_not, beq_iff_eq, bne_iff_ne] at hc1
      refine c_seq ?_
      refine c_region ?_
      refine wl (wl_val hl rfl trivial (r_eql hl rfl rfl) ?_)
      clear hl a; intro a hl
      refine wl (wl_val hl rfl trivial (r_assign hl rfl) ?_)
      clear hl a; intro a hl
      refine w_nil ?_
      have hl2 := hl.add (t := 0) (hl.add (t := 3) (hl.add (t := 4) (hl.add (t := 5) (hl.add (t := 9) (hl.add (t := 31) (hl.nil) rfl) rfl) rfl) rfl) rfl) rfl; clear hl; have hl := hl2; clear hl2
      refine then_normal ?_
      refine c_cond hl rfl ?_ ?_
      · intro hc2
        try simp only [decide_eq_true_eq, decide_eq_false_iff_not, Bool.not_eq_true', Bool.not_eq_false', Bool.not_eq_true, Bool.not_eq_false, Bool.and_eq_true, Bool.or_eq_true, Bool.and_eq_false_iff, Bool.or_eq_false_iff, Bool.not_not, ne_eq, Int.not_lt, Int.not_le, Decidable.not_not, beq_iff_eq, bne_iff_ne] at hc2
        exfalso; omega
      · intro hc2
        try simp only [decide_eq_true_eq, decide_eq_false_iff_not, Bool.not_eq_true', Bool.not_eq_false', Bool.not_eq_true, Bool.not_eq_false, Bool.and_eq_true, Bool.or_eq_true, Bool.and_eq_false_iff, Bool.or_eq_false_iff, Bool.not_not, ne_eq, Int.not_lt, Int.not_le, Decidable.not_not, beq_iff_eq, bne_iff_ne] at hc2
        refine c_seq ?_
        refine c_region ?_
        refine wl (wl_val hl rfl trivial (r_eql hl rfl rfl) ?_)
        clear hl a; intro a hl
        refine wl (wl_val hl rfl trivial (r_assign hl rfl) ?_)
        clear hl a; intro a hl
        refine w_nil ?_
        have hl2 := hl.add (t := 0) (hl.add (t := 3) (hl.add (t := 4) (hl.add (t := 5) (hl.add (t := 9) (hl.add (t := 48) (hl.nil) rfl) rfl) rfl) rfl) rfl) rfl; clear hl; have hl := hl2; clear hl2
        refine then_normal ?_
        refine c_cond hl rfl ?_ ?_
        · intro hc3
          try simp only [decide_eq_true_eq, decide_eq_false_iff_not, Bool.not_eq_true', Bool.not_eq_false', Bool.not_eq_true, Bool.not_eq_false, Bool.and_eq_true, Bool.or_eq_true, Bool.and_eq_false_iff, Bool.or_eq_false_iff, Bool.not_not, ne_eq, Int.not_lt, Int.not_le, Decidable.not_not, beq_iff_eq, bne_iff_ne] at hc3
          exfalso; omega
        · intro hc3
          try simp only [decide_eq_true_eq, decide_eq_false_iff_not, Bool.not_eq_true', Bool.not_eq_false', Bool.not_eq_true, Bool.not_eq_false, Bool.and_eq_true, Bool.or_eq_true, Bool.and_eq_false_iff, Bool.or_eq_false_iff, Bool.not_not, ne_eq, Int.not_lt, Int.not_le, Decidable.not_not, beq_iff_eq, bne_iff_ne] at hc3
          refine c_seq ?_
          refine c_region ?_
          refine wl (wl_val hl rfl trivial (r_eql hl rfl rfl) ?_)
          clear hl a; intro a hl
          refine wl (wl_val hl rfl trivial (r_assign hl rfl) ?_)
          clear hl a; intro a hl
          refine w_nil ?_
          have hl2 := hl.add (t := 0) (hl.add (t := 3) (hl.add (t := 4) (hl.add (t := 5) (hl.add (t := 9) (hl.add (t := 61) (hl.nil) rfl) rfl) rfl) rfl) rfl) rfl; clear hl; have hl := hl2; clear hl2
          refine then_normal ?_
          refine c_cond hl rfl ?_ ?_
          · intro hc4
            try simp only [decide_eq_true_eq, decide_eq_false_iff_not, Bool.not_eq_true', Bool.not_eq_false', Bool.not_eq_true, Bool.not_eq_false, Bool.and_eq_true, Bool.or_eq_true, Bool.and_eq_false_iff, Bool.or_eq_false_iff, Bool.not_not, ne_eq, Int.not_lt, Int.not_le, Decidable.not_not, beq_iff_eq, bne_iff_ne] at hc4
            exfalso; omega
          · intro hc4
            try simp only [decide_eq_true_eq, decide_eq_false_iff_not, Bool.not_eq_true', Bool.not_eq_false', Bool.not_eq_true, Bool.not_eq_false, Bool.and_eq_true, Bool.or_eq_true, Bool.and_eq_false_iff, Bool.or_eq_false_iff, Bool.not_not, ne_eq, Int.not_lt, Int.not_le, Decidable.not_not, beq_iff_eq, bne_iff_ne] at hc4
            refine c_seq ?_
            refine c_region ?_
            refine wl (wl_val hl rfl trivial (r_eql hl rfl rfl) ?_)
            clear hl a; intro a hl
            refine wl (wl_val hl rfl trivial (r_assign hl rfl) ?_)
            clear hl a; intro a hl
            refine w_nil ?_
            have hl2 := hl.add (t := 0) (hl.add (t := 3) (hl.add (t := 4) (hl.add (t := 5) (hl.add (t := 9) (hl.add (t := 89) (hl.nil) rfl) rfl) rfl) rfl) rfl) rfl; clear hl; have hl := hl2; clear hl2
            refine then_normal ?_
            refine c_cond hl rfl ?_ ?_
            · intro hc5
              try simp only [decide_eq_true_eq, decide_eq_false_iff_not, Bool.not_eq_true', Bool.not_eq_false', Bool.not_eq_true, Bool.not_eq_false, Bool.and_eq_true, Bool.or_eq_true, Bool.and_eq_false_iff, Bool.or_eq_false_iff, Bool.not_not, ne_eq, Int.not_lt, Int.not_le, Decidable.not_not, beq_iff_eq, bne_iff_ne] at hc5
              refine c_seq ?_
              refine c_seq ?_
              refine c_region ?_
              refine wl (wl_val hl rfl trivial (r_field hl rfl fld36_2) ?_)
              clear hl a; intro a hl
              refine wl (w_load hl hh rfl trivial one27 rfl (by repeat (first | exact find_head | apply find_tail)) (by first | rfl) ?_)
              clear hl a; intro a hl
              refine wl (wl_val hl rfl trivial (r_gtr hl rfl rfl) ?_)
              clear hl a; intro a hl
              refine w_nil ?_
              have hl2 := hl.add (t := 0) (hl.add (t := 3) (hl.add (t := 4) (hl.add (t := 5) (hl.add (t := 93) (hl.nil) rfl) rfl) rfl) rfl) rfl; clear hl; have hl := hl2; clear hl2
              refine then_normal ?_
              refine c_cond hl rfl ?_ ?_
              · intro hc6
                try simp only [decide_eq_true_eq, decide_eq_false_iff_not, Bool.not_eq_true', Bool.not_eq_false', Bool.not_eq_true, Bool.not_eq_false, Bool.and_eq_true, Bool.or_eq_true, Bool.and_eq_false_iff, Bool.or_eq_false_iff, Bool.not_not, ne_eq, Int.not_lt, Int.not_le, Decidable.not_not, beq_iff_eq, bne_iff_ne] at hc6
                refine c_seq ?_
                refine c_region ?_
                refine wl (wl_val hl rfl trivial (r_field hl rfl fld44_0) ?_)
                clear hl a; intro a hl
                refine wl (w_store hl hh trivial one42 rfl rfl (by repeat (first | exact find_head | apply find_tail)) (by first | (simp; done) | (simp; omega)) (by first | rfl | (apply Row.one; assumption)) (by first | (simp only [setL, List.getElem?_cons_zero, List.getElem?_cons_succ, Value.cells, List.take_zero, List.take_succ_cons, List.take_nil, List.drop_zero, List.drop_succ_cons, List.drop_nil, List.length_cons, List.length_nil, List.cons_append, List.nil_append, List.append_nil, Nat.zero_add, Nat.add_zero, Nat.reduceAdd, Nat.reduceBEq, Nat.reduceEqDiff, Nat.ble, BEq.rfl, Bool.and_true, Bool.and_self, cond_true, beq_self_eq_true]; rfl)) ?_)
                clear hh w; intro w hh
                refine w_nil ?_
                have hl2 := hl.add (t := 4) (hl.add (t := 5) (hl.nil) rfl) rfl; clear hl; have hl := hl2; clear hl2
                refine then_normal ?_
                refine wp_exit ?_
                refine then_exit ?_
                refine blk_exit ?_
                refine then_normal ?_
                refine c_seq ?_
                refine c_region ?_
                refine wl (w_loadA hl hh rfl trivial agg44 rfl (by repeat (first | exact find_head | apply find_tail)) (by first | (simp only [List.getElem?_cons_zero, List.getElem?_cons_succ, Value.cells, List.take_zero, List.take_succ_cons, List.take_nil, List.drop_zero, List.drop_succ_cons, List.drop_nil, List.length_cons, List.length_nil, List.cons_append, List.nil_append, List.append_nil, Nat.zero_add, Nat.add_zero, Nat.reduceAdd, Nat.reduceBEq, Nat.reduceEqDiff, Nat.ble, BEq.rfl, Bool.and_true, Bool.and_self, cond_true, beq_self_eq_true]; rfl)) (by first | rfl | (simp; done)) ?_)
                clear hl a; intro a hl
                refine wl (w_storeA hl hh trivial agg44 rfl rfl (by repeat (first | exact find_head | apply find_tail)) (by first | rfl | (simp; done)) (by first | (simp; done) | (simp; omega)) (by first | rfl | (simp; done)) (by first | (simp only [setL, List.getElem?_cons_zero, List.getElem?_cons_succ, Value.cells, List.take_zero, List.take_succ_cons, List.take_nil, List.drop_zero, List.drop_succ_cons, List.drop_nil, List.length_cons, List.length_nil, List.cons_append, List.nil_append, List.append_nil, Nat.zero_add, Nat.add_zero, Nat.reduceAdd, Nat.reduceBEq, Nat.reduceEqDiff, Nat.ble, BEq.rfl, Bool.and_true, Bool.and_self, cond_true, beq_self_eq_true]; rfl)) ?_)
                clear hh w; intro w hh
                refine w_nil ?_
                have hl2 := hl.add (t := 4) (hl.nil) rfl; clear hl; have hl := hl2; clear hl2
                refine then_normal ?_
                refine wp_ret ?_
                refine f_retC (F' := [(b, C (encL f) 87)]) hl hh rfl rfl agg44 (by repeat (first | exact find_head | apply find_tail)) (by first | rfl | (simp; done)) (by repeat (first | exact keeps_nil | apply keeps_cons (by repeat (first | exact find_head | apply find_tail)) (by first  | rfl) | exact keeps_self | apply keeps_mv)) ?_
                exact ⟨rfl, rfl⟩
              · intro hc6
                try simp only [decide_eq_true_eq, decide_eq_false_iff_not, Bool.not_eq_true', Bool.not_eq_false', Bool.not_eq_true, Bool.not_eq_false, Bool.and_eq_true, Bool.or_eq_true, Bool.and_eq_false_iff, Bool.or_eq_false_iff, Bool.not_not, ne_eq, Int.not_lt, Int.not_le, Decidable.not_not, beq_iff_eq, bne_iff_ne] at hc6
                exfalso; omega
            · intro hc5
              try simp only [decide_eq_true_eq, decide_eq_false_iff_not, Bool.not_eq_true', Bool.not_eq_false', Bool.not_eq_true, Bool.not_eq_false, Bool.and_eq_true, Bool.or_eq_true, Bool.and_eq_false_iff, Bool.or_eq_false_iff, Bool.not_not, ne_eq, Int.not_lt, Int.not_le, Decidable.not_not, beq_iff_eq, bne_iff_ne] at hc5
              exfalso; omega

set_option maxHeartbeats 1000000 in
theorem do_alloc (b : Nat) (f f2 : Nat → Int) (kd x A B E D : Nat) (hk : kd = 5) (h : A ≤ 32) (u t : Int) (hs : Sp Try.prog 37 #[.pointer (some ⟨b, 0, none⟩), .int .i64 A] [(b, C (encL (f)) 87)] (fun v F' => v = .tuple #[.int .u64 u, .int .u8 t] ∧ F' = [(b, C (encL f2) 87)])) : Sp Try.prog 39 #[.pointer (some ⟨b, 0, none⟩), .agg #[.int .u8 kd, .int .u32 x, .int .u64 A, .int .u64 B, .int .u64 E, .int .u64 D]] [(b, C (encL (f)) 87)] (fun v F' => v = .agg #[.int .u8 t, .bool false, .int .u64 u, .int .u64 0] ∧ F' = [(b, C (encL f2) 87)]) := by
  refine f_enter (args := [.pointer (some ⟨b, 0, none⟩), .agg #[.int .u8 kd, .int .u32 x, .int .u64 A, .int .u64 B, .int .u64 E, .int .u64 D]]) Try.func39 rfl Try.ntmps39 rfl ?_
  intro w0 w a hpre hl hh
  simp only [slotsFrom, Nat.reduceAdd] at hl
  refine c_seq ?_
  refine c_region ?_
  refine wl (w_box hl hh rfl trivial rfl rfl ?_)
  clear hl hh a w; intro k3 a w hl hh
  refine wl (w_alloc hl hh rfl trivial zero44 rfl ?_)
  clear hl hh a w; intro k4 a w hl hh
  refine w_nil ?_
  have hl2 := hl.add (t := 0) (hl.add (t := 3) (hl.add (t := 4) (hl.nil) rfl) rfl) rfl; clear hl; have hl := hl2; clear hl2
  refine then_normal ?_
  refine c_seq ?_
  refine c_region ?_
  refine wl (w_alloc hl hh rfl trivial zero44 rfl ?_)
  clear hl hh a w; intro k5 a w hl hh
  refine w_nil ?_
  have hl2 := hl.add (t := 0) (hl.add (t := 3) (hl.add (t := 4) (hl.add (t := 5) (hl.nil) rfl) rfl) rfl) rfl; clear hl; have hl := hl2; clear hl2
  refine then_normal ?_
  refine c_seq ?_
  refine c_seq ?_
  refine c_region ?_
  refine wl (wl_val hl rfl trivial (r_field hl rfl fld36_0) ?_)
  clear hl a; intro a hl
  refine wl (w_load hl hh rfl trivial one32 rfl (by repeat (first | exact find_head | apply find_tail)) (by first | rfl) ?_)
  clear hl a; intro a hl
  refine w_nil ?_
  have hl2 := hl.add (t := 0) (hl.add (t := 3) (hl.add (t := 4) (hl.add (t := 5) (hl.add (t := 9) (hl.nil) rfl) rfl) rfl) rfl) rfl; clear hl; have hl := hl2; clear hl2
  refine then_normal ?_
  refine wp_block ?_
  refine c_seq ?_
  refine c_region ?_
  refine wl (wl_val hl rfl trivial (r_eql hl rfl rfl) ?_)
  clear hl a; intro a hl
  refine wl (wl_val hl rfl trivial (r_assign hl rfl) ?_)
  clear hl a; intro a hl
  refine w_nil ?_
  have hl2 := hl.add (t := 0) (hl.add (t := 3) (hl.add (t := 4) (hl.add (t := 5) (hl.add (t := 9) (hl.add (t := 11) (hl.nil) rfl) rfl) rfl) rfl) rfl) rfl; clear hl; have hl := hl2; clear hl2
  refine then_normal ?_
  refine c_cond hl rfl ?_ ?_
  · intro hc0
    try simp only [decide_eq_true_eq, decide_eq_false_iff_not, Bool.not_eq_true', Bool.not_eq_false', Bool.not_eq_true, Bool.not_eq_false, Bool.and_eq_true, Bool.or_eq_true, Bool.and_eq_false_iff, Bool.or_eq_false_iff, Bool.not_not, ne_eq, Int.not_lt, Int.not_le, Decidable.not_not, beq_iff_eq, bne_iff_ne] at hc0
    exfalso; omega
  · intro hc0
    try simp only [decide_eq_true_eq, decide_eq_false_iff_not, Bool.not_eq_true', Bool.not_eq_false', Bool.not_eq_true, Bool.not_eq_false, Bool.and_eq_true, Bool.or_eq_true, Bool.and_eq_false_iff, Bool.or_eq_false_iff, Bool.not_not, ne_eq, Int.not_lt, Int.not_le, Decidable.not_not, beq_iff_eq, bne_iff_ne] at hc0
    refine c_seq ?_
    refine c_region ?_
    refine wl (wl_val hl rfl trivial (r_eql hl rfl rfl) ?_)
    clear hl a; intro a hl
    refine wl (wl_val hl rfl trivial (r_assign hl rfl) ?_)
    clear hl a; intro a hl
    refine w_nil ?_
    have hl2 := hl.add (t := 0) (hl.add (t := 3) (hl.add (t := 4) (hl.add (t := 5) (hl.add (t := 9) (hl.add (t := 22) (hl.nil) rfl) rfl) rfl) rfl) rfl) rfl; clear hl; have hl := hl2; clear hl2
    refine then_normal ?_
    refine c_cond hl rfl ?_ ?_
    · intro hc1
      try simp only [decide_eq_true_eq, decide_eq_false_iff_not, Bool.not_eq_true', Bool.not_eq_false', Bool.not_eq_true, Bool.not_eq_false, Bool.and_eq_true, Bool.or_eq_true, Bool.and_eq_false_iff, Bool.or_eq_false_iff, Bool.not_not, ne_eq, Int.not_lt, Int.not_le, Decidable.not_not, beq_iff_eq, bne_iff_ne] at hc1
      exfalso; omega
    · intro hc1
      try simp only [decide_eq_true_eq, decide_eq_false_iff_not, Bool.not_eq_true', Bool.not_eq_false', Bool.not_eq_true, Bool.not_eq_false, Bool.and_eq_true, Bool.or_eq_true, Bool.and_eq_false_iff, Bool.or_eq_false_iff, Bool.not_not, ne_eq, Int.not_lt, Int.not_le, Decidable.not_not, beq_iff_eq, bne_iff_ne] at hc1
      refine c_seq ?_
      refine c_region ?_
      refine wl (wl_val hl rfl trivial (r_eql hl rfl rfl) ?_)
      clear hl a; intro a hl
      refine wl (wl_val hl rfl trivial (r_assign hl rfl) ?_)
      clear hl a; intro a hl
      refine w_nil ?_
      have hl2 := hl.add (t := 0) (hl.add (t := 3) (hl.add (t := 4) (hl.add (t := 5) (hl.add (t := 9) (hl.add (t := 31) (hl.nil) rfl) rfl) rfl) rfl) rfl) rfl; clear hl; have hl := hl2; clear hl2
      refine then_normal ?_
      refine c_cond hl rfl ?_ ?_
      · intro hc2
        try simp only [decide_eq_true_eq, decide_eq_false_iff_not, Bool.not_eq_true', Bool.not_eq_false', Bool.not_eq_true, Bool.not_eq_false, Bool.and_eq_true, Bool.or_eq_true, Bool.and_eq_false_iff, Bool.or_eq_false_iff, Bool.not_not, ne_eq, Int.not_lt, Int.not_le, Decidable.not_not, beq_iff_eq, bne_iff_ne] at hc2
        exfalso; omega
      · intro hc2
        try simp only [decide_eq_true_eq, decide_eq_false_iff_not, Bool.not_eq_true', Bool.not_eq_false', Bool.not_eq_true, Bool.not_eq_false, Bool.and_eq_true, Bool.or_eq_true, Bool.and_eq_false_iff, Bool.or_eq_false_iff, Bool.not_not, ne_eq, Int.not_lt, Int.not_le, Decidable.not_not, beq_iff_eq, bne_iff_ne] at hc2
        refine c_seq ?_
        refine c_region ?_
        refine wl (wl_val hl rfl trivial (r_eql hl rfl rfl) ?_)
        clear hl a; intro a hl
        refine wl (wl_val hl rfl trivial (r_assign hl rfl) ?_)
        clear hl a; intro a hl
        refine w_nil ?_
        have hl2 := hl.add (t := 0) (hl.add (t := 3) (hl.add (t := 4) (hl.add (t := 5) (hl.add (t := 9) (hl.add (t := 48) (hl.nil) rfl) rfl) rfl) rfl) rfl) rfl; clear hl; have hl := hl2; clear hl2
        refine then_normal ?_
        refine c_cond hl rfl ?_ ?_
        · intro hc3
          try simp only [decide_eq_true_eq, decide_eq_false_iff_not, Bool.not_eq_true', Bool.not_eq_false', Bool.not_eq_true, Bool.not_eq_false, Bool.and_eq_true, Bool.or_eq_true, Bool.and_eq_false_iff, Bool.or_eq_false_iff, Bool.not_not, ne_eq, Int.not_lt, Int.not_le, Decidable.not_not, beq_iff_eq, bne_iff_ne] at hc3
          exfalso; omega
        · intro hc3
          try simp only [decide_eq_true_eq, decide_eq_false_iff_not, Bool.not_eq_true', Bool.not_eq_false', Bool.not_eq_true, Bool.not_eq_false, Bool.and_eq_true, Bool.or_eq_true, Bool.and_eq_false_iff, Bool.or_eq_false_iff, Bool.not_not, ne_eq, Int.not_lt, Int.not_le, Decidable.not_not, beq_iff_eq, bne_iff_ne] at hc3
          refine c_seq ?_
          refine c_region ?_
          refine wl (wl_val hl rfl trivial (r_eql hl rfl rfl) ?_)
          clear hl a; intro a hl
          refine wl (wl_val hl rfl trivial (r_assign hl rfl) ?_)
          clear hl a; intro a hl
          refine w_nil ?_
          have hl2 := hl.add (t := 0) (hl.add (t := 3) (hl.add (t := 4) (hl.add (t := 5) (hl.add (t := 9) (hl.add (t := 61) (hl.nil) rfl) rfl) rfl) rfl) rfl) rfl; clear hl; have hl := hl2; clear hl2
          refine then_normal ?_
          refine c_cond hl rfl ?_ ?_
          · intro hc4
            try simp only [decide_eq_true_eq, decide_eq_false_iff_not, Bool.not_eq_true', Bool.not_eq_false', Bool.not_eq_true, Bool.not_eq_false, Bool.and_eq_true, Bool.or_eq_true, Bool.and_eq_false_iff, Bool.or_eq_false_iff, Bool.not_not, ne_eq, Int.not_lt, Int.not_le, Decidable.not_not, beq_iff_eq, bne_iff_ne] at hc4
            exfalso; omega
          · intro hc4
            try simp only [decide_eq_true_eq, decide_eq_false_iff_not, Bool.not_eq_true', Bool.not_eq_false', Bool.not_eq_true, Bool.not_eq_false, Bool.and_eq_true, Bool.or_eq_true, Bool.and_eq_false_iff, Bool.or_eq_false_iff, Bool.not_not, ne_eq, Int.not_lt, Int.not_le, Decidable.not_not, beq_iff_eq, bne_iff_ne] at hc4
            refine c_seq ?_
            refine c_region ?_
            refine wl (wl_val hl rfl trivial (r_eql hl rfl rfl) ?_)
            clear hl a; intro a hl
            refine wl (wl_val hl rfl trivial (r_assign hl rfl) ?_)
            clear hl a; intro a hl
            refine w_nil ?_
            have hl2 := hl.add (t := 0) (hl.add (t := 3) (hl.add (t := 4) (hl.add (t := 5) (hl.add (t := 9) (hl.add (t := 89) (hl.nil) rfl) rfl) rfl) rfl) rfl) rfl; clear hl; have hl := hl2; clear hl2
            refine then_normal ?_
            refine c_cond hl rfl ?_ ?_
            · intro hc5
              try simp only [decide_eq_true_eq, decide_eq_false_iff_not, Bool.not_eq_true', Bool.not_eq_false', Bool.not_eq_true, Bool.not_eq_false, Bool.and_eq_true, Bool.or_eq_true, Bool.and_eq_false_iff, Bool.or_eq_false_iff, Bool.not_not, ne_eq, Int.not_lt, Int.not_le, Decidable.not_not, beq_iff_eq, bne_iff_ne] at hc5
              refine c_seq ?_
              refine c_seq ?_
              refine c_region ?_
              refine wl (wl_val hl rfl trivial (r_field hl rfl fld36_2) ?_)
              clear hl a; intro a hl
              refine wl (w_load hl hh rfl trivial one27 rfl (by repeat (first | exact find_head | apply find_tail)) (by first | rfl) ?_)
              clear hl a; intro a hl
              refine wl (wl_val hl rfl trivial (r_gtr hl rfl rfl) ?_)
              clear hl a; intro a hl
              refine w_nil ?_
              have hl2 := hl.add (t := 0) (hl.add (t := 3) (hl.add (t := 4) (hl.add (t := 5) (hl.add (t := 93) (hl.nil) rfl) rfl) rfl) rfl) rfl; clear hl; have hl := hl2; clear hl2
              refine then_normal ?_
              refine c_cond hl rfl ?_ ?_
              · intro hc6
                try simp only [decide_eq_true_eq, decide_eq_false_iff_not, Bool.not_eq_true', Bool.not_eq_false', Bool.not_eq_true, Bool.not_eq_false, Bool.and_eq_true, Bool.or_eq_true, Bool.and_eq_false_iff, Bool.or_eq_false_iff, Bool.not_not, ne_eq, Int.not_lt, Int.not_le, Decidable.not_not, beq_iff_eq, bne_iff_ne] at hc6
                exfalso; omega
              · intro hc6
                try simp only [decide_eq_true_eq, decide_eq_false_iff_not, Bool.not_eq_true', Bool.not_eq_false', Bool.not_eq_true, Bool.not_eq_false, Bool.and_eq_true, Bool.or_eq_true, Bool.and_eq_false_iff, Bool.or_eq_false_iff, Bool.not_not, ne_eq, Int.not_lt, Int.not_le, Decidable.not_not, beq_iff_eq, bne_iff_ne] at hc6
                refine wp_skip ?_
                refine then_normal ?_
                refine c_seq ?_
                refine c_region ?_
                refine wl (wl_val hl rfl trivial (r_assign hl rfl) ?_)
                clear hl a; intro a hl
                refine w_nil ?_
                have hl2 := hl.add (t := 0) (hl.add (t := 3) (hl.add (t := 4) (hl.add (t := 5) (hl.nil) rfl) rfl) rfl) rfl; clear hl; have hl := hl2; clear hl2
                refine then_normal ?_
                refine c_seq ?_
                refine c_region ?_
                refine wl (wl_val hl rfl trivial (r_move hl rfl) ?_)
                clear hl a; intro a hl
                refine wl (wl_val hl rfl trivial (r_field hl rfl fld36_2) ?_)
                clear hl a; intro a hl
                refine wl (w_load hl hh rfl trivial one27 rfl (by repeat (first | exact find_head | apply find_tail)) (by first | rfl) ?_)
                clear hl a; intro a hl
                first | refine wl (wl_val hl rfl trivial (r_conv hl rfl Try.underlying27 Try.underlying3 (by simp only [Fits]; omega)) ?_) | refine wl (wl_val hl rfl trivial (r_convW hl rfl Try.underlying27 Try.underlying3) ?_)
                clear hl a; intro a hl
                refine wl (w_call hl hh rfl trivial rfl cal37 rfl (hs) (by repeat (first | exact keeps_nil | apply keeps_cons (by repeat (first | exact find_head | apply find_tail)) (by first  | rfl) | exact keeps_self | apply keeps_mv)) trivial ?_)
                clear hl hh a w; intro vc Fc a w hR hl hh
                obtain ⟨rfl, rfl⟩ := hR
                simp only [List.cons_append, List.nil_append] at hh
                refine wl (wl_val hl rfl trivial (r_move hl rfl) ?_)
                clear hl a; intro a hl
                refine wl (wl_val hl rfl trivial (r_extract hl rfl (by simp only [List.getElem?_toArray, List.getElem?_cons_zero, List.getElem?_cons_succ]; rfl)) ?_)
                clear hl a; intro a hl
                refine wl (wl_val hl rfl trivial (r_extract hl rfl (by simp only [List.getElem?_toArray, List.getElem?_cons_zero, List.getElem?_cons_succ]; rfl)) ?_)
                clear hl a; intro a hl
                refine wl (wl_val hl rfl trivial (r_assign hl rfl) ?_)
                clear hl a; intro a hl
                refine wl (wl_val hl rfl trivial (r_field hl rfl fld44_0) ?_)
                clear hl a; intro a hl
                refine wl (w_store hl hh trivial one42 rfl rfl (by repeat (first | exact find_head | apply find_tail)) (by first | (simp; done) | (simp; omega)) (by first | rfl | (apply Row.one; assumption)) (by first | (simp only [setL, List.getElem?_cons_zero, List.getElem?_cons_succ, Value.cells, List.take_zero, List.take_succ_cons, List.take_nil, List.drop_zero, List.drop_succ_cons, List.drop_nil, List.length_cons, List.length_nil, List.cons_append, List.nil_append, List.append_nil, Nat.zero_add, Nat.add_zero, Nat.reduceAdd, Nat.reduceBEq, Nat.reduceEqDiff, Nat.ble, BEq.rfl, Bool.and_true, Bool.and_self, cond_true, beq_self_eq_true]; rfl)) ?_)
                clear hh w; intro w hh
                refine w_nil ?_
                have hl2 := hl.add (t := 4) (hl.add (t := 5) (hl.add (t := 7) (hl.nil) rfl) rfl) rfl; clear hl; have hl := hl2; clear hl2
                refine then_normal ?_
                refine c_region ?_
                refine wl (wl_val hl rfl trivial (r_move hl rfl) ?_)
                clear hl a; intro a hl
                refine wl (wl_val hl rfl trivial (r_field hl rfl fld44_2) ?_)
                clear hl a; intro a hl
                refine wl (w_store hl hh trivial one27 rfl rfl (by repeat (first | exact find_head | apply find_tail)) (by first | (simp; done) | (simp; omega)) (by first | rfl | (apply Row.one; assumption)) (by first | (simp only [setL, List.getElem?_cons_zero, List.getElem?_cons_succ, Value.cells, List.take_zero, List.take_succ_cons, List.take_nil, List.drop_zero, List.drop_succ_cons, List.drop_nil, List.length_cons, List.length_nil, List.cons_append, List.nil_append, List.append_nil, Nat.zero_add, Nat.add_zero, Nat.reduceAdd, Nat.reduceBEq, Nat.reduceEqDiff, Nat.ble, BEq.rfl, Bool.and_true, Bool.and_self, cond_true, beq_self_eq_true]; rfl)) ?_)
                clear hh w; intro w hh
                refine w_nil ?_
                have hl2 := hl.add (t := 4) (hl.add (t := 5) (hl.nil) rfl) rfl; clear hl; have hl := hl2; clear hl2
                refine blk_normal ?_
                refine then_normal ?_
                refine c_seq ?_
                refine c_region ?_
                refine wl (w_loadA hl hh rfl trivial agg44 rfl (by repeat (first | exact find_head | apply find_tail)) (by first | (simp only [List.getElem?_cons_zero, List.getElem?_cons_succ, Value.cells, List.take_zero, List.take_succ_cons, List.take_nil, List.drop_zero, List.drop_succ_cons, List.drop_nil, List.length_cons, List.length_nil, List.cons_append, List.nil_append, List.append_nil, Nat.zero_add, Nat.add_zero, Nat.reduceAdd, Nat.reduceBEq, Nat.reduceEqDiff, Nat.ble, BEq.rfl, Bool.and_true, Bool.and_self, cond_true, beq_self_eq_true]; rfl)) (by first | rfl | (simp; done)) ?_)
                clear hl a; intro a hl
                refine wl (w_storeA hl hh trivial agg44 rfl rfl (by repeat (first | exact find_head | apply find_tail)) (by first | rfl | (simp; done)) (by first | (simp; done) | (simp; omega)) (by first | rfl | (simp; done)) (by first | (simp only [setL, List.getElem?_cons_zero, List.getElem?_cons_succ, Value.cells, List.take_zero, List.take_succ_cons, List.take_nil, List.drop_zero, List.drop_succ_cons, List.drop_nil, List.length_cons, List.length_nil, List.cons_append, List.nil_append, List.append_nil, Nat.zero_add, Nat.add_zero, Nat.reduceAdd, Nat.reduceBEq, Nat.reduceEqDiff, Nat.ble, BEq.rfl, Bool.and_true, Bool.and_self, cond_true, beq_self_eq_true]; rfl)) ?_)
                clear hh w; intro w hh
                refine w_nil ?_
                have hl2 := hl.add (t := 4) (hl.nil) rfl; clear hl; have hl := hl2; clear hl2
                refine then_normal ?_
                refine wp_ret ?_
                refine f_retC (F' := [(b, C (encL f2) 87)]) hl hh rfl rfl agg44 (by repeat (first | exact find_head | apply find_tail)) (by first | rfl | (simp; done)) (by repeat (first | exact keeps_nil | apply keeps_cons (by repeat (first | exact find_head | apply find_tail)) (by first  | rfl) | exact keeps_self | apply keeps_mv)) ?_
                exact ⟨rfl, rfl⟩
            · intro hc5
              try simp only [decide_eq_true_eq, decide_eq_false_iff_not, Bool.not_eq_true', Bool.not_eq_false', Bool.not_eq_true, Bool.not_eq_false, Bool.and_eq_true, Bool.or_eq_true, Bool.and_eq_false_iff, Bool.or_eq_false_iff, Bool.not_not, ne_eq, Int.not_lt, Int.not_le, Decidable.not_not, beq_iff_eq, bne_iff_ne] at hc5
              exfalso; omega

set_option maxHeartbeats 1000000 in
theorem do_free (b : Nat) (f f2 : Nat → Int) (kd x A B E D : Nat) (hk : kd = 6) (t : Int) (hs : Sp Try.prog 34 #[.pointer (some ⟨b, 0, none⟩), .int .u64 A] [(b, C (encL (f)) 87)] (fun v F' => v = .int .u8 t ∧ F' = [(b, C (encL f2) 87)])) : Sp Try.prog 39 #[.pointer (some ⟨b, 0, none⟩), .agg #[.int .u8 kd, .int .u32 x, .int .u64 A, .int .u64 B, .int .u64 E, .int .u64 D]] [(b, C (encL (f)) 87)] (fun v F' => v = .agg #[.int .u8 t, .bool false, .int .u64 0, .int .u64 0] ∧ F' = [(b, C (encL f2) 87)]) := by
  refine f_enter (args := [.pointer (some ⟨b, 0, none⟩), .agg #[.int .u8 kd, .int .u32 x, .int .u64 A, .int .u64 B, .int .u64 E, .int .u64 D]]) Try.func39 rfl Try.ntmps39 rfl ?_
  intro w0 w a hpre hl hh
  simp only [slotsFrom, Nat.reduceAdd] at hl
  refine c_seq ?_
  refine c_region ?_
  refine wl (w_box hl hh rfl trivial rfl rfl ?_)
  clear hl hh a w; intro k3 a w hl hh
  refine wl (w_alloc hl hh rfl trivial zero44 rfl ?_)
  clear hl hh a w; intro k4 a w hl hh
  refine w_nil ?_
  have hl2 := hl.add (t := 0) (hl.add (t := 3) (hl.add (t := 4) (hl.nil) rfl) rfl) rfl; clear hl; have hl := hl2; clear hl2
  refine then_normal ?_
  refine c_seq ?_
  refine c_region ?_
  refine wl (w_alloc hl hh rfl trivial zero44 rfl ?_)
  clear hl hh a w; intro k5 a w hl hh
  refine w_nil ?_
  have hl2 := hl.add (t := 0) (hl.add (t := 3) (hl.add (t := 4) (hl.add (t := 5) (hl.nil) rfl) rfl) rfl) rfl; clear hl; have hl := hl2; clear hl2
  refine then_normal ?_
  refine c_seq ?_
  refine c_seq ?_
  refine c_region ?_
  refine wl (wl_val hl rfl trivial (r_field hl rfl fld36_0) ?_)
  clear hl a; intro a hl
  refine wl (w_load hl hh rfl trivial one32 rfl (by repeat (first | exact find_head | apply find_tail)) (by first | rfl) ?_)
  clear hl a; intro a hl
  refine w_nil ?_
  have hl2 := hl.add (t := 0) (hl.add (t := 3) (hl.add (t := 4) (hl.add (t := 5) (hl.add (t := 9) (hl.nil) rfl) rfl) rfl) rfl) rfl; clear hl; have hl := hl2; clear hl2
  refine then_normal ?_
  refine wp_block ?_
  refine c_seq ?_
  refine c_region ?_
  refine wl (wl_val hl rfl trivial (r_eql hl rfl rfl) ?_)
  clear hl a; intro a hl
  refine wl (wl_val hl rfl trivial (r_assign hl rfl) ?_)
  clear hl a; intro a hl
  refine w_nil ?_
  have hl2 := hl.add (t := 0) (hl.add (t := 3) (hl.add (t := 4) (hl.add (t := 5) (hl.add (t := 9) (hl.add (t := 11) (hl.nil) rfl) rfl) rfl) rfl) rfl) rfl; clear hl; have hl := hl2; clear hl2
  refine then_normal ?_
  refine c_cond hl rfl ?_ ?_
  · intro hc0
    try simp only [decide_eq_true_eq, decide_eq_false_iff_not, Bool.not_eq_true', Bool.not_eq_false', Bool.not_eq_true, Bool.not_eq_false, Bool.and_eq_true, Bool.or_eq_true, Bool.and_eq_false_iff, Bool.or_eq_false_iff, Bool.not_not, ne_eq, Int.not_lt, Int.not_le, Decidable.not_not, beq_iff_eq, bne_iff_ne] at hc0
    exfalso; omega
  · intro hc0
    try simp only [decide_eq_true_eq, decide_eq_false_iff_not, Bool.not_eq_true', Bool.not_eq_false', Bool.not_eq_true, Bool.not_eq_false, Bool.and_eq_true, Bool.or_eq_true, Bool.and_eq_false_iff, Bool.or_eq_false_iff, Bool.not_not, ne_eq, Int.not_lt, Int.not_le, Decidable.not_not, beq_iff_eq, bne_iff_ne] at hc0
    refine c_seq ?_
    refine c_region ?_
    refine wl (wl_val hl rfl trivial (r_eql hl rfl rfl) ?_)
    clear hl a; intro a hl
    refine wl (wl_val hl rfl trivial (r_assign hl rfl) ?_)
    clear hl a; intro a hl
    refine w_nil ?_
    have hl2 := hl.add (t := 0) (hl.add (t := 3) (hl.add (t := 4) (hl.add (t := 5) (hl.add (t := 9) (hl.add (t := 22) (hl.nil) rfl) rfl) rfl) rfl) rfl) rfl; clear hl; have hl := hl2; clear hl2
    refine then_normal ?_
    refine c_cond hl rfl ?_ ?_
    · intro hc1
      try simp only [decide_eq_true_eq, decide_eq_false_iff_not, Bool.not_eq_true', Bool.not_eq_false', Bool.not_eq_true, Bool.not_eq_false, Bool.and_eq_true, Bool.or_eq_true, Bool.and_eq_false_iff, Bool.or_eq_false_iff, Bool.not_not, ne_eq, Int.not_lt, Int.not_le, Decidable.not_not, beq_iff_eq, bne_iff_ne] at hc1
      exfalso; omega
    · intro hc1
      try simp only [decide_eq_true_eq, decide_eq_false_iff_not, Bool.not_eq_true', Bool.not_eq_false', Bool.not_eq_true, Bool.not_eq_false, Bool.and_eq_true, Bool.or_eq_true, Bool.and_eq_false_iff, Bool.or_eq_false_iff, Bool.not_not, ne_eq, Int.not_lt, Int.not_le, Decidable.not_not, beq_iff_eq, bne_iff_ne] at hc1
      refine c_seq ?_
      refine c_region ?_
      refine wl (wl_val hl rfl trivial (r_eql hl rfl rfl) ?_)
      clear hl a; intro a hl
      refine wl (wl_val hl rfl trivial (r_assign hl rfl) ?_)
      clear hl a; intro a hl
      refine w_nil ?_
      have hl2 := hl.add (t := 0) (hl.add (t := 3) (hl.add (t := 4) (hl.add (t := 5) (hl.add (t := 9) (hl.add (t := 31) (hl.nil) rfl) rfl) rfl) rfl) rfl) rfl; clear hl; have hl := hl2; clear hl2
      refine then_normal ?_
      refine c_cond hl rfl ?_ ?_
      · intro hc2
        try simp only [decide_eq_true_eq, decide_eq_false_iff_not, Bool.not_eq_true', Bool.not_eq_false', Bool.not_eq_true, Bool.not_eq_false, Bool.and_eq_true, Bool.or_eq_true, Bool.and_eq_false_iff, Bool.or_eq_false_iff, Bool.not_not, ne_eq, Int.not_lt, Int.not_le, Decidable.not_not, beq_iff_eq, bne_iff_ne] at hc2
        exfalso; omega
      · intro hc2
        try simp only [decide_eq_true_eq, decide_eq_false_iff_not, Bool.not_eq_true', Bool.not_eq_false', Bool.not_eq_true, Bool.not_eq_false, Bool.and_eq_true, Bool.or_eq_true, Bool.and_eq_false_iff, Bool.or_eq_false_iff, Bool.not_not, ne_eq, Int.not_lt, Int.not_le, Decidable.not_not, beq_iff_eq, bne_iff_ne] at hc2
        refine c_seq ?_
        refine c_region ?_
        refine wl (wl_val hl rfl trivial (r_eql hl rfl rfl) ?_)
        clear hl a; intro a hl
        refine wl (wl_val hl rfl trivial (r_assign hl rfl) ?_)
        clear hl a; intro a hl
        refine w_nil ?_
        have hl2 := hl.add (t := 0) (hl.add (t := 3) (hl.add (t := 4) (hl.add (t := 5) (hl.add (t := 9) (hl.add (t := 48) (hl.nil) rfl) rfl) rfl) rfl) rfl) rfl; clear hl; have hl := hl2; clear hl2
        refine then_normal ?_
        refine c_cond hl rfl ?_ ?_
        · intro hc3
          try simp only [decide_eq_true_eq, decide_eq_false_iff_not, Bool.not_eq_true', Bool.not_eq_false', Bool.not_eq_true, Bool.not_eq_false, Bool.and_eq_true, Bool.or_eq_true, Bool.and_eq_false_iff, Bool.or_eq_false_iff, Bool.not_not, ne_eq, Int.not_lt, Int.not_le, Decidable.not_not, beq_iff_eq, bne_iff_ne] at hc3
          exfalso; omega
        · intro hc3
          try simp only [decide_eq_true_eq, decide_eq_false_iff_not, Bool.not_eq_true', Bool.not_eq_false', Bool.not_eq_true, Bool.not_eq_false, Bool.and_eq_true, Bool.or_eq_true, Bool.and_eq_false_iff, Bool.or_eq_false_iff, Bool.not_not, ne_eq, Int.not_lt, Int.not_le, Decidable.not_not, beq_iff_eq, bne_iff_ne] at hc3
          refine c_seq ?_
          refine c_region ?_
          refine wl (wl_val hl rfl trivial (r_eql hl rfl rfl) ?_)
          clear hl a; intro a hl
          refine wl (wl_val hl rfl trivial (r_assign hl rfl) ?_)
          clear hl a; intro a hl
          refine w_nil ?_
          have hl2 := hl.add (t := 0) (hl.add (t := 3) (hl.add (t := 4) (hl.add (t := 5) (hl.add (t := 9) (hl.add (t := 61) (hl.nil) rfl) rfl) rfl) rfl) rfl) rfl; clear hl; have hl := hl2; clear hl2
          refine then_normal ?_
          refine c_cond hl rfl ?_ ?_
          · intro hc4
            try simp only [decide_eq_true_eq, decide_eq_false_iff_not, Bool.not_eq_true', Bool.not_eq_false', Bool.not_eq_true, Bool.not_eq_false, Bool.and_eq_true, Bool.or_eq_true, Bool.and_eq_false_iff, Bool.or_eq_false_iff, Bool.not_not, ne_eq, Int.not_lt, Int.not_le, Decidable.not_not, beq_iff_eq, bne_iff_ne] at hc4
            exfalso; omega
          · intro hc4
            try simp only [decide_eq_true_eq, decide_eq_false_iff_not, Bool.not_eq_true', Bool.not_eq_false', Bool.not_eq_true, Bool.not_eq_false, Bool.and_eq_true, Bool.or_eq_true, Bool.and_eq_false_iff, Bool.or_eq_false_iff, Bool.not_not, ne_eq, Int.not_lt, Int.not_le, Decidable.not_not, beq_iff_eq, bne_iff_ne] at hc4
            refine c_seq ?_
            refine c_region ?_
            refine wl (wl_val hl rfl trivial (r_eql hl rfl rfl) ?_)
            clear hl a; intro a hl
            refine wl (wl_val hl rfl trivial (r_assign hl rfl) ?_)
            clear hl a; intro a hl
            refine w_nil ?_
            have hl2 := hl.add (t := 0) (hl.add (t := 3) (hl.add (t := 4) (hl.add (t := 5) (hl.add (t := 9) (hl.add (t := 89) (hl.nil) rfl) rfl) rfl) rfl) rfl) rfl; clear hl; have hl := hl2; clear hl2
            refine then_normal ?_
            refine c_cond hl rfl ?_ ?_
            · intro hc5
              try simp only [decide_eq_true_eq, decide_eq_false_iff_not, Bool.not_eq_true', Bool.not_eq_false', Bool.not_eq_true, Bool.not_eq_false, Bool.and_eq_true, Bool.or_eq_true, Bool.and_eq_false_iff, Bool.or_eq_false_iff, Bool.not_not, ne_eq, Int.not_lt, Int.not_le, Decidable.not_not, beq_iff_eq, bne_iff_ne] at hc5
              exfalso; omega
            · intro hc5
              try simp only [decide_eq_true_eq, decide_eq_false_iff_not, Bool.not_eq_true', Bool.not_eq_false', Bool.not_eq_true, Bool.not_eq_false, Bool.and_eq_true, Bool.or_eq_true, Bool.and_eq_false_iff, Bool.or_eq_false_iff, Bool.not_not, ne_eq, Int.not_lt, Int.not_le, Decidable.not_not, beq_iff_eq, bne_iff_ne] at hc5
              refine c_seq ?_
              refine c_region ?_
              refine wl (wl_val hl rfl trivial (r_eql hl rfl rfl) ?_)
              clear hl a; intro a hl
              refine wl (wl_val hl rfl trivial (r_assign hl rfl) ?_)
              clear hl a; intro a hl
              refine w_nil ?_
              have hl2 := hl.add (t := 0) (hl.add (t := 3) (hl.add (t := 4) (hl.add (t := 5) (hl.add (t := 106) (hl.nil) rfl) rfl) rfl) rfl) rfl; clear hl; have hl := hl2; clear hl2
              refine then_normal ?_
              refine c_cond hl rfl ?_ ?_
              · intro hc7
                try simp only [decide_eq_true_eq, decide_eq_false_iff_not, Bool.not_eq_true', Bool.not_eq_false', Bool.not_eq_true, Bool.not_eq_false, Bool.and_eq_true, Bool.or_eq_true, Bool.and_eq_false_iff, Bool.or_eq_false_iff, Bool.not_not, ne_eq, Int.not_lt, Int.not_le, Decidable.not_not, beq_iff_eq, bne_iff_ne] at hc7
                refine c_region ?_
                refine wl (wl_val hl rfl trivial (r_move hl rfl) ?_)
                clear hl a; intro a hl
                refine wl (wl_val hl rfl trivial (r_field hl rfl fld36_2) ?_)
                clear hl a; intro a hl
                refine wl (w_load hl hh rfl trivial one27 rfl (by repeat (first | exact find_head | apply find_tail)) (by first | rfl) ?_)
                clear hl a; intro a hl
                refine wl (w_call hl hh rfl trivial rfl cal34 rfl (hs) (by repeat (first | exact keeps_nil | apply keeps_cons (by repeat (first | exact find_head | apply find_tail)) (by first  | rfl) | exact keeps_self | apply keeps_mv)) trivial ?_)
                clear hl hh a w; intro vc Fc a w hR hl hh
                obtain ⟨rfl, rfl⟩ := hR
                simp only [List.cons_append, List.nil_append] at hh
                refine wl (wl_val hl rfl trivial (r_field hl rfl fld44_0) ?_)
                clear hl a; intro a hl
                refine wl (w_store hl hh trivial one42 rfl rfl (by repeat (first | exact find_head | apply find_tail)) (by first | (simp; done) | (simp; omega)) (by first | rfl | (apply Row.one; assumption)) (by first | (simp only [setL, List.getElem?_cons_zero, List.getElem?_cons_succ, Value.cells, List.take_zero, List.take_succ_cons, List.take_nil, List.drop_zero, List.drop_succ_cons, List.drop_nil, List.length_cons, List.length_nil, List.cons_append, List.nil_append, List.append_nil, Nat.zero_add, Nat.add_zero, Nat.reduceAdd, Nat.reduceBEq, Nat.reduceEqDiff, Nat.ble, BEq.rfl, Bool.and_true, Bool.and_self, cond_true, beq_self_eq_true]; rfl)) ?_)
                clear hh w; intro w hh
                refine w_nil ?_
                have hl2 := hl.add (t := 4) (hl.add (t := 5) (hl.nil) rfl) rfl; clear hl; have hl := hl2; clear hl2
                refine blk_normal ?_
                refine then_normal ?_
                refine c_seq ?_
                refine c_region ?_
                refine wl (w_loadA hl hh rfl trivial agg44 rfl (by repeat (first | exact find_head | apply find_tail)) (by first | (simp only [List.getElem?_cons_zero, List.getElem?_cons_succ, Value.cells, List.take_zero, List.take_succ_cons, List.take_nil, List.drop_zero, List.drop_succ_cons, List.drop_nil, List.length_cons, List.length_nil, List.cons_append, List.nil_append, List.append_nil, Nat.zero_add, Nat.add_zero, Nat.reduceAdd, Nat.reduceBEq, Nat.reduceEqDiff, Nat.ble, BEq.rfl, Bool.and_true, Bool.and_self, cond_true, beq_self_eq_true]; rfl)) (by first | rfl | (simp; done)) ?_)
                clear hl a; intro a hl
                refine wl (w_storeA hl hh trivial agg44 rfl rfl (by repeat (first | exact find_head | apply find_tail)) (by first | rfl | (simp; done)) (by first | (simp; done) | (simp; omega)) (by first | rfl | (simp; done)) (by first | (simp only [setL, List.getElem?_cons_zero, List.getElem?_cons_succ, Value.cells, List.take_zero, List.take_succ_cons, List.take_nil, List.drop_zero, List.drop_succ_cons, List.drop_nil, List.length_cons, List.length_nil, List.cons_append, List.nil_append, List.append_nil, Nat.zero_add, Nat.add_zero, Nat.reduceAdd, Nat.reduceBEq, Nat.reduceEqDiff, Nat.ble, BEq.rfl, Bool.and_true, Bool.and_self, cond_true, beq_self_eq_true]; rfl)) ?_)
                clear hh w; intro w hh
                refine w_nil ?_
                have hl2 := hl.add (t := 4) (hl.nil) rfl; clear hl; have hl := hl2; clear hl2
                refine then_normal ?_
                refine wp_ret ?_
                refine f_retC (F' := [(b, C (encL f2) 87)]) hl hh rfl rfl agg44 (by repeat (first | exact find_head | apply find_tail)) (by first | rfl | (simp; done)) (by repeat (first | exact keeps_nil | apply keeps_cons (by repeat (first | exact find_head | apply find_tail)) (by first  | rfl) | exact keeps_self | apply keeps_mv)) ?_
                exact ⟨rfl, rfl⟩
              · intro hc7
                try simp only [decide_eq_true_eq, decide_eq_false_iff_not, Bool.not_eq_true', Bool.not_eq_false', Bool.not_eq_true, Bool.not_eq_false, Bool.and_eq_true, Bool.or_eq_true, Bool.and_eq_false_iff, Bool.or_eq_false_iff, Bool.not_not, ne_eq, Int.not_lt, Int.not_le, Decidable.not_not, beq_iff_eq, bne_iff_ne] at hc7
                exfalso; omega

set_option maxHeartbeats 1000000 in
theorem do_skip (b : Nat) (f f2 : Nat → Int) (kd x A B E D : Nat) (hk : 6 < kd)  : Sp Try.prog 39 #[.pointer (some ⟨b, 0, none⟩), .agg #[.int .u8 kd, .int .u32 x, .int .u64 A, .int .u64 B, .int .u64 E, .int .u64 D]] [(b, C (encL (f)) 87)] (fun v F' => v = .agg #[.int .u8 7, .bool false, .int .u64 0, .int .u64 0] ∧ F' = [(b, C (encL f) 87)]) := by
  refine f_enter (args := [.pointer (some ⟨b, 0, none⟩), .agg #[.int .u8 kd, .int .u32 x, .int .u64 A, .int .u64 B, .int .u64 E, .int .u64 D]]) Try.func39 rfl Try.ntmps39 rfl ?_
  intro w0 w a hpre hl hh
  simp only [slotsFrom, Nat.reduceAdd] at hl
  refine c_seq ?_
  refine c_region ?_
  refine wl (w_box hl hh rfl trivial rfl rfl ?_)
  clear hl hh a w; intro k3 a w hl hh
  refine wl (w_alloc hl hh rfl trivial zero44 rfl ?_)
  clear hl hh a w; intro k4 a w hl hh
  refine w_nil ?_
  have hl2 := hl.add (t := 0) (hl.add (t := 3) (hl.add (t := 4) (hl.nil) rfl) rfl) rfl; clear hl; have hl := hl2; clear hl2
  refine then_normal ?_
  refine c_seq ?_
  refine c_region ?_
  refine wl (w_alloc hl hh rfl trivial zero44 rfl ?_)
  clear hl hh a w; intro k5 a w hl hh
  refine w_nil ?_
  have hl2 := hl.add (t := 0) (hl.add (t := 3) (hl.add (t := 4) (hl.add (t := 5) (hl.nil) rfl) rfl) rfl) rfl; clear hl; have hl := hl2; clear hl2
  refine then_normal ?_
  refine c_seq ?_
  refine c_seq ?_
  refine c_region ?_
  refine wl (wl_val hl rfl trivial (r_field hl rfl fld36_0) ?_)
  clear hl a; intro a hl
  refine wl (w_load hl hh rfl trivial one32 rfl (by repeat (first | exact find_head | apply find_tail)) (by first | rfl) ?_)
  clear hl a; intro a hl
  refine w_nil ?_
  have hl2 := hl.add (t := 0) (hl.add (t := 3) (hl.add (t := 4) (hl.add (t := 5) (hl.add (t := 9) (hl.nil) rfl) rfl) rfl) rfl) rfl; clear hl; have hl := hl2; clear hl2
  refine then_normal ?_
  refine wp_block ?_
  refine c_seq ?_
  refine c_region ?_
  refine wl (wl_val hl rfl trivial (r_eql hl rfl rfl) ?_)
  clear hl a; intro a hl
  refine wl (wl_val hl rfl trivial (r_assign hl rfl) ?_)
  clear hl a; intro a hl
  refine w_nil ?_
  have hl2 := hl.add (t := 0) (hl.add (t := 3) (hl.add (t := 4) (hl.add (t := 5) (hl.add (t := 9) (hl.add (t := 11) (hl.nil) rfl) rfl) rfl) rfl) rfl) rfl; clear hl; have hl := hl2; clear hl2
  refine then_normal ?_
  refine c_cond hl rfl ?_ ?_
  · intro hc0
    try simp only [decide_eq_true_eq, decide_eq_false_iff_not, Bool.not_eq_true', Bool.not_eq_false', Bool.not_eq_true, Bool.not_eq_false, Bool.and_eq_true, Bool.or_eq_true, Bool.and_eq_false_iff, Bool.or_eq_false_iff, Bool.not_not, ne_eq, Int.not_lt, Int.not_le, Decidable.not_not, beq_iff_eq, bne_iff_ne] at hc0
    exfalso; omega
  · intro hc0
    try simp only [decide_eq_true_eq, decide_eq_false_iff_not, Bool.not_eq_true', Bool.not_eq_false', Bool.not_eq_true, Bool.not_eq_false, Bool.and_eq_true, Bool.or_eq_true, Bool.and_eq_false_iff, Bool.or_eq_false_iff, Bool.not_not, ne_eq, Int.not_lt, Int.not_le, Decidable.not_not, beq_iff_eq, bne_iff_ne] at hc0
    refine c_seq ?_
    refine c_region ?_
    refine wl (wl_val hl rfl trivial (r_eql hl rfl rfl) ?_)
    clear hl a; intro a hl
    refine wl (wl_val hl rfl trivial (r_assign hl rfl) ?_)
    clear hl a; intro a hl
    refine w_nil ?_
    have hl2 := hl.add (t := 0) (hl.add (t := 3) (hl.add (t := 4) (hl.add (t := 5) (hl.add (t := 9) (hl.add (t := 22) (hl.nil) rfl) rfl) rfl) rfl) rfl) rfl; clear hl; have hl := hl2; clear hl2
    refine then_normal ?_
    refine c_cond hl rfl ?_ ?_
    · intro hc1
      try simp only [decide_eq_true_eq, decide_eq_false_iff_not, Bool.not_eq_true', Bool.not_eq_false', Bool.not_eq_true, Bool.not_eq_false, Bool.and_eq_true, Bool.or_eq_true, Bool.and_eq_false_iff, Bool.or_eq_false_iff, Bool.not_not, ne_eq, Int.not_lt, Int.not_le, Decidable.not_not, beq_iff_eq, bne_iff_ne] at hc1
      exfalso; omega
    · intro hc1
      try simp only [decide_eq_true_eq, decide_eq_false_iff_not, Bool.not_eq_true', Bool.not_eq_false', Bool.not_eq_true, Bool.not_eq_false, Bool.and_eq_true, Bool.or_eq_true, Bool.and_eq_false_iff, Bool.or_eq_false_iff, Bool.not_not, ne_eq, Int.not_lt, Int.not_le, Decidable.not_not, beq_iff_eq, bne_iff_ne] at hc1
      refine c_seq ?_
      refine c_region ?_
      refine wl (wl_val hl rfl trivial (r_eql hl rfl rfl) ?_)
      clear hl a; intro a hl
      refine wl (wl_val hl rfl trivial (r_assign hl rfl) ?_)
      clear hl a; intro a hl
      refine w_nil ?_
      have hl2 := hl.add (t := 0) (hl.add (t := 3) (hl.add (t := 4) (hl.add (t := 5) (hl.add (t := 9) (hl.add (t := 31) (hl.nil) rfl) rfl) rfl) rfl) rfl) rfl; clear hl; have hl := hl2; clear hl2
      refine then_normal ?_
      refine c_cond hl rfl ?_ ?_
      · intro hc2
        try simp only [decide_eq_true_eq, decide_eq_false_iff_not, Bool.not_eq_true', Bool.not_eq_false', Bool.not_eq_true, Bool.not_eq_false, Bool.and_eq_true, Bool.or_eq_true, Bool.and_eq_false_iff, Bool.or_eq_false_iff, Bool.not_not, ne_eq, Int.not_lt, Int.not_le, Decidable.not_not, beq_iff_eq, bne_iff_ne] at hc2
        exfalso; omega
      · intro hc2
        try simp only [decide_eq_true_eq, decide_eq_false_iff_not, Bool.not_eq_true', Bool.not_eq_false', Bool.not_eq_true, Bool.not_eq_false, Bool.and_eq_true, Bool.or_eq_true, Bool.and_eq_false_iff, Bool.or_eq_false_iff, Bool.not_not, ne_eq, Int.not_lt, Int.not_le, Decidable.not_not, beq_iff_eq, bne_iff_ne] at hc2
        refine c_seq ?_
        refine c_region ?_
        refine wl (wl_val hl rfl trivial (r_eql hl rfl rfl) ?_)
        clear hl a; intro a hl
        refine wl (wl_val hl rfl trivial (r_assign hl rfl) ?_)
        clear hl a; intro a hl
        refine w_nil ?_
        have hl2 := hl.add (t := 0) (hl.add (t := 3) (hl.add (t := 4) (hl.add (t := 5) (hl.add (t := 9) (hl.add (t := 48) (hl.nil) rfl) rfl) rfl) rfl) rfl) rfl; clear hl; have hl := hl2; clear hl2
        refine then_normal ?_
        refine c_cond hl rfl ?_ ?_
        · intro hc3
          try simp only [decide_eq_true_eq, decide_eq_false_iff_not, Bool.not_eq_true', Bool.not_eq_false', Bool.not_eq_true, Bool.not_eq_false, Bool.and_eq_true, Bool.or_eq_true, Bool.and_eq_false_iff, Bool.or_eq_false_iff, Bool.not_not, ne_eq, Int.not_lt, Int.not_le, Decidable.not_not, beq_iff_eq, bne_iff_ne] at hc3
          exfalso; omega
        · intro hc3
          try simp only [decide_eq_true_eq, decide_eq_false_iff_not, Bool.not_eq_true', Bool.not_eq_false', Bool.not_eq_true, Bool.not_eq_false, Bool.and_eq_true, Bool.or_eq_true, Bool.and_eq_false_iff, Bool.or_eq_false_iff, Bool.not_not, ne_eq, Int.not_lt, Int.not_le, Decidable.not_not, beq_iff_eq, bne_iff_ne] at hc3
          refine c_seq ?_
          refine c_region ?_
          refine wl (wl_val hl rfl trivial (r_eql hl rfl rfl) ?_)
          clear hl a; intro a hl
          refine wl (wl_val hl rfl trivial (r_assign hl rfl) ?_)
          clear hl a; intro a hl
          refine w_nil ?_
          have hl2 := hl.add (t := 0) (hl.add (t := 3) (hl.add (t := 4) (hl.add (t := 5) (hl.add (t := 9) (hl.add (t := 61) (hl.nil) rfl) rfl) rfl) rfl) rfl) rfl; clear hl; have hl := hl2; clear hl2
          refine then_normal ?_
          refine c_cond hl rfl ?_ ?_
          · intro hc4
            try simp only [decide_eq_true_eq, decide_eq_false_iff_not, Bool.not_eq_true', Bool.not_eq_false', Bool.not_eq_true, Bool.not_eq_false, Bool.and_eq_true, Bool.or_eq_true, Bool.and_eq_false_iff, Bool.or_eq_false_iff, Bool.not_not, ne_eq, Int.not_lt, Int.not_le, Decidable.not_not, beq_iff_eq, bne_iff_ne] at hc4
            exfalso; omega
          · intro hc4
            try simp only [decide_eq_true_eq, decide_eq_false_iff_not, Bool.not_eq_true', Bool.not_eq_false', Bool.not_eq_true, Bool.not_eq_false, Bool.and_eq_true, Bool.or_eq_true, Bool.and_eq_false_iff, Bool.or_eq_false_iff, Bool.not_not, ne_eq, Int.not_lt, Int.not_le, Decidable.not_not, beq_iff_eq, bne_iff_ne] at hc4
            refine c_seq ?_
            refine c_region ?_
            refine wl (wl_val hl rfl trivial (r_eql hl rfl rfl) ?_)
            clear hl a; intro a hl
            refine wl (wl_val hl rfl trivial (r_assign hl rfl) ?_)
            clear hl a; intro a hl
            refine w_nil ?_
            have hl2 := hl.add (t := 0) (hl.add (t := 3) (hl.add (t := 4) (hl.add (t := 5) (hl.add (t := 9) (hl.add (t := 89) (hl.nil) rfl) rfl) rfl) rfl) rfl) rfl; clear hl; have hl := hl2; clear hl2
            refine then_normal ?_
            refine c_cond hl rfl ?_ ?_
            · intro hc5
              try simp only [decide_eq_true_eq, decide_eq_false_iff_not, Bool.not_eq_true', Bool.not_eq_false', Bool.not_eq_true, Bool.not_eq_false, Bool.and_eq_true, Bool.or_eq_true, Bool.and_eq_false_iff, Bool.or_eq_false_iff, Bool.not_not, ne_eq, Int.not_lt, Int.not_le, Decidable.not_not, beq_iff_eq, bne_iff_ne] at hc5
              exfalso; omega
            · intro hc5
              try simp only [decide_eq_true_eq, decide_eq_false_iff_not, Bool.not_eq_true', Bool.not_eq_false', Bool.not_eq_true, Bool.not_eq_false, Bool.and_eq_true, Bool.or_eq_true, Bool.and_eq_false_iff, Bool.or_eq_false_iff, Bool.not_not, ne_eq, Int.not_lt, Int.not_le, Decidable.not_not, beq_iff_eq, bne_iff_ne] at hc5
              refine c_seq ?_
              refine c_region ?_
              refine wl (wl_val hl rfl trivial (r_eql hl rfl rfl) ?_)
              clear hl a; intro a hl
              refine wl (wl_val hl rfl trivial (r_assign hl rfl) ?_)
              clear hl a; intro a hl
              refine w_nil ?_
              have hl2 := hl.add (t := 0) (hl.add (t := 3) (hl.add (t := 4) (hl.add (t := 5) (hl.add (t := 106) (hl.nil) rfl) rfl) rfl) rfl) rfl; clear hl; have hl := hl2; clear hl2
              refine then_normal ?_
              refine c_cond hl rfl ?_ ?_
              · intro hc7
                try simp only [decide_eq_true_eq, decide_eq_false_iff_not, Bool.not_eq_true', Bool.not_eq_false', Bool.not_eq_true, Bool.not_eq_false, Bool.and_eq_true, Bool.or_eq_true, Bool.and_eq_false_iff, Bool.or_eq_false_iff, Bool.not_not, ne_eq, Int.not_lt, Int.not_le, Decidable.not_not, beq_iff_eq, bne_iff_ne] at hc7
                exfalso; omega
              · intro hc7
                try simp only [decide_eq_true_eq, decide_eq_false_iff_not, Bool.not_eq_true', Bool.not_eq_false', Bool.not_eq_true, Bool.not_eq_false, Bool.and_eq_true, Bool.or_eq_true, Bool.and_eq_false_iff, Bool.or_eq_false_iff, Bool.not_not, ne_eq, Int.not_lt, Int.not_le, Decidable.not_not, beq_iff_eq, bne_iff_ne] at hc7
                refine c_region ?_
                refine wl (wl_val hl rfl trivial (r_field hl rfl fld44_0) ?_)
                clear hl a; intro a hl
                refine wl (w_store hl hh trivial one42 rfl rfl (by repeat (first | exact find_head | apply find_tail)) (by first | (simp; done) | (simp; omega)) (by first | rfl | (apply Row.one; assumption)) (by first | (simp only [setL, List.getElem?_cons_zero, List.getElem?_cons_succ, Value.cells, List.take_zero, List.take_succ_cons, List.take_nil, List.drop_zero, List.drop_succ_cons, List.drop_nil, List.length_cons, List.length_nil, List.cons_append, List.nil_append, List.append_nil, Nat.zero_add, Nat.add_zero, Nat.reduceAdd, Nat.reduceBEq, Nat.reduceEqDiff, Nat.ble, BEq.rfl, Bool.and_true, Bool.and_self, cond_true, beq_self_eq_true]; rfl)) ?_)
                clear hh w; intro w hh
                refine w_nil ?_
                have hl2 := hl.add (t := 4) (hl.add (t := 5) (hl.nil) rfl) rfl; clear hl; have hl := hl2; clear hl2
                refine blk_normal ?_
                refine then_normal ?_
                refine c_seq ?_
                refine c_region ?_
                refine wl (w_loadA hl hh rfl trivial agg44 rfl (by repeat (first | exact find_head | apply find_tail)) (by first | (simp only [List.getElem?_cons_zero, List.getElem?_cons_succ, Value.cells, List.take_zero, List.take_succ_cons, List.take_nil, List.drop_zero, List.drop_succ_cons, List.drop_nil, List.length_cons, List.length_nil, List.cons_append, List.nil_append, List.append_nil, Nat.zero_add, Nat.add_zero, Nat.reduceAdd, Nat.reduceBEq, Nat.reduceEqDiff, Nat.ble, BEq.rfl, Bool.and_true, Bool.and_self, cond_true, beq_self_eq_true]; rfl)) (by first | rfl | (simp; done)) ?_)
                clear hl a; intro a hl
                refine wl (w_storeA hl hh trivial agg44 rfl rfl (by repeat (first | exact find_head | apply find_tail)) (by first | rfl | (simp; done)) (by first | (simp; done) | (simp; omega)) (by first | rfl | (simp; done)) (by first | (simp only [setL, List.getElem?_cons_zero, List.getElem?_cons_succ, Value.cells, List.take_zero, List.take_succ_cons, List.take_nil, List.drop_zero, List.drop_succ_cons, List.drop_nil, List.length_cons, List.length_nil, List.cons_append, List.nil_append, List.append_nil, Nat.zero_add, Nat.add_zero, Nat.reduceAdd, Nat.reduceBEq, Nat.reduceEqDiff, Nat.ble, BEq.rfl, Bool.and_true, Bool.and_self, cond_true, beq_self_eq_true]; rfl)) ?_)
                clear hh w; intro w hh
                refine w_nil ?_
                have hl2 := hl.add (t := 4) (hl.nil) rfl; clear hl; have hl := hl2; clear hl2
                refine then_normal ?_
                refine wp_ret ?_
                refine f_retC (F' := [(b, C (encL f) 87)]) hl hh rfl rfl agg44 (by repeat (first | exact find_head | apply find_tail)) (by first | rfl | (simp; done)) (by repeat (first | exact keeps_nil | apply keeps_cons (by repeat (first | exact find_head | apply find_tail)) (by first  | rfl) | exact keeps_self | apply keeps_mv)) ?_
                exact ⟨rfl, rfl⟩


theorem wf_word {f : Nat → Int} (h : Wf f) (i : Nat) (hi : i < 4096) : Fits .u64 (word f i) := by
  have := h i (by omega)
  unfold kindAt at this
  rw [if_pos hi] at this
  exact this
theorem do_spec (b : Nat) (f : Nat → Int) (o : MOp) (ho : o.ok) (hG : Good f) (hW : Wf f) : Sp Try.prog 39 #[.pointer (some ⟨b, 0, none⟩), .agg ⟨o.vals⟩] [(b, C (encL f) 87)] (fun v F' => v = .agg ⟨(doF f o).ans.l⟩ ∧ F' = [(b, C (encL (doF f o).f) 87)]) := by
  obtain ⟨kd, x, A, B, E, D⟩ := o
  obtain ⟨o1, o2, o3, o4, o5, o6⟩ := ho
  simp only at o1 o2 o3 o4 o5 o6
  unfold doF
  simp only
  by_cases h0 : kd = 0
  · rw [if_pos h0]
    have hs := load_spec b f x
    by_cases hx : 2 ≤ x ∧ x < 4096
    · rw [if_pos hx] at hs; simp only [if_pos hx]; exact do_load b f f kd x A B E D h0 _ _ hs
    · rw [if_neg hx] at hs; simp only [if_neg hx]; exact do_load b f f kd x A B E D h0 _ _ hs
  rw [if_neg h0]
  by_cases h1 : kd = 1
  · rw [if_pos h1]
    have hs := store_spec b f x A
    by_cases hx : 2 ≤ x ∧ x < 4096
    · rw [if_pos hx] at hs; simp only [if_pos hx]; exact do_store b f _ kd x A B E D h1 _ hs
    · rw [if_neg hx] at hs; simp only [if_neg hx]; exact do_store b f _ kd x A B E D h1 _ hs
  rw [if_neg h1]
  by_cases h2 : kd = 2
  · rw [if_pos h2]
    have hs := cas_spec b f x A B
    by_cases hx : 2 ≤ x ∧ x < 4096
    · rw [if_pos hx] at hs; simp only [if_pos hx]; exact do_cas b f _ kd x A B E D h2 _ _ _ hs
    · rw [if_neg hx] at hs; simp only [if_neg hx]; exact do_cas b f _ kd x A B E D h2 _ _ _ hs
  rw [if_neg h2]
  by_cases h3 : kd = 3
  · rw [if_pos h3]
    have hs := fetchAdd_spec b f x A
    by_cases hx : 2 ≤ x ∧ x < 4096
    · rw [if_pos hx] at hs; simp only [if_pos hx]; exact do_add b f _ kd x A B E D h3 _ _ hs
    · rw [if_neg hx] at hs; simp only [if_neg hx]; exact do_add b f _ kd x A B E D h3 _ _ hs
  rw [if_neg h3]
  by_cases h4 : kd = 4
  · rw [if_pos h4]
    have hs := dcas_spec b f x A B E D (fun i hi => wf_word hW i hi) (by simp only [Fits]; omega) (by simp only [Fits]; omega)
    unfold dcasR at hs
    by_cases hx : ¬ (2 ≤ x ∧ x < 4096)
    · rw [if_pos hx] at hs; simp only [if_pos hx]; exact do_dcas b f _ kd x A B E D h4 _ _ _ _ hs
    · rw [if_neg hx] at hs; simp only [if_neg hx]
      by_cases hy : x % 2 ≠ 0
      · rw [if_pos hy] at hs; simp only [if_pos hy]; exact do_dcas b f _ kd x A B E D h4 _ _ _ _ hs
      · rw [if_neg hy] at hs; simp only [if_neg hy]; exact do_dcas b f _ kd x A B E D h4 _ _ _ _ hs
  rw [if_neg h4]
  by_cases h5 : kd = 5
  · rw [if_pos h5]
    by_cases hA : 32 < A
    · rw [if_pos hA]; exact do_big b f f kd x A B E D h5 hA
    · rw [if_neg hA]; exact do_alloc b f _ kd x A B E D h5 (by omega) _ _ (alloc_spec b f A hG)
  rw [if_neg h5]
  by_cases h6 : kd = 6
  · rw [if_pos h6]; exact do_free b f _ kd x A B E D h6 _ (free_spec b f A hG)
  rw [if_neg h6]
  exact do_skip b f f kd x A B E D (by omega)

end Go.Proofs.Qxb6500913a
